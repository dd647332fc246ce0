/-
  No cell of these rows narrows 'for every input' (looked for: loops, veiled, ifaces, maps, wideKeys, modest, calm, conditions, laid).
  DERIVED. THE GIVEN ROWS OF THIS SEAT. 9 by the template 'for every input the law returns true; each argument reads behind the call as it read before'; 0 by the template 'total and deterministic' (their statements: YtekhogoggfacaaaTotals.lean).
  GIVEN WITH THE SEED: the statements are not yours to turn. If you find one false, say at which input.
  Laid BY PROGRAM, IN A SANDBOX (cutbox-rows.mjs): the forced cells as the released guide's own fill.sh prints them over the translation c9b3beaa7609f464… (all of the seat's roots in one cut). By AI agents, Wed Nov 11 2026. No macro, syntax, notation, axiom, sorry.
-/
import Derived.Test.YtekhogoggfacaaaChecked
import GoSem.Claim
import GoSem.ClaimJoined
import GoSem.ClaimMapViews
import Derived.JoinedTies
import Derived.KernelRfl
namespace Go.Proofs.Ytekhogoggfacaaa
/- THE CELL 'sum', in the pinned program and in every row, IS THE sha256 OF THE DUMP (.gsa) THAT YtekhogoggfacaaaProg.lean LOADS. Nothing in Lean hashes anything: it is a label: what it is worth is what the hold of that sum in a sandbox is worth. -/
noncomputable def Try.pinned : Pinned := { name := "ytekhogoggfacaaa", sum := "c9b3beaa7609f464cf3f6f554bbcf74e0f255885c6864b29900c25b9103f83ee", checked := Try.checked }
namespace Rows
def none {H : Type} : Left H := { results := [], args := [] }

/-- 'pointsmanlaw2.CrateMust': WHATEVER THE INPUT: true; the input reads as it did. -/
def crateMustSpec : ChangeSpec := { name := "crateMust", fn := fun _ => fun
  | [d] => { results := [.lit (.bool true)], args := [d] }
  | _ => none }
def crateMustRow : OpenClaim := { program := "ytekhogoggfacaaa", sum := "c9b3beaa7609f464cf3f6f554bbcf74e0f255885c6864b29900c25b9103f83ee", func := "pointsman/pointsmanlaw2.CrateMust", spec := "crateMust", apart := false }
def CrateMustSaid : Prop := crateMustRow.holds Try.pinned (OpenSpec.ofChange crateMustSpec)

/-- ITS FALSE NEIGHBOUR: 'it returns false'. Refute it at one input. -/
def crateMustWrong : ChangeSpec := { name := "crateMust", fn := fun _ => fun
  | [d] => { results := [.lit (.bool false)], args := [d] }
  | _ => none }
def CrateMustWrongFalsely : Prop := crateMustRow.holds Try.pinned (OpenSpec.ofChange crateMustWrong)

/-- 'pointsmanlaw2.CrateFull': WHATEVER THE INPUT: true; the input reads as it did. -/
def crateFullSpec : ChangeSpec := { name := "crateFull", fn := fun _ => fun
  | [d1, d2] => { results := [.lit (.bool true)], args := [d1, d2] }
  | _ => none }
def crateFullRow : OpenClaim := { program := "ytekhogoggfacaaa", sum := "c9b3beaa7609f464cf3f6f554bbcf74e0f255885c6864b29900c25b9103f83ee", func := "pointsman/pointsmanlaw2.CrateFull", spec := "crateFull", apart := false }
def CrateFullSaid : Prop := crateFullRow.holds Try.pinned (OpenSpec.ofChange crateFullSpec)

/-- ITS FALSE NEIGHBOUR: 'it returns false'. Refute it at one input. -/
def crateFullWrong : ChangeSpec := { name := "crateFull", fn := fun _ => fun
  | [d1, d2] => { results := [.lit (.bool false)], args := [d1, d2] }
  | _ => none }
def CrateFullWrongFalsely : Prop := crateFullRow.holds Try.pinned (OpenSpec.ofChange crateFullWrong)

/-- 'pointsmanlaw2.CrateTells': WHATEVER THE INPUT: true; the input reads as it did. -/
def crateTellsSpec : ChangeSpec := { name := "crateTells", fn := fun _ => fun
  | [d1, d2] => { results := [.lit (.bool true)], args := [d1, d2] }
  | _ => none }
def crateTellsRow : OpenClaim := { program := "ytekhogoggfacaaa", sum := "c9b3beaa7609f464cf3f6f554bbcf74e0f255885c6864b29900c25b9103f83ee", func := "pointsman/pointsmanlaw2.CrateTells", spec := "crateTells", apart := false }
def CrateTellsSaid : Prop := crateTellsRow.holds Try.pinned (OpenSpec.ofChange crateTellsSpec)

/-- ITS FALSE NEIGHBOUR: 'it returns false'. Refute it at one input. -/
def crateTellsWrong : ChangeSpec := { name := "crateTells", fn := fun _ => fun
  | [d1, d2] => { results := [.lit (.bool false)], args := [d1, d2] }
  | _ => none }
def CrateTellsWrongFalsely : Prop := crateTellsRow.holds Try.pinned (OpenSpec.ofChange crateTellsWrong)

/-- 'pointsmanlaw2.CrateBehind': WHATEVER THE INPUT: true; the input reads as it did. -/
def crateBehindSpec : ChangeSpec := { name := "crateBehind", fn := fun _ => fun
  | [d1, d2] => { results := [.lit (.bool true)], args := [d1, d2] }
  | _ => none }
def crateBehindRow : OpenClaim := { program := "ytekhogoggfacaaa", sum := "c9b3beaa7609f464cf3f6f554bbcf74e0f255885c6864b29900c25b9103f83ee", func := "pointsman/pointsmanlaw2.CrateBehind", spec := "crateBehind", apart := false }
def CrateBehindSaid : Prop := crateBehindRow.holds Try.pinned (OpenSpec.ofChange crateBehindSpec)

/-- ITS FALSE NEIGHBOUR: 'it returns false'. Refute it at one input. -/
def crateBehindWrong : ChangeSpec := { name := "crateBehind", fn := fun _ => fun
  | [d1, d2] => { results := [.lit (.bool false)], args := [d1, d2] }
  | _ => none }
def CrateBehindWrongFalsely : Prop := crateBehindRow.holds Try.pinned (OpenSpec.ofChange crateBehindWrong)

/-- 'pointsmanlaw2.CrateSame': WHATEVER THE INPUT: true; the input reads as it did. -/
def crateSameSpec : ChangeSpec := { name := "crateSame", fn := fun _ => fun
  | [d1, d2] => { results := [.lit (.bool true)], args := [d1, d2] }
  | _ => none }
def crateSameRow : OpenClaim := { program := "ytekhogoggfacaaa", sum := "c9b3beaa7609f464cf3f6f554bbcf74e0f255885c6864b29900c25b9103f83ee", func := "pointsman/pointsmanlaw2.CrateSame", spec := "crateSame", apart := false }
def CrateSameSaid : Prop := crateSameRow.holds Try.pinned (OpenSpec.ofChange crateSameSpec)

/-- ITS FALSE NEIGHBOUR: 'it returns false'. Refute it at one input. -/
def crateSameWrong : ChangeSpec := { name := "crateSame", fn := fun _ => fun
  | [d1, d2] => { results := [.lit (.bool false)], args := [d1, d2] }
  | _ => none }
def CrateSameWrongFalsely : Prop := crateSameRow.holds Try.pinned (OpenSpec.ofChange crateSameWrong)

/-- 'pointsmanlaw2.CrateApart': WHATEVER THE INPUT: true; the input reads as it did. -/
def crateApartSpec : ChangeSpec := { name := "crateApart", fn := fun _ => fun
  | [d1, d2] => { results := [.lit (.bool true)], args := [d1, d2] }
  | _ => none }
def crateApartRow : OpenClaim := { program := "ytekhogoggfacaaa", sum := "c9b3beaa7609f464cf3f6f554bbcf74e0f255885c6864b29900c25b9103f83ee", func := "pointsman/pointsmanlaw2.CrateApart", spec := "crateApart", apart := false }
def CrateApartSaid : Prop := crateApartRow.holds Try.pinned (OpenSpec.ofChange crateApartSpec)

/-- ITS FALSE NEIGHBOUR: 'it returns false'. Refute it at one input. -/
def crateApartWrong : ChangeSpec := { name := "crateApart", fn := fun _ => fun
  | [d1, d2] => { results := [.lit (.bool false)], args := [d1, d2] }
  | _ => none }
def CrateApartWrongFalsely : Prop := crateApartRow.holds Try.pinned (OpenSpec.ofChange crateApartWrong)

/-- 'pointsmanlaw2.CrateOrders': WHATEVER THE INPUT: true; the input reads as it did. -/
def crateOrdersSpec : ChangeSpec := { name := "crateOrders", fn := fun _ => fun
  | [d1, d2] => { results := [.lit (.bool true)], args := [d1, d2] }
  | _ => none }
def crateOrdersRow : OpenClaim := { program := "ytekhogoggfacaaa", sum := "c9b3beaa7609f464cf3f6f554bbcf74e0f255885c6864b29900c25b9103f83ee", func := "pointsman/pointsmanlaw2.CrateOrders", spec := "crateOrders", apart := false }
def CrateOrdersSaid : Prop := crateOrdersRow.holds Try.pinned (OpenSpec.ofChange crateOrdersSpec)

/-- ITS FALSE NEIGHBOUR: 'it returns false'. Refute it at one input. -/
def crateOrdersWrong : ChangeSpec := { name := "crateOrders", fn := fun _ => fun
  | [d1, d2] => { results := [.lit (.bool false)], args := [d1, d2] }
  | _ => none }
def CrateOrdersWrongFalsely : Prop := crateOrdersRow.holds Try.pinned (OpenSpec.ofChange crateOrdersWrong)

/-- 'pointsmanlaw2.CrateKinds': WHATEVER THE INPUT: true; the input reads as it did. -/
def crateKindsSpec : ChangeSpec := { name := "crateKinds", fn := fun _ => fun
  | [d1, d2, d3] => { results := [.lit (.bool true)], args := [d1, d2, d3] }
  | _ => none }
def crateKindsRow : OpenClaim := { program := "ytekhogoggfacaaa", sum := "c9b3beaa7609f464cf3f6f554bbcf74e0f255885c6864b29900c25b9103f83ee", func := "pointsman/pointsmanlaw2.CrateKinds", spec := "crateKinds", apart := false }
def CrateKindsSaid : Prop := crateKindsRow.holds Try.pinned (OpenSpec.ofChange crateKindsSpec)

/-- ITS FALSE NEIGHBOUR: 'it returns false'. Refute it at one input. -/
def crateKindsWrong : ChangeSpec := { name := "crateKinds", fn := fun _ => fun
  | [d1, d2, d3] => { results := [.lit (.bool false)], args := [d1, d2, d3] }
  | _ => none }
def CrateKindsWrongFalsely : Prop := crateKindsRow.holds Try.pinned (OpenSpec.ofChange crateKindsWrong)

/-- 'pointsmanlaw2.CrateOfNothing': WHATEVER THE INPUT: true; the input reads as it did. -/
def crateOfNothingSpec : ChangeSpec := { name := "crateOfNothing", fn := fun _ => fun
  | [d1, d2] => { results := [.lit (.bool true)], args := [d1, d2] }
  | _ => none }
def crateOfNothingRow : OpenClaim := { program := "ytekhogoggfacaaa", sum := "c9b3beaa7609f464cf3f6f554bbcf74e0f255885c6864b29900c25b9103f83ee", func := "pointsman/pointsmanlaw2.CrateOfNothing", spec := "crateOfNothing", apart := false }
def CrateOfNothingSaid : Prop := crateOfNothingRow.holds Try.pinned (OpenSpec.ofChange crateOfNothingSpec)

/-- ITS FALSE NEIGHBOUR: 'it returns false'. Refute it at one input. -/
def crateOfNothingWrong : ChangeSpec := { name := "crateOfNothing", fn := fun _ => fun
  | [d1, d2] => { results := [.lit (.bool false)], args := [d1, d2] }
  | _ => none }
def CrateOfNothingWrongFalsely : Prop := crateOfNothingRow.holds Try.pinned (OpenSpec.ofChange crateOfNothingWrong)

/- THE SECOND FORM. 'bulk': how many values and letters a reading holds, each counted each time it is reached (what is shared counts as often as it is met; a slice's spare places count too). A statement '..UptoSaid' is the law's where the arguments, and the package variables that the reading takes, are together of bulk at most 1048576: NARROWER than '..Said'. Prove '..Said' where nothing that the law and all that it calls make is longer than what came in: it says more and counts as full. Else prove '..UptoSaid'. A law counts once. -/
mutual
def uptoBulk {H : Type} : DataW H → Nat
  | .lit (.string bytes) => bytes.length + 1
  | .lit _ => 1
  | .nil => 1
  | .ptr d => uptoBulk d + 1
  | .slice elems spare => uptoBulkAll elems + uptoBulkAll spare + 1
  | .agg parts => uptoBulkAll parts + 1
  | .iface _ d => uptoBulk d + 1
  | .map entries => uptoBulkEntries entries + 1
  | .held _ => 1
def uptoBulkAll {H : Type} : List (DataW H) → Nat
  | [] => 0
  | d :: r => uptoBulk d + uptoBulkAll r
def uptoBulkEntries {H : Type} : List (Lit × DataW H) → Nat
  | [] => 0
  | x :: r => uptoBulkEntry x + uptoBulkEntries r
def uptoBulkEntry {H : Type} : Lit × DataW H → Nat
  | (.string bytes, d) => bytes.length + uptoBulk d + 1
  | (_, d) => uptoBulk d + 1
 end
def uptoSmall : (H : Type) → List (DataW H) → Bool := fun _ ds => decide (uptoBulkAll ds ≤ 1048576)
def OpenSpec.upto (s : _root_.Go.ChangeSpec) : _root_.Go.OpenSpec := { _root_.Go.OpenSpec.ofChange s with cond := some uptoSmall }

/-- 'pointsmanlaw2.CrateMust', WHERE WHAT IT READS IS OF BULK AT MOST 1048576: true; the input reads as it did. -/
def crateMustUptoRow : OpenClaim := { program := "ytekhogoggfacaaa", sum := "c9b3beaa7609f464cf3f6f554bbcf74e0f255885c6864b29900c25b9103f83ee", func := "pointsman/pointsmanlaw2.CrateMust", spec := "crateMust", apart := false, narrowed := true }
def CrateMustUptoSaid : Prop := crateMustUptoRow.holds Try.pinned (OpenSpec.upto crateMustSpec)

/-- 'pointsmanlaw2.CrateFull', WHERE WHAT IT READS IS OF BULK AT MOST 1048576: true; the input reads as it did. -/
def crateFullUptoRow : OpenClaim := { program := "ytekhogoggfacaaa", sum := "c9b3beaa7609f464cf3f6f554bbcf74e0f255885c6864b29900c25b9103f83ee", func := "pointsman/pointsmanlaw2.CrateFull", spec := "crateFull", apart := false, narrowed := true }
def CrateFullUptoSaid : Prop := crateFullUptoRow.holds Try.pinned (OpenSpec.upto crateFullSpec)

/-- 'pointsmanlaw2.CrateTells', WHERE WHAT IT READS IS OF BULK AT MOST 1048576: true; the input reads as it did. -/
def crateTellsUptoRow : OpenClaim := { program := "ytekhogoggfacaaa", sum := "c9b3beaa7609f464cf3f6f554bbcf74e0f255885c6864b29900c25b9103f83ee", func := "pointsman/pointsmanlaw2.CrateTells", spec := "crateTells", apart := false, narrowed := true }
def CrateTellsUptoSaid : Prop := crateTellsUptoRow.holds Try.pinned (OpenSpec.upto crateTellsSpec)

/-- 'pointsmanlaw2.CrateBehind', WHERE WHAT IT READS IS OF BULK AT MOST 1048576: true; the input reads as it did. -/
def crateBehindUptoRow : OpenClaim := { program := "ytekhogoggfacaaa", sum := "c9b3beaa7609f464cf3f6f554bbcf74e0f255885c6864b29900c25b9103f83ee", func := "pointsman/pointsmanlaw2.CrateBehind", spec := "crateBehind", apart := false, narrowed := true }
def CrateBehindUptoSaid : Prop := crateBehindUptoRow.holds Try.pinned (OpenSpec.upto crateBehindSpec)

/-- 'pointsmanlaw2.CrateSame', WHERE WHAT IT READS IS OF BULK AT MOST 1048576: true; the input reads as it did. -/
def crateSameUptoRow : OpenClaim := { program := "ytekhogoggfacaaa", sum := "c9b3beaa7609f464cf3f6f554bbcf74e0f255885c6864b29900c25b9103f83ee", func := "pointsman/pointsmanlaw2.CrateSame", spec := "crateSame", apart := false, narrowed := true }
def CrateSameUptoSaid : Prop := crateSameUptoRow.holds Try.pinned (OpenSpec.upto crateSameSpec)

/-- 'pointsmanlaw2.CrateApart', WHERE WHAT IT READS IS OF BULK AT MOST 1048576: true; the input reads as it did. -/
def crateApartUptoRow : OpenClaim := { program := "ytekhogoggfacaaa", sum := "c9b3beaa7609f464cf3f6f554bbcf74e0f255885c6864b29900c25b9103f83ee", func := "pointsman/pointsmanlaw2.CrateApart", spec := "crateApart", apart := false, narrowed := true }
def CrateApartUptoSaid : Prop := crateApartUptoRow.holds Try.pinned (OpenSpec.upto crateApartSpec)

/-- 'pointsmanlaw2.CrateOrders', WHERE WHAT IT READS IS OF BULK AT MOST 1048576: true; the input reads as it did. -/
def crateOrdersUptoRow : OpenClaim := { program := "ytekhogoggfacaaa", sum := "c9b3beaa7609f464cf3f6f554bbcf74e0f255885c6864b29900c25b9103f83ee", func := "pointsman/pointsmanlaw2.CrateOrders", spec := "crateOrders", apart := false, narrowed := true }
def CrateOrdersUptoSaid : Prop := crateOrdersUptoRow.holds Try.pinned (OpenSpec.upto crateOrdersSpec)

/-- 'pointsmanlaw2.CrateKinds', WHERE WHAT IT READS IS OF BULK AT MOST 1048576: true; the input reads as it did. -/
def crateKindsUptoRow : OpenClaim := { program := "ytekhogoggfacaaa", sum := "c9b3beaa7609f464cf3f6f554bbcf74e0f255885c6864b29900c25b9103f83ee", func := "pointsman/pointsmanlaw2.CrateKinds", spec := "crateKinds", apart := false, narrowed := true }
def CrateKindsUptoSaid : Prop := crateKindsUptoRow.holds Try.pinned (OpenSpec.upto crateKindsSpec)

/-- 'pointsmanlaw2.CrateOfNothing', WHERE WHAT IT READS IS OF BULK AT MOST 1048576: true; the input reads as it did. -/
def crateOfNothingUptoRow : OpenClaim := { program := "ytekhogoggfacaaa", sum := "c9b3beaa7609f464cf3f6f554bbcf74e0f255885c6864b29900c25b9103f83ee", func := "pointsman/pointsmanlaw2.CrateOfNothing", spec := "crateOfNothing", apart := false, narrowed := true }
def CrateOfNothingUptoSaid : Prop := crateOfNothingUptoRow.holds Try.pinned (OpenSpec.upto crateOfNothingSpec)

end Rows
end Go.Proofs.Ytekhogoggfacaaa
