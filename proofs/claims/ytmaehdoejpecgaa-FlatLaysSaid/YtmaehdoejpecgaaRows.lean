/-
  No cell of these rows narrows 'for every input' (looked for: loops, veiled, ifaces, maps, wideKeys, modest, calm, conditions, laid).
  DERIVED. THE GIVEN ROWS OF THIS SEAT. 9 by the template 'for every input the law returns true; each argument reads behind the call as it read before'; 0 by the template 'total and deterministic' (their statements: YtmaehdoejpecgaaTotals.lean).
  GIVEN WITH THE SEED: the statements are not yours to turn. If you find one false, say at which input.
  Laid BY PROGRAM, IN A SANDBOX (cutbox-rows.mjs): the forced cells as the released guide's own fill.sh prints them over the translation 6e78f199eb835e38… (all of the seat's roots in one cut). By AI agents, Wed Nov 11 2026. No macro, syntax, notation, axiom, sorry.
-/
import Derived.Test.YtmaehdoejpecgaaChecked
import GoSem.Claim
import GoSem.ClaimJoined
import GoSem.ClaimMapViews
import Derived.JoinedTies
import Derived.KernelRfl
namespace Go.Proofs.Ytmaehdoejpecgaa
/- THE CELL 'sum', in the pinned program and in every row, IS THE sha256 OF THE DUMP (.gsa) THAT YtmaehdoejpecgaaProg.lean LOADS. Nothing in Lean hashes anything: it is a label: what it is worth is what the hold of that sum in a sandbox is worth. -/
noncomputable def Try.pinned : Pinned := { name := "ytmaehdoejpecgaa", sum := "6e78f199eb835e38a5d5a81b5108c4c254792cb6aed11ab2278141a7b4036481", checked := Try.checked }
namespace Rows
def none {H : Type} : Left H := { results := [], args := [] }

/-- 'pointsmanlaw9.FlatLeast': WHATEVER THE INPUT: true; the input reads as it did. -/
def flatLeastSpec : ChangeSpec := { name := "flatLeast", fn := fun _ => fun
  | [d1, d2, d3] => { results := [.lit (.bool true)], args := [d1, d2, d3] }
  | _ => none }
def flatLeastRow : OpenClaim := { program := "ytmaehdoejpecgaa", sum := "6e78f199eb835e38a5d5a81b5108c4c254792cb6aed11ab2278141a7b4036481", func := "pointsman/pointsmanlaw9.FlatLeast", spec := "flatLeast", apart := false }
def FlatLeastSaid : Prop := flatLeastRow.holds Try.pinned (OpenSpec.ofChange flatLeastSpec)

/-- ITS FALSE NEIGHBOUR: 'it returns false'. Refute it at one input. -/
def flatLeastWrong : ChangeSpec := { name := "flatLeast", fn := fun _ => fun
  | [d1, d2, d3] => { results := [.lit (.bool false)], args := [d1, d2, d3] }
  | _ => none }
def FlatLeastWrongFalsely : Prop := flatLeastRow.holds Try.pinned (OpenSpec.ofChange flatLeastWrong)

/-- 'pointsmanlaw9.FlatDiffs': WHATEVER THE INPUT: true; the input reads as it did. -/
def flatDiffsSpec : ChangeSpec := { name := "flatDiffs", fn := fun _ => fun
  | [d1, d2] => { results := [.lit (.bool true)], args := [d1, d2] }
  | _ => none }
def flatDiffsRow : OpenClaim := { program := "ytmaehdoejpecgaa", sum := "6e78f199eb835e38a5d5a81b5108c4c254792cb6aed11ab2278141a7b4036481", func := "pointsman/pointsmanlaw9.FlatDiffs", spec := "flatDiffs", apart := false }
def FlatDiffsSaid : Prop := flatDiffsRow.holds Try.pinned (OpenSpec.ofChange flatDiffsSpec)

/-- ITS FALSE NEIGHBOUR: 'it returns false'. Refute it at one input. -/
def flatDiffsWrong : ChangeSpec := { name := "flatDiffs", fn := fun _ => fun
  | [d1, d2] => { results := [.lit (.bool false)], args := [d1, d2] }
  | _ => none }
def FlatDiffsWrongFalsely : Prop := flatDiffsRow.holds Try.pinned (OpenSpec.ofChange flatDiffsWrong)

/-- 'pointsmanlaw9.FlatApplies': WHATEVER THE INPUT: true; the input reads as it did. -/
def flatAppliesSpec : ChangeSpec := { name := "flatApplies", fn := fun _ => fun
  | [d1, d2] => { results := [.lit (.bool true)], args := [d1, d2] }
  | _ => none }
def flatAppliesRow : OpenClaim := { program := "ytmaehdoejpecgaa", sum := "6e78f199eb835e38a5d5a81b5108c4c254792cb6aed11ab2278141a7b4036481", func := "pointsman/pointsmanlaw9.FlatApplies", spec := "flatApplies", apart := false }
def FlatAppliesSaid : Prop := flatAppliesRow.holds Try.pinned (OpenSpec.ofChange flatAppliesSpec)

/-- ITS FALSE NEIGHBOUR: 'it returns false'. Refute it at one input. -/
def flatAppliesWrong : ChangeSpec := { name := "flatApplies", fn := fun _ => fun
  | [d1, d2] => { results := [.lit (.bool false)], args := [d1, d2] }
  | _ => none }
def FlatAppliesWrongFalsely : Prop := flatAppliesRow.holds Try.pinned (OpenSpec.ofChange flatAppliesWrong)

/-- 'pointsmanlaw9.FlatChains': WHATEVER THE INPUT: true; the input reads as it did. -/
def flatChainsSpec : ChangeSpec := { name := "flatChains", fn := fun _ => fun
  | [d1, d2, d3] => { results := [.lit (.bool true)], args := [d1, d2, d3] }
  | _ => none }
def flatChainsRow : OpenClaim := { program := "ytmaehdoejpecgaa", sum := "6e78f199eb835e38a5d5a81b5108c4c254792cb6aed11ab2278141a7b4036481", func := "pointsman/pointsmanlaw9.FlatChains", spec := "flatChains", apart := false }
def FlatChainsSaid : Prop := flatChainsRow.holds Try.pinned (OpenSpec.ofChange flatChainsSpec)

/-- ITS FALSE NEIGHBOUR: 'it returns false'. Refute it at one input. -/
def flatChainsWrong : ChangeSpec := { name := "flatChains", fn := fun _ => fun
  | [d1, d2, d3] => { results := [.lit (.bool false)], args := [d1, d2, d3] }
  | _ => none }
def FlatChainsWrongFalsely : Prop := flatChainsRow.holds Try.pinned (OpenSpec.ofChange flatChainsWrong)

/-- 'pointsmanlaw9.FlatOwn': WHATEVER THE INPUT: true; the input reads as it did. -/
def flatOwnSpec : ChangeSpec := { name := "flatOwn", fn := fun _ => fun
  | [d1, d2] => { results := [.lit (.bool true)], args := [d1, d2] }
  | _ => none }
def flatOwnRow : OpenClaim := { program := "ytmaehdoejpecgaa", sum := "6e78f199eb835e38a5d5a81b5108c4c254792cb6aed11ab2278141a7b4036481", func := "pointsman/pointsmanlaw9.FlatOwn", spec := "flatOwn", apart := false }
def FlatOwnSaid : Prop := flatOwnRow.holds Try.pinned (OpenSpec.ofChange flatOwnSpec)

/-- ITS FALSE NEIGHBOUR: 'it returns false'. Refute it at one input. -/
def flatOwnWrong : ChangeSpec := { name := "flatOwn", fn := fun _ => fun
  | [d1, d2] => { results := [.lit (.bool false)], args := [d1, d2] }
  | _ => none }
def FlatOwnWrongFalsely : Prop := flatOwnRow.holds Try.pinned (OpenSpec.ofChange flatOwnWrong)

/-- 'pointsmanlaw9.FlatTells': WHATEVER THE INPUT: true; the input reads as it did. -/
def flatTellsSpec : ChangeSpec := { name := "flatTells", fn := fun _ => fun
  | [d1, d2] => { results := [.lit (.bool true)], args := [d1, d2] }
  | _ => none }
def flatTellsRow : OpenClaim := { program := "ytmaehdoejpecgaa", sum := "6e78f199eb835e38a5d5a81b5108c4c254792cb6aed11ab2278141a7b4036481", func := "pointsman/pointsmanlaw9.FlatTells", spec := "flatTells", unfollowed := true, recurses := true, apart := false }
def FlatTellsSaid : Prop := flatTellsRow.holds Try.pinned (OpenSpec.ofChange flatTellsSpec)

/-- ITS FALSE NEIGHBOUR: 'it returns false'. Refute it at one input. -/
def flatTellsWrong : ChangeSpec := { name := "flatTells", fn := fun _ => fun
  | [d1, d2] => { results := [.lit (.bool false)], args := [d1, d2] }
  | _ => none }
def FlatTellsWrongFalsely : Prop := flatTellsRow.holds Try.pinned (OpenSpec.ofChange flatTellsWrong)

/-- 'pointsmanlaw9.FlatBack': WHATEVER THE INPUT: true; the input reads as it did. -/
def flatBackSpec : ChangeSpec := { name := "flatBack", fn := fun _ => fun
  | [d1, d2] => { results := [.lit (.bool true)], args := [d1, d2] }
  | _ => none }
def flatBackRow : OpenClaim := { program := "ytmaehdoejpecgaa", sum := "6e78f199eb835e38a5d5a81b5108c4c254792cb6aed11ab2278141a7b4036481", func := "pointsman/pointsmanlaw9.FlatBack", spec := "flatBack", unfollowed := true, recurses := true, apart := false }
def FlatBackSaid : Prop := flatBackRow.holds Try.pinned (OpenSpec.ofChange flatBackSpec)

/-- ITS FALSE NEIGHBOUR: 'it returns false'. Refute it at one input. -/
def flatBackWrong : ChangeSpec := { name := "flatBack", fn := fun _ => fun
  | [d1, d2] => { results := [.lit (.bool false)], args := [d1, d2] }
  | _ => none }
def FlatBackWrongFalsely : Prop := flatBackRow.holds Try.pinned (OpenSpec.ofChange flatBackWrong)

/-- 'pointsmanlaw9.FlatReads': WHATEVER THE INPUT: true; the input reads as it did. -/
def flatReadsSpec : ChangeSpec := { name := "flatReads", fn := fun _ => fun
  | [d1, d2, d3] => { results := [.lit (.bool true)], args := [d1, d2, d3] }
  | _ => none }
def flatReadsRow : OpenClaim := { program := "ytmaehdoejpecgaa", sum := "6e78f199eb835e38a5d5a81b5108c4c254792cb6aed11ab2278141a7b4036481", func := "pointsman/pointsmanlaw9.FlatReads", spec := "flatReads", unfollowed := true, recurses := true, apart := false }
def FlatReadsSaid : Prop := flatReadsRow.holds Try.pinned (OpenSpec.ofChange flatReadsSpec)

/-- ITS FALSE NEIGHBOUR: 'it returns false'. Refute it at one input. -/
def flatReadsWrong : ChangeSpec := { name := "flatReads", fn := fun _ => fun
  | [d1, d2, d3] => { results := [.lit (.bool false)], args := [d1, d2, d3] }
  | _ => none }
def FlatReadsWrongFalsely : Prop := flatReadsRow.holds Try.pinned (OpenSpec.ofChange flatReadsWrong)

/-- 'pointsmanlaw9.FlatLays': WHATEVER THE INPUT: true; the input reads as it did. -/
def flatLaysSpec : ChangeSpec := { name := "flatLays", fn := fun _ => fun
  | [d1, d2, d3] => { results := [.lit (.bool true)], args := [d1, d2, d3] }
  | _ => none }
def flatLaysRow : OpenClaim := { program := "ytmaehdoejpecgaa", sum := "6e78f199eb835e38a5d5a81b5108c4c254792cb6aed11ab2278141a7b4036481", func := "pointsman/pointsmanlaw9.FlatLays", spec := "flatLays", unfollowed := true, recurses := true, apart := false }
def FlatLaysSaid : Prop := flatLaysRow.holds Try.pinned (OpenSpec.ofChange flatLaysSpec)

/-- ITS FALSE NEIGHBOUR: 'it returns false'. Refute it at one input. -/
def flatLaysWrong : ChangeSpec := { name := "flatLays", fn := fun _ => fun
  | [d1, d2, d3] => { results := [.lit (.bool false)], args := [d1, d2, d3] }
  | _ => none }
def FlatLaysWrongFalsely : Prop := flatLaysRow.holds Try.pinned (OpenSpec.ofChange flatLaysWrong)

/- THE SECOND FORM. 'bulk': how many values and letters a reading holds, each counted each time it is reached (what is shared counts as often as it is met; a slice's spare places count too). A statement '..UptoSaid' is the law's where the arguments, and the package variables that the reading takes, are together of bulk at most 1048576: NARROWER than '..Said'. Prove '..Said' where nothing that the law and all that it calls make is longer than what came in: it says more and counts as full. Else prove '..UptoSaid'. A law counts once. -/
mutual
def uptoBulk {H : Type} : DataW H → Nat
  | .lit (.string bytes) => bytes.length + 1
  | .lit _ => 1
  | .nil => 1
  | .ptr d => uptoBulk d + 1
  | .slice elems spare => uptoBulkAll elems + uptoBulkAll spare + 1
  | .agg parts => uptoBulkAll parts + 1
  | .iface _ d => uptoBulk d + 1
  | .map entries => uptoBulkEntries entries + 1
  | .held _ => 1
def uptoBulkAll {H : Type} : List (DataW H) → Nat
  | [] => 0
  | d :: r => uptoBulk d + uptoBulkAll r
def uptoBulkEntries {H : Type} : List (Lit × DataW H) → Nat
  | [] => 0
  | x :: r => uptoBulkEntry x + uptoBulkEntries r
def uptoBulkEntry {H : Type} : Lit × DataW H → Nat
  | (.string bytes, d) => bytes.length + uptoBulk d + 1
  | (_, d) => uptoBulk d + 1
 end
def uptoSmall : (H : Type) → List (DataW H) → Bool := fun _ ds => decide (uptoBulkAll ds ≤ 1048576)
def OpenSpec.upto (s : _root_.Go.ChangeSpec) : _root_.Go.OpenSpec := { _root_.Go.OpenSpec.ofChange s with cond := some uptoSmall }

/-- 'pointsmanlaw9.FlatLeast', WHERE WHAT IT READS IS OF BULK AT MOST 1048576: true; the input reads as it did. -/
def flatLeastUptoRow : OpenClaim := { program := "ytmaehdoejpecgaa", sum := "6e78f199eb835e38a5d5a81b5108c4c254792cb6aed11ab2278141a7b4036481", func := "pointsman/pointsmanlaw9.FlatLeast", spec := "flatLeast", apart := false, narrowed := true }
def FlatLeastUptoSaid : Prop := flatLeastUptoRow.holds Try.pinned (OpenSpec.upto flatLeastSpec)

/-- 'pointsmanlaw9.FlatDiffs', WHERE WHAT IT READS IS OF BULK AT MOST 1048576: true; the input reads as it did. -/
def flatDiffsUptoRow : OpenClaim := { program := "ytmaehdoejpecgaa", sum := "6e78f199eb835e38a5d5a81b5108c4c254792cb6aed11ab2278141a7b4036481", func := "pointsman/pointsmanlaw9.FlatDiffs", spec := "flatDiffs", apart := false, narrowed := true }
def FlatDiffsUptoSaid : Prop := flatDiffsUptoRow.holds Try.pinned (OpenSpec.upto flatDiffsSpec)

/-- 'pointsmanlaw9.FlatApplies', WHERE WHAT IT READS IS OF BULK AT MOST 1048576: true; the input reads as it did. -/
def flatAppliesUptoRow : OpenClaim := { program := "ytmaehdoejpecgaa", sum := "6e78f199eb835e38a5d5a81b5108c4c254792cb6aed11ab2278141a7b4036481", func := "pointsman/pointsmanlaw9.FlatApplies", spec := "flatApplies", apart := false, narrowed := true }
def FlatAppliesUptoSaid : Prop := flatAppliesUptoRow.holds Try.pinned (OpenSpec.upto flatAppliesSpec)

/-- 'pointsmanlaw9.FlatChains', WHERE WHAT IT READS IS OF BULK AT MOST 1048576: true; the input reads as it did. -/
def flatChainsUptoRow : OpenClaim := { program := "ytmaehdoejpecgaa", sum := "6e78f199eb835e38a5d5a81b5108c4c254792cb6aed11ab2278141a7b4036481", func := "pointsman/pointsmanlaw9.FlatChains", spec := "flatChains", apart := false, narrowed := true }
def FlatChainsUptoSaid : Prop := flatChainsUptoRow.holds Try.pinned (OpenSpec.upto flatChainsSpec)

/-- 'pointsmanlaw9.FlatOwn', WHERE WHAT IT READS IS OF BULK AT MOST 1048576: true; the input reads as it did. -/
def flatOwnUptoRow : OpenClaim := { program := "ytmaehdoejpecgaa", sum := "6e78f199eb835e38a5d5a81b5108c4c254792cb6aed11ab2278141a7b4036481", func := "pointsman/pointsmanlaw9.FlatOwn", spec := "flatOwn", apart := false, narrowed := true }
def FlatOwnUptoSaid : Prop := flatOwnUptoRow.holds Try.pinned (OpenSpec.upto flatOwnSpec)

/-- 'pointsmanlaw9.FlatTells', WHERE WHAT IT READS IS OF BULK AT MOST 1048576: true; the input reads as it did. -/
def flatTellsUptoRow : OpenClaim := { program := "ytmaehdoejpecgaa", sum := "6e78f199eb835e38a5d5a81b5108c4c254792cb6aed11ab2278141a7b4036481", func := "pointsman/pointsmanlaw9.FlatTells", spec := "flatTells", unfollowed := true, recurses := true, apart := false, narrowed := true }
def FlatTellsUptoSaid : Prop := flatTellsUptoRow.holds Try.pinned (OpenSpec.upto flatTellsSpec)

/-- 'pointsmanlaw9.FlatBack', WHERE WHAT IT READS IS OF BULK AT MOST 1048576: true; the input reads as it did. -/
def flatBackUptoRow : OpenClaim := { program := "ytmaehdoejpecgaa", sum := "6e78f199eb835e38a5d5a81b5108c4c254792cb6aed11ab2278141a7b4036481", func := "pointsman/pointsmanlaw9.FlatBack", spec := "flatBack", unfollowed := true, recurses := true, apart := false, narrowed := true }
def FlatBackUptoSaid : Prop := flatBackUptoRow.holds Try.pinned (OpenSpec.upto flatBackSpec)

/-- 'pointsmanlaw9.FlatReads', WHERE WHAT IT READS IS OF BULK AT MOST 1048576: true; the input reads as it did. -/
def flatReadsUptoRow : OpenClaim := { program := "ytmaehdoejpecgaa", sum := "6e78f199eb835e38a5d5a81b5108c4c254792cb6aed11ab2278141a7b4036481", func := "pointsman/pointsmanlaw9.FlatReads", spec := "flatReads", unfollowed := true, recurses := true, apart := false, narrowed := true }
def FlatReadsUptoSaid : Prop := flatReadsUptoRow.holds Try.pinned (OpenSpec.upto flatReadsSpec)

/-- 'pointsmanlaw9.FlatLays', WHERE WHAT IT READS IS OF BULK AT MOST 1048576: true; the input reads as it did. -/
def flatLaysUptoRow : OpenClaim := { program := "ytmaehdoejpecgaa", sum := "6e78f199eb835e38a5d5a81b5108c4c254792cb6aed11ab2278141a7b4036481", func := "pointsman/pointsmanlaw9.FlatLays", spec := "flatLays", unfollowed := true, recurses := true, apart := false, narrowed := true }
def FlatLaysUptoSaid : Prop := flatLaysUptoRow.holds Try.pinned (OpenSpec.upto flatLaysSpec)

end Rows
end Go.Proofs.Ytmaehdoejpecgaa
