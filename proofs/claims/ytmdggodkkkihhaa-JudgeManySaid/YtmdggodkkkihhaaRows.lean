/-
  No cell of these rows narrows 'for every input' (looked for: loops, veiled, ifaces, maps, wideKeys, modest, calm, conditions, laid).
  DERIVED. THE GIVEN ROWS OF THIS SEAT. 5 by the template 'for every input the law returns true; each argument reads behind the call as it read before'; 0 by the template 'total and deterministic' (their statements: YtmdggodkkkihhaaTotals.lean).
  GIVEN WITH THE SEED: the statements are not yours to turn. If you find one false, say at which input.
  Laid BY PROGRAM, IN A SANDBOX (cutbox-rows.mjs): the forced cells as the released guide's own fill.sh prints them over the translation ed4efbc4758d1dec… (all of the seat's roots in one cut). By AI agents, Wed Nov 11 2026. No macro, syntax, notation, axiom, sorry.
-/
import Derived.Test.YtmdggodkkkihhaaChecked
import GoSem.Claim
import GoSem.ClaimJoined
import GoSem.ClaimMapViews
import Derived.JoinedTies
import Derived.KernelRfl
namespace Go.Proofs.Ytmdggodkkkihhaa
/- THE CELL 'sum', in the pinned program and in every row, IS THE sha256 OF THE DUMP (.gsa) THAT YtmdggodkkkihhaaProg.lean LOADS. Nothing in Lean hashes anything: it is a label: what it is worth is what the hold of that sum in a sandbox is worth. -/
noncomputable def Try.pinned : Pinned := { name := "ytmdggodkkkihhaa", sum := "ed4efbc4758d1dec68ca9ee4daac8fa3d23c220baeeb219605f3b1dd4f2c086e", checked := Try.checked }
namespace Rows
def none {H : Type} : Left H := { results := [], args := [] }

/-- 'pointsmanlaw15.JudgeAtmost': WHATEVER THE INPUT: true; the input reads as it did. -/
def judgeAtmostSpec : ChangeSpec := { name := "judgeAtmost", fn := fun _ => fun
  | [d1, d2, d3] => { results := [.lit (.bool true)], args := [d1, d2, d3] }
  | _ => none }
def judgeAtmostRow : OpenClaim := { program := "ytmdggodkkkihhaa", sum := "ed4efbc4758d1dec68ca9ee4daac8fa3d23c220baeeb219605f3b1dd4f2c086e", func := "pointsman/pointsmanlaw15.JudgeAtmost", spec := "judgeAtmost", unfollowed := true, recurses := true, apart := false }
def JudgeAtmostSaid : Prop := judgeAtmostRow.holds Try.pinned (OpenSpec.ofChange judgeAtmostSpec)

/-- ITS FALSE NEIGHBOUR: 'it returns false'. Refute it at one input. -/
def judgeAtmostWrong : ChangeSpec := { name := "judgeAtmost", fn := fun _ => fun
  | [d1, d2, d3] => { results := [.lit (.bool false)], args := [d1, d2, d3] }
  | _ => none }
def JudgeAtmostWrongFalsely : Prop := judgeAtmostRow.holds Try.pinned (OpenSpec.ofChange judgeAtmostWrong)

/-- 'pointsmanlaw15.JudgeOne': WHATEVER THE INPUT: true; the input reads as it did. -/
def judgeOneSpec : ChangeSpec := { name := "judgeOne", fn := fun _ => fun
  | [d1, d2, d3, d4] => { results := [.lit (.bool true)], args := [d1, d2, d3, d4] }
  | _ => none }
def judgeOneRow : OpenClaim := { program := "ytmdggodkkkihhaa", sum := "ed4efbc4758d1dec68ca9ee4daac8fa3d23c220baeeb219605f3b1dd4f2c086e", func := "pointsman/pointsmanlaw15.JudgeOne", spec := "judgeOne", unfollowed := true, recurses := true, apart := false }
def JudgeOneSaid : Prop := judgeOneRow.holds Try.pinned (OpenSpec.ofChange judgeOneSpec)

/-- ITS FALSE NEIGHBOUR: 'it returns false'. Refute it at one input. -/
def judgeOneWrong : ChangeSpec := { name := "judgeOne", fn := fun _ => fun
  | [d1, d2, d3, d4] => { results := [.lit (.bool false)], args := [d1, d2, d3, d4] }
  | _ => none }
def JudgeOneWrongFalsely : Prop := judgeOneRow.holds Try.pinned (OpenSpec.ofChange judgeOneWrong)

/-- 'pointsmanlaw15.JudgeMany': WHATEVER THE INPUT: true; the input reads as it did. -/
def judgeManySpec : ChangeSpec := { name := "judgeMany", fn := fun _ => fun
  | [d1, d2, d3, d4, d5] => { results := [.lit (.bool true)], args := [d1, d2, d3, d4, d5] }
  | _ => none }
def judgeManyRow : OpenClaim := { program := "ytmdggodkkkihhaa", sum := "ed4efbc4758d1dec68ca9ee4daac8fa3d23c220baeeb219605f3b1dd4f2c086e", func := "pointsman/pointsmanlaw15.JudgeMany", spec := "judgeMany", unfollowed := true, recurses := true, apart := false }
def JudgeManySaid : Prop := judgeManyRow.holds Try.pinned (OpenSpec.ofChange judgeManySpec)

/-- ITS FALSE NEIGHBOUR: 'it returns false'. Refute it at one input. -/
def judgeManyWrong : ChangeSpec := { name := "judgeMany", fn := fun _ => fun
  | [d1, d2, d3, d4, d5] => { results := [.lit (.bool false)], args := [d1, d2, d3, d4, d5] }
  | _ => none }
def JudgeManyWrongFalsely : Prop := judgeManyRow.holds Try.pinned (OpenSpec.ofChange judgeManyWrong)

/-- 'pointsmanlaw15.JudgeTwo': WHATEVER THE INPUT: true; the input reads as it did. -/
def judgeTwoSpec : ChangeSpec := { name := "judgeTwo", fn := fun _ => fun
  | [d1, d2] => { results := [.lit (.bool true)], args := [d1, d2] }
  | _ => none }
def judgeTwoRow : OpenClaim := { program := "ytmdggodkkkihhaa", sum := "ed4efbc4758d1dec68ca9ee4daac8fa3d23c220baeeb219605f3b1dd4f2c086e", func := "pointsman/pointsmanlaw15.JudgeTwo", spec := "judgeTwo", unfollowed := true, recurses := true, apart := false }
def JudgeTwoSaid : Prop := judgeTwoRow.holds Try.pinned (OpenSpec.ofChange judgeTwoSpec)

/-- ITS FALSE NEIGHBOUR: 'it returns false'. Refute it at one input. -/
def judgeTwoWrong : ChangeSpec := { name := "judgeTwo", fn := fun _ => fun
  | [d1, d2] => { results := [.lit (.bool false)], args := [d1, d2] }
  | _ => none }
def JudgeTwoWrongFalsely : Prop := judgeTwoRow.holds Try.pinned (OpenSpec.ofChange judgeTwoWrong)

/-- 'pointsmanlaw15.JudgeNone': WHATEVER THE INPUT: true; the input reads as it did. -/
def judgeNoneSpec : ChangeSpec := { name := "judgeNone", fn := fun _ => fun
  | [d] => { results := [.lit (.bool true)], args := [d] }
  | _ => none }
def judgeNoneRow : OpenClaim := { program := "ytmdggodkkkihhaa", sum := "ed4efbc4758d1dec68ca9ee4daac8fa3d23c220baeeb219605f3b1dd4f2c086e", func := "pointsman/pointsmanlaw15.JudgeNone", spec := "judgeNone", unfollowed := true, recurses := true, apart := false }
def JudgeNoneSaid : Prop := judgeNoneRow.holds Try.pinned (OpenSpec.ofChange judgeNoneSpec)

/-- ITS FALSE NEIGHBOUR: 'it returns false'. Refute it at one input. -/
def judgeNoneWrong : ChangeSpec := { name := "judgeNone", fn := fun _ => fun
  | [d] => { results := [.lit (.bool false)], args := [d] }
  | _ => none }
def JudgeNoneWrongFalsely : Prop := judgeNoneRow.holds Try.pinned (OpenSpec.ofChange judgeNoneWrong)

/- THE SECOND FORM. 'bulk': how many values and letters a reading holds, each counted each time it is reached (what is shared counts as often as it is met; a slice's spare places count too). A statement '..UptoSaid' is the law's where the arguments, and the package variables that the reading takes, are together of bulk at most 1048576: NARROWER than '..Said'. Prove '..Said' where nothing that the law and all that it calls make is longer than what came in: it says more and counts as full. Else prove '..UptoSaid'. A law counts once. -/
mutual
def uptoBulk {H : Type} : DataW H → Nat
  | .lit (.string bytes) => bytes.length + 1
  | .lit _ => 1
  | .nil => 1
  | .ptr d => uptoBulk d + 1
  | .slice elems spare => uptoBulkAll elems + uptoBulkAll spare + 1
  | .agg parts => uptoBulkAll parts + 1
  | .iface _ d => uptoBulk d + 1
  | .map entries => uptoBulkEntries entries + 1
  | .held _ => 1
def uptoBulkAll {H : Type} : List (DataW H) → Nat
  | [] => 0
  | d :: r => uptoBulk d + uptoBulkAll r
def uptoBulkEntries {H : Type} : List (Lit × DataW H) → Nat
  | [] => 0
  | x :: r => uptoBulkEntry x + uptoBulkEntries r
def uptoBulkEntry {H : Type} : Lit × DataW H → Nat
  | (.string bytes, d) => bytes.length + uptoBulk d + 1
  | (_, d) => uptoBulk d + 1
 end
def uptoSmall : (H : Type) → List (DataW H) → Bool := fun _ ds => decide (uptoBulkAll ds ≤ 1048576)
def OpenSpec.upto (s : _root_.Go.ChangeSpec) : _root_.Go.OpenSpec := { _root_.Go.OpenSpec.ofChange s with cond := some uptoSmall }

/-- 'pointsmanlaw15.JudgeAtmost', WHERE WHAT IT READS IS OF BULK AT MOST 1048576: true; the input reads as it did. -/
def judgeAtmostUptoRow : OpenClaim := { program := "ytmdggodkkkihhaa", sum := "ed4efbc4758d1dec68ca9ee4daac8fa3d23c220baeeb219605f3b1dd4f2c086e", func := "pointsman/pointsmanlaw15.JudgeAtmost", spec := "judgeAtmost", unfollowed := true, recurses := true, apart := false, narrowed := true }
def JudgeAtmostUptoSaid : Prop := judgeAtmostUptoRow.holds Try.pinned (OpenSpec.upto judgeAtmostSpec)

/-- 'pointsmanlaw15.JudgeOne', WHERE WHAT IT READS IS OF BULK AT MOST 1048576: true; the input reads as it did. -/
def judgeOneUptoRow : OpenClaim := { program := "ytmdggodkkkihhaa", sum := "ed4efbc4758d1dec68ca9ee4daac8fa3d23c220baeeb219605f3b1dd4f2c086e", func := "pointsman/pointsmanlaw15.JudgeOne", spec := "judgeOne", unfollowed := true, recurses := true, apart := false, narrowed := true }
def JudgeOneUptoSaid : Prop := judgeOneUptoRow.holds Try.pinned (OpenSpec.upto judgeOneSpec)

/-- 'pointsmanlaw15.JudgeMany', WHERE WHAT IT READS IS OF BULK AT MOST 1048576: true; the input reads as it did. -/
def judgeManyUptoRow : OpenClaim := { program := "ytmdggodkkkihhaa", sum := "ed4efbc4758d1dec68ca9ee4daac8fa3d23c220baeeb219605f3b1dd4f2c086e", func := "pointsman/pointsmanlaw15.JudgeMany", spec := "judgeMany", unfollowed := true, recurses := true, apart := false, narrowed := true }
def JudgeManyUptoSaid : Prop := judgeManyUptoRow.holds Try.pinned (OpenSpec.upto judgeManySpec)

/-- 'pointsmanlaw15.JudgeTwo', WHERE WHAT IT READS IS OF BULK AT MOST 1048576: true; the input reads as it did. -/
def judgeTwoUptoRow : OpenClaim := { program := "ytmdggodkkkihhaa", sum := "ed4efbc4758d1dec68ca9ee4daac8fa3d23c220baeeb219605f3b1dd4f2c086e", func := "pointsman/pointsmanlaw15.JudgeTwo", spec := "judgeTwo", unfollowed := true, recurses := true, apart := false, narrowed := true }
def JudgeTwoUptoSaid : Prop := judgeTwoUptoRow.holds Try.pinned (OpenSpec.upto judgeTwoSpec)

/-- 'pointsmanlaw15.JudgeNone', WHERE WHAT IT READS IS OF BULK AT MOST 1048576: true; the input reads as it did. -/
def judgeNoneUptoRow : OpenClaim := { program := "ytmdggodkkkihhaa", sum := "ed4efbc4758d1dec68ca9ee4daac8fa3d23c220baeeb219605f3b1dd4f2c086e", func := "pointsman/pointsmanlaw15.JudgeNone", spec := "judgeNone", unfollowed := true, recurses := true, apart := false, narrowed := true }
def JudgeNoneUptoSaid : Prop := judgeNoneUptoRow.holds Try.pinned (OpenSpec.upto judgeNoneSpec)

end Rows
end Go.Proofs.Ytmdggodkkkihhaa
