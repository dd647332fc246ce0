/-
  NARROWER THAN 'FOR EVERY INPUT', by the rows' own cells (each row's printed sentence says how): PlanRemarks: laid · PlanWrong: laid · PlanFull: laid · PlanAhead: laid · PlanHeads: laid · PlanWants: laid · PlanBack: laid · PlanNames: laid · PlanPrints: laid.
  DERIVED. THE GIVEN ROWS OF THIS SEAT. 9 by the template 'for every input the law returns true; each argument reads behind the call as it read before'; 0 by the template 'total and deterministic' (their statements: YtmdnmiiggkfnfaaDoorTotals.lean).
  GIVEN WITH THE SEED: the statements are not yours to turn. If you find one false, say at which input.
  Laid BY PROGRAM, IN A SANDBOX (cutbox-rows.mjs): the forced cells as the released guide's own fill.sh prints them over the translation ac27cbd99ef3b1d1… (all of the seat's roots in one cut). By AI agents, Wed Nov 11 2026. No macro, syntax, notation, axiom, sorry.
-/
import Derived.Test.YtmdnmiiggkfnfaaDoorChecked
import GoSem.PinnedTables
import GoSem.Claim
import GoSem.ClaimJoined
import GoSem.ClaimMapViews
import Derived.JoinedTies
import Derived.KernelRfl
namespace Go.Proofs.YtmdnmiiggkfnfaaDoor
/- THE CELL 'sum', in the pinned program and in every row, IS THE sha256 OF THE DUMP (.gsa) THAT YtmdnmiiggkfnfaaDoorProg.lean LOADS. Nothing in Lean hashes anything: it is a label: what it is worth is what the hold of that sum in a sandbox is worth. -/
noncomputable def Tryd.pinned : Pinned := { name := "ytmdnmiiggkfnfaadoor", sum := "ac27cbd99ef3b1d117ca401081f5b2bee8d0a03b4156e6fef5022fa77e5e0e84", checked := Tryd.checked }
namespace Rows
def none {H : Type} : Left H := { results := [], args := [] }

/- WHAT THE LISTED PACKAGE-LEVEL VARIABLES READ AS WHEN THE CALL BEGINS. Each datum BY PROGRAM (the guide's laid-datum.mjs) off the statement by which the dump's own 'gosem.cut.vars' lays the variable. In a bare row this is a premise. The card (YtmdnmiiggkfnfaaDoorCards.lean) ties it to the program's text. -/
def laid_unicode_utf8_acceptRanges {H : Type} : DataW H := .agg [.agg [.lit (.int .u8 128), .lit (.int .u8 191)], .agg [.lit (.int .u8 160), .lit (.int .u8 191)], .agg [.lit (.int .u8 128), .lit (.int .u8 159)], .agg [.lit (.int .u8 144), .lit (.int .u8 191)], .agg [.lit (.int .u8 128), .lit (.int .u8 143)], .agg [.lit (.int .u8 0), .lit (.int .u8 0)], .agg [.lit (.int .u8 0), .lit (.int .u8 0)], .agg [.lit (.int .u8 0), .lit (.int .u8 0)], .agg [.lit (.int .u8 0), .lit (.int .u8 0)], .agg [.lit (.int .u8 0), .lit (.int .u8 0)], .agg [.lit (.int .u8 0), .lit (.int .u8 0)], .agg [.lit (.int .u8 0), .lit (.int .u8 0)], .agg [.lit (.int .u8 0), .lit (.int .u8 0)], .agg [.lit (.int .u8 0), .lit (.int .u8 0)], .agg [.lit (.int .u8 0), .lit (.int .u8 0)], .agg [.lit (.int .u8 0), .lit (.int .u8 0)]]
/-- One of Go's own tables, pinned by name: the form's constant. -/
def laid_unicode_utf8_first : DataW Unit := Go.Pinned.utf8First

/-- 'pointsmanlaw3.PlanRemarks': WHATEVER THE INPUT: true; the input reads as it did. -/
def planRemarksSpec : ChangeSpec := { name := "planRemarks", fn := fun _ => fun
  | [d1, d2] => { results := [.lit (.bool true)], args := [d1, d2] }
  | _ => none }
def planRemarksRow : OpenClaim := { program := "ytmdnmiiggkfnfaadoor", sum := "ac27cbd99ef3b1d117ca401081f5b2bee8d0a03b4156e6fef5022fa77e5e0e84", func := "pointsman/pointsmanlaw3.PlanRemarks", spec := "planRemarks", inPlace := ["internal/bytealg.IndexByteString", "internal/bytealg.IndexString"], named := ["unicode/utf8.first", "unicode/utf8.acceptRanges", "internal/bytealg.MaxLen"], apart := false, laid := [("unicode/utf8.acceptRanges", laid_unicode_utf8_acceptRanges), ("unicode/utf8.first", laid_unicode_utf8_first)] }
def PlanRemarksSaid : Prop := planRemarksRow.holds Tryd.pinned (OpenSpec.ofChange planRemarksSpec)

/-- ITS FALSE NEIGHBOUR: 'it returns false'. Refute it at one input. -/
def planRemarksWrong : ChangeSpec := { name := "planRemarks", fn := fun _ => fun
  | [d1, d2] => { results := [.lit (.bool false)], args := [d1, d2] }
  | _ => none }
def PlanRemarksWrongFalsely : Prop := planRemarksRow.holds Tryd.pinned (OpenSpec.ofChange planRemarksWrong)

/-- 'pointsmanlaw3.PlanWrong': WHATEVER THE INPUT: true; the input reads as it did. -/
def planWrongSpec : ChangeSpec := { name := "planWrong", fn := fun _ => fun
  | [d1, d2] => { results := [.lit (.bool true)], args := [d1, d2] }
  | _ => none }
def planWrongRow : OpenClaim := { program := "ytmdnmiiggkfnfaadoor", sum := "ac27cbd99ef3b1d117ca401081f5b2bee8d0a03b4156e6fef5022fa77e5e0e84", func := "pointsman/pointsmanlaw3.PlanWrong", spec := "planWrong", inPlace := ["internal/bytealg.IndexByteString", "internal/bytealg.IndexString"], named := ["internal/bytealg.MaxLen", "unicode/utf8.first", "unicode/utf8.acceptRanges"], apart := false, laid := [("unicode/utf8.acceptRanges", laid_unicode_utf8_acceptRanges), ("unicode/utf8.first", laid_unicode_utf8_first)] }
def PlanWrongSaid : Prop := planWrongRow.holds Tryd.pinned (OpenSpec.ofChange planWrongSpec)

/-- ITS FALSE NEIGHBOUR: 'it returns false'. Refute it at one input. -/
def planWrongWrong : ChangeSpec := { name := "planWrong", fn := fun _ => fun
  | [d1, d2] => { results := [.lit (.bool false)], args := [d1, d2] }
  | _ => none }
def PlanWrongWrongFalsely : Prop := planWrongRow.holds Tryd.pinned (OpenSpec.ofChange planWrongWrong)

/-- 'pointsmanlaw3.PlanFull': WHATEVER THE INPUT: true; the input reads as it did. -/
def planFullSpec : ChangeSpec := { name := "planFull", fn := fun _ => fun
  | [d1, d2] => { results := [.lit (.bool true)], args := [d1, d2] }
  | _ => none }
def planFullRow : OpenClaim := { program := "ytmdnmiiggkfnfaadoor", sum := "ac27cbd99ef3b1d117ca401081f5b2bee8d0a03b4156e6fef5022fa77e5e0e84", func := "pointsman/pointsmanlaw3.PlanFull", spec := "planFull", inPlace := ["internal/bytealg.IndexByteString", "internal/bytealg.IndexString"], named := ["internal/bytealg.MaxLen", "unicode/utf8.first", "unicode/utf8.acceptRanges"], apart := false, laid := [("unicode/utf8.acceptRanges", laid_unicode_utf8_acceptRanges), ("unicode/utf8.first", laid_unicode_utf8_first)] }
def PlanFullSaid : Prop := planFullRow.holds Tryd.pinned (OpenSpec.ofChange planFullSpec)

/-- ITS FALSE NEIGHBOUR: 'it returns false'. Refute it at one input. -/
def planFullWrong : ChangeSpec := { name := "planFull", fn := fun _ => fun
  | [d1, d2] => { results := [.lit (.bool false)], args := [d1, d2] }
  | _ => none }
def PlanFullWrongFalsely : Prop := planFullRow.holds Tryd.pinned (OpenSpec.ofChange planFullWrong)

/-- 'pointsmanlaw3.PlanAhead': WHATEVER THE INPUT: true; the input reads as it did. -/
def planAheadSpec : ChangeSpec := { name := "planAhead", fn := fun _ => fun
  | [d] => { results := [.lit (.bool true)], args := [d] }
  | _ => none }
def planAheadRow : OpenClaim := { program := "ytmdnmiiggkfnfaadoor", sum := "ac27cbd99ef3b1d117ca401081f5b2bee8d0a03b4156e6fef5022fa77e5e0e84", func := "pointsman/pointsmanlaw3.PlanAhead", spec := "planAhead", inPlace := ["internal/bytealg.IndexByteString", "internal/bytealg.IndexString"], named := ["internal/bytealg.MaxLen", "unicode/utf8.first", "unicode/utf8.acceptRanges"], apart := false, laid := [("unicode/utf8.acceptRanges", laid_unicode_utf8_acceptRanges), ("unicode/utf8.first", laid_unicode_utf8_first)] }
def PlanAheadSaid : Prop := planAheadRow.holds Tryd.pinned (OpenSpec.ofChange planAheadSpec)

/-- ITS FALSE NEIGHBOUR: 'it returns false'. Refute it at one input. -/
def planAheadWrong : ChangeSpec := { name := "planAhead", fn := fun _ => fun
  | [d] => { results := [.lit (.bool false)], args := [d] }
  | _ => none }
def PlanAheadWrongFalsely : Prop := planAheadRow.holds Tryd.pinned (OpenSpec.ofChange planAheadWrong)

/-- 'pointsmanlaw3.PlanHeads': WHATEVER THE INPUT: true; the input reads as it did. -/
def planHeadsSpec : ChangeSpec := { name := "planHeads", fn := fun _ => fun
  | [d1, d2] => { results := [.lit (.bool true)], args := [d1, d2] }
  | _ => none }
def planHeadsRow : OpenClaim := { program := "ytmdnmiiggkfnfaadoor", sum := "ac27cbd99ef3b1d117ca401081f5b2bee8d0a03b4156e6fef5022fa77e5e0e84", func := "pointsman/pointsmanlaw3.PlanHeads", spec := "planHeads", inPlace := ["internal/bytealg.IndexByteString", "internal/bytealg.IndexString"], named := ["unicode/utf8.first", "unicode/utf8.acceptRanges", "internal/bytealg.MaxLen"], apart := false, laid := [("unicode/utf8.acceptRanges", laid_unicode_utf8_acceptRanges), ("unicode/utf8.first", laid_unicode_utf8_first)] }
def PlanHeadsSaid : Prop := planHeadsRow.holds Tryd.pinned (OpenSpec.ofChange planHeadsSpec)

/-- ITS FALSE NEIGHBOUR: 'it returns false'. Refute it at one input. -/
def planHeadsWrong : ChangeSpec := { name := "planHeads", fn := fun _ => fun
  | [d1, d2] => { results := [.lit (.bool false)], args := [d1, d2] }
  | _ => none }
def PlanHeadsWrongFalsely : Prop := planHeadsRow.holds Tryd.pinned (OpenSpec.ofChange planHeadsWrong)

/-- 'pointsmanlaw3.PlanWants': WHATEVER THE INPUT: true; the input reads as it did. -/
def planWantsSpec : ChangeSpec := { name := "planWants", fn := fun _ => fun
  | [d1, d2, d3] => { results := [.lit (.bool true)], args := [d1, d2, d3] }
  | _ => none }
def planWantsRow : OpenClaim := { program := "ytmdnmiiggkfnfaadoor", sum := "ac27cbd99ef3b1d117ca401081f5b2bee8d0a03b4156e6fef5022fa77e5e0e84", func := "pointsman/pointsmanlaw3.PlanWants", spec := "planWants", inPlace := ["internal/bytealg.IndexByteString", "internal/bytealg.IndexString"], named := ["internal/bytealg.MaxLen", "unicode/utf8.first", "unicode/utf8.acceptRanges"], apart := false, laid := [("unicode/utf8.acceptRanges", laid_unicode_utf8_acceptRanges), ("unicode/utf8.first", laid_unicode_utf8_first)] }
def PlanWantsSaid : Prop := planWantsRow.holds Tryd.pinned (OpenSpec.ofChange planWantsSpec)

/-- ITS FALSE NEIGHBOUR: 'it returns false'. Refute it at one input. -/
def planWantsWrong : ChangeSpec := { name := "planWants", fn := fun _ => fun
  | [d1, d2, d3] => { results := [.lit (.bool false)], args := [d1, d2, d3] }
  | _ => none }
def PlanWantsWrongFalsely : Prop := planWantsRow.holds Tryd.pinned (OpenSpec.ofChange planWantsWrong)

/-- 'pointsmanlaw3.PlanBack': WHATEVER THE INPUT: true; the input reads as it did. -/
def planBackSpec : ChangeSpec := { name := "planBack", fn := fun _ => fun
  | [d] => { results := [.lit (.bool true)], args := [d] }
  | _ => none }
def planBackRow : OpenClaim := { program := "ytmdnmiiggkfnfaadoor", sum := "ac27cbd99ef3b1d117ca401081f5b2bee8d0a03b4156e6fef5022fa77e5e0e84", func := "pointsman/pointsmanlaw3.PlanBack", spec := "planBack", inPlace := ["internal/abi.NoEscape", "internal/bytealg.MakeNoZero", "internal/bytealg.IndexByteString", "internal/bytealg.IndexString"], named := ["unicode/utf8.first", "unicode/utf8.acceptRanges", "internal/bytealg.MaxLen"], apart := false, laid := [("unicode/utf8.acceptRanges", laid_unicode_utf8_acceptRanges), ("unicode/utf8.first", laid_unicode_utf8_first)] }
def PlanBackSaid : Prop := planBackRow.holds Tryd.pinned (OpenSpec.ofChange planBackSpec)

/-- ITS FALSE NEIGHBOUR: 'it returns false'. Refute it at one input. -/
def planBackWrong : ChangeSpec := { name := "planBack", fn := fun _ => fun
  | [d] => { results := [.lit (.bool false)], args := [d] }
  | _ => none }
def PlanBackWrongFalsely : Prop := planBackRow.holds Tryd.pinned (OpenSpec.ofChange planBackWrong)

/-- 'pointsmanlaw3.PlanNames': WHATEVER THE INPUT: true; the input reads as it did. -/
def planNamesSpec : ChangeSpec := { name := "planNames", fn := fun _ => fun
  | [d1, d2] => { results := [.lit (.bool true)], args := [d1, d2] }
  | _ => none }
def planNamesRow : OpenClaim := { program := "ytmdnmiiggkfnfaadoor", sum := "ac27cbd99ef3b1d117ca401081f5b2bee8d0a03b4156e6fef5022fa77e5e0e84", func := "pointsman/pointsmanlaw3.PlanNames", spec := "planNames", inPlace := ["internal/bytealg.IndexByteString", "internal/bytealg.IndexString", "internal/abi.NoEscape", "internal/bytealg.MakeNoZero"], named := ["unicode/utf8.first", "unicode/utf8.acceptRanges", "internal/bytealg.MaxLen"], apart := false, laid := [("unicode/utf8.acceptRanges", laid_unicode_utf8_acceptRanges), ("unicode/utf8.first", laid_unicode_utf8_first)] }
def PlanNamesSaid : Prop := planNamesRow.holds Tryd.pinned (OpenSpec.ofChange planNamesSpec)

/-- ITS FALSE NEIGHBOUR: 'it returns false'. Refute it at one input. -/
def planNamesWrong : ChangeSpec := { name := "planNames", fn := fun _ => fun
  | [d1, d2] => { results := [.lit (.bool false)], args := [d1, d2] }
  | _ => none }
def PlanNamesWrongFalsely : Prop := planNamesRow.holds Tryd.pinned (OpenSpec.ofChange planNamesWrong)

/-- 'pointsmanlaw3.PlanPrints': WHATEVER THE INPUT: true; the input reads as it did. -/
def planPrintsSpec : ChangeSpec := { name := "planPrints", fn := fun _ => fun
  | [d1, d2] => { results := [.lit (.bool true)], args := [d1, d2] }
  | _ => none }
def planPrintsRow : OpenClaim := { program := "ytmdnmiiggkfnfaadoor", sum := "ac27cbd99ef3b1d117ca401081f5b2bee8d0a03b4156e6fef5022fa77e5e0e84", func := "pointsman/pointsmanlaw3.PlanPrints", spec := "planPrints", inPlace := ["internal/abi.NoEscape", "internal/bytealg.MakeNoZero", "internal/bytealg.IndexByteString", "internal/bytealg.IndexString"], unfollowed := true, recurses := true, named := ["unicode/utf8.first", "unicode/utf8.acceptRanges", "internal/bytealg.MaxLen"], apart := false, laid := [("unicode/utf8.acceptRanges", laid_unicode_utf8_acceptRanges), ("unicode/utf8.first", laid_unicode_utf8_first)] }
def PlanPrintsSaid : Prop := planPrintsRow.holds Tryd.pinned (OpenSpec.ofChange planPrintsSpec)

/-- ITS FALSE NEIGHBOUR: 'it returns false'. Refute it at one input. -/
def planPrintsWrong : ChangeSpec := { name := "planPrints", fn := fun _ => fun
  | [d1, d2] => { results := [.lit (.bool false)], args := [d1, d2] }
  | _ => none }
def PlanPrintsWrongFalsely : Prop := planPrintsRow.holds Tryd.pinned (OpenSpec.ofChange planPrintsWrong)

/- THE SECOND FORM. 'bulk': how many values and letters a reading holds, each counted each time it is reached (what is shared counts as often as it is met; a slice's spare places count too). A statement '..UptoSaid' is the law's where the arguments, and the package variables that the reading takes, are together of bulk at most 1048576: NARROWER than '..Said'. Prove '..Said' where nothing that the law and all that it calls make is longer than what came in: it says more and counts as full. Else prove '..UptoSaid'. A law counts once. -/
mutual
def uptoBulk {H : Type} : DataW H → Nat
  | .lit (.string bytes) => bytes.length + 1
  | .lit _ => 1
  | .nil => 1
  | .ptr d => uptoBulk d + 1
  | .slice elems spare => uptoBulkAll elems + uptoBulkAll spare + 1
  | .agg parts => uptoBulkAll parts + 1
  | .iface _ d => uptoBulk d + 1
  | .map entries => uptoBulkEntries entries + 1
  | .held _ => 1
def uptoBulkAll {H : Type} : List (DataW H) → Nat
  | [] => 0
  | d :: r => uptoBulk d + uptoBulkAll r
def uptoBulkEntries {H : Type} : List (Lit × DataW H) → Nat
  | [] => 0
  | x :: r => uptoBulkEntry x + uptoBulkEntries r
def uptoBulkEntry {H : Type} : Lit × DataW H → Nat
  | (.string bytes, d) => bytes.length + uptoBulk d + 1
  | (_, d) => uptoBulk d + 1
 end
def uptoSmall : (H : Type) → List (DataW H) → Bool := fun _ ds => decide (uptoBulkAll ds ≤ 1048576)
def OpenSpec.upto (s : _root_.Go.ChangeSpec) : _root_.Go.OpenSpec := { _root_.Go.OpenSpec.ofChange s with cond := some uptoSmall }

/-- 'pointsmanlaw3.PlanRemarks', WHERE WHAT IT READS IS OF BULK AT MOST 1048576: true; the input reads as it did. -/
def planRemarksUptoRow : OpenClaim := { program := "ytmdnmiiggkfnfaadoor", sum := "ac27cbd99ef3b1d117ca401081f5b2bee8d0a03b4156e6fef5022fa77e5e0e84", func := "pointsman/pointsmanlaw3.PlanRemarks", spec := "planRemarks", inPlace := ["internal/bytealg.IndexByteString", "internal/bytealg.IndexString"], named := ["unicode/utf8.first", "unicode/utf8.acceptRanges", "internal/bytealg.MaxLen"], apart := false, laid := [("unicode/utf8.acceptRanges", laid_unicode_utf8_acceptRanges), ("unicode/utf8.first", laid_unicode_utf8_first)], narrowed := true }
def PlanRemarksUptoSaid : Prop := planRemarksUptoRow.holds Tryd.pinned (OpenSpec.upto planRemarksSpec)

/-- 'pointsmanlaw3.PlanWrong', WHERE WHAT IT READS IS OF BULK AT MOST 1048576: true; the input reads as it did. -/
def planWrongUptoRow : OpenClaim := { program := "ytmdnmiiggkfnfaadoor", sum := "ac27cbd99ef3b1d117ca401081f5b2bee8d0a03b4156e6fef5022fa77e5e0e84", func := "pointsman/pointsmanlaw3.PlanWrong", spec := "planWrong", inPlace := ["internal/bytealg.IndexByteString", "internal/bytealg.IndexString"], named := ["internal/bytealg.MaxLen", "unicode/utf8.first", "unicode/utf8.acceptRanges"], apart := false, laid := [("unicode/utf8.acceptRanges", laid_unicode_utf8_acceptRanges), ("unicode/utf8.first", laid_unicode_utf8_first)], narrowed := true }
def PlanWrongUptoSaid : Prop := planWrongUptoRow.holds Tryd.pinned (OpenSpec.upto planWrongSpec)

/-- 'pointsmanlaw3.PlanFull', WHERE WHAT IT READS IS OF BULK AT MOST 1048576: true; the input reads as it did. -/
def planFullUptoRow : OpenClaim := { program := "ytmdnmiiggkfnfaadoor", sum := "ac27cbd99ef3b1d117ca401081f5b2bee8d0a03b4156e6fef5022fa77e5e0e84", func := "pointsman/pointsmanlaw3.PlanFull", spec := "planFull", inPlace := ["internal/bytealg.IndexByteString", "internal/bytealg.IndexString"], named := ["internal/bytealg.MaxLen", "unicode/utf8.first", "unicode/utf8.acceptRanges"], apart := false, laid := [("unicode/utf8.acceptRanges", laid_unicode_utf8_acceptRanges), ("unicode/utf8.first", laid_unicode_utf8_first)], narrowed := true }
def PlanFullUptoSaid : Prop := planFullUptoRow.holds Tryd.pinned (OpenSpec.upto planFullSpec)

/-- 'pointsmanlaw3.PlanAhead', WHERE WHAT IT READS IS OF BULK AT MOST 1048576: true; the input reads as it did. -/
def planAheadUptoRow : OpenClaim := { program := "ytmdnmiiggkfnfaadoor", sum := "ac27cbd99ef3b1d117ca401081f5b2bee8d0a03b4156e6fef5022fa77e5e0e84", func := "pointsman/pointsmanlaw3.PlanAhead", spec := "planAhead", inPlace := ["internal/bytealg.IndexByteString", "internal/bytealg.IndexString"], named := ["internal/bytealg.MaxLen", "unicode/utf8.first", "unicode/utf8.acceptRanges"], apart := false, laid := [("unicode/utf8.acceptRanges", laid_unicode_utf8_acceptRanges), ("unicode/utf8.first", laid_unicode_utf8_first)], narrowed := true }
def PlanAheadUptoSaid : Prop := planAheadUptoRow.holds Tryd.pinned (OpenSpec.upto planAheadSpec)

/-- 'pointsmanlaw3.PlanHeads', WHERE WHAT IT READS IS OF BULK AT MOST 1048576: true; the input reads as it did. -/
def planHeadsUptoRow : OpenClaim := { program := "ytmdnmiiggkfnfaadoor", sum := "ac27cbd99ef3b1d117ca401081f5b2bee8d0a03b4156e6fef5022fa77e5e0e84", func := "pointsman/pointsmanlaw3.PlanHeads", spec := "planHeads", inPlace := ["internal/bytealg.IndexByteString", "internal/bytealg.IndexString"], named := ["unicode/utf8.first", "unicode/utf8.acceptRanges", "internal/bytealg.MaxLen"], apart := false, laid := [("unicode/utf8.acceptRanges", laid_unicode_utf8_acceptRanges), ("unicode/utf8.first", laid_unicode_utf8_first)], narrowed := true }
def PlanHeadsUptoSaid : Prop := planHeadsUptoRow.holds Tryd.pinned (OpenSpec.upto planHeadsSpec)

/-- 'pointsmanlaw3.PlanWants', WHERE WHAT IT READS IS OF BULK AT MOST 1048576: true; the input reads as it did. -/
def planWantsUptoRow : OpenClaim := { program := "ytmdnmiiggkfnfaadoor", sum := "ac27cbd99ef3b1d117ca401081f5b2bee8d0a03b4156e6fef5022fa77e5e0e84", func := "pointsman/pointsmanlaw3.PlanWants", spec := "planWants", inPlace := ["internal/bytealg.IndexByteString", "internal/bytealg.IndexString"], named := ["internal/bytealg.MaxLen", "unicode/utf8.first", "unicode/utf8.acceptRanges"], apart := false, laid := [("unicode/utf8.acceptRanges", laid_unicode_utf8_acceptRanges), ("unicode/utf8.first", laid_unicode_utf8_first)], narrowed := true }
def PlanWantsUptoSaid : Prop := planWantsUptoRow.holds Tryd.pinned (OpenSpec.upto planWantsSpec)

/-- 'pointsmanlaw3.PlanBack', WHERE WHAT IT READS IS OF BULK AT MOST 1048576: true; the input reads as it did. -/
def planBackUptoRow : OpenClaim := { program := "ytmdnmiiggkfnfaadoor", sum := "ac27cbd99ef3b1d117ca401081f5b2bee8d0a03b4156e6fef5022fa77e5e0e84", func := "pointsman/pointsmanlaw3.PlanBack", spec := "planBack", inPlace := ["internal/abi.NoEscape", "internal/bytealg.MakeNoZero", "internal/bytealg.IndexByteString", "internal/bytealg.IndexString"], named := ["unicode/utf8.first", "unicode/utf8.acceptRanges", "internal/bytealg.MaxLen"], apart := false, laid := [("unicode/utf8.acceptRanges", laid_unicode_utf8_acceptRanges), ("unicode/utf8.first", laid_unicode_utf8_first)], narrowed := true }
def PlanBackUptoSaid : Prop := planBackUptoRow.holds Tryd.pinned (OpenSpec.upto planBackSpec)

/-- 'pointsmanlaw3.PlanNames', WHERE WHAT IT READS IS OF BULK AT MOST 1048576: true; the input reads as it did. -/
def planNamesUptoRow : OpenClaim := { program := "ytmdnmiiggkfnfaadoor", sum := "ac27cbd99ef3b1d117ca401081f5b2bee8d0a03b4156e6fef5022fa77e5e0e84", func := "pointsman/pointsmanlaw3.PlanNames", spec := "planNames", inPlace := ["internal/bytealg.IndexByteString", "internal/bytealg.IndexString", "internal/abi.NoEscape", "internal/bytealg.MakeNoZero"], named := ["unicode/utf8.first", "unicode/utf8.acceptRanges", "internal/bytealg.MaxLen"], apart := false, laid := [("unicode/utf8.acceptRanges", laid_unicode_utf8_acceptRanges), ("unicode/utf8.first", laid_unicode_utf8_first)], narrowed := true }
def PlanNamesUptoSaid : Prop := planNamesUptoRow.holds Tryd.pinned (OpenSpec.upto planNamesSpec)

/-- 'pointsmanlaw3.PlanPrints', WHERE WHAT IT READS IS OF BULK AT MOST 1048576: true; the input reads as it did. -/
def planPrintsUptoRow : OpenClaim := { program := "ytmdnmiiggkfnfaadoor", sum := "ac27cbd99ef3b1d117ca401081f5b2bee8d0a03b4156e6fef5022fa77e5e0e84", func := "pointsman/pointsmanlaw3.PlanPrints", spec := "planPrints", inPlace := ["internal/abi.NoEscape", "internal/bytealg.MakeNoZero", "internal/bytealg.IndexByteString", "internal/bytealg.IndexString"], unfollowed := true, recurses := true, named := ["unicode/utf8.first", "unicode/utf8.acceptRanges", "internal/bytealg.MaxLen"], apart := false, laid := [("unicode/utf8.acceptRanges", laid_unicode_utf8_acceptRanges), ("unicode/utf8.first", laid_unicode_utf8_first)], narrowed := true }
def PlanPrintsUptoSaid : Prop := planPrintsUptoRow.holds Tryd.pinned (OpenSpec.upto planPrintsSpec)

end Rows
end Go.Proofs.YtmdnmiiggkfnfaaDoor
