/-
  NARROWER THAN 'FOR EVERY INPUT', by the rows' own cells (each row's printed sentence says how): GlyphLetters: laid · GlyphWords: laid · GlyphWrong: laid · GlyphNames: laid · GlyphJoins: laid · GlyphBlanks: laid · GlyphEach: laid · GlyphTells: laid · GlyphOrders: laid · GlyphBytes: laid.
  DERIVED. THE GIVEN ROWS OF THIS SEAT. 10 by the template 'for every input the law returns true; each argument reads behind the call as it read before'; 0 by the template 'total and deterministic' (their statements: YtjjcibbokeadiaaDoorTotals.lean).
  GIVEN WITH THE SEED: the statements are not yours to turn. If you find one false, say at which input.
  Laid BY PROGRAM, IN A SANDBOX (cutbox-rows.mjs): the forced cells as the released guide's own fill.sh prints them over the translation 2ba83fa8974e07b3… (all of the seat's roots in one cut). By AI agents, Wed Nov 11 2026. No macro, syntax, notation, axiom, sorry.
-/
import Derived.Test.YtjjcibbokeadiaaDoorChecked
import GoSem.PinnedTables
import GoSem.Claim
import GoSem.ClaimJoined
import GoSem.ClaimMapViews
import Derived.JoinedTies
import Derived.KernelRfl
namespace Go.Proofs.YtjjcibbokeadiaaDoor
/- THE CELL 'sum', in the pinned program and in every row, IS THE sha256 OF THE DUMP (.gsa) THAT YtjjcibbokeadiaaDoorProg.lean LOADS. Nothing in Lean hashes anything: it is a label: what it is worth is what the hold of that sum in a sandbox is worth. -/
noncomputable def Tryd.pinned : Pinned := { name := "ytjjcibbokeadiaadoor", sum := "2ba83fa8974e07b3baa8bd53bf1f919fccf4e92e82a34bcefda1cf3665e8b299", checked := Tryd.checked }
namespace Rows
def none {H : Type} : Left H := { results := [], args := [] }

/- WHAT THE LISTED PACKAGE-LEVEL VARIABLES READ AS WHEN THE CALL BEGINS. Each datum BY PROGRAM (the guide's laid-datum.mjs) off the statement by which the dump's own 'gosem.cut.vars' lays the variable. In a bare row this is a premise. The card (YtjjcibbokeadiaaDoorCards.lean) ties it to the program's text. -/
def laid_unicode_utf8_acceptRanges {H : Type} : DataW H := .agg [.agg [.lit (.int .u8 128), .lit (.int .u8 191)], .agg [.lit (.int .u8 160), .lit (.int .u8 191)], .agg [.lit (.int .u8 128), .lit (.int .u8 159)], .agg [.lit (.int .u8 144), .lit (.int .u8 191)], .agg [.lit (.int .u8 128), .lit (.int .u8 143)], .agg [.lit (.int .u8 0), .lit (.int .u8 0)], .agg [.lit (.int .u8 0), .lit (.int .u8 0)], .agg [.lit (.int .u8 0), .lit (.int .u8 0)], .agg [.lit (.int .u8 0), .lit (.int .u8 0)], .agg [.lit (.int .u8 0), .lit (.int .u8 0)], .agg [.lit (.int .u8 0), .lit (.int .u8 0)], .agg [.lit (.int .u8 0), .lit (.int .u8 0)], .agg [.lit (.int .u8 0), .lit (.int .u8 0)], .agg [.lit (.int .u8 0), .lit (.int .u8 0)], .agg [.lit (.int .u8 0), .lit (.int .u8 0)], .agg [.lit (.int .u8 0), .lit (.int .u8 0)]]
/-- One of Go's own tables, pinned by name: the form's constant. -/
def laid_unicode_utf8_first : DataW Unit := Go.Pinned.utf8First

/-- 'pointsmanlaw1.GlyphLetters': WHATEVER THE INPUT: true; the input reads as it did. -/
def glyphLettersSpec : ChangeSpec := { name := "glyphLetters", fn := fun _ => fun
  | [d] => { results := [.lit (.bool true)], args := [d] }
  | _ => none }
def glyphLettersRow : OpenClaim := { program := "ytjjcibbokeadiaadoor", sum := "2ba83fa8974e07b3baa8bd53bf1f919fccf4e92e82a34bcefda1cf3665e8b299", func := "pointsman/pointsmanlaw1.GlyphLetters", spec := "glyphLetters", named := ["unicode/utf8.first", "unicode/utf8.acceptRanges"], apart := false, laid := [("unicode/utf8.acceptRanges", laid_unicode_utf8_acceptRanges), ("unicode/utf8.first", laid_unicode_utf8_first)] }
def GlyphLettersSaid : Prop := glyphLettersRow.holds Tryd.pinned (OpenSpec.ofChange glyphLettersSpec)

/-- ITS FALSE NEIGHBOUR: 'it returns false'. Refute it at one input. -/
def glyphLettersWrong : ChangeSpec := { name := "glyphLetters", fn := fun _ => fun
  | [d] => { results := [.lit (.bool false)], args := [d] }
  | _ => none }
def GlyphLettersWrongFalsely : Prop := glyphLettersRow.holds Tryd.pinned (OpenSpec.ofChange glyphLettersWrong)

/-- 'pointsmanlaw1.GlyphWords': WHATEVER THE INPUT: true; the input reads as it did. -/
def glyphWordsSpec : ChangeSpec := { name := "glyphWords", fn := fun _ => fun
  | [d1, d2] => { results := [.lit (.bool true)], args := [d1, d2] }
  | _ => none }
def glyphWordsRow : OpenClaim := { program := "ytjjcibbokeadiaadoor", sum := "2ba83fa8974e07b3baa8bd53bf1f919fccf4e92e82a34bcefda1cf3665e8b299", func := "pointsman/pointsmanlaw1.GlyphWords", spec := "glyphWords", named := ["unicode/utf8.first", "unicode/utf8.acceptRanges"], apart := false, laid := [("unicode/utf8.acceptRanges", laid_unicode_utf8_acceptRanges), ("unicode/utf8.first", laid_unicode_utf8_first)] }
def GlyphWordsSaid : Prop := glyphWordsRow.holds Tryd.pinned (OpenSpec.ofChange glyphWordsSpec)

/-- ITS FALSE NEIGHBOUR: 'it returns false'. Refute it at one input. -/
def glyphWordsWrong : ChangeSpec := { name := "glyphWords", fn := fun _ => fun
  | [d1, d2] => { results := [.lit (.bool false)], args := [d1, d2] }
  | _ => none }
def GlyphWordsWrongFalsely : Prop := glyphWordsRow.holds Tryd.pinned (OpenSpec.ofChange glyphWordsWrong)

/-- 'pointsmanlaw1.GlyphWrong': WHATEVER THE INPUT: true; the input reads as it did. -/
def glyphWrongSpec : ChangeSpec := { name := "glyphWrong", fn := fun _ => fun
  | [d1, d2] => { results := [.lit (.bool true)], args := [d1, d2] }
  | _ => none }
def glyphWrongRow : OpenClaim := { program := "ytjjcibbokeadiaadoor", sum := "2ba83fa8974e07b3baa8bd53bf1f919fccf4e92e82a34bcefda1cf3665e8b299", func := "pointsman/pointsmanlaw1.GlyphWrong", spec := "glyphWrong", named := ["unicode/utf8.first", "unicode/utf8.acceptRanges"], apart := false, laid := [("unicode/utf8.acceptRanges", laid_unicode_utf8_acceptRanges), ("unicode/utf8.first", laid_unicode_utf8_first)] }
def GlyphWrongSaid : Prop := glyphWrongRow.holds Tryd.pinned (OpenSpec.ofChange glyphWrongSpec)

/-- ITS FALSE NEIGHBOUR: 'it returns false'. Refute it at one input. -/
def glyphWrongWrong : ChangeSpec := { name := "glyphWrong", fn := fun _ => fun
  | [d1, d2] => { results := [.lit (.bool false)], args := [d1, d2] }
  | _ => none }
def GlyphWrongWrongFalsely : Prop := glyphWrongRow.holds Tryd.pinned (OpenSpec.ofChange glyphWrongWrong)

/-- 'pointsmanlaw1.GlyphNames': WHATEVER THE INPUT: true; the input reads as it did. -/
def glyphNamesSpec : ChangeSpec := { name := "glyphNames", fn := fun _ => fun
  | [d1, d2] => { results := [.lit (.bool true)], args := [d1, d2] }
  | _ => none }
def glyphNamesRow : OpenClaim := { program := "ytjjcibbokeadiaadoor", sum := "2ba83fa8974e07b3baa8bd53bf1f919fccf4e92e82a34bcefda1cf3665e8b299", func := "pointsman/pointsmanlaw1.GlyphNames", spec := "glyphNames", named := ["unicode/utf8.first", "unicode/utf8.acceptRanges"], apart := false, laid := [("unicode/utf8.acceptRanges", laid_unicode_utf8_acceptRanges), ("unicode/utf8.first", laid_unicode_utf8_first)] }
def GlyphNamesSaid : Prop := glyphNamesRow.holds Tryd.pinned (OpenSpec.ofChange glyphNamesSpec)

/-- ITS FALSE NEIGHBOUR: 'it returns false'. Refute it at one input. -/
def glyphNamesWrong : ChangeSpec := { name := "glyphNames", fn := fun _ => fun
  | [d1, d2] => { results := [.lit (.bool false)], args := [d1, d2] }
  | _ => none }
def GlyphNamesWrongFalsely : Prop := glyphNamesRow.holds Tryd.pinned (OpenSpec.ofChange glyphNamesWrong)

/-- 'pointsmanlaw1.GlyphJoins': WHATEVER THE INPUT: true; the input reads as it did. -/
def glyphJoinsSpec : ChangeSpec := { name := "glyphJoins", fn := fun _ => fun
  | [d1, d2] => { results := [.lit (.bool true)], args := [d1, d2] }
  | _ => none }
def glyphJoinsRow : OpenClaim := { program := "ytjjcibbokeadiaadoor", sum := "2ba83fa8974e07b3baa8bd53bf1f919fccf4e92e82a34bcefda1cf3665e8b299", func := "pointsman/pointsmanlaw1.GlyphJoins", spec := "glyphJoins", named := ["unicode/utf8.first", "unicode/utf8.acceptRanges"], apart := false, laid := [("unicode/utf8.acceptRanges", laid_unicode_utf8_acceptRanges), ("unicode/utf8.first", laid_unicode_utf8_first)] }
def GlyphJoinsSaid : Prop := glyphJoinsRow.holds Tryd.pinned (OpenSpec.ofChange glyphJoinsSpec)

/-- ITS FALSE NEIGHBOUR: 'it returns false'. Refute it at one input. -/
def glyphJoinsWrong : ChangeSpec := { name := "glyphJoins", fn := fun _ => fun
  | [d1, d2] => { results := [.lit (.bool false)], args := [d1, d2] }
  | _ => none }
def GlyphJoinsWrongFalsely : Prop := glyphJoinsRow.holds Tryd.pinned (OpenSpec.ofChange glyphJoinsWrong)

/-- 'pointsmanlaw1.GlyphBlanks': WHATEVER THE INPUT: true; the input reads as it did. -/
def glyphBlanksSpec : ChangeSpec := { name := "glyphBlanks", fn := fun _ => fun
  | [d1, d2, d3] => { results := [.lit (.bool true)], args := [d1, d2, d3] }
  | _ => none }
def glyphBlanksRow : OpenClaim := { program := "ytjjcibbokeadiaadoor", sum := "2ba83fa8974e07b3baa8bd53bf1f919fccf4e92e82a34bcefda1cf3665e8b299", func := "pointsman/pointsmanlaw1.GlyphBlanks", spec := "glyphBlanks", named := ["unicode/utf8.first", "unicode/utf8.acceptRanges"], apart := false, laid := [("unicode/utf8.acceptRanges", laid_unicode_utf8_acceptRanges), ("unicode/utf8.first", laid_unicode_utf8_first)] }
def GlyphBlanksSaid : Prop := glyphBlanksRow.holds Tryd.pinned (OpenSpec.ofChange glyphBlanksSpec)

/-- ITS FALSE NEIGHBOUR: 'it returns false'. Refute it at one input. -/
def glyphBlanksWrong : ChangeSpec := { name := "glyphBlanks", fn := fun _ => fun
  | [d1, d2, d3] => { results := [.lit (.bool false)], args := [d1, d2, d3] }
  | _ => none }
def GlyphBlanksWrongFalsely : Prop := glyphBlanksRow.holds Tryd.pinned (OpenSpec.ofChange glyphBlanksWrong)

/-- 'pointsmanlaw1.GlyphEach': WHATEVER THE INPUT: true; the input reads as it did. -/
def glyphEachSpec : ChangeSpec := { name := "glyphEach", fn := fun _ => fun
  | [d1, d2] => { results := [.lit (.bool true)], args := [d1, d2] }
  | _ => none }
def glyphEachRow : OpenClaim := { program := "ytjjcibbokeadiaadoor", sum := "2ba83fa8974e07b3baa8bd53bf1f919fccf4e92e82a34bcefda1cf3665e8b299", func := "pointsman/pointsmanlaw1.GlyphEach", spec := "glyphEach", named := ["unicode/utf8.first", "unicode/utf8.acceptRanges"], apart := false, laid := [("unicode/utf8.acceptRanges", laid_unicode_utf8_acceptRanges), ("unicode/utf8.first", laid_unicode_utf8_first)] }
def GlyphEachSaid : Prop := glyphEachRow.holds Tryd.pinned (OpenSpec.ofChange glyphEachSpec)

/-- ITS FALSE NEIGHBOUR: 'it returns false'. Refute it at one input. -/
def glyphEachWrong : ChangeSpec := { name := "glyphEach", fn := fun _ => fun
  | [d1, d2] => { results := [.lit (.bool false)], args := [d1, d2] }
  | _ => none }
def GlyphEachWrongFalsely : Prop := glyphEachRow.holds Tryd.pinned (OpenSpec.ofChange glyphEachWrong)

/-- 'pointsmanlaw1.GlyphTells': WHATEVER THE INPUT: true; the input reads as it did. -/
def glyphTellsSpec : ChangeSpec := { name := "glyphTells", fn := fun _ => fun
  | [d1, d2] => { results := [.lit (.bool true)], args := [d1, d2] }
  | _ => none }
def glyphTellsRow : OpenClaim := { program := "ytjjcibbokeadiaadoor", sum := "2ba83fa8974e07b3baa8bd53bf1f919fccf4e92e82a34bcefda1cf3665e8b299", func := "pointsman/pointsmanlaw1.GlyphTells", spec := "glyphTells", named := ["unicode/utf8.first", "unicode/utf8.acceptRanges"], apart := false, laid := [("unicode/utf8.acceptRanges", laid_unicode_utf8_acceptRanges), ("unicode/utf8.first", laid_unicode_utf8_first)] }
def GlyphTellsSaid : Prop := glyphTellsRow.holds Tryd.pinned (OpenSpec.ofChange glyphTellsSpec)

/-- ITS FALSE NEIGHBOUR: 'it returns false'. Refute it at one input. -/
def glyphTellsWrong : ChangeSpec := { name := "glyphTells", fn := fun _ => fun
  | [d1, d2] => { results := [.lit (.bool false)], args := [d1, d2] }
  | _ => none }
def GlyphTellsWrongFalsely : Prop := glyphTellsRow.holds Tryd.pinned (OpenSpec.ofChange glyphTellsWrong)

/-- 'pointsmanlaw1.GlyphOrders': WHATEVER THE INPUT: true; the input reads as it did. -/
def glyphOrdersSpec : ChangeSpec := { name := "glyphOrders", fn := fun _ => fun
  | [d1, d2, d3] => { results := [.lit (.bool true)], args := [d1, d2, d3] }
  | _ => none }
def glyphOrdersRow : OpenClaim := { program := "ytjjcibbokeadiaadoor", sum := "2ba83fa8974e07b3baa8bd53bf1f919fccf4e92e82a34bcefda1cf3665e8b299", func := "pointsman/pointsmanlaw1.GlyphOrders", spec := "glyphOrders", named := ["unicode/utf8.first", "unicode/utf8.acceptRanges"], apart := false, laid := [("unicode/utf8.acceptRanges", laid_unicode_utf8_acceptRanges), ("unicode/utf8.first", laid_unicode_utf8_first)] }
def GlyphOrdersSaid : Prop := glyphOrdersRow.holds Tryd.pinned (OpenSpec.ofChange glyphOrdersSpec)

/-- ITS FALSE NEIGHBOUR: 'it returns false'. Refute it at one input. -/
def glyphOrdersWrong : ChangeSpec := { name := "glyphOrders", fn := fun _ => fun
  | [d1, d2, d3] => { results := [.lit (.bool false)], args := [d1, d2, d3] }
  | _ => none }
def GlyphOrdersWrongFalsely : Prop := glyphOrdersRow.holds Tryd.pinned (OpenSpec.ofChange glyphOrdersWrong)

/-- 'pointsmanlaw1.GlyphBytes': WHATEVER THE INPUT: true; the input reads as it did. -/
def glyphBytesSpec : ChangeSpec := { name := "glyphBytes", fn := fun _ => fun
  | [d1, d2] => { results := [.lit (.bool true)], args := [d1, d2] }
  | _ => none }
def glyphBytesRow : OpenClaim := { program := "ytjjcibbokeadiaadoor", sum := "2ba83fa8974e07b3baa8bd53bf1f919fccf4e92e82a34bcefda1cf3665e8b299", func := "pointsman/pointsmanlaw1.GlyphBytes", spec := "glyphBytes", named := ["unicode/utf8.first", "unicode/utf8.acceptRanges"], apart := false, laid := [("unicode/utf8.acceptRanges", laid_unicode_utf8_acceptRanges), ("unicode/utf8.first", laid_unicode_utf8_first)] }
def GlyphBytesSaid : Prop := glyphBytesRow.holds Tryd.pinned (OpenSpec.ofChange glyphBytesSpec)

/-- ITS FALSE NEIGHBOUR: 'it returns false'. Refute it at one input. -/
def glyphBytesWrong : ChangeSpec := { name := "glyphBytes", fn := fun _ => fun
  | [d1, d2] => { results := [.lit (.bool false)], args := [d1, d2] }
  | _ => none }
def GlyphBytesWrongFalsely : Prop := glyphBytesRow.holds Tryd.pinned (OpenSpec.ofChange glyphBytesWrong)

/- THE SECOND FORM. 'bulk': how many values and letters a reading holds, each counted each time it is reached (what is shared counts as often as it is met; a slice's spare places count too). A statement '..UptoSaid' is the law's where the arguments, and the package variables that the reading takes, are together of bulk at most 1048576: NARROWER than '..Said'. Prove '..Said' where nothing that the law and all that it calls make is longer than what came in: it says more and counts as full. Else prove '..UptoSaid'. A law counts once. -/
mutual
def uptoBulk {H : Type} : DataW H → Nat
  | .lit (.string bytes) => bytes.length + 1
  | .lit _ => 1
  | .nil => 1
  | .ptr d => uptoBulk d + 1
  | .slice elems spare => uptoBulkAll elems + uptoBulkAll spare + 1
  | .agg parts => uptoBulkAll parts + 1
  | .iface _ d => uptoBulk d + 1
  | .map entries => uptoBulkEntries entries + 1
  | .held _ => 1
def uptoBulkAll {H : Type} : List (DataW H) → Nat
  | [] => 0
  | d :: r => uptoBulk d + uptoBulkAll r
def uptoBulkEntries {H : Type} : List (Lit × DataW H) → Nat
  | [] => 0
  | x :: r => uptoBulkEntry x + uptoBulkEntries r
def uptoBulkEntry {H : Type} : Lit × DataW H → Nat
  | (.string bytes, d) => bytes.length + uptoBulk d + 1
  | (_, d) => uptoBulk d + 1
 end
def uptoSmall : (H : Type) → List (DataW H) → Bool := fun _ ds => decide (uptoBulkAll ds ≤ 1048576)
def OpenSpec.upto (s : _root_.Go.ChangeSpec) : _root_.Go.OpenSpec := { _root_.Go.OpenSpec.ofChange s with cond := some uptoSmall }

/-- 'pointsmanlaw1.GlyphLetters', WHERE WHAT IT READS IS OF BULK AT MOST 1048576: true; the input reads as it did. -/
def glyphLettersUptoRow : OpenClaim := { program := "ytjjcibbokeadiaadoor", sum := "2ba83fa8974e07b3baa8bd53bf1f919fccf4e92e82a34bcefda1cf3665e8b299", func := "pointsman/pointsmanlaw1.GlyphLetters", spec := "glyphLetters", named := ["unicode/utf8.first", "unicode/utf8.acceptRanges"], apart := false, laid := [("unicode/utf8.acceptRanges", laid_unicode_utf8_acceptRanges), ("unicode/utf8.first", laid_unicode_utf8_first)], narrowed := true }
def GlyphLettersUptoSaid : Prop := glyphLettersUptoRow.holds Tryd.pinned (OpenSpec.upto glyphLettersSpec)

/-- 'pointsmanlaw1.GlyphWords', WHERE WHAT IT READS IS OF BULK AT MOST 1048576: true; the input reads as it did. -/
def glyphWordsUptoRow : OpenClaim := { program := "ytjjcibbokeadiaadoor", sum := "2ba83fa8974e07b3baa8bd53bf1f919fccf4e92e82a34bcefda1cf3665e8b299", func := "pointsman/pointsmanlaw1.GlyphWords", spec := "glyphWords", named := ["unicode/utf8.first", "unicode/utf8.acceptRanges"], apart := false, laid := [("unicode/utf8.acceptRanges", laid_unicode_utf8_acceptRanges), ("unicode/utf8.first", laid_unicode_utf8_first)], narrowed := true }
def GlyphWordsUptoSaid : Prop := glyphWordsUptoRow.holds Tryd.pinned (OpenSpec.upto glyphWordsSpec)

/-- 'pointsmanlaw1.GlyphWrong', WHERE WHAT IT READS IS OF BULK AT MOST 1048576: true; the input reads as it did. -/
def glyphWrongUptoRow : OpenClaim := { program := "ytjjcibbokeadiaadoor", sum := "2ba83fa8974e07b3baa8bd53bf1f919fccf4e92e82a34bcefda1cf3665e8b299", func := "pointsman/pointsmanlaw1.GlyphWrong", spec := "glyphWrong", named := ["unicode/utf8.first", "unicode/utf8.acceptRanges"], apart := false, laid := [("unicode/utf8.acceptRanges", laid_unicode_utf8_acceptRanges), ("unicode/utf8.first", laid_unicode_utf8_first)], narrowed := true }
def GlyphWrongUptoSaid : Prop := glyphWrongUptoRow.holds Tryd.pinned (OpenSpec.upto glyphWrongSpec)

/-- 'pointsmanlaw1.GlyphNames', WHERE WHAT IT READS IS OF BULK AT MOST 1048576: true; the input reads as it did. -/
def glyphNamesUptoRow : OpenClaim := { program := "ytjjcibbokeadiaadoor", sum := "2ba83fa8974e07b3baa8bd53bf1f919fccf4e92e82a34bcefda1cf3665e8b299", func := "pointsman/pointsmanlaw1.GlyphNames", spec := "glyphNames", named := ["unicode/utf8.first", "unicode/utf8.acceptRanges"], apart := false, laid := [("unicode/utf8.acceptRanges", laid_unicode_utf8_acceptRanges), ("unicode/utf8.first", laid_unicode_utf8_first)], narrowed := true }
def GlyphNamesUptoSaid : Prop := glyphNamesUptoRow.holds Tryd.pinned (OpenSpec.upto glyphNamesSpec)

/-- 'pointsmanlaw1.GlyphJoins', WHERE WHAT IT READS IS OF BULK AT MOST 1048576: true; the input reads as it did. -/
def glyphJoinsUptoRow : OpenClaim := { program := "ytjjcibbokeadiaadoor", sum := "2ba83fa8974e07b3baa8bd53bf1f919fccf4e92e82a34bcefda1cf3665e8b299", func := "pointsman/pointsmanlaw1.GlyphJoins", spec := "glyphJoins", named := ["unicode/utf8.first", "unicode/utf8.acceptRanges"], apart := false, laid := [("unicode/utf8.acceptRanges", laid_unicode_utf8_acceptRanges), ("unicode/utf8.first", laid_unicode_utf8_first)], narrowed := true }
def GlyphJoinsUptoSaid : Prop := glyphJoinsUptoRow.holds Tryd.pinned (OpenSpec.upto glyphJoinsSpec)

/-- 'pointsmanlaw1.GlyphBlanks', WHERE WHAT IT READS IS OF BULK AT MOST 1048576: true; the input reads as it did. -/
def glyphBlanksUptoRow : OpenClaim := { program := "ytjjcibbokeadiaadoor", sum := "2ba83fa8974e07b3baa8bd53bf1f919fccf4e92e82a34bcefda1cf3665e8b299", func := "pointsman/pointsmanlaw1.GlyphBlanks", spec := "glyphBlanks", named := ["unicode/utf8.first", "unicode/utf8.acceptRanges"], apart := false, laid := [("unicode/utf8.acceptRanges", laid_unicode_utf8_acceptRanges), ("unicode/utf8.first", laid_unicode_utf8_first)], narrowed := true }
def GlyphBlanksUptoSaid : Prop := glyphBlanksUptoRow.holds Tryd.pinned (OpenSpec.upto glyphBlanksSpec)

/-- 'pointsmanlaw1.GlyphEach', WHERE WHAT IT READS IS OF BULK AT MOST 1048576: true; the input reads as it did. -/
def glyphEachUptoRow : OpenClaim := { program := "ytjjcibbokeadiaadoor", sum := "2ba83fa8974e07b3baa8bd53bf1f919fccf4e92e82a34bcefda1cf3665e8b299", func := "pointsman/pointsmanlaw1.GlyphEach", spec := "glyphEach", named := ["unicode/utf8.first", "unicode/utf8.acceptRanges"], apart := false, laid := [("unicode/utf8.acceptRanges", laid_unicode_utf8_acceptRanges), ("unicode/utf8.first", laid_unicode_utf8_first)], narrowed := true }
def GlyphEachUptoSaid : Prop := glyphEachUptoRow.holds Tryd.pinned (OpenSpec.upto glyphEachSpec)

/-- 'pointsmanlaw1.GlyphTells', WHERE WHAT IT READS IS OF BULK AT MOST 1048576: true; the input reads as it did. -/
def glyphTellsUptoRow : OpenClaim := { program := "ytjjcibbokeadiaadoor", sum := "2ba83fa8974e07b3baa8bd53bf1f919fccf4e92e82a34bcefda1cf3665e8b299", func := "pointsman/pointsmanlaw1.GlyphTells", spec := "glyphTells", named := ["unicode/utf8.first", "unicode/utf8.acceptRanges"], apart := false, laid := [("unicode/utf8.acceptRanges", laid_unicode_utf8_acceptRanges), ("unicode/utf8.first", laid_unicode_utf8_first)], narrowed := true }
def GlyphTellsUptoSaid : Prop := glyphTellsUptoRow.holds Tryd.pinned (OpenSpec.upto glyphTellsSpec)

/-- 'pointsmanlaw1.GlyphOrders', WHERE WHAT IT READS IS OF BULK AT MOST 1048576: true; the input reads as it did. -/
def glyphOrdersUptoRow : OpenClaim := { program := "ytjjcibbokeadiaadoor", sum := "2ba83fa8974e07b3baa8bd53bf1f919fccf4e92e82a34bcefda1cf3665e8b299", func := "pointsman/pointsmanlaw1.GlyphOrders", spec := "glyphOrders", named := ["unicode/utf8.first", "unicode/utf8.acceptRanges"], apart := false, laid := [("unicode/utf8.acceptRanges", laid_unicode_utf8_acceptRanges), ("unicode/utf8.first", laid_unicode_utf8_first)], narrowed := true }
def GlyphOrdersUptoSaid : Prop := glyphOrdersUptoRow.holds Tryd.pinned (OpenSpec.upto glyphOrdersSpec)

/-- 'pointsmanlaw1.GlyphBytes', WHERE WHAT IT READS IS OF BULK AT MOST 1048576: true; the input reads as it did. -/
def glyphBytesUptoRow : OpenClaim := { program := "ytjjcibbokeadiaadoor", sum := "2ba83fa8974e07b3baa8bd53bf1f919fccf4e92e82a34bcefda1cf3665e8b299", func := "pointsman/pointsmanlaw1.GlyphBytes", spec := "glyphBytes", named := ["unicode/utf8.first", "unicode/utf8.acceptRanges"], apart := false, laid := [("unicode/utf8.acceptRanges", laid_unicode_utf8_acceptRanges), ("unicode/utf8.first", laid_unicode_utf8_first)], narrowed := true }
def GlyphBytesUptoSaid : Prop := glyphBytesUptoRow.holds Tryd.pinned (OpenSpec.upto glyphBytesSpec)

end Rows
end Go.Proofs.YtjjcibbokeadiaaDoor
