/-
  DERIVED. GIVEN WITH THE SEED: THE CARDS: each row of YtmdggodkkkihhaaDoorRows.lean that lists a variable, with what it lists TIED to the program's text (the seventh form; the later family's looks); each row that meets fmt, with fmt's text TOLD by the authors' own Lean function (tested against real Go, not proved from fmt's source: count such statements apart). THE CARD IS WHAT COUNTS. Prove the row's statement (the work); the ties are given (YtmdggodkkkihhaaDoorTie.lean); close each card by the builder's one call (the guide's Derived/Test/ToyasCard.lean, 'card_holds'). Laid BY PROGRAM, IN A SANDBOX (cutbox-door.mjs). By AI agents, Wed Nov 11 2026. No macro, syntax, notation, axiom, sorry.
-/
import Derived.Test.YtmdggodkkkihhaaDoorRows
import GoSem.ClaimSeven
namespace Go.Proofs.YtmdggodkkkihhaaDoor
namespace Rows

/-- THE TIED CARD OF 'pointsmanlaw15.JudgeTells'. -/
def judgeTellsCard : Claim7 := { stood := { row := judgeTellsRow, standIns := [], harness := (true, "af7fd62d7251eb7ec176fc0ae44a3750960af32b1b641a4baad8b98e703e1df6"), looks := false }, kinds := [], alts := [], laidByText := true, laidKinds := [.data, .pinned], laidTests := true, laidLooks := .later }
def JudgeTellsCardSaid : Prop := Claim7.holds Tryd.pinned (.plain (OpenSpec.ofChange judgeTellsSpec)) judgeTellsCard

/-- THE TIED CARD OF 'pointsmanlaw15.JudgeLocks'. -/
def judgeLocksCard : Claim7 := { stood := { row := judgeLocksRow, standIns := [], harness := (true, "af7fd62d7251eb7ec176fc0ae44a3750960af32b1b641a4baad8b98e703e1df6"), looks := false }, kinds := [], alts := [], laidByText := true, laidKinds := [.data, .pinned], laidTests := true, laidLooks := .later }
def JudgeLocksCardSaid : Prop := Claim7.holds Tryd.pinned (.plain (OpenSpec.ofChange judgeLocksSpec)) judgeLocksCard

/-- THE TIED CARD OF 'pointsmanlaw15.JudgeLess'. -/
def judgeLessCard : Claim7 := { stood := { row := judgeLessRow, standIns := [], harness := (true, "af7fd62d7251eb7ec176fc0ae44a3750960af32b1b641a4baad8b98e703e1df6"), looks := false }, kinds := [], alts := [], laidByText := true, laidKinds := [.data, .pinned], laidTests := true, laidLooks := .later }
def JudgeLessCardSaid : Prop := Claim7.holds Tryd.pinned (.plain (OpenSpec.ofChange judgeLessSpec)) judgeLessCard

/-- THE SECOND FORM's CARD OF 'pointsmanlaw15.JudgeTells'. -/
def judgeTellsUptoCard : Claim7 := { stood := { row := judgeTellsUptoRow, standIns := [], harness := (true, "af7fd62d7251eb7ec176fc0ae44a3750960af32b1b641a4baad8b98e703e1df6"), looks := false }, kinds := [], alts := [], laidByText := true, laidKinds := [.data, .pinned], laidTests := true, laidLooks := .later }
def JudgeTellsUptoCardSaid : Prop := Claim7.holds Tryd.pinned (.plain (OpenSpec.upto judgeTellsSpec)) judgeTellsUptoCard

/-- THE SECOND FORM's CARD OF 'pointsmanlaw15.JudgeLocks'. -/
def judgeLocksUptoCard : Claim7 := { stood := { row := judgeLocksUptoRow, standIns := [], harness := (true, "af7fd62d7251eb7ec176fc0ae44a3750960af32b1b641a4baad8b98e703e1df6"), looks := false }, kinds := [], alts := [], laidByText := true, laidKinds := [.data, .pinned], laidTests := true, laidLooks := .later }
def JudgeLocksUptoCardSaid : Prop := Claim7.holds Tryd.pinned (.plain (OpenSpec.upto judgeLocksSpec)) judgeLocksUptoCard

/-- THE SECOND FORM's CARD OF 'pointsmanlaw15.JudgeLess'. -/
def judgeLessUptoCard : Claim7 := { stood := { row := judgeLessUptoRow, standIns := [], harness := (true, "af7fd62d7251eb7ec176fc0ae44a3750960af32b1b641a4baad8b98e703e1df6"), looks := false }, kinds := [], alts := [], laidByText := true, laidKinds := [.data, .pinned], laidTests := true, laidLooks := .later }
def JudgeLessUptoCardSaid : Prop := Claim7.holds Tryd.pinned (.plain (OpenSpec.upto judgeLessSpec)) judgeLessUptoCard
end Rows
end Go.Proofs.YtmdggodkkkihhaaDoor
