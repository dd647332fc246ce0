/-
  DERIVED. GIVEN WITH THE SEED: THE CARDS: each row of YtmdnmiiggkfnfaaDoorRows.lean that lists a variable, with what it lists TIED to the program's text (the seventh form; the later family's looks); each row that meets fmt, with fmt's text TOLD by the authors' own Lean function (tested against real Go, not proved from fmt's source: count such statements apart). THE CARD IS WHAT COUNTS. Prove the row's statement (the work); the ties are given (YtmdnmiiggkfnfaaDoorTie.lean); close each card by the builder's one call (the guide's Derived/Test/ToyasCard.lean, 'card_holds'). Laid BY PROGRAM, IN A SANDBOX (cutbox-door.mjs). By AI agents, Wed Nov 11 2026. No macro, syntax, notation, axiom, sorry.
-/
import Derived.Test.YtmdnmiiggkfnfaaDoorRows
import GoSem.ClaimSeven
namespace Go.Proofs.YtmdnmiiggkfnfaaDoor
namespace Rows

/-- THE TIED CARD OF 'pointsmanlaw3.PlanRemarks'. -/
def planRemarksCard : Claim7 := { stood := { row := planRemarksRow, standIns := [], harness := (true, "c2423804ff05231737476b81e16d66d5de6b60caebf9ad6884f044f7b60806b3"), looks := false }, kinds := [], alts := [], laidByText := true, laidKinds := [.data, .pinned], laidTests := true, laidLooks := .later }
def PlanRemarksCardSaid : Prop := Claim7.holds Tryd.pinned (.plain (OpenSpec.ofChange planRemarksSpec)) planRemarksCard

/-- THE TIED CARD OF 'pointsmanlaw3.PlanWrong'. -/
def planWrongCard : Claim7 := { stood := { row := planWrongRow, standIns := [], harness := (true, "c2423804ff05231737476b81e16d66d5de6b60caebf9ad6884f044f7b60806b3"), looks := false }, kinds := [], alts := [], laidByText := true, laidKinds := [.data, .pinned], laidTests := true, laidLooks := .later }
def PlanWrongCardSaid : Prop := Claim7.holds Tryd.pinned (.plain (OpenSpec.ofChange planWrongSpec)) planWrongCard

/-- THE TIED CARD OF 'pointsmanlaw3.PlanFull'. -/
def planFullCard : Claim7 := { stood := { row := planFullRow, standIns := [], harness := (true, "c2423804ff05231737476b81e16d66d5de6b60caebf9ad6884f044f7b60806b3"), looks := false }, kinds := [], alts := [], laidByText := true, laidKinds := [.data, .pinned], laidTests := true, laidLooks := .later }
def PlanFullCardSaid : Prop := Claim7.holds Tryd.pinned (.plain (OpenSpec.ofChange planFullSpec)) planFullCard

/-- THE TIED CARD OF 'pointsmanlaw3.PlanAhead'. -/
def planAheadCard : Claim7 := { stood := { row := planAheadRow, standIns := [], harness := (true, "c2423804ff05231737476b81e16d66d5de6b60caebf9ad6884f044f7b60806b3"), looks := false }, kinds := [], alts := [], laidByText := true, laidKinds := [.data, .pinned], laidTests := true, laidLooks := .later }
def PlanAheadCardSaid : Prop := Claim7.holds Tryd.pinned (.plain (OpenSpec.ofChange planAheadSpec)) planAheadCard

/-- THE TIED CARD OF 'pointsmanlaw3.PlanHeads'. -/
def planHeadsCard : Claim7 := { stood := { row := planHeadsRow, standIns := [], harness := (true, "c2423804ff05231737476b81e16d66d5de6b60caebf9ad6884f044f7b60806b3"), looks := false }, kinds := [], alts := [], laidByText := true, laidKinds := [.data, .pinned], laidTests := true, laidLooks := .later }
def PlanHeadsCardSaid : Prop := Claim7.holds Tryd.pinned (.plain (OpenSpec.ofChange planHeadsSpec)) planHeadsCard

/-- THE TIED CARD OF 'pointsmanlaw3.PlanWants'. -/
def planWantsCard : Claim7 := { stood := { row := planWantsRow, standIns := [], harness := (true, "c2423804ff05231737476b81e16d66d5de6b60caebf9ad6884f044f7b60806b3"), looks := false }, kinds := [], alts := [], laidByText := true, laidKinds := [.data, .pinned], laidTests := true, laidLooks := .later }
def PlanWantsCardSaid : Prop := Claim7.holds Tryd.pinned (.plain (OpenSpec.ofChange planWantsSpec)) planWantsCard

/-- THE TIED CARD OF 'pointsmanlaw3.PlanBack'. -/
def planBackCard : Claim7 := { stood := { row := planBackRow, standIns := [], harness := (true, "c2423804ff05231737476b81e16d66d5de6b60caebf9ad6884f044f7b60806b3"), looks := false }, kinds := [], alts := [], laidByText := true, laidKinds := [.data, .pinned], laidTests := true, laidLooks := .later }
def PlanBackCardSaid : Prop := Claim7.holds Tryd.pinned (.plain (OpenSpec.ofChange planBackSpec)) planBackCard

/-- THE TIED CARD OF 'pointsmanlaw3.PlanNames'. -/
def planNamesCard : Claim7 := { stood := { row := planNamesRow, standIns := [], harness := (true, "c2423804ff05231737476b81e16d66d5de6b60caebf9ad6884f044f7b60806b3"), looks := false }, kinds := [], alts := [], laidByText := true, laidKinds := [.data, .pinned], laidTests := true, laidLooks := .later }
def PlanNamesCardSaid : Prop := Claim7.holds Tryd.pinned (.plain (OpenSpec.ofChange planNamesSpec)) planNamesCard

/-- THE TIED CARD OF 'pointsmanlaw3.PlanPrints'. -/
def planPrintsCard : Claim7 := { stood := { row := planPrintsRow, standIns := [], harness := (true, "c2423804ff05231737476b81e16d66d5de6b60caebf9ad6884f044f7b60806b3"), looks := false }, kinds := [], alts := [], laidByText := true, laidKinds := [.data, .pinned], laidTests := true, laidLooks := .later }
def PlanPrintsCardSaid : Prop := Claim7.holds Tryd.pinned (.plain (OpenSpec.ofChange planPrintsSpec)) planPrintsCard

/-- THE SECOND FORM's CARD OF 'pointsmanlaw3.PlanRemarks'. -/
def planRemarksUptoCard : Claim7 := { stood := { row := planRemarksUptoRow, standIns := [], harness := (true, "c2423804ff05231737476b81e16d66d5de6b60caebf9ad6884f044f7b60806b3"), looks := false }, kinds := [], alts := [], laidByText := true, laidKinds := [.data, .pinned], laidTests := true, laidLooks := .later }
def PlanRemarksUptoCardSaid : Prop := Claim7.holds Tryd.pinned (.plain (OpenSpec.upto planRemarksSpec)) planRemarksUptoCard

/-- THE SECOND FORM's CARD OF 'pointsmanlaw3.PlanWrong'. -/
def planWrongUptoCard : Claim7 := { stood := { row := planWrongUptoRow, standIns := [], harness := (true, "c2423804ff05231737476b81e16d66d5de6b60caebf9ad6884f044f7b60806b3"), looks := false }, kinds := [], alts := [], laidByText := true, laidKinds := [.data, .pinned], laidTests := true, laidLooks := .later }
def PlanWrongUptoCardSaid : Prop := Claim7.holds Tryd.pinned (.plain (OpenSpec.upto planWrongSpec)) planWrongUptoCard

/-- THE SECOND FORM's CARD OF 'pointsmanlaw3.PlanFull'. -/
def planFullUptoCard : Claim7 := { stood := { row := planFullUptoRow, standIns := [], harness := (true, "c2423804ff05231737476b81e16d66d5de6b60caebf9ad6884f044f7b60806b3"), looks := false }, kinds := [], alts := [], laidByText := true, laidKinds := [.data, .pinned], laidTests := true, laidLooks := .later }
def PlanFullUptoCardSaid : Prop := Claim7.holds Tryd.pinned (.plain (OpenSpec.upto planFullSpec)) planFullUptoCard

/-- THE SECOND FORM's CARD OF 'pointsmanlaw3.PlanAhead'. -/
def planAheadUptoCard : Claim7 := { stood := { row := planAheadUptoRow, standIns := [], harness := (true, "c2423804ff05231737476b81e16d66d5de6b60caebf9ad6884f044f7b60806b3"), looks := false }, kinds := [], alts := [], laidByText := true, laidKinds := [.data, .pinned], laidTests := true, laidLooks := .later }
def PlanAheadUptoCardSaid : Prop := Claim7.holds Tryd.pinned (.plain (OpenSpec.upto planAheadSpec)) planAheadUptoCard

/-- THE SECOND FORM's CARD OF 'pointsmanlaw3.PlanHeads'. -/
def planHeadsUptoCard : Claim7 := { stood := { row := planHeadsUptoRow, standIns := [], harness := (true, "c2423804ff05231737476b81e16d66d5de6b60caebf9ad6884f044f7b60806b3"), looks := false }, kinds := [], alts := [], laidByText := true, laidKinds := [.data, .pinned], laidTests := true, laidLooks := .later }
def PlanHeadsUptoCardSaid : Prop := Claim7.holds Tryd.pinned (.plain (OpenSpec.upto planHeadsSpec)) planHeadsUptoCard

/-- THE SECOND FORM's CARD OF 'pointsmanlaw3.PlanWants'. -/
def planWantsUptoCard : Claim7 := { stood := { row := planWantsUptoRow, standIns := [], harness := (true, "c2423804ff05231737476b81e16d66d5de6b60caebf9ad6884f044f7b60806b3"), looks := false }, kinds := [], alts := [], laidByText := true, laidKinds := [.data, .pinned], laidTests := true, laidLooks := .later }
def PlanWantsUptoCardSaid : Prop := Claim7.holds Tryd.pinned (.plain (OpenSpec.upto planWantsSpec)) planWantsUptoCard

/-- THE SECOND FORM's CARD OF 'pointsmanlaw3.PlanBack'. -/
def planBackUptoCard : Claim7 := { stood := { row := planBackUptoRow, standIns := [], harness := (true, "c2423804ff05231737476b81e16d66d5de6b60caebf9ad6884f044f7b60806b3"), looks := false }, kinds := [], alts := [], laidByText := true, laidKinds := [.data, .pinned], laidTests := true, laidLooks := .later }
def PlanBackUptoCardSaid : Prop := Claim7.holds Tryd.pinned (.plain (OpenSpec.upto planBackSpec)) planBackUptoCard

/-- THE SECOND FORM's CARD OF 'pointsmanlaw3.PlanNames'. -/
def planNamesUptoCard : Claim7 := { stood := { row := planNamesUptoRow, standIns := [], harness := (true, "c2423804ff05231737476b81e16d66d5de6b60caebf9ad6884f044f7b60806b3"), looks := false }, kinds := [], alts := [], laidByText := true, laidKinds := [.data, .pinned], laidTests := true, laidLooks := .later }
def PlanNamesUptoCardSaid : Prop := Claim7.holds Tryd.pinned (.plain (OpenSpec.upto planNamesSpec)) planNamesUptoCard

/-- THE SECOND FORM's CARD OF 'pointsmanlaw3.PlanPrints'. -/
def planPrintsUptoCard : Claim7 := { stood := { row := planPrintsUptoRow, standIns := [], harness := (true, "c2423804ff05231737476b81e16d66d5de6b60caebf9ad6884f044f7b60806b3"), looks := false }, kinds := [], alts := [], laidByText := true, laidKinds := [.data, .pinned], laidTests := true, laidLooks := .later }
def PlanPrintsUptoCardSaid : Prop := Claim7.holds Tryd.pinned (.plain (OpenSpec.upto planPrintsSpec)) planPrintsUptoCard
end Rows
end Go.Proofs.YtmdnmiiggkfnfaaDoor
