/-
  DERIVED. GIVEN WITH THE SEED: THE CARDS: each row of YtjjcibbokeadiaaDoorRows.lean that lists a variable, with what it lists TIED to the program's text (the seventh form; the later family's looks); each row that meets fmt, with fmt's text TOLD by the authors' own Lean function (tested against real Go, not proved from fmt's source: count such statements apart). THE CARD IS WHAT COUNTS. Prove the row's statement (the work); the ties are given (YtjjcibbokeadiaaDoorTie.lean); close each card by the builder's one call (the guide's Derived/Test/ToyasCard.lean, 'card_holds'). Laid BY PROGRAM, IN A SANDBOX (cutbox-door.mjs). By AI agents, Wed Nov 11 2026. No macro, syntax, notation, axiom, sorry.
-/
import Derived.Test.YtjjcibbokeadiaaDoorRows
import GoSem.ClaimSeven
namespace Go.Proofs.YtjjcibbokeadiaaDoor
namespace Rows

/-- THE TIED CARD OF 'pointsmanlaw1.GlyphLetters'. -/
def glyphLettersCard : Claim7 := { stood := { row := glyphLettersRow, standIns := [], harness := (true, "148bcc08c32cbf9b96ba7d76163aa77965fb6b753bc43f3820046a963902eb6d"), looks := false }, kinds := [], alts := [], laidByText := true, laidKinds := [.data, .pinned], laidTests := true, laidLooks := .later }
def GlyphLettersCardSaid : Prop := Claim7.holds Tryd.pinned (.plain (OpenSpec.ofChange glyphLettersSpec)) glyphLettersCard

/-- THE TIED CARD OF 'pointsmanlaw1.GlyphWords'. -/
def glyphWordsCard : Claim7 := { stood := { row := glyphWordsRow, standIns := [], harness := (true, "148bcc08c32cbf9b96ba7d76163aa77965fb6b753bc43f3820046a963902eb6d"), looks := false }, kinds := [], alts := [], laidByText := true, laidKinds := [.data, .pinned], laidTests := true, laidLooks := .later }
def GlyphWordsCardSaid : Prop := Claim7.holds Tryd.pinned (.plain (OpenSpec.ofChange glyphWordsSpec)) glyphWordsCard

/-- THE TIED CARD OF 'pointsmanlaw1.GlyphWrong'. -/
def glyphWrongCard : Claim7 := { stood := { row := glyphWrongRow, standIns := [], harness := (true, "148bcc08c32cbf9b96ba7d76163aa77965fb6b753bc43f3820046a963902eb6d"), looks := false }, kinds := [], alts := [], laidByText := true, laidKinds := [.data, .pinned], laidTests := true, laidLooks := .later }
def GlyphWrongCardSaid : Prop := Claim7.holds Tryd.pinned (.plain (OpenSpec.ofChange glyphWrongSpec)) glyphWrongCard

/-- THE TIED CARD OF 'pointsmanlaw1.GlyphNames'. -/
def glyphNamesCard : Claim7 := { stood := { row := glyphNamesRow, standIns := [], harness := (true, "148bcc08c32cbf9b96ba7d76163aa77965fb6b753bc43f3820046a963902eb6d"), looks := false }, kinds := [], alts := [], laidByText := true, laidKinds := [.data, .pinned], laidTests := true, laidLooks := .later }
def GlyphNamesCardSaid : Prop := Claim7.holds Tryd.pinned (.plain (OpenSpec.ofChange glyphNamesSpec)) glyphNamesCard

/-- THE TIED CARD OF 'pointsmanlaw1.GlyphJoins'. -/
def glyphJoinsCard : Claim7 := { stood := { row := glyphJoinsRow, standIns := [], harness := (true, "148bcc08c32cbf9b96ba7d76163aa77965fb6b753bc43f3820046a963902eb6d"), looks := false }, kinds := [], alts := [], laidByText := true, laidKinds := [.data, .pinned], laidTests := true, laidLooks := .later }
def GlyphJoinsCardSaid : Prop := Claim7.holds Tryd.pinned (.plain (OpenSpec.ofChange glyphJoinsSpec)) glyphJoinsCard

/-- THE TIED CARD OF 'pointsmanlaw1.GlyphBlanks'. -/
def glyphBlanksCard : Claim7 := { stood := { row := glyphBlanksRow, standIns := [], harness := (true, "148bcc08c32cbf9b96ba7d76163aa77965fb6b753bc43f3820046a963902eb6d"), looks := false }, kinds := [], alts := [], laidByText := true, laidKinds := [.data, .pinned], laidTests := true, laidLooks := .later }
def GlyphBlanksCardSaid : Prop := Claim7.holds Tryd.pinned (.plain (OpenSpec.ofChange glyphBlanksSpec)) glyphBlanksCard

/-- THE TIED CARD OF 'pointsmanlaw1.GlyphEach'. -/
def glyphEachCard : Claim7 := { stood := { row := glyphEachRow, standIns := [], harness := (true, "148bcc08c32cbf9b96ba7d76163aa77965fb6b753bc43f3820046a963902eb6d"), looks := false }, kinds := [], alts := [], laidByText := true, laidKinds := [.data, .pinned], laidTests := true, laidLooks := .later }
def GlyphEachCardSaid : Prop := Claim7.holds Tryd.pinned (.plain (OpenSpec.ofChange glyphEachSpec)) glyphEachCard

/-- THE TIED CARD OF 'pointsmanlaw1.GlyphTells'. -/
def glyphTellsCard : Claim7 := { stood := { row := glyphTellsRow, standIns := [], harness := (true, "148bcc08c32cbf9b96ba7d76163aa77965fb6b753bc43f3820046a963902eb6d"), looks := false }, kinds := [], alts := [], laidByText := true, laidKinds := [.data, .pinned], laidTests := true, laidLooks := .later }
def GlyphTellsCardSaid : Prop := Claim7.holds Tryd.pinned (.plain (OpenSpec.ofChange glyphTellsSpec)) glyphTellsCard

/-- THE TIED CARD OF 'pointsmanlaw1.GlyphOrders'. -/
def glyphOrdersCard : Claim7 := { stood := { row := glyphOrdersRow, standIns := [], harness := (true, "148bcc08c32cbf9b96ba7d76163aa77965fb6b753bc43f3820046a963902eb6d"), looks := false }, kinds := [], alts := [], laidByText := true, laidKinds := [.data, .pinned], laidTests := true, laidLooks := .later }
def GlyphOrdersCardSaid : Prop := Claim7.holds Tryd.pinned (.plain (OpenSpec.ofChange glyphOrdersSpec)) glyphOrdersCard

/-- THE TIED CARD OF 'pointsmanlaw1.GlyphBytes'. -/
def glyphBytesCard : Claim7 := { stood := { row := glyphBytesRow, standIns := [], harness := (true, "148bcc08c32cbf9b96ba7d76163aa77965fb6b753bc43f3820046a963902eb6d"), looks := false }, kinds := [], alts := [], laidByText := true, laidKinds := [.data, .pinned], laidTests := true, laidLooks := .later }
def GlyphBytesCardSaid : Prop := Claim7.holds Tryd.pinned (.plain (OpenSpec.ofChange glyphBytesSpec)) glyphBytesCard

/-- THE SECOND FORM's CARD OF 'pointsmanlaw1.GlyphLetters'. -/
def glyphLettersUptoCard : Claim7 := { stood := { row := glyphLettersUptoRow, standIns := [], harness := (true, "148bcc08c32cbf9b96ba7d76163aa77965fb6b753bc43f3820046a963902eb6d"), looks := false }, kinds := [], alts := [], laidByText := true, laidKinds := [.data, .pinned], laidTests := true, laidLooks := .later }
def GlyphLettersUptoCardSaid : Prop := Claim7.holds Tryd.pinned (.plain (OpenSpec.upto glyphLettersSpec)) glyphLettersUptoCard

/-- THE SECOND FORM's CARD OF 'pointsmanlaw1.GlyphWords'. -/
def glyphWordsUptoCard : Claim7 := { stood := { row := glyphWordsUptoRow, standIns := [], harness := (true, "148bcc08c32cbf9b96ba7d76163aa77965fb6b753bc43f3820046a963902eb6d"), looks := false }, kinds := [], alts := [], laidByText := true, laidKinds := [.data, .pinned], laidTests := true, laidLooks := .later }
def GlyphWordsUptoCardSaid : Prop := Claim7.holds Tryd.pinned (.plain (OpenSpec.upto glyphWordsSpec)) glyphWordsUptoCard

/-- THE SECOND FORM's CARD OF 'pointsmanlaw1.GlyphWrong'. -/
def glyphWrongUptoCard : Claim7 := { stood := { row := glyphWrongUptoRow, standIns := [], harness := (true, "148bcc08c32cbf9b96ba7d76163aa77965fb6b753bc43f3820046a963902eb6d"), looks := false }, kinds := [], alts := [], laidByText := true, laidKinds := [.data, .pinned], laidTests := true, laidLooks := .later }
def GlyphWrongUptoCardSaid : Prop := Claim7.holds Tryd.pinned (.plain (OpenSpec.upto glyphWrongSpec)) glyphWrongUptoCard

/-- THE SECOND FORM's CARD OF 'pointsmanlaw1.GlyphNames'. -/
def glyphNamesUptoCard : Claim7 := { stood := { row := glyphNamesUptoRow, standIns := [], harness := (true, "148bcc08c32cbf9b96ba7d76163aa77965fb6b753bc43f3820046a963902eb6d"), looks := false }, kinds := [], alts := [], laidByText := true, laidKinds := [.data, .pinned], laidTests := true, laidLooks := .later }
def GlyphNamesUptoCardSaid : Prop := Claim7.holds Tryd.pinned (.plain (OpenSpec.upto glyphNamesSpec)) glyphNamesUptoCard

/-- THE SECOND FORM's CARD OF 'pointsmanlaw1.GlyphJoins'. -/
def glyphJoinsUptoCard : Claim7 := { stood := { row := glyphJoinsUptoRow, standIns := [], harness := (true, "148bcc08c32cbf9b96ba7d76163aa77965fb6b753bc43f3820046a963902eb6d"), looks := false }, kinds := [], alts := [], laidByText := true, laidKinds := [.data, .pinned], laidTests := true, laidLooks := .later }
def GlyphJoinsUptoCardSaid : Prop := Claim7.holds Tryd.pinned (.plain (OpenSpec.upto glyphJoinsSpec)) glyphJoinsUptoCard

/-- THE SECOND FORM's CARD OF 'pointsmanlaw1.GlyphBlanks'. -/
def glyphBlanksUptoCard : Claim7 := { stood := { row := glyphBlanksUptoRow, standIns := [], harness := (true, "148bcc08c32cbf9b96ba7d76163aa77965fb6b753bc43f3820046a963902eb6d"), looks := false }, kinds := [], alts := [], laidByText := true, laidKinds := [.data, .pinned], laidTests := true, laidLooks := .later }
def GlyphBlanksUptoCardSaid : Prop := Claim7.holds Tryd.pinned (.plain (OpenSpec.upto glyphBlanksSpec)) glyphBlanksUptoCard

/-- THE SECOND FORM's CARD OF 'pointsmanlaw1.GlyphEach'. -/
def glyphEachUptoCard : Claim7 := { stood := { row := glyphEachUptoRow, standIns := [], harness := (true, "148bcc08c32cbf9b96ba7d76163aa77965fb6b753bc43f3820046a963902eb6d"), looks := false }, kinds := [], alts := [], laidByText := true, laidKinds := [.data, .pinned], laidTests := true, laidLooks := .later }
def GlyphEachUptoCardSaid : Prop := Claim7.holds Tryd.pinned (.plain (OpenSpec.upto glyphEachSpec)) glyphEachUptoCard

/-- THE SECOND FORM's CARD OF 'pointsmanlaw1.GlyphTells'. -/
def glyphTellsUptoCard : Claim7 := { stood := { row := glyphTellsUptoRow, standIns := [], harness := (true, "148bcc08c32cbf9b96ba7d76163aa77965fb6b753bc43f3820046a963902eb6d"), looks := false }, kinds := [], alts := [], laidByText := true, laidKinds := [.data, .pinned], laidTests := true, laidLooks := .later }
def GlyphTellsUptoCardSaid : Prop := Claim7.holds Tryd.pinned (.plain (OpenSpec.upto glyphTellsSpec)) glyphTellsUptoCard

/-- THE SECOND FORM's CARD OF 'pointsmanlaw1.GlyphOrders'. -/
def glyphOrdersUptoCard : Claim7 := { stood := { row := glyphOrdersUptoRow, standIns := [], harness := (true, "148bcc08c32cbf9b96ba7d76163aa77965fb6b753bc43f3820046a963902eb6d"), looks := false }, kinds := [], alts := [], laidByText := true, laidKinds := [.data, .pinned], laidTests := true, laidLooks := .later }
def GlyphOrdersUptoCardSaid : Prop := Claim7.holds Tryd.pinned (.plain (OpenSpec.upto glyphOrdersSpec)) glyphOrdersUptoCard

/-- THE SECOND FORM's CARD OF 'pointsmanlaw1.GlyphBytes'. -/
def glyphBytesUptoCard : Claim7 := { stood := { row := glyphBytesUptoRow, standIns := [], harness := (true, "148bcc08c32cbf9b96ba7d76163aa77965fb6b753bc43f3820046a963902eb6d"), looks := false }, kinds := [], alts := [], laidByText := true, laidKinds := [.data, .pinned], laidTests := true, laidLooks := .later }
def GlyphBytesUptoCardSaid : Prop := Claim7.holds Tryd.pinned (.plain (OpenSpec.upto glyphBytesSpec)) glyphBytesUptoCard
end Rows
end Go.Proofs.YtjjcibbokeadiaaDoor
