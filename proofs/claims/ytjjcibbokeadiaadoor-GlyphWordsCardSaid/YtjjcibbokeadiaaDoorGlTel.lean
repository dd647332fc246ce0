/- Walk of GlyphTells. -/
import Derived.Test.YtjjcibbokeadiaaDoorGlKn
set_option linter.unusedVariables false
namespace Go.Proofs.YtjjcibbokeadiaaDoor
open Go.RowKit

/-- What Words tells: a row of words, a number. -/
theorem words_post {w : World} {l : List Nat} {e : Ending} {w' : World} (h : WordsPost w l e w') :
    ∃ A c, e = .returned (.tuple #[.slice A (wordsL l).1.length c, .int .i64 (wordsL l).2]) ∧ Rf flW w' A (wordsL l).1.length (wordsL l).1 ∧ Below w.heap.size w w' := by
  obtain ⟨v, rfl, ho, hb⟩ := h
  obtain ⟨A, c, rfl, hA⟩ := ho.read (by decide)
  exact ⟨A, c, rfl, hA, hb⟩
theorem runes_post {w : World} {l : List Nat} {e : Ending} {w' : World} (h : RunesPost w l e w') :
    ∃ A c, e = .returned (.slice A (rn l).length c) ∧ Rf flR w' A (rn l).length (rn l) ∧ Below w.heap.size w w' := by
  obtain ⟨v, rfl, ho, hb⟩ := h
  obtain ⟨A, c, rfl, hA⟩ := ho.read (by decide)
  exact ⟨A, c, rfl, hA, hb⟩
set_option maxRecDepth 100000 in
set_option maxHeartbeats 8000000 in
theorem tells_calls (s t : ByteArray) (w : World) (hT : Tabs w) :
    Calls Tryd.prog 10 #[.string s, .string t] w fun e w' => e = .returned (.bool true) ∧ Below w.heap.size w w' := by
  have HT := Lib.hid hT
  clear hT
  by_cases h1 : (500 : Int) < (s.size : Int)
  · go_enter Tryd.func10, Tryd.ntmps10
    go_wp2_with fail
    go_ret
    exact ⟨rfl, Below.refl _ _⟩
  by_cases h2 : (500 : Int) < (t.size : Int)
  · go_enter Tryd.func10, Tryd.ntmps10
    go_wp2_with fail
    go_ret
    exact ⟨rfl, Below.refl _ _⟩
  have KW := Lib.hid (fun W h => Words_calls W h s (by omega))
  have KR := Lib.hid (fun W h => RefWords_calls W h s (by omega))
  have KN := Lib.hid (fun W => Width_calls W s (by omega))
  have KU := Lib.hid (fun W h => Runes_calls W h s (by omega))
  have KI := Lib.hid (fun W h => IsName_calls W h s (by omega))
  have KJ := Lib.hid (fun W h => RefIsName_calls W h s (by omega))
  have KC := Lib.hid (fun W => Cmp_calls W s t (by omega) (by omega))
  have KD := Lib.hid (fun W h => RefCmp_calls W h s t (by omega) (by omega))
  go_enter Tryd.func10, Tryd.ntmps10
  go_wp2_with fail
  refine (KW.out w HT.out).mono ?_
  intro e w1 hp
  obtain ⟨A, c, rfl, hA, hb1⟩ := words_post hp
  have HA := Lib.hid hA
  have HB1 := Lib.hid hb1
  clear hp hA hb1
  generalize hx1 : (wordsL (byt s)).1 = xs at *
  generalize hx2 : (wordsL (byt s)).2 = m at *
  have HX := Lib.hid (And.intro hx1 hx2)
  clear hx1 hx2
  go_wp2_with fail
  refine (KR.out w1 (HT.out.stay HB1.out)).mono ?_
  intro e w2 hp
  obtain ⟨B, d, rfl, hB, hb2⟩ := words_post hp
  rw [HX.out.1, HX.out.2] at *
  have HB := Lib.hid hB
  have HA2 := Lib.hid (HA.out.stay hb2)
  have HB2 := Lib.hid (below_more HB1.out hb2)
  clear hp hB hb2
  have KS := same_calls A B xs.length xs.length c d xs xs w2 HA2.out HB.out
  rw [decide_eq_true rfl] at KS
  go_wp2_with fail
  refine KS.mono ?_
  rintro e w3 ⟨rfl, hb3⟩
  have HB3 := Lib.hid (below_more HB2.out hb3)
  clear KS hb3
  go_wp2_with fail
  refine (KN.out w3).mono ?_
  rintro e w4 ⟨rfl, hb4⟩
  have HB4 := Lib.hid (below_more HB3.out hb4)
  clear hb4
  go_wp2_with fail
  refine (KU.out w4 (HT.out.stay HB4.out)).mono ?_
  intro e w5 hp
  obtain ⟨U, u, rfl, _, hb5⟩ := runes_post hp
  have HB5 := Lib.hid (below_more HB4.out hb5)
  clear hp hb5
  generalize (rn (byt s)).length = k at *
  go_wp2_with fail
  refine (KI.out w5 (HT.out.stay HB5.out)).mono ?_
  rintro e w6 ⟨rfl, hb6⟩
  have HB6 := Lib.hid (below_more HB5.out hb6)
  clear hb6
  go_wp2_with fail
  refine (KJ.out w6 (HT.out.stay HB6.out)).mono ?_
  rintro e w7 ⟨rfl, hb7⟩
  have HB7 := Lib.hid (below_more HB6.out hb7)
  clear hb7
  generalize nameL (byt s) = nm at *
  go_wp2_with fail
  refine (KC.out w7).mono ?_
  rintro e w8 ⟨rfl, hb8⟩
  have HB8 := Lib.hid (below_more HB7.out hb8)
  clear hb8
  go_wp2_with fail
  refine (KD.out w8 (HT.out.stay HB8.out)).mono ?_
  rintro e w9 ⟨rfl, hb9⟩
  have HB9 := Lib.hid (below_more HB8.out hb9)
  clear hb9
  generalize cmpL (byt s) (byt t) = z at *
  go_wp2_with fail
  refine (known_calls _ (HT.out.stay HB9.out)).mono ?_
  rintro e w10 ⟨rfl, hb10⟩
  go_wp2_with fail
  go_ret
  exact ⟨rfl, below_more HB9.out hb10⟩
end Go.Proofs.YtjjcibbokeadiaaDoor
