/- Texts put together for a claim. -/
import Derived.Test.YtmdnmiiggkfnfaaDoorGlRun
import Derived.Test.YtmdnmiiggkfnfaaDoorGlShelf
import Derived.Test.YtmdnmiiggkfnfaaDoorBase
import Derived.Lib.OthersKept
import Derived.BigQuiet
/- Contracts: a rune's decoding, Letter, isWrong, Width. -/
set_option linter.unusedVariables false
set_option linter.unusedSimpArgs false
namespace Go.Proofs.YtmdnmiiggkfnfaaDoor
open Go.RowKit

/-- The decoder's two tables lie as they must. -/
def Tabs (w : World) : Prop := Lib.Utf8Tabs 1 2 w
theorem Tabs.stay {w w1 : World} (h : Tabs w) (hb : Below w.heap.size w w1) : Tabs w1 := Utf8Tabs_below h hb
theorem byt_extract (s : ByteArray) (i : Nat) : byt (s.extract i s.size) = (byt s).drop i := by
  unfold byt
  rw [ByteArray.data_extract, Array.toList_extract]
  simp only [List.extract_eq_take_drop, List.map_take, List.map_drop]
  exact List.take_of_length_le (by rw [List.length_drop, List.length_map, Array.length_toList]; exact Nat.le_refl _)
theorem dec_calls (w : World) (hT : Tabs w) (s : ByteArray) (i : Nat) (hi : i < s.size) :
    Calls Tryd.prog 51 #[.string (s.extract i s.size)] w fun e w' => e = .returned (.tuple #[.int .i32 (decL ((byt s).drop i)).1, .int .i64 (decL ((byt s).drop i)).2]) ∧ Below w.heap.size w w' := by
  have h := Tryd.utf8_DecodeRuneInString (s.extract i s.size) w hT
  have hz : (s.extract i s.size).size ≠ 0 := by simp; omega
  have e : Lib.decodeGo (s.extract i s.size) = decL ((byt s).drop i) := by
    unfold Lib.decodeGo
    rw [if_neg hz, decL_at, byt_extract]
    rfl
  rw [e] at h
  exact h

def letB (r : Int) : Bool := decide ((97 ≤ r ∧ r ≤ 122) ∨ (65 ≤ r ∧ r ≤ 90) ∨ (192 ≤ r ∧ r ≤ 591 ∧ r ≠ 215 ∧ r ≠ 247))
theorem Letter_calls (r : Int) (w : World) : Calls Tryd.prog 91 #[.int .i32 r] w fun e w' => e = .returned (.bool (letB r)) ∧ w = w' := by
  go_enter Tryd.func91, Tryd.ntmps91
  go_wp2
  all_goals go_ret
  all_goals exact ⟨ret_bool (by unfold letB; rw [Bool.eq_iff_iff]; simp; omega), rfl⟩
theorem RefLetter_calls (r : Int) (w : World) : Calls Tryd.prog 36 #[.int .i32 r] w fun e w' => e = .returned (.bool (letB r)) ∧ w = w' := by
  go_enter Tryd.func36, Tryd.ntmps36
  go_wp2
  all_goals go_ret
  all_goals exact ⟨ret_bool (by unfold letB; rw [Bool.eq_iff_iff]; simp; omega), rfl⟩
/-- A byte of a text that is none of a rune. -/
theorem isWrong_calls (w : World) (hT : Tabs w) (s : ByteArray) (hs : s.size ≤ 140737488351232) (i : Nat) (hi : i < s.size) :
    Calls Tryd.prog 55 #[.string s, .int .i64 i] w fun e w' => e = .returned (.bool (badR (decL ((byt s).drop i)))) ∧ Below w.heap.size w w' := by
  have hd := dec_calls w hT s i hi
  generalize decL ((byt s).drop i) = x at *
  obtain ⟨r, n⟩ := x
  dsimp only at hd
  have hi' : (i : Int) ≤ (s.size : Int) := by omega
  have HD := Lib.hid hd
  clear hd
  by_cases h1 : r = 65533
  · by_cases h2 : n = 1
    · have e1 : ((r : Int) == 65533) = true := by simp; omega
      have e2 : ((n : Int) == 1) = true := by simp; omega
      have HB := Lib.hid (show badR (r, n) = true by unfold badR; simp; omega)
      clear h1 h2
      go_enter Tryd.func55, Tryd.ntmps55
      go_wp2_with fail
      refine HD.out.mono ?_
      rintro e w1 ⟨rfl, hb⟩
      go_wp2_with fail
      go_ret
      exact ⟨ret_bool (by rw [HB.out]), hb⟩
    · have e1 : ((r : Int) == 65533) = true := by simp; omega
      have e2 : ((n : Int) == 1) = false := by simp; omega
      have HB := Lib.hid (show badR (r, n) = false by unfold badR; simp; omega)
      clear h1 h2
      go_enter Tryd.func55, Tryd.ntmps55
      go_wp2_with fail
      refine HD.out.mono ?_
      rintro e w1 ⟨rfl, hb⟩
      go_wp2_with fail
      go_ret
      exact ⟨ret_bool (by rw [HB.out]), hb⟩
  · have e1 : ((r : Int) == 65533) = false := by simp; omega
    have HB := Lib.hid (show badR (r, n) = false by unfold badR; simp; omega)
    clear h1
    go_enter Tryd.func55, Tryd.ntmps55
    go_wp2_with fail
    refine HD.out.mono ?_
    rintro e w1 ⟨rfl, hb⟩
    go_wp2_with fail
    go_ret
    exact ⟨ret_bool (by rw [HB.out]), hb⟩

theorem below_iter {B : Nat} {w : World} (hB : B ≤ w.heap.size) (s : ByteArray) (p : Nat) : Below B w (w.iter s p) := (Below.refl B w).alloc hB _
end Go.Proofs.YtmdnmiiggkfnfaaDoor

/- Contracts: IsName, the program's. -/
set_option linter.unusedVariables false
set_option linter.unusedSimpArgs false
namespace Go.Proofs.YtmdnmiiggkfnfaaDoor
open Go.RowKit

def digB (r : Int) : Bool := decide (48 ≤ r ∧ r ≤ 57)
/-- Are runes those of a name, as far as each goes? -/
def okN : Bool → List (Nat × Nat) → Bool
  | _, [] => true
  | first, x :: t => !badR x && (letB x.1 || (!first && digB x.1)) && okN false t
def nameR (l : List (Nat × Nat)) : Bool := okN true l && decide (1 ≤ l.length ∧ l.length ≤ 8)
def nameL (l : List Nat) : Bool := nameR (rn l)

theorem okN_bad {f : Bool} {x : Nat × Nat} {t : List (Nat × Nat)} (h : badR x = true) : okN f (x :: t) = false := by
  rw [okN, h]; rfl
theorem okN_let {f : Bool} {x : Nat × Nat} {t : List (Nat × Nat)} (h : badR x = false) (hl : letB x.1 = true) : okN f (x :: t) = okN false t := by
  rw [okN, h, hl]; rfl
theorem okN_dig {x : Nat × Nat} {t : List (Nat × Nat)} (h : badR x = false) (hd : digB x.1 = true) : okN false (x :: t) = okN false t := by
  rw [okN, h, hd]; simp
theorem okN_no {f : Bool} {x : Nat × Nat} {t : List (Nat × Nat)} (hl : letB x.1 = false) (hd : f = true ∨ digB x.1 = false) : okN f (x :: t) = false := by
  rw [okN, hl]
  rcases hd with rfl | hd
  · simp
  · rw [hd]; simp

set_option maxRecDepth 20000 in
set_option maxHeartbeats 2000000 in
theorem IsName_calls (w : World) (hT : Tabs w) (s : ByteArray) (hs : s.size ≤ 140737488351232) :
    Calls Tryd.prog 87 #[.string s] w fun e w' => e = .returned (.bool (nameL (byt s))) ∧ Below w.heap.size w w' := by
  have HL := Lib.hid (byt_len s)
  have HT := Lib.hid hT
  clear hT
  go_enter Tryd.func87, Tryd.ntmps87
  go_wp2_with fail
  go_loopw [3] (fun n wr => ∃ (pos acc : Nat), n = .int .i64 acc ∧ Hid (wr.heap[w.heap.size]? = some (.stringIter s pos)) ∧ Hid (Below w.heap.size w wr) ∧ Hid (acc + (rn ((byt s).drop pos)).length = (rn (byt s)).length ∧ okN (pos == 0) (rn ((byt s).drop pos)) = okN true (rn (byt s))) ∧ pos ≤ s.size ∧ acc ≤ pos) (fun _ wr => s.size - wr.iterPos w.heap.size)
  case atStart => exact ⟨0, 0, rfl, Lib.hid (World.iter_heap w s 0), Lib.hid (below_iter (Nat.le_refl _) _ _), Lib.hid ⟨by simp, by simp⟩, by omega, Nat.le_refl _⟩
  case round =>
    obtain ⟨pos, acc, rfl, hit, hbw, hc, hp0, ha⟩ := hrel
    by_cases hp : pos < s.size
    · have hne : (byt s).drop pos ≠ [] := fun e => by
        have := congrArg List.length e
        rw [List.length_drop, HL.out] at this
        simp at this
        omega
      have hnx : ∀ ty, (Instr.next (.pointer (some ⟨w.heap.size, 0, none⟩)) true ty).run Tryd.prog wr = _ := fun ty => Lib.run_next_any_at wr w.heap.size s pos ty hit.out hp
      simp only [decL_at] at hnx
      have hwd := dec_width hne
      have hk : pos + (decL ((byt s).drop pos)).2 ≤ s.size := by
        have := hwd.2.1
        rw [List.length_drop, HL.out] at this
        omega
      have hit2 := Lib.hid (Lib.iterAt_heap wr w.heap.size s pos (pos + (decL ((byt s).drop pos)).2) hit.out)
      have hbw2 := Lib.hid (Lib.below_iterAt hbw.out (k := w.heap.size) (Nat.le_refl _) s (pos + (decL ((byt s).drop pos)).2))
      have hlt2 : w.heap.size < (wr.iterAt w.heap.size s (pos + (decL ((byt s).drop pos)).2)).heap.size := (Array.getElem?_eq_some_iff.1 hit2.out).1
      have K := isWrong_calls _ (HT.out.stay hbw2.out) s hs pos hp
      have hc2 := hc.out
      rw [rn_cons hne, List.length_cons, List.drop_drop] at hc2
      have HC := Lib.hid hc2
      have h1 := hwd.1
      clear hne hwd hc2 hc
      generalize wr.iterAt w.heap.size s (pos + (decL ((byt s).drop pos)).2) = w2 at *
      generalize decL ((byt s).drop pos) = x at *
      obtain ⟨r, n⟩ := x
      dsimp only at hnx hk h1 HC K hit2
      have HM := Lib.hid (show ∀ w3 : World, Below w2.heap.size w2 w3 → w3.heap[w.heap.size]? = some (.stringIter s (pos + n)) ∧ Below w.heap.size w w3 ∧ s.size - w3.iterPos w.heap.size < s.size - wr.iterPos w.heap.size from fun w3 hb => by
        have e1 := (hb.block w.heap.size hlt2).trans hit2.out
        refine ⟨e1, hbw2.out.trans (hb.mono (by omega)), ?_⟩
        unfold World.iterPos
        rw [e1, hit.out]
        dsimp only
        omega)
      cases hbad : badR (r, n) with
      | true =>
        rw [hbad] at K
        have HF := Lib.hid (show nameL (byt s) = false by
          unfold nameL nameR
          rw [← HC.out.2, okN_bad hbad]
          rfl)
        clear hbad
        go_wp2_with (go_at_call 55; refine K.mono ?_; rintro e w3 ⟨rfl, hb3⟩)
        all_goals go_ret
        all_goals exact ⟨ret_bool (by rw [HF.out]), (HM.out _ hb3).2.1⟩
      | false =>
        rw [hbad] at K
        have KL := fun W => Letter_calls (r : Int) W
        cases hlet : letB (r : Int) with
        | true =>
          rw [hlet] at KL
          have HR := Lib.hid (HC.out.2.symm.trans (okN_let hbad hlet))
          have HA := Lib.hid HC.out.1
          clear hbad hlet
          go_wp2_with (first | (go_at_call 55; refine K.mono ?_; rintro e w3 ⟨rfl, hb3⟩) | (go_at_call 91; refine (KL _).mono ?_; rintro e w4 ⟨rfl, rfl⟩))
          all_goals
            go_roundw
            case rel =>
              obtain ⟨m1, m2, m3⟩ := HM.out _ hb3
              exact ⟨pos + n, acc + 1, by go_num, Lib.hid m1, Lib.hid m2, Lib.hid ⟨by have := HA.out; omega, by rw [HR.out, show (pos + n == 0) = false by simp; omega]⟩, hk, by omega⟩
            case measure => exact (HM.out _ hb3).2.2
        | false =>
          rw [hlet] at KL
          by_cases hdig : (48 : Int) ≤ (r : Int) ∧ (r : Int) ≤ 57 ∧ (0 : Int) < (pos : Int)
          · obtain ⟨d1, d2, d3⟩ := hdig
            have HR : Hid (okN true (rn (byt s)) = okN false (rn (List.drop (pos + n) (byt s)))) := Lib.hid (by
              have e0 := HC.out.2
              rw [show (pos == 0) = false by simp; omega] at e0
              exact e0.symm.trans (okN_dig hbad (decide_eq_true ⟨d1, d2⟩)))
            have HA := Lib.hid HC.out.1
            have d4 : decide (0 < pos) = true := decide_eq_true (by omega)
            clear hbad hlet
            go_wp2_with (first | (go_at_call 55; refine K.mono ?_; rintro e w3 ⟨rfl, hb3⟩) | (go_at_call 91; refine (KL _).mono ?_; rintro e w4 ⟨rfl, rfl⟩))
            all_goals
              go_roundw
              case rel =>
                obtain ⟨m1, m2, m3⟩ := HM.out _ hb3
                exact ⟨pos + n, acc + 1, by go_num, Lib.hid m1, Lib.hid m2, Lib.hid ⟨by have := HA.out; omega, by rw [HR.out, show (pos + n == 0) = false by simp; omega]⟩, hk, by omega⟩
              case measure => exact (HM.out _ hb3).2.2
          · have HF := Lib.hid (show nameL (byt s) = false by
              unfold nameL nameR
              rw [← HC.out.2, okN_no hlet]
              · rfl
              · by_cases h0 : pos = 0
                · exact .inl (by simp [h0])
                · exact .inr (decide_eq_false (fun h => hdig ⟨h.1, h.2, by omega⟩)))
            clear hbad hlet
            by_cases d1 : (48 : Int) ≤ (r : Int)
            · by_cases d2 : (r : Int) ≤ 57
              · have d3 : ¬ (0 : Int) < (pos : Int) := fun h => hdig ⟨d1, d2, h⟩
                have d4 : decide (0 < pos) = false := decide_eq_false (by omega)
                clear hdig
                go_wp2_with (first | (go_at_call 55; refine K.mono ?_; rintro e w3 ⟨rfl, hb3⟩) | (go_at_call 91; refine (KL _).mono ?_; rintro e w4 ⟨rfl, rfl⟩))
                all_goals go_ret
                all_goals exact ⟨ret_bool (by rw [HF.out]), (HM.out _ hb3).2.1⟩
              · clear hdig
                go_wp2_with (first | (go_at_call 55; refine K.mono ?_; rintro e w3 ⟨rfl, hb3⟩) | (go_at_call 91; refine (KL _).mono ?_; rintro e w4 ⟨rfl, rfl⟩))
                all_goals go_ret
                all_goals exact ⟨ret_bool (by rw [HF.out]), (HM.out _ hb3).2.1⟩
            · clear hdig
              go_wp2_with (first | (go_at_call 55; refine K.mono ?_; rintro e w3 ⟨rfl, hb3⟩) | (go_at_call 91; refine (KL _).mono ?_; rintro e w4 ⟨rfl, rfl⟩))
              all_goals go_ret
              all_goals exact ⟨ret_bool (by rw [HF.out]), (HM.out _ hb3).2.1⟩
    · have hnx : ∀ ty, (Instr.next (.pointer (some ⟨w.heap.size, 0, none⟩)) true ty).run Tryd.prog wr = _ := fun ty => Lib.run_next_end_at wr w.heap.size s pos ty hit.out hp
      have he : (byt s).drop pos = [] := List.drop_eq_nil_of_le (by rw [HL.out]; omega)
      have hc2 := hc.out
      rw [he, rn_nil, List.length_nil, Nat.add_zero] at hc2
      have HF := Lib.hid (show nameL (byt s) = decide (1 ≤ acc ∧ acc ≤ 8) by
        unfold nameL nameR
        rw [← hc2.2, hc2.1]
        rfl)
      clear he hc2 hc
      go_wp2
      all_goals go_ret
      all_goals exact ⟨ret_bool (by rw [HF.out, Bool.eq_iff_iff]; simp; omega), hbw.out⟩
end Go.Proofs.YtmdnmiiggkfnfaaDoor
