/- Walk of GlyphWrong. -/
import Derived.Test.YtjjcibbokeadiaaDoorGlLaw
import Derived.Test.YtjjcibbokeadiaaDoorGlTel
set_option linter.unusedVariables false
namespace Go.Proofs.YtjjcibbokeadiaaDoor
open Go.RowKit

theorem rep_snoc {α : Type} (u : List α) (k : Nat) : (List.replicate (k + 1) u).flatten = (List.replicate k u).flatten ++ u := by
  rw [List.replicate_succ', List.flatten_append]
  simp
theorem ok252 : okR 252 := .inl (by omega)
theorem rep_whole {x : Nat × Nat} (h : badR x = false) (n : Nat) : wholeR (List.replicate n x) = true := by
  unfold wholeR
  rw [List.all_eq_true]
  intro y hy
  rw [(List.mem_replicate.1 hy).2, h]
  rfl
theorem wrong_words {S more : ByteArray} {n : Nat} (h : byt S = (List.replicate n (encN 252)).flatten) : wordsL (byt (S ++ ⟨#[255]⟩ ++ more)) = ([], (n : Int)) := by
  have e : byt (S ++ ⟨#[255]⟩ ++ more) = (List.replicate n (encN 252)).flatten ++ (255 :: byt more) := by
    rw [byt_app, byt_app, h]
    show _ ++ [255] ++ _ = _
    simp
  unfold wordsL
  rw [e, rn_rep ok252, rn_ff, goW_app _ _ _ (rep_whole bad_enc n), goW_bad (by rfl), fold_n]
  simp
theorem wrong_width {S : ByteArray} {n : Nat} (h : byt S = (List.replicate n (encN 252)).flatten) : (rn (byt (S ++ ⟨#[255]⟩))).length = n + 1 := by
  have e : byt (S ++ ⟨#[255]⟩) = (List.replicate n (encN 252)).flatten ++ [255] := by rw [byt_app, h]; rfl
  rw [e, rn_rep ok252, rn_ff, rn_nil]
  simp
theorem wrong_name : nameL (byt ⟨#[97, 255]⟩) = false := by decide +kernel
set_option maxRecDepth 100000 in
set_option maxHeartbeats 8000000 in
theorem wrong_calls (n : Int) (more : ByteArray) (w : World) (hT : Tabs w) :
    Calls Tryd.prog 5 #[.int .i64 n, .string more] w fun e w' => e = .returned (.bool true) ∧ Below w.heap.size w w' := by
  have HT := Lib.hid hT
  clear hT
  by_cases h1 : n < 0
  · go_enter Tryd.func5, Tryd.ntmps5
    go_wp2_with fail
    go_ret
    exact ⟨rfl, Below.refl _ _⟩
  by_cases h2 : (100 : Int) < n
  · go_enter Tryd.func5, Tryd.ntmps5
    go_wp2_with fail
    go_ret
    exact ⟨rfl, Below.refl _ _⟩
  by_cases h3 : (100 : Int) < (more.size : Int)
  · go_enter Tryd.func5, Tryd.ntmps5
    go_wp2_with fail
    go_ret
    exact ⟨rfl, Below.refl _ _⟩
  obtain ⟨n, rfl⟩ := Int.eq_ofNat_of_zero_le (show 0 ≤ n by omega)
  have hm8 : (more.size : Int) ≤ 8388608 := by omega
  go_enter Tryd.func5, Tryd.ntmps5
  go_wp2_with fail
  go_loop [5, 6] (fun s i => ∃ (k : Nat) (S : ByteArray), k ≤ n ∧ s = .string S ∧ i = .int .i64 k ∧ Hid (byt S = (List.replicate k (encN 252)).flatten) ∧ S.size ≤ 2 * k) (fun _ i => n - (intOf i).toNat)
  case atStart => exact ⟨0, _, by omega, rfl, rfl, Lib.hid rfl, by decide⟩
  case round =>
    obtain ⟨k, S, hk, rfl, rfl, hS, hz⟩ := hrel
    have hS8 : (S.size : Int) ≤ 8388608 := by omega
    by_cases hlt : k < n
    · go_wp2_with fail
      go_round
      case rel => exact ⟨k + 1, S ++ ⟨#[195, 188]⟩, by omega, rfl, by go_num, Lib.hid (by rw [byt_app, hS.out, rep_snoc]; rfl), by rw [ByteArray.size_append]; show S.size + 2 ≤ _; omega⟩
      case measure => simp [intOf]; omega
    · obtain rfl : k = n := by omega
      have hz1 : (S ++ ⟨#[255]⟩).size ≤ 201 := by rw [ByteArray.size_append]; show S.size + 1 ≤ _; omega
      have hz2 : (S ++ ⟨#[255]⟩ ++ more).size ≤ 301 := by rw [ByteArray.size_append]; omega
      have hS9 : ((S ++ ⟨#[255]⟩).size : Int) ≤ 8388608 := by omega
      have KW := Lib.hid (Words_calls w HT.out (S ++ ⟨#[255]⟩ ++ more) (by omega))
      have KN := Lib.hid (fun W => Width_calls W (S ++ ⟨#[255]⟩) (by omega))
      have KI := Lib.hid (fun W h => IsName_calls W h ⟨#[97, 255]⟩ (by decide))
      have HW := Lib.hid (wrong_words (more := more) hS.out)
      rw [wrong_width hS.out] at KN
      rw [wrong_name] at KI
      have ec : ((k + 1 : Nat) : Int) = (k : Int) + 1 := by omega
      rw [ec] at KN
      clear ec hz1 hz2 hlt
      go_wp2_with fail
      refine KW.out.mono ?_
      intro e w1 hp
      obtain ⟨A, c, rfl, hA, hb1⟩ := words_post hp
      rw [HW.out]
      have HB1 := Lib.hid hb1
      clear hp hA hb1
      go_wp2_with fail
      refine (KI.out w1 (HT.out.stay HB1.out)).mono ?_
      rintro e w2 ⟨rfl, hb2⟩
      have HB2 := Lib.hid (below_more HB1.out hb2)
      clear hb2
      go_wp2_with fail
      refine (KN.out w2).mono ?_
      rintro e w3 ⟨rfl, hb3⟩
      have HB3 := Lib.hid (below_more HB2.out hb3)
      clear hb3
      go_wp2_with fail
      refine (known_calls _ (HT.out.stay HB3.out)).mono ?_
      rintro e w4 ⟨rfl, hb4⟩
      go_wp2_with fail
      go_ret
      exact ⟨rfl, below_more HB3.out hb4⟩
end Go.Proofs.YtjjcibbokeadiaaDoor
