/- Walk of GlyphBlanks. -/
import Derived.Test.YtjjcibbokeadiaaDoorGlNam
set_option linter.unusedVariables false
namespace Go.Proofs.YtjjcibbokeadiaaDoor
open Go.RowKit

theorem rn_repc {c : Nat} (hc : c < 128) (t : List Nat) : ∀ n : Nat, rn (List.replicate n c ++ t) = List.replicate n (c, 1) ++ rn t
  | 0 => rfl
  | n + 1 => by
    rw [List.replicate_succ, List.cons_append, rn_head hc, rn_repc hc t n]
    rfl
theorem blanks_acc {x : Nat × Nat} (h : blankR x = true) : ∀ (n : Nat) (st : St), ((List.replicate n x).foldl stepW st).acc = st.acc
  | 0, _ => rfl
  | n + 1, st => by
    rw [List.replicate_succ, List.foldl_cons, blanks_acc h n, stepW_blank _ h]
theorem whole_app {a b : List (Nat × Nat)} (ha : wholeR a = true) (hb : wholeR b = true) : wholeR (a ++ b) = true := by
  unfold wholeR at *
  rw [List.all_append, ha, hb]
  rfl
theorem rn_size_aux : ∀ (n : Nat) (l : List Nat), l.length ≤ n → l.length ≤ 4 * (rn l).length
  | 0, l, h => by omega
  | n + 1, l, h => by
    by_cases hne : l = []
    · subst hne; simp
    · have hwd := dec_width hne
      rw [rn_cons hne, List.length_cons]
      have := rn_size_aux n (l.drop (decL l).2) (by rw [List.length_drop]; omega)
      rw [List.length_drop] at this
      omega
theorem name_size {s : ByteArray} (h : nameL (byt s) = true) : s.size ≤ 32 := by
  have h1 := (name_whole h).2.2.2
  have h2 := rn_size_aux _ (byt s) (Nat.le_refl _)
  rw [byt_len] at h2
  omega
/-- A text of blanks alone. -/
theorem bla_none {A B : ByteArray} {n m : Nat} (hA : byt A = List.replicate n 32) (hB : byt B = List.replicate m 9) : wordsL (byt (A ++ B)) = ([], -1) := by
  unfold wordsL
  have e : rn (byt (A ++ B)) = List.replicate n (32, 1) ++ List.replicate m (9, 1) := by
    have := rn_repc (c := 9) (by omega) [] m
    rw [List.append_nil, rn_nil, List.append_nil] at this
    rw [byt_app, hA, hB, rn_repc (by omega), this]
  rw [e, goW_all _ _ (whole_app (rep_whole (by rfl) _) (rep_whole (by rfl) _)), List.foldl_append, blanks_acc (by rfl), fold_blanks (by rfl)]
/-- A word between blanks. -/
theorem bla_one {A B w : ByteArray} {n m : Nat} (hA : byt A = List.replicate n 32) (hB : byt B = List.replicate m 9) (hw : nameL (byt w) = true) : wordsL (byt (A ++ w ++ B)) = ([((w, (n : Int)) : Wd)], -1) := by
  obtain ⟨h1, h2, h3, _⟩ := name_whole hw
  unfold wordsL
  have e : rn (byt (A ++ w ++ B)) = List.replicate n (32, 1) ++ (rn (byt w) ++ List.replicate m (9, 1)) := by
    have := rn_repc (c := 9) (by omega) [] m
    rw [List.append_nil, rn_nil, List.append_nil] at this
    rw [byt_app, byt_app, hA, hB, List.append_assoc, rn_repc (by omega), rn_app _ (byt_lt w) h1, this]
  rw [e, goW_all _ _ (whole_app (rep_whole (by rfl) _) (whole_app h1 (rep_whole (by rfl) _))), List.foldl_append, List.foldl_append, blanks_acc (by rfl), fold_blanks (by rfl), fold_new _ _ _ h3 h2, encAll_rn _ h1]
  simp
theorem box_lit (W : World) (t : ByteArray) (n : Int) : Rf flW (W.alloc (.cells #[.string t, .int .i64 n] 32)) (some ⟨W.heap.size, 0, none⟩) 1 [((t, n) : Wd)] := lit_reads flW [((t, n) : Wd)] (Blk.new W _ _ (0, 0)) rfl (by simp)
set_option maxRecDepth 100000 in
set_option maxHeartbeats 8000000 in
theorem blanks_calls (n m : Int) (t : ByteArray) (w : World) (hT : Tabs w) (ht : t.size ≤ 1048576) :
    Calls Tryd.prog 8 #[.int .i64 n, .int .i64 m, .string t] w fun e w' => e = .returned (.bool true) ∧ Below w.heap.size w w' := by
  have HT := Lib.hid hT
  clear hT
  by_cases h1 : n < 0
  · go_enter Tryd.func8, Tryd.ntmps8
    go_wp2_with fail
    go_ret
    exact ⟨rfl, Below.refl _ _⟩
  by_cases h2 : (60 : Int) < n
  · go_enter Tryd.func8, Tryd.ntmps8
    go_wp2_with fail
    go_ret
    exact ⟨rfl, Below.refl _ _⟩
  by_cases h3 : m < 0
  · go_enter Tryd.func8, Tryd.ntmps8
    go_wp2_with fail
    go_ret
    exact ⟨rfl, Below.refl _ _⟩
  by_cases h4 : (60 : Int) < m
  · go_enter Tryd.func8, Tryd.ntmps8
    go_wp2_with fail
    go_ret
    exact ⟨rfl, Below.refl _ _⟩
  obtain ⟨n, rfl⟩ := Int.eq_ofNat_of_zero_le (show 0 ≤ n by omega)
  obtain ⟨m, rfl⟩ := Int.eq_ofNat_of_zero_le (show 0 ≤ m by omega)
  have KI := Lib.hid (RefIsName_calls w HT.out t (by omega))
  cases hw : nameL (byt t) with
  | false =>
    rw [hw] at KI
    clear hw
    go_enter Tryd.func8, Tryd.ntmps8
    go_wp2_with fail
    refine KI.out.mono ?_
    rintro e w1 ⟨rfl, hb1⟩
    go_wp2_with fail
    go_ret
    exact ⟨rfl, hb1⟩
  | true =>
    rw [hw] at KI
    have ht32 := name_size hw
    have HW := Lib.hid hw
    have ht8 : (t.size : Int) ≤ 8388608 := by omega
    clear hw ht
    go_enter Tryd.func8, Tryd.ntmps8
    go_wp2_with fail
    refine KI.out.mono ?_
    rintro e w1 ⟨rfl, hb1⟩
    have HB1 := Lib.hid hb1
    clear hb1 KI
    go_wp2_with fail
    go_loop [7, 9] (fun s i => ∃ (k : Nat) (S : ByteArray), k ≤ n ∧ s = .string S ∧ i = .int .i64 k ∧ Hid (byt S = List.replicate k 32) ∧ S.size = k) (fun _ i => n - (intOf i).toNat)
    case atStart => exact ⟨0, _, by omega, rfl, rfl, Lib.hid rfl, by decide⟩
    case round =>
      obtain ⟨k, S, hk, rfl, rfl, hS, hz⟩ := hrel
      have HZ := Lib.hid hz
      have hS8 : (S.size : Int) ≤ 8388608 := by omega
      clear hz
      by_cases hlt : k < n
      · go_wp2_with fail
        go_round
        case rel => exact ⟨k + 1, S ++ ⟨#[32]⟩, by omega, rfl, by go_num, Lib.hid (by rw [byt_app, hS.out, List.replicate_succ']; rfl), by rw [ByteArray.size_append, HZ.out]; rfl⟩
        case measure => simp [intOf]; omega
      · obtain rfl : k = n := by omega
        clear hlt hk
        go_wp2_with fail
        go_loop [8, 10] (fun s i => ∃ (j : Nat) (U : ByteArray), j ≤ m ∧ s = .string U ∧ i = .int .i64 j ∧ Hid (byt U = List.replicate j 9) ∧ U.size = j) (fun _ i => m - (intOf i).toNat)
        case atStart => exact ⟨0, _, by omega, rfl, rfl, Lib.hid rfl, by decide⟩
        case round =>
          obtain ⟨j, U, hj, rfl, rfl, hU, hz⟩ := hrel
          have HZU := Lib.hid hz
          have hU8 : (U.size : Int) ≤ 8388608 := by omega
          clear hz
          by_cases hlt : j < m
          · go_wp2_with fail
            go_round
            case rel => exact ⟨j + 1, U ++ ⟨#[9]⟩, by omega, rfl, by go_num, Lib.hid (by rw [byt_app, hU.out, List.replicate_succ']; rfl), by rw [ByteArray.size_append, HZU.out]; rfl⟩
            case measure => simp [intOf]; omega
          · obtain rfl : j = m := by omega
            clear hlt hj
            have hs1 : (S ++ U).size ≤ 120 := by rw [ByteArray.size_append, HZ.out, HZU.out]; omega
            have hs2 : (S ++ t).size ≤ 92 := by rw [ByteArray.size_append, HZ.out]; omega
            have hs3 : (S ++ t ++ U).size ≤ 152 := by rw [ByteArray.size_append, HZU.out]; omega
            have hs28 : ((S ++ t).size : Int) ≤ 8388608 := by omega
            have K1 := Lib.hid (Words_calls w1 (HT.out.stay HB1.out) (S ++ U) (by omega))
            have K2 := Lib.hid (fun W h => Words_calls W h (S ++ t ++ U) (by omega))
            have F1 := Lib.hid (bla_none hS.out hU.out)
            have F2 := Lib.hid (bla_one hS.out hU.out HW.out)
            clear hs1 hs2 hs3
            go_wp2_with fail
            refine K1.out.mono ?_
            intro e w2 hp
            obtain ⟨A, c, rfl, hA, hb2⟩ := words_post hp
            rw [F1.out]
            have HB2 := Lib.hid (below_more HB1.out hb2)
            clear hp hA hb2
            go_wp2_with fail
            refine (K2.out w2 (HT.out.stay HB2.out)).mono ?_
            intro e w3 hp
            obtain ⟨B, d, rfl, hB, hb3⟩ := words_post hp
            rw [F2.out] at hB ⊢
            have HB3 := Lib.hid (below_more HB2.out hb3)
            have HBB := Lib.hid hB
            clear hp hB hb3
            go_wp2_with fail
            have HB4 := Lib.hid (below_more HB3.out (below_new w3 (.cells #[.string t, .int .i64 (k : Int)] 32)))
            have KS := same_calls B _ 1 1 d 1 [((t, (k : Int)) : Wd)] [((t, (k : Int)) : Wd)] _ (HBB.out.stay (below_new w3 _)) (box_lit w3 t k)
            rw [decide_eq_true rfl] at KS
            refine KS.mono ?_
            rintro e w4 ⟨rfl, hb4⟩
            have HB5 := Lib.hid (HB4.out.trans (hb4.mono HB4.out.size))
            clear KS hb4
            go_wp2_with fail
            refine (known_calls _ (HT.out.stay HB5.out)).mono ?_
            rintro e w5 ⟨rfl, hb5⟩
            go_wp2_with fail
            go_ret
            exact ⟨rfl, below_more HB5.out hb5⟩
end Go.Proofs.YtjjcibbokeadiaaDoor
