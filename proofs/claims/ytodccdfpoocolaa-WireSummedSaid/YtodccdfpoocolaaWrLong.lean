/- Walk of WireLong. -/
import Derived.Test.YtodccdfpoocolaaWrKn
import Derived.Deep.OwnRows
set_option linter.unusedVariables false
namespace Go.Proofs.Ytodccdfpoocolaa
open Go.RowKit Go.Lib

def zeroS (n : Nat) : ByteArray := strOfB (List.replicate n 0)
theorem strOfB_size (xs : List Nat) : (strOfB xs).size = xs.length := by unfold strOfB; rw [strOfNums_size, List.length_map]
theorem zeroS_size (n : Nat) : (zeroS n).size = n := by unfold zeroS; rw [strOfB_size, List.length_replicate]
theorem made_rf (w : World) (n : Nat) (hn : n ≤ 9223372036854775807) : Rf flB (w.alloc (.cells (madeCells #[.int .u8 0] n) 5)) (some ⟨w.heap.size, 0, none⟩) n (List.replicate n 0) := by
  have h := lit_reads flB (w := w.alloc (.cells (madeCells #[.int .u8 0] n) 5)) (List.replicate n 0) (Blk.new w _ 5 (0, 0)) (by
    rw [toList_madeCells_one]
    induction n with
    | zero => rfl
    | succ n ih => rw [List.replicate_succ, List.replicate_succ, List.flatMap_cons, ← ih (by omega)]; rfl) (by rw [List.length_replicate]; exact hn)
  rw [List.length_replicate] at h
  exact h
def longI (n size : Nat) : List It := List.replicate n (.txt (zeroS size))
theorem longI_len (n size : Nat) : (longI n size).length = n := by simp [longI]
theorem longI_body (n size : Nat) : (bodyB (longI n size)).length = 1 + n * (2 + size) := by
  have h : ∀ n, ((longI n size).flatMap thingB).length = n * (2 + size) := by
    intro n
    induction n with
    | zero => simp [longI]
    | succ n ih =>
      have e : longI (n + 1) size = .txt (zeroS size) :: longI n size := List.replicate_succ
      rw [e, List.flatMap_cons, List.length_append, ih]
      simp only [thingB, List.length_cons, strB_len, zeroS_size]
      rw [Nat.succ_mul]
      omega
  unfold bodyB
  rw [List.length_cons, h]
  omega
theorem longI_ok (n size : Nat) : (longI n size).all okB = true ↔ (n = 0 ∨ size ≤ 200) := by
  rw [List.all_eq_true]
  constructor
  · intro h
    rcases Nat.eq_zero_or_pos n with h0 | h0
    · exact .inl h0
    · right
      have := h (.txt (zeroS size)) (by unfold longI; exact List.mem_replicate.2 ⟨by omega, rfl⟩)
      simp only [okB, zeroS_size, decide_eq_true_eq] at this
      omega
  · intro h x hx
    have := List.mem_replicate.1 hx
    rw [this.2]
    simp only [okB, zeroS_size, decide_eq_true_eq]
    omega
theorem head_len (body : List Nat) : (headB body).length = 6 := by simp [headB, bigB, bigTo_len]
theorem mul_le {n size : Nat} (h : n ≤ 100) (h2 : size ≤ 250) : n * (2 + size) ≤ 25200 := by
  calc n * (2 + size) ≤ 100 * 252 := Nat.mul_le_mul h (by omega)
    _ = 25200 := rfl
/-- What Pack tells of so many texts of zeros. -/
theorem long_pack {w : World} {n size : Nat} {e : Ending} {w' : World} (h : PackPost w (packB (longI n size)) e w') :
    ((n = 0 ∨ size ≤ 200) ∧ 1 + n * (2 + size) ≤ 4000 ∧ (∃ A c, e = .returned (.tuple #[.slice A (7 + n * (2 + size)) c, .int .i64 0])) ∧ Below w.heap.size w w') ∨
    (¬ ((n = 0 ∨ size ≤ 200) ∧ 1 + n * (2 + size) ≤ 4000) ∧ e = .returned (.tuple #[.slice none 0 0, .int .i64 1]) ∧ Below w.heap.size w w') := by
  have hb := longI_body n size
  have ho := longI_ok n size
  rcases h with ⟨bs, v, hp, rfl, h3, h4⟩ | ⟨hp, rfl, h4⟩
  · unfold packB at hp
    split at hp
    · rename_i hc
      injection hp with hp
      obtain ⟨A, c, rfl, -⟩ := h3.read (by decide)
      refine .inl ⟨ho.1 hc.1, by rw [← hb]; exact hc.2, ⟨A, c, ?_⟩, h4⟩
      have e : bs.length = 7 + n * (2 + size) := by rw [← hp, List.length_append, head_len, hb]; omega
      rw [e]
    · cases hp
  · refine .inr ⟨?_, rfl, h4⟩
    rintro ⟨h1, h2⟩
    unfold packB at hp
    rw [if_pos ⟨ho.2 h1, by rw [hb]; exact h2⟩] at hp
    cases hp
set_option maxHeartbeats 8000000 in
theorem long9_calls (n size : Int) (w : World) (hn : (Lit.int .i64 n).wf = true) (hs : (Lit.int .i64 size).wf = true) :
    Calls Try.prog 3 #[.int .i64 n, .int .i64 size] w fun e w' => e = .returned (.bool true) ∧ Below w.heap.size w w' := by
  by_cases h1 : n < 0
  · go_enter Try.func3, Try.ntmps3
    go_wp2
    go_ret
    exact ⟨rfl, Below.refl _ _⟩
  by_cases h2 : (100 : Int) < n
  · go_enter Try.func3, Try.ntmps3
    go_wp2
    go_ret
    exact ⟨rfl, Below.refl _ _⟩
  by_cases h3 : size < 0
  · go_enter Try.func3, Try.ntmps3
    go_wp2
    go_ret
    exact ⟨rfl, Below.refl _ _⟩
  by_cases h4 : (250 : Int) < size
  · go_enter Try.func3, Try.ntmps3
    go_wp2
    go_ret
    exact ⟨rfl, Below.refl _ _⟩
  obtain ⟨n, rfl⟩ := Int.eq_ofNat_of_zero_le (show 0 ≤ n by omega)
  obtain ⟨size, rfl⟩ := Int.eq_ofNat_of_zero_le (show 0 ≤ size by omega)
  clear hn hs
  have hmk := fun W => Go.run_make_row' (P := Try.prog) 25 5 (.int .u8 0) 1 Try.underlying25 (by kernel_rfl) rfl .i64 .i64 size (by omega) (by omega) W
  have hM := mul_le (n := n) (size := size) (by omega) (by omega)
  go_enter Try.func3, Try.ntmps3
  go_wp2_with fail
  refine (boxNew_calls w).mono ?_
  rintro e w1 ⟨b, rfl, hc, hb1⟩
  have HC1 := Lib.hid hc
  have HB1 := Lib.hid hb1
  clear hc hb1
  go_wp2_with fail
  go_loopw [6] (fun i wr => ∃ k : Nat, k ≤ n ∧ i = .int .i64 k ∧ Hid (∃ v, Cr wr w.heap.size b v (longI k size)) ∧ Hid (Below w.heap.size w wr)) (fun i _ => n - (intOf i).toNat)
  case atStart => exact ⟨0, by omega, rfl, Lib.hid ⟨_, HC1.out⟩, HB1⟩
  case round =>
    obtain ⟨k, hk, rfl, hC, hB⟩ := hrel
    by_cases hlt : k < n
    · have hrf := made_rf wr size (by omega)
      have hcv := conv_str (c := size) hrf
      have hsz := hB.out.size
      have HB2 := Lib.hid (hB.out.alloc (o := .cells (madeCells #[.int .u8 0] size) 5) hsz)
      obtain ⟨v, hcr⟩ := hC.out
      have HC2 := Lib.hid (hcr.stay (below_new wr (.cells (madeCells #[.int .u8 0] size) 5)))
      clear hrf hcr
      go_wp2_with fail
      refine (AddText_calls (zeroS size) _ w.heap.size b v _ HC2.out HB2.out.size).mono ?_
      rintro e w2 (⟨hl, _, _⟩ | ⟨_, rfl, v1, hc2, ho, _⟩)
      · rw [longI_len] at hl; omega
      have hc3 : Cr w2 w.heap.size b v1 (longI (k + 1) size) := by
        have e : longI (k + 1) size = longI k size ++ [.txt (zeroS size)] := List.replicate_succ'
        rw [e]; exact hc2
      have HC3 := Lib.hid hc3
      have HB3 := Lib.hid (HB2.out.trans (ho.below HB2.out.size (fun q hq hs => (HC2.out.foot q hs).1)))
      clear hc2 ho hc3
      go_wp2_with fail
      go_roundw
      case rel => exact ⟨k + 1, by omega, by go_num, Lib.hid ⟨_, HC3.out⟩, HB3⟩
      case measure => simp [intOf]; omega
    · have hkn : k = n := by omega
      subst hkn
      obtain ⟨v, hcr⟩ := hC.out
      have HC := Lib.hid hcr
      clear hcr hmk
      go_wp2_with fail
      refine (Pack_calls wr b (longI k size) HC.out.cz (by rw [longI_body]; omega) (by rw [longI_len]; omega)).mono ?_
      intro e w2 hp
      have hM2 : IntKind.i64.wrap (2 + (size : Int)) = 2 + (size : Int) := by rw [IntKind.wrap_i64]; omega
      have hM3 : (k : Int) * (2 + (size : Int)) = ((k * (2 + size) : Nat) : Int) := by push_cast; rfl
      have hlp := long_pack hp
      have hM0 : k = 0 → k * (2 + size) = 0 := fun h => by rw [h, Nat.zero_mul]
      clear hp
      generalize k * (2 + size) = M at *
      rcases hlp with ⟨hor, h40, ⟨A, c, rfl⟩, hb2⟩ | ⟨hno, rfl, hb2⟩
      · have hb3 := Lib.hid (below_more hB.out hb2)
        clear hb2
        have h41 : 1 + (M : Int) ≤ 4000 := by omega
        by_cases h200 : (size : Int) ≤ 200
        · go_wp2_with fail
          refine (known_calls _).mono ?_
          rintro e w5 ⟨rfl, b5⟩
          go_wp2_with fail
          go_ret
          exact ⟨rfl, below_more hb3.out b5⟩
        · have hk0 : k = 0 := by omega
          subst hk0
          go_wp2_with fail
          refine (known_calls _).mono ?_
          rintro e w5 ⟨rfl, b5⟩
          go_wp2_with fail
          go_ret
          exact ⟨rfl, below_more hb3.out b5⟩
      · have hb3 := Lib.hid (below_more hB.out hb2)
        clear hb2
        by_cases h200 : (size : Int) ≤ 200
        · have h41 : ¬ 1 + (M : Int) ≤ 4000 := by omega
          have hMw : IntKind.i64.wrap (1 + (M : Int)) = 1 + (M : Int) := by rw [IntKind.wrap_i64]; omega
          clear hno
          go_wp2_with fail
          refine (known_calls _).mono ?_
          rintro e w5 ⟨rfl, b5⟩
          go_wp2_with fail
          go_ret
          exact ⟨rfl, below_more hb3.out b5⟩
        · have hk0 : ((k : Int) == 0) = false := by
            have : k ≠ 0 := fun h => hno ⟨.inl h, by rw [hM0 h]; omega⟩
            simp [this]
          clear hno
          go_wp2_with fail
          refine (known_calls _).mono ?_
          rintro e w5 ⟨rfl, b5⟩
          go_wp2_with fail
          go_ret
          exact ⟨rfl, below_more hb3.out b5⟩
end Go.Proofs.Ytodccdfpoocolaa
