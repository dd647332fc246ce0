/- Walk of SumEach. -/
import Derived.Test.YthpekahjifneoaaSumLin
import Derived.Maps.OwnSet
import Derived.Maps.OwnOps
namespace Go.Proofs.Ythpekahjifneoaa
open Go.ChangeShapes Go.WideShapes Go.ChangeAt Go.RowKit Go.Maps

theorem lawU32 : Keyed Try.prog 23 := int_keyed Try.underlying23
theorem zeroI (w : World) : (zeroValue 3).run Try.prog w = .ok (.int .i64 0) w := by kernel_rfl
/-- The sum of n zeros but for byte c at p. -/
def eachSum (n p c : Nat) : Nat := crcAll [(List.replicate n 0).set p c]
theorem zeros_lt (n : Nat) : ∀ x ∈ List.replicate n 0, x < 256 := by
  intro x hx
  have := List.eq_of_mem_replicate hx
  omega
theorem set_lt (n p c : Nat) (hc : c < 256) : ∀ x ∈ (List.replicate n 0).set p c, x < 256 := by
  intro x hx
  rcases List.mem_or_eq_of_mem_set hx with h | h
  · exact zeros_lt n x h
  · omega
theorem eachSum_inj (n p c d : Nat) (hp : p < n) (hc : c < 256) (hd : d < 256) (h : eachSum n p c = eachSum n p d) : c = d := by
  by_cases e : c = d
  · exact e
  · exfalso
    refine crcAll_set ((List.replicate n 0).set p d) p c (set_lt n p d hd) (by simpa using hp) hc ?_ ?_
    · rw [getD_set_eq (by simpa using hp)]
      exact e
    · rw [List.set_set]
      exact h
theorem each_made (W : World) (base n p k : Nat) (hb : base ≤ W.heap.size) (hn : n ≤ 9223372036854775807) :
    OwnB (W.alloc (.cells ((madeCells #[.int .u8 0] n).setIfInBounds p (.int .u8 (k : Int))) 5)) base W.heap.size n ((List.replicate n 0).set p k) := by
  have h := World.ownsRow_lit (base := base) (e := 5) (size := 1) W ((madeCells #[.int .u8 0] n).setIfInBounds p (.int .u8 (k : Int))) n hb (by simpa [maxLen] using hn) (by simp [size_madeCells])
  unfold OwnB
  rw [Array.toList_setIfInBounds, zero_cells, vb_set] at h
  exact h
def Told (D : DataW Unit) (n p k : Nat) : Prop := Tidy D ∧ Maps.size D = k ∧ ∀ s : Nat, has D (.int .u32 (s : Int)) = true → ∃ j, j < k ∧ s = eachSum n p j
theorem u32_wf (s : Nat) (h : s < 4294967296) : (Lit.int .u32 (s : Int)).wf = true := by
  simp [Lit.wf, IntKind.min, IntKind.max, IntKind.bits, IntKind.signed]
  omega
theorem told_step {D : DataW Unit} {n p k : Nat} (h : Told D n p k) (hp : p < n) (hk : k < 256) (d : DataW Unit) : Told (D.put (.int .u32 ((eachSum n p k : Nat) : Int)) d) n p (k + 1) := by
  obtain ⟨h1, h2, h3⟩ := h
  have hnot : has D (.int .u32 ((eachSum n p k : Nat) : Int)) = false := by
    cases hh : has D (.int .u32 ((eachSum n p k : Nat) : Int))
    · rfl
    · obtain ⟨j, hj, e⟩ := h3 _ hh
      have := eachSum_inj n p k j hp hk (by omega) e
      omega
  refine ⟨h1.put (by trivial) d, by rw [Maps.size_put h1, hnot]; simp [h2], fun s hs => ?_⟩
  by_cases e : s = eachSum n p k
  · exact ⟨k, by omega, e⟩
  · rw [has_put_other (by simp; omega)] at hs
    obtain ⟨j, hj, e2⟩ := h3 s hs
    exact ⟨j, by omega, e2⟩

set_option maxRecDepth 100000 in
set_option maxHeartbeats 1000000 in
theorem each_calls (n p : Int) (w : World) :
    Calls Try.prog 7 #[.int .i64 n, .int .i64 p] w fun e w' => e = .returned (.bool true) ∧ Below w.heap.size w w' := by
  by_cases c1 : n < 1
  · go_enter Try.func7, Try.ntmps7
    go_wp2
    go_ret
    exact ⟨rfl, Below.refl _ _⟩
  by_cases c2 : 60 < n
  · go_enter Try.func7, Try.ntmps7
    go_wp2
    go_ret
    exact ⟨rfl, Below.refl _ _⟩
  by_cases c3 : p < 0
  · go_enter Try.func7, Try.ntmps7
    go_wp2
    go_ret
    exact ⟨rfl, Below.refl _ _⟩
  by_cases c4 : n ≤ p
  · go_enter Try.func7, Try.ntmps7
    go_wp2
    go_ret
    exact ⟨rfl, Below.refl _ _⟩
  obtain ⟨n, rfl⟩ := Int.eq_ofNat_of_zero_le (show 0 ≤ n by omega)
  obtain ⟨p, rfl⟩ := Int.eq_ofNat_of_zero_le (show 0 ≤ p by omega)
  have hmk := fun W => Go.run_make_row' (P := Try.prog) 22 5 (.int .u8 0) 1 Try.underlying22 info_u8 rfl .i64 .i64 n (by omega) (by omega) W
  have hmm := @run_makeMap Try.prog
  go_enter Try.func7, Try.ntmps7
  go_wp2_with fail
  go_loopw [6] (fun i wr => ∃ (k : Nat) (D : DataW Unit), k ≤ 256 ∧ i = .int .i64 k ∧ wr.ownsMap Try.prog 23 (plainElem Try.prog 3) w.heap.size k D ∧ Told D n p k ∧ Below w.heap.size w wr) (fun i _ => 256 - (intOf i).toNat)
  case atStart => exact ⟨0, .map [], by omega, rfl, World.ownsMap_made _ _ _ _, ⟨tidy_empty, rfl, fun s hs => by cases hs⟩, below_new _ _⟩
  case round =>
    obtain ⟨k, D, hk, rfl, hown, hD, hbr⟩ := hrel
    by_cases hlt : k < 256
    · have hkw : IntKind.u8.wrap (k : Int) = (k : Int) := by rw [IntKind.wrap_u8]; omega
      have hO := OwnB.made wr wr.heap.size n (Nat.le_refl _) (by omega)
      have hp7 := hO.cell p (by omega)
      have hf7 := hO.free p
      go_wp2_with fail
      clear hO hp7 hf7
      have hO2 := each_made wr w.heap.size n p k hbr.size (by omega)
      refine (Of_calls _ _ _ [(List.replicate n 0).set p k] _ (rows_one (c := n) _ _ (own_rdb (hO2.alloc _) (by omega) (set_lt n p k hlt)) (cell_new (by simp) _ _))).mono ?_
      rintro e w' ⟨rfl, rfl⟩
      have hS : eachSum n p k < 4294967296 := crcAll_lt _
      rw [show crcAll [(List.replicate n 0).set p k] = eachSum n p k from rfl]
      have hkey := keyOf_int_mk (P := Try.prog) Try.underlying23 (u32_wf _ hS)
      have hown2 := (hown.alloc (.cells ((madeCells #[.int .u8 0] n).setIfInBounds p (.int .u8 (k : Int))) 5)).alloc (.cells #[.slice (some ⟨wr.heap.size, 0, none⟩) n n] 22)
      have hD2 := told_step hD (by omega) hlt
      generalize eachSum n p k = S at *
      go_wp2_with (first
        | (at_lookup; refine wpList_lookup_own_int _ rfl _ _ 32 rfl 23 3 .i64 lawU32 Try.underlying32 Try.underlying3 (zeroI _) w.heap.size k _ rfl hown2 _ _ rfl hkey ?_; intro c hat hwc)
        | (at_mapUpdate; refine wpList_mapUpdate_own _ rfl _ _ _ 32 rfl 23 3 lawU32 Try.underlying32 _ w.heap.size k _ rfl hown2 (by unfold maxLen; omega) _ _ _ rfl rfl hkey _ [] (plainElem_int Try.underlying3 (wrap64_wf _)) ?_; intro w1 hown1 hgrow1))
      go_roundw
      case rel => exact ⟨k + 1, _, by omega, by go_num, hown1, hD2 _, ((hbr.alloc hbr.size _).alloc (by simp; have := hbr.size; omega) _).grown hgrow1 (by simp; have := hbr.size; omega) (fun j hj => by cases hj; exact Nat.le_refl _)⟩
      case measure => simp [intOf]; omega
    · have hk2 : k = 256 := by omega
      subst hk2
      have hsz : Maps.size D = 256 := hD.2.1
      have hl := hown.len Try.underlying32 3
      rw [hsz] at hl
      go_wp2_with fail
      refine (known_calls _).mono ?_
      rintro e w' ⟨rfl, hk⟩
      go_wp2_with fail
      go_ret
      exact ⟨rfl, hbr.trans (hk.mono hbr.size)⟩
end Go.Proofs.Ythpekahjifneoaa
