/- Walk of WireNumbers. -/
import Derived.Test.YtodccdfpoocolaaWrRt
set_option linter.unusedVariables false
namespace Go.Proofs.Ytodccdfpoocolaa
open Go.RowKit Go.Lib

theorem nums_good {w : World} {A : Option Addr} {n : Nat} {xs : List Int} (h : RdS (Kd.int .i64) w A n xs) : ∀ x ∈ xs, Good (.num x) := by
  intro t ht
  obtain ⟨j, hj⟩ := List.mem_iff_getElem?.1 ht
  have hl := (List.getElem?_eq_some_iff.1 hj).1
  obtain ⟨b, off, _, hc⟩ := h.2.2 (by have := h.1; omega)
  obtain ⟨cs, hK, _⟩ := hc j t hj
  have hw := hK.2
  simp [Lit.wf, IntKind.min, IntKind.max, IntKind.bits, IntKind.signed] at hw
  exact ⟨by omega, by omega⟩
theorem numI_ok (xs : List Int) : (xs.map It.num).all okB = true := by
  rw [List.all_eq_true]
  intro x hx
  obtain ⟨n, _, rfl⟩ := List.mem_map.1 hx
  rfl
theorem numI_body (xs : List Int) : (bodyB (xs.map It.num)).length = 1 + 9 * xs.length := by
  have h : ((xs.map It.num).flatMap thingB).length = 9 * xs.length := by
    induction xs with
    | nil => rfl
    | cons x r ih =>
      rw [List.map_cons, List.flatMap_cons, List.length_append, ih, List.length_cons]
      simp only [thingB, List.length_cons, bigB_len]
      omega
  unfold bodyB
  rw [List.length_cons, h]
  omega
theorem rfI_at {w : World} {A : Option Addr} {n : Nat} {xs : List Int} (h : Rf flI w A n xs) {j : Nat} (hj : j < n) : ∃ b off x, A = some ⟨b, off, none⟩ ∧ xs[j]? = some x ∧ w.cell? ⟨b, off + j, none⟩ = some (.int .i64 x) := by
  obtain ⟨b, off, x, rfl, hx, hc⟩ := h.at_ hj
  refine ⟨b, off, x, rfl, hx, ?_⟩
  have := hc 0 _ rfl
  simpa [flI] using this
set_option maxHeartbeats 8000000 in
theorem numbers_calls (A : Option Addr) (n c : Nat) (xs : List Int) (w : World) (hA : Rf flI w A n xs) (hg : ∀ x ∈ xs, Good (.num x)) :
    Calls Try.prog 9 #[.slice A n c] w fun e w' => e = .returned (.bool true) ∧ Below w.heap.size w w' := by
  have hn0 := hA.2.1
  by_cases h1 : (100 : Int) < n
  · go_enter Try.func9, Try.ntmps9
    go_wp2
    go_ret
    exact ⟨rfl, Below.refl _ _⟩
  have hxl := Lib.hid hA.1
  have HA := Lib.hid hA
  have HG := Lib.hid hg
  clear hA hg
  go_enter Try.func9, Try.ntmps9
  go_wp2_with fail
  refine (boxNew_calls w).mono ?_
  rintro e w1 ⟨b, rfl, hc, hb1⟩
  have HC1 := Lib.hid hc
  have HB1 := Lib.hid hb1
  clear hc hb1
  go_wp2_with fail
  go_loopw [4] (fun i wr => ∃ k : Nat, k ≤ n ∧ i = .int .i64 k ∧ Hid (∃ v, Cr wr w.heap.size b v ((xs.take k).map It.num)) ∧ Hid (Below w.heap.size w wr)) (fun i _ => n - (intOf i).toNat)
  case atStart => exact ⟨0, by omega, rfl, Lib.hid ⟨_, HC1.out⟩, HB1⟩
  case round =>
    obtain ⟨k, hk, rfl, hC, hB⟩ := hrel
    obtain ⟨v, hcr⟩ := hC.out
    have HC := Lib.hid hcr
    clear hcr
    by_cases hlt : k < n
    · obtain ⟨bl, ol, x, rfl, hx, c0⟩ := rfI_at HA.out hlt
      have c0 := cell_keep hB.out (cell_lt c0) c0
      have HX := Lib.hid hx
      clear hx
      go_wp2_with fail
      refine (AddInt_calls x wr w.heap.size b v _ HC.out hB.out.size).mono ?_
      rintro e w2 (⟨hl, _, _⟩ | ⟨_, rfl, v1, hc2, ho, _⟩)
      · simp at hl; omega
      have HC3 := Lib.hid (show Cr w2 w.heap.size b v1 ((xs.take (k + 1)).map It.num) from by rw [List.take_add_one, HX.out]; simpa using hc2)
      have HB3 := Lib.hid (hB.out.trans (ho.below hB.out.size (fun q hq hs => (HC.out.foot q hs).1)))
      clear hc2 ho
      go_wp2_with fail
      go_roundw
      case rel => exact ⟨k + 1, by omega, by go_num, Lib.hid ⟨_, HC3.out⟩, HB3⟩
      case measure => simp [intOf]; omega
    · have hkn : xs.take k = xs := List.take_of_length_le (by have := hxl.out; omega)
      have HCC := Lib.hid (show Cr wr w.heap.size b v (xs.map It.num) from by have := HC.out; rw [hkn] at this; exact this)
      have hbd := numI_body xs
      have hil : (xs.map It.num).length = n := by rw [List.length_map]; exact hxl.out
      have hpk := packB_some (numI_ok xs) (by rw [hbd]; have := hxl.out; omega)
      have HPK := Lib.hid hpk
      have HUN := Lib.hid (unpack_pack hpk (by rw [hil]; omega) (fun y hy => by
        obtain ⟨z, hz, rfl⟩ := List.mem_map.1 hy
        exact HG.out z hz))
      have HPB := Lib.hid (pack_byte hpk)
      have hlen : (headB (bodyB (xs.map It.num)) ++ bodyB (xs.map It.num)).length = 7 + 9 * n := by rw [List.length_append, headB_len, hbd, hxl.out]; omega
      have HLEN := Lib.hid hlen
      generalize headB (bodyB (xs.map It.num)) ++ bodyB (xs.map It.num) = bs at *
      have HBD := Lib.hid (show (bodyB (xs.map It.num)).length ≤ 400000 by rw [hbd]; have := hxl.out; omega)
      have HIL := Lib.hid hil
      clear hkn hbd hpk hlen hil HC hC
      go_wp2_with fail
      refine (Pack_calls wr b (xs.map It.num) HCC.out.cz HBD.out (by rw [HIL.out]; omega)).mono ?_
      rintro e w3 (⟨ps, v3, hp, rfl, o3, b3⟩ | ⟨hp, _⟩)
      rotate_left
      · rw [HPK.out] at hp; cases hp
      have hps : ps = bs := by rw [HPK.out] at hp; exact (Option.some.inj hp).symm
      subst hps
      obtain ⟨A3, c3, rfl, R3, hl3, hl4⟩ := o3.readc (by decide)
      rw [HLEN.out] at R3 hl3 ⊢
      have HB3 := Lib.hid (hB.out.trans (b3.mono hB.out.size))
      have HU := Lib.hid (Unpack_calls w3 A3 (7 + 9 * n) c3 ps R3 HPB.out hl3 hl4 (by omega))
      rw [HUN.out] at HU
      clear o3 b3 R3 hl3 hl4 hp
      go_wp2_with fail
      refine HU.out.mono ?_
      rintro e w4 (⟨its, d, v4, hi, rfl, hc4, b4⟩ | ⟨hi, _⟩)
      rotate_left
      · cases hi
      injection hi with hi
      subst hi
      have HB4 := Lib.hid (HB3.out.trans (b4.mono HB3.out.size))
      have HC4 := Lib.hid hc4
      clear hc4 b4 HU
      go_wp2_with fail
      go_loopw [9] (fun i wr => ∃ k : Nat, k ≤ n ∧ i = .int .i64 k ∧ wr = w4) (fun i _ => n - (intOf i).toNat)
      case atStart => exact ⟨0, by omega, rfl, rfl⟩
      case round =>
        obtain ⟨k', hk', rfl, rfl⟩ := hrel
        by_cases hlt' : k' < n
        · obtain ⟨bl, ol, x, rfl, hx, c0⟩ := rfI_at HA.out hlt'
          have c0 := cell_keep HB4.out (cell_lt c0) c0
          have hI := Int_calls wr _ _ HC4.out.cz k'
          have hlk : lk (xs.map It.num) (k' : Int) = some (.num x) := by
            unfold lk
            rw [if_pos (by omega)]
            simp [hx]
          rw [hlk] at hI
          dsimp only [numOf] at hI
          clear hx hlk
          go_wp2_with fail
          refine hI.mono ?_
          rintro e w5 ⟨rfl, rfl⟩
          go_wp2_with fail
          go_roundw
          case rel => exact ⟨k' + 1, by omega, by go_num, trivial⟩
          case measure => simp [intOf]; omega
        · have hL := Len_calls wr _ _ HC4.out.cz
          rw [HIL.out] at hL
          go_wp2_with fail
          refine hL.mono ?_
          rintro e w5 ⟨rfl, rfl⟩
          go_wp2_with fail
          refine (known_calls _).mono ?_
          rintro e w5 ⟨rfl, b5⟩
          go_wp2_with fail
          go_ret
          exact ⟨rfl, HB4.out.trans (b5.mono HB4.out.size)⟩
end Go.Proofs.Ytodccdfpoocolaa
