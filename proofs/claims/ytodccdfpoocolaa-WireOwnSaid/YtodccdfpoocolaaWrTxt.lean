/- Walk of WireTexts. -/
import Derived.Test.YtodccdfpoocolaaWrNmb
set_option linter.unusedVariables false
namespace Go.Proofs.Ytodccdfpoocolaa
open Go.RowKit Go.Lib

theorem rfS_at {w : World} {A : Option Addr} {n : Nat} {xs : List ByteArray} (h : Rf flS w A n xs) {j : Nat} (hj : j < n) : ∃ b off x, A = some ⟨b, off, none⟩ ∧ xs[j]? = some x ∧ w.cell? ⟨b, off + j, none⟩ = some (.string x) := by
  obtain ⟨b, off, x, rfl, hx, hc⟩ := h.at_ hj
  refine ⟨b, off, x, rfl, hx, ?_⟩
  have := hc 0 _ rfl
  simpa [flS] using this
theorem strs_size {w : World} {A : Option Addr} {n : Nat} {xs : List ByteArray} (h : RdS Kd.str w A n xs) : ∀ x ∈ xs, x.size ≤ 140737488351232 := by
  intro t ht
  obtain ⟨j, hj⟩ := List.mem_iff_getElem?.1 ht
  have hl := (List.getElem?_eq_some_iff.1 hj).1
  obtain ⟨b, off, _, hc⟩ := h.2.2 (by have := h.1; omega)
  obtain ⟨cs, hK, _⟩ := hc j t hj
  exact hK.2
def txtL (xs : List ByteArray) : Nat := ((xs.map It.txt).flatMap thingB).length
theorem txtL_snoc {xs : List ByteArray} {k : Nat} {x : ByteArray} (hx : xs[k]? = some x) : txtL (xs.take (k + 1)) = txtL (xs.take k) + (2 + x.size) := by
  unfold txtL
  rw [List.take_add_one, hx]
  simp [thingB, strB_len]
  omega
set_option maxHeartbeats 8000000 in
theorem texts_calls (A : Option Addr) (n c : Nat) (xs : List ByteArray) (w : World) (hA : Rf flS w A n xs) (hs : ∀ x ∈ xs, x.size ≤ 140737488351232) :
    Calls Try.prog 11 #[.slice A n c] w fun e w' => e = .returned (.bool true) ∧ Below w.heap.size w w' := by
  have hn0 := hA.2.1
  by_cases h1 : (20 : Int) < n
  · go_enter Try.func11, Try.ntmps11
    go_wp2
    go_ret
    exact ⟨rfl, Below.refl _ _⟩
  have hxl := Lib.hid hA.1
  have HA := Lib.hid hA
  have HS := Lib.hid hs
  clear hA hs
  go_enter Try.func11, Try.ntmps11
  go_wp2_with fail
  refine (boxNew_calls w).mono ?_
  rintro e w1 ⟨b, rfl, hc, hb1⟩
  have HC1 := Lib.hid hc
  have HB1 := Lib.hid hb1
  clear hc hb1
  go_wp2_with fail
  go_loopw [4, 5] (fun t i wr => ∃ (k T : Nat), k ≤ n ∧ i = .int .i64 k ∧ t = .int .i64 (T : Nat) ∧ T ≤ 3000 ∧ Hid (T = 7 + txtL (xs.take k)) ∧ Hid (∀ x ∈ xs.take k, x.size ≤ 200) ∧ Hid (∃ v, Cr wr w.heap.size b v ((xs.take k).map It.txt)) ∧ Hid (Below w.heap.size w wr)) (fun _ i _ => n - (intOf i).toNat)
  case atStart => exact ⟨0, 7, by omega, rfl, rfl, by omega, Lib.hid rfl, Lib.hid (by simp), Lib.hid ⟨_, HC1.out⟩, HB1⟩
  case round =>
    obtain ⟨k, T, hk, rfl, rfl, hT, hT2, hz, hC, hB⟩ := hrel
    obtain ⟨v, hcr⟩ := hC.out
    have HC := Lib.hid hcr
    clear hcr
    by_cases hlt : k < n
    · obtain ⟨bl, ol, x, rfl, hx, c0⟩ := rfS_at HA.out hlt
      have c0 := cell_keep hB.out (cell_lt c0) c0
      have hxs := HS.out x (List.mem_of_getElem? hx)
      have HX := Lib.hid hx
      clear hx
      by_cases h200 : (200 : Int) < (x.size : Int)
      · go_wp2_with fail
        go_ret
        exact ⟨rfl, hB.out⟩
      have hw : IntKind.i64.wrap ((T : Int) + 2 + (x.size : Int)) = ((T + (2 + x.size) : Nat) : Int) := by rw [IntKind.wrap_i64]; omega
      by_cases h3000 : (3000 : Int) < ((T + (2 + x.size) : Nat) : Int)
      · go_wp2_with fail
        go_ret
        exact ⟨rfl, hB.out⟩
      have h3' : T + (2 + x.size) ≤ 3000 := by omega
      have HT3 := Lib.hid (show T + (2 + x.size) = 7 + txtL (xs.take (k + 1)) by rw [txtL_snoc HX.out, hT2.out]; omega)
      have HX2 := Lib.hid (show x.size ≤ 200 by omega)
      generalize hTT : T + (2 + x.size) = T2 at *
      go_wp2_with fail
      refine (AddText_calls x wr w.heap.size b v _ HC.out hB.out.size).mono ?_
      rintro e w2 (⟨hl, _, _⟩ | ⟨_, rfl, v1, hc2, ho, _⟩)
      · simp at hl; omega
      have HC3 := Lib.hid (show Cr w2 w.heap.size b v1 ((xs.take (k + 1)).map It.txt) from by rw [List.take_add_one, HX.out]; simpa using hc2)
      have HB3 := Lib.hid (hB.out.trans (ho.below hB.out.size (fun q hq hs => (HC.out.foot q hs).1)))
      clear hc2 ho
      go_wp2_with fail
      go_roundw
      case rel => exact ⟨k + 1, T2, by omega, by go_num, by go_num, by omega, HT3, Lib.hid (fun y hy => by
        rw [List.take_add_one, HX.out] at hy
        rcases List.mem_append.1 hy with h | h
        · exact hz.out y h
        · have : y = x := by simpa using h
          rw [this]; exact HX2.out), Lib.hid ⟨_, HC3.out⟩, HB3⟩
      case measure => simp [intOf]; omega
    · have hkn : xs.take k = xs := List.take_of_length_le (by have := hxl.out; omega)
      have hT3 := hT2.out
      have hz2 := hz.out
      have hcc := HC.out
      rw [hkn] at hT3 hz2 hcc
      have HCC := Lib.hid hcc
      have hil : (xs.map It.txt).length = n := by rw [List.length_map]; exact hxl.out
      have hbd : (bodyB (xs.map It.txt)).length = T - 6 := by
        unfold bodyB
        rw [List.length_cons]
        unfold txtL at hT3
        omega
      have hok : (xs.map It.txt).all okB = true := by
        rw [List.all_eq_true]
        intro y hy
        obtain ⟨z, hz, rfl⟩ := List.mem_map.1 hy
        have := hz2 z hz
        simp only [okB, decide_eq_true_eq]
        omega
      have hT7 : 7 ≤ T := by omega
      have hpk := packB_some hok (by rw [hbd]; omega)
      have HPK := Lib.hid hpk
      have HUN := Lib.hid (unpack_pack hpk (by rw [hil]; omega) (fun y hy => by
        obtain ⟨z, hz, rfl⟩ := List.mem_map.1 hy
        exact hz2 z hz))
      have HPB := Lib.hid (pack_byte hpk)
      have hlen : (headB (bodyB (xs.map It.txt)) ++ bodyB (xs.map It.txt)).length = T := by rw [List.length_append, headB_len, hbd]; omega
      have HLEN := Lib.hid hlen
      generalize headB (bodyB (xs.map It.txt)) ++ bodyB (xs.map It.txt) = bs at *
      have HBD := Lib.hid (show (bodyB (xs.map It.txt)).length ≤ 400000 by rw [hbd]; omega)
      have HIL := Lib.hid hil
      clear hkn hbd hpk hlen hil HC hC hT3 hz2 hcc hok
      go_wp2_with fail
      refine (Pack_calls wr b (xs.map It.txt) HCC.out.cz HBD.out (by rw [HIL.out]; omega)).mono ?_
      rintro e w3 (⟨ps, v3, hp, rfl, o3, b3⟩ | ⟨hp, _⟩)
      rotate_left
      · rw [HPK.out] at hp; cases hp
      have hps : ps = bs := by rw [HPK.out] at hp; exact (Option.some.inj hp).symm
      subst hps
      obtain ⟨A3, c3, rfl, R3, hl3, hl4⟩ := o3.readc (by decide)
      rw [HLEN.out] at R3 hl3 ⊢
      have HB3 := Lib.hid (hB.out.trans (b3.mono hB.out.size))
      have HC3 := Lib.hid (HCC.out.stay b3)
      have HU := Lib.hid (Unpack_calls w3 A3 T c3 ps R3 HPB.out hl3 hl4 (by omega))
      rw [HUN.out] at HU
      clear o3 b3 R3 hl3 hl4 hp
      go_wp2_with fail
      refine HU.out.mono ?_
      rintro e w4 (⟨its, d, v4, hi, rfl, hc4, b4⟩ | ⟨hi, _⟩)
      rotate_left
      · cases hi
      injection hi with hi
      subst hi
      have HB4 := Lib.hid (HB3.out.trans (b4.mono HB3.out.size))
      have HC4 := Lib.hid (HC3.out.stay b4)
      have HD4 := Lib.hid hc4
      clear hc4 b4 HU
      go_wp2_with fail
      refine (Same_calls w4 _ _ _ _ HC4.out.cz HD4.out.cz).mono ?_
      rintro e w5 ⟨rfl, b5⟩
      rw [show decide (xs.map It.txt = xs.map It.txt) = true from decide_eq_true rfl]
      have HB5 := Lib.hid (HB4.out.trans (b5.mono HB4.out.size))
      clear b5
      go_wp2_with fail
      refine (known_calls _).mono ?_
      rintro e w6 ⟨rfl, b6⟩
      go_wp2_with fail
      go_ret
      exact ⟨rfl, HB5.out.trans (b6.mono HB5.out.size)⟩
end Go.Proofs.Ytodccdfpoocolaa
