/- The law's long and made. -/
import Derived.Test.YtodccdfpoocolaaWrKn
set_option linter.unusedVariables false
namespace Go.Proofs.Ytodccdfpoocolaa
open Go.RowKit Go.Lib

/-- No text is beyond reach. -/
def Sz (xs : List Th) : Prop := ∀ t ∈ xs, t.s.size ≤ 140737488351232
theorem sz_of {w : World} {A : Option Addr} {n : Nat} {xs : List Th} (h : RdS kTh w A n xs) : Sz xs := by
  intro t ht
  obtain ⟨j, hj⟩ := List.mem_iff_getElem?.1 ht
  have hl := (List.getElem?_eq_some_iff.1 hj).1
  obtain ⟨b, off, _, hc⟩ := h.2.2 (by have := h.1; omega)
  obtain ⟨cs, hK, _⟩ := hc j t hj
  obtain ⟨_, _, _, _, _, _, _, _, _, _, _, ⟨_, h3⟩, _⟩ := hK
  exact h3
def tl (xs : List Th) : Nat := (xs.map fun t => 1 + t.s.size).sum
theorem tl_snoc {xs : List Th} {k : Nat} {x : Th} (hx : xs[k]? = some x) : tl (xs.take (k + 1)) = tl (xs.take k) + (1 + x.s.size) := by
  unfold tl
  rw [List.take_add_one, hx]
  simp
set_option maxHeartbeats 1000000 in
theorem long8_calls (A : Option Addr) (n c : Nat) (xs : List Th) (w : World) (hA : Rf flTh w A n xs) (hs : Sz xs) :
    Calls Try.prog 17 #[.slice A n c] w fun e w' => (e = .returned (.bool true) ∨ (e = .returned (.bool false) ∧ tl xs ≤ 9000 ∧ n ≤ 100)) ∧ Below w.heap.size w w' := by
  have h1 := hA.1
  have hn := hA.2.1
  have HS := Lib.hid hs
  clear hs
  go_enter Try.func17, Try.ntmps17
  go_wp2_with fail
  go_loopw [3, 4] (fun m i wr => ∃ k : Nat, k ≤ n ∧ m = .int .i64 (tl (xs.take k) : Nat) ∧ i = .int .i64 k ∧ Hid (tl (xs.take k) ≤ 9001 + 140737488351232) ∧ Below w.heap.size w wr) (fun m i _ => n - (intOf i).toNat)
  case atStart => exact ⟨0, by omega, rfl, rfl, Lib.hid (by simp [tl]), Below.refl _ _⟩
  case round =>
    obtain ⟨k, hk, rfl, rfl, hT, hbr⟩ := hrel
    have hT := hT.out
    obtain ⟨T, hTT⟩ : ∃ T, T = tl (xs.take k) := ⟨_, rfl⟩
    rw [← hTT] at hT ⊢
    have HTT := Lib.hid hTT
    clear hTT
    by_cases hlt : k < n
    · by_cases hs : (T : Int) ≤ 9000
      · obtain ⟨bl, ol, x, rfl, hx, c0, c1, c2, c3⟩ := rfT_at hA hlt
        have c2 := cell_keep hbr (cell_lt c2) c2
        have hxs := HS.out x (List.mem_of_getElem? hx)
        have HX := Lib.hid hx
        clear c0 c1 c3 hA hx
        have hw1 : IntKind.i64.wrap ((T : Int) + 1) = (T : Int) + 1 := by rw [IntKind.wrap_i64]; omega
        have hw2 : IntKind.i64.wrap ((T : Int) + 1 + (x.s.size : Int)) = ((T + (1 + x.s.size) : Nat) : Int) := by rw [IntKind.wrap_i64]; omega
        go_wp2_with fail
        go_roundw
        case rel => exact ⟨k + 1, by omega, by rw [tl_snoc HX.out, ← HTT.out]; go_num, by go_num, Lib.hid (by rw [tl_snoc HX.out, ← HTT.out]; omega), hbr⟩
        case measure => simp [intOf]; omega
      · go_wp2_with fail
        go_ret
        exact ⟨.inl rfl, hbr⟩
    · have hkn : k = n := by omega
      have hTl : T = tl xs := by rw [HTT.out, List.take_of_length_le (by omega)]
      have HTl := Lib.hid hTl
      clear hTl
      by_cases hs : (9000 : Int) < (T : Int)
      · go_wp2_with fail
        go_ret
        exact ⟨.inl rfl, hbr⟩
      · by_cases h100 : (100 : Int) < (n : Int)
        · go_wp2_with fail
          go_ret
          exact ⟨.inl rfl, hbr⟩
        · go_wp2_with fail
          go_ret
          exact ⟨.inr ⟨rfl, by rw [← HTl.out]; omega, by omega⟩, hbr⟩
theorem plain_its (xs : List Th) : (xs.map plainT).map itOf = xs.map itOf := by
  rw [List.map_map]
  exact List.map_congr_left fun x _ => itOf_plain x
set_option maxHeartbeats 4000000 in
theorem made8_calls (A : Option Addr) (n c : Nat) (xs : List Th) (w : World) (hA : Rf flTh w A n xs) (hn : n ≤ 100) :
    Calls Try.prog 18 #[.slice A n c] w fun e w' => ∃ b b', e = .returned (.tuple #[.pointer (some ⟨b, 0, none⟩), .pointer (some ⟨b', 0, none⟩)]) ∧ Pr w b b' (xs.map itOf) (xs.map plainT) w' := by
  have h1 := hA.1
  have HA := Lib.hid hA
  have H1 := Lib.hid h1
  clear hA h1
  go_enter Try.func18, Try.ntmps18
  go_wp2_with fail
  refine (boxNew_calls w).mono ?_
  rintro e w1 ⟨b, rfl, hc, hb1⟩
  have hP : Pr w b w1.heap.size [] [] (w1.alloc (.cells #[.slice none 0 0] 72)) := ⟨⟨_, hc.stay (below_new _ _)⟩, ⟨_, rcNew w1 _ hb1.size⟩, hb1.alloc hb1.size _⟩
  have HP := Lib.hid hP
  clear hc hb1 hP
  go_wp2_with fail
  go_loopw [6] (fun i wr => ∃ k : Nat, k ≤ n ∧ i = .int .i64 k ∧ Hid (Pr w b w1.heap.size ((xs.take k).map itOf) ((xs.take k).map plainT) wr)) (fun i _ => n - (intOf i).toNat)
  case atStart => exact ⟨0, by omega, rfl, HP⟩
  case round =>
    obtain ⟨k, hk, rfl, hP⟩ := hrel
    by_cases hlt : k < n
    · obtain ⟨bl, ol, x, rfl, hx, c0, c1, c2, c3⟩ := rfT_at HA.out hlt
      have l0 : bl < w.heap.size := cell_lt c0
      have k0 := fun W (hW : Below w.heap.size w W) => (hW.cell (p := ⟨bl, ol + k * 4, none⟩) l0).trans c0
      have k1 := fun W (hW : Below w.heap.size w W) => (hW.cell (p := ⟨bl, ol + k * 4 + 1, none⟩) l0).trans c1
      have k2 := fun W (hW : Below w.heap.size w W) => (hW.cell (p := ⟨bl, ol + k * 4 + 2, none⟩) l0).trans c2
      have k3 := fun W (hW : Below w.heap.size w W) => (hW.cell (p := ⟨bl, ol + k * 4 + 3, none⟩) l0).trans c3
      have K0 := Lib.hid k0
      have K1 := Lib.hid k1
      have K2 := Lib.hid k2
      have K3 := Lib.hid k3
      have d0 := k0 _ hP.out.below
      have d1 := k1 _ hP.out.below
      have d2 := k2 _ hP.out.below
      have d3 := k3 _ hP.out.below
      have HX := Lib.hid hx
      have hl1 := Lib.hid (show ((xs.take k).map itOf).length < 100 by simp; omega)
      have hl2 := Lib.hid (show ((xs.take k).map plainT).length < 100 by simp; omega)
      clear hx c0 c1 c2 c3 k0 k1 k2 k3
      have hsn : (xs.take (k + 1)).map itOf = (xs.take k).map itOf ++ [itOf x] ∧ (xs.take (k + 1)).map plainT = (xs.take k).map plainT ++ [plainT x] := by
        rw [List.take_add_one, HX.out]; simp
      have HSN := Lib.hid hsn
      clear hsn
      by_cases hk1 : x.k = 1
      · have b1 : (x.k == 1) = true := by simp [hk1]
        have HE := Lib.hid (show itOf x = .num x.n ∧ plainT x = ⟨1, x.n, .empty, false⟩ from ⟨if_pos hk1, if_pos hk1⟩)
        clear hk1
        go_wp2_with fail
        refine (hP.out.int _).mono ?_
        rintro e w4 ⟨rfl, hP4⟩
        rw [addTo_fit _ hl1.out, decide_eq_true hl1.out] at *
        have e1 := K1.out _ hP4.below
        have HP4 := Lib.hid hP4
        clear hP4
        go_wp2_with fail
        refine (HP4.out.thing ⟨1, _, .empty, false⟩).mono ?_
        rintro e w5 ⟨rfl, hP5⟩
        rw [addTo_fit _ hl2.out] at hP5
        have HP5 := Lib.hid hP5
        clear hP5
        go_wp2_with fail
        go_roundw
        case rel => exact ⟨k + 1, by omega, by go_num, Lib.hid (by rw [HSN.out.1, HSN.out.2, HE.out.1, HE.out.2]; exact HP5.out)⟩
        case measure => simp [intOf]; omega
      · have b1 : (x.k == 1) = false := by simp [hk1]
        by_cases hk2 : x.k = 2
        · have b2 : (x.k == 2) = true := by simp [hk2]
          have HE := Lib.hid (show itOf x = .txt x.s ∧ plainT x = ⟨2, 0, x.s, false⟩ from ⟨(if_neg hk1).trans (if_pos hk2), (if_neg hk1).trans (if_pos hk2)⟩)
          clear hk1 hk2
          go_wp2_with fail
          refine (hP.out.txt _).mono ?_
          rintro e w4 ⟨rfl, hP4⟩
          rw [addTo_fit _ hl1.out, decide_eq_true hl1.out] at *
          have e1 := K2.out _ hP4.below
          have HP4 := Lib.hid hP4
          clear hP4
          go_wp2_with fail
          refine (HP4.out.thing ⟨2, 0, _, false⟩).mono ?_
          rintro e w5 ⟨rfl, hP5⟩
          rw [addTo_fit _ hl2.out] at hP5
          have HP5 := Lib.hid hP5
          clear hP5
          go_wp2_with fail
          go_roundw
          case rel => exact ⟨k + 1, by omega, by go_num, Lib.hid (by rw [HSN.out.1, HSN.out.2, HE.out.1, HE.out.2]; exact HP5.out)⟩
          case measure => simp [intOf]; omega
        · have b2 : (x.k == 2) = false := by simp [hk2]
          have HE := Lib.hid (show itOf x = .tru x.b ∧ plainT x = ⟨3, 0, .empty, x.b⟩ from ⟨(if_neg hk1).trans (if_neg hk2), (if_neg hk1).trans (if_neg hk2)⟩)
          clear hk1 hk2
          go_wp2_with fail
          refine (hP.out.tru _).mono ?_
          rintro e w4 ⟨rfl, hP4⟩
          rw [addTo_fit _ hl1.out, decide_eq_true hl1.out] at *
          have e1 := K3.out _ hP4.below
          have HP4 := Lib.hid hP4
          clear hP4
          go_wp2_with fail
          refine (HP4.out.thing ⟨3, 0, .empty, _⟩).mono ?_
          rintro e w5 ⟨rfl, hP5⟩
          rw [addTo_fit _ hl2.out] at hP5
          have HP5 := Lib.hid hP5
          clear hP5
          go_wp2_with fail
          go_roundw
          case rel => exact ⟨k + 1, by omega, by go_num, Lib.hid (by rw [HSN.out.1, HSN.out.2, HE.out.1, HE.out.2]; exact HP5.out)⟩
          case measure => simp [intOf]; omega
    · have hkn : xs.take k = xs := List.take_of_length_le (by have := H1.out; omega)
      have HK := Lib.hid hkn
      clear hkn
      go_wp2_with fail
      go_ret2
      exact ⟨_, _, rfl, by have := hP.out; rw [HK.out] at this; exact this⟩
end Go.Proofs.Ytodccdfpoocolaa
