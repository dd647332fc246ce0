/- The document's Unpack. -/
import Derived.Test.YtodccdfpoocolaaWrRU
set_option linter.unusedVariables false
namespace Go.Proofs.Ytodccdfpoocolaa
open Go.RowKit Go.Lib

def RUnPost (w : World) (r : Option (List Th)) (e : Ending) (w' : World) : Prop :=
  (∃ ts b v, r = some ts ∧ e = .returned (.tuple #[.pointer (some ⟨b, 0, none⟩), .int .i64 0]) ∧ Rc w' w.heap.size b v ts ∧ Below w.heap.size w w') ∨
  (r = none ∧ e = .returned (.tuple #[.pointer none, .int .i64 2]) ∧ Below w.heap.size w w')
theorem refU_1 {bs : List Nat} (h : bs.length < 7 ∨ 4000 < bs.length - 6) : refU bs = none := if_pos h
theorem refU_2 {bs : List Nat} (h : numB (bs.take 4) ≠ crcAll [bs.drop 6] ∨ numB ((bs.drop 4).take 2) ≠ (bs.drop 6).length) : refU bs = none := by
  unfold refU
  split
  · rfl
  · first | rfl | exact if_pos h
theorem refU_3 {bs : List Nat} (h1 : ¬ (bs.length < 7 ∨ 4000 < bs.length - 6)) (h2 : numB (bs.take 4) = crcAll [bs.drop 6]) (h3 : numB ((bs.drop 4).take 2) = (bs.drop 6).length) :
    refU bs = match parseR (bs.getD 6 0) [] (bs.drop 7) with
    | none => none
    | some (ts, r) => if r.length = 0 then some ts else none := by
  unfold refU
  rw [if_neg h1, if_neg (by rw [h2, h3]; simp)]
  rfl
theorem run_from (b o len c l : Nat) (hl : l ≤ len) (W : World) :
    (Instr.slice 25 (.slice (some ⟨b, o, none⟩) len c) (some (.int .i64 (l : Int))) none none).run Try.prog W = .ok (.slice (cutA (some ⟨b, o, none⟩) c l) (len - l) (c - l)) W := by
  have ht : Try.prog.underlying 25 = some (.slice (Try.prog.elem 25)) := by simp [Program.elem, Try.underlying25]
  have he : Try.prog.elem 25 = 5 := by simp [Program.elem, Try.underlying25]
  have hz : (Go.sizeOf 5).run Try.prog W = .ok 1 W := by
    obtain ⟨i0, hi0, hz0, hz1, hz2⟩ := info_parts info_b
    simp [sizeOf, typeInfo, hi0, hz1, go_sem]
  have e1 : ((l : Int)).toNat = l := by omega
  rw [run_slice_l W 25 _ _ _ ht .i64 (l : Int) (by omega) (by omega), he, hz, e1]
  unfold cutA
  by_cases h : c = l
  · simp [Result.andThen, sliced, h]
  · simp [Result.andThen, sliced, h, Addr.add]
set_option maxRecDepth 100000 in
set_option maxHeartbeats 8000000 in
theorem RefUn_calls (w : World) (A : Option Addr) (len c : Nat) (bs : List Nat) (hR : Rf flB w A len bs) (hx : ∀ x ∈ bs, x < 256) (hlc : len ≤ c) (hc2 : c ≤ 9223372036854775807) :
    Calls Try.prog 21 #[.slice A len c] w (RUnPost w (refU bs)) := by
  have hbl : bs.length = len := hR.1
  have hm := hR.2.1
  by_cases h7 : (len : Int) < 7
  · have HN := Lib.hid (refU_1 (bs := bs) (.inl (by omega)))
    clear hR hx
    go_enter Try.func21, Try.ntmps21
    go_wp2_with fail
    go_ret2
    exact .inr ⟨HN.out, rfl, Below.refl _ _⟩
  have hw6 : IntKind.i64.wrap ((len : Int) - 6) = (len : Int) - 6 := by rw [IntKind.wrap_i64]; omega
  by_cases h4 : (4000 : Int) < (len : Int) - 6
  · have HN := Lib.hid (refU_1 (bs := bs) (.inr (by omega)))
    clear hR hx
    go_enter Try.func21, Try.ntmps21
    go_wp2_with fail
    go_ret2
    exact .inr ⟨HN.out, rfl, Below.refl _ _⟩
  obtain ⟨bl, off, x0, rfl, _, _⟩ := rfB_at hR (j := 0) (by omega)
  have hc6 : ¬ c = 6 := by omega
  have hc4 : ¬ c = 4 := by omega
  have hq1 : (6 : Int) ≤ (len : Int) := by omega
  have hq2 : (len : Int) ≤ (c : Int) := by omega
  have hq3 : (4 : Int) ≤ (c : Int) := by omega
  have hq4 : (6 : Int) ≤ (c : Int) := by omega
  have hR6 : Rf flB w (some ⟨bl, off + 6, none⟩) (len - 6) (bs.drop 6) := by
    have := hR.cutB 6 (by omega) hlc
    rwa [show cutA (some ⟨bl, off, none⟩) c 6 = some ⟨bl, off + 6, none⟩ from if_neg hc6] at this
  have hR4 : Rf flB w (some ⟨bl, off + 4, none⟩) 2 ((bs.drop 4).take 2) := by
    have := (hR.cutB 4 (by omega) hlc).takeB (k := 2) (by omega)
    rwa [show cutA (some ⟨bl, off, none⟩) c 4 = some ⟨bl, off + 4, none⟩ from if_neg hc4] at this
  have hR0 : Rf flB w (some ⟨bl, off, none⟩) 4 (bs.take 4) := hR.takeB (by omega)
  have hx6 : ∀ x ∈ bs.drop 6, x < 256 := fun x h => hx x (List.mem_of_mem_drop h)
  have K1 := Lib.hid (RefNum_calls w _ 4 c _ hR0 (fun x h => hx x (List.mem_of_mem_take h)) (by omega))
  have K2 := Lib.hid (Ref_calls _ (len - 6) (c - 6) _ w (rdb_of hR6 hx6))
  have K3 := Lib.hid (RefNum_calls w _ 2 (c - 4) _ hR4 (fun x h => hx x (List.mem_of_mem_drop (List.mem_of_mem_take h))) (by omega))
  have hcr := crcAll_u32 [bs.drop 6]
  have hl6 : (bs.drop 6).length = len - 6 := by rw [List.length_drop, hbl]
  have HL6 := Lib.hid hl6
  have HBL := Lib.hid hbl
  have HR := Lib.hid hR
  have HX := Lib.hid hx
  clear hR hx hR6 hR4 hR0 hx6 hl6 hbl
  by_cases hs1 : numB (bs.take 4) = crcAll [bs.drop 6]
  rotate_left
  · have HN := Lib.hid (refU_2 (bs := bs) (.inl hs1))
    have hne : ((numB (bs.take 4) : Int) != (crcAll [bs.drop 6] : Int)) = true := by
      rw [bne_iff_ne]; intro h; exact hs1 (by exact_mod_cast h)
    generalize numB (bs.take 4) = z at *
    generalize crcAll [bs.drop 6] = y at *
    go_enter Try.func21, Try.ntmps21
    go_wp2_with fail
    refine K1.out.mono ?_
    rintro e w1 ⟨rfl, rfl⟩
    go_wp2_with fail
    refine K2.out.mono ?_
    rintro e w1 ⟨rfl, rfl⟩
    go_wp2_with fail
    go_ret2
    exact .inr ⟨HN.out, rfl, Below.refl _ _⟩
  by_cases hs2 : numB ((bs.drop 4).take 2) = (bs.drop 6).length
  rotate_left
  · have HN := Lib.hid (refU_2 (bs := bs) (.inr hs2))
    have hu6 : IntKind.u64.wrap ((len : Int) - 6) = (len : Int) - 6 := by rw [IntKind.wrap_u64]; omega
    have hne : ((numB ((bs.drop 4).take 2) : Int) != (len : Int) - 6) = true := by
      rw [bne_iff_ne]; intro h; exact hs2 (by have := HL6.out; omega)
    rw [hs1] at K1
    generalize numB ((bs.drop 4).take 2) = z at *
    generalize crcAll [bs.drop 6] = y at *
    go_enter Try.func21, Try.ntmps21
    go_wp2_with fail
    refine K1.out.mono ?_
    rintro e w1 ⟨rfl, rfl⟩
    go_wp2_with fail
    refine K2.out.mono ?_
    rintro e w1 ⟨rfl, rfl⟩
    go_wp2_with fail
    refine K3.out.mono ?_
    rintro e w1 ⟨rfl, rfl⟩
    go_wp2_with fail
    go_ret2
    exact .inr ⟨HN.out, rfl, Below.refl _ _⟩
  have HN := Lib.hid (refU_3 (bs := bs) (by have := HBL.out; omega) hs1 hs2)
  have hu6 : IntKind.u64.wrap ((len : Int) - 6) = (len : Int) - 6 := by rw [IntKind.wrap_u64]; omega
  have hl62 : (((bs.drop 6).length : Nat) : Int) = (len : Int) - 6 := by have := HL6.out; omega
  rw [hs1] at K1
  rw [hs2, hl62] at K3
  obtain ⟨N, hN⟩ : ∃ N, N = bs.getD 6 0 := ⟨_, rfl⟩
  have c6 : w.cell? ⟨bl, off + 6, none⟩ = some (.int .u8 (N : Int)) := by
    obtain ⟨b', o', x, e', hx6, hcell⟩ := rfB_at HR.out (j := 6) (by omega)
    cases e'
    rw [hN, List.getD_eq_getElem?_getD, hx6]
    exact hcell
  have hN256 : N < 256 := by
    obtain ⟨b', o', x, e', hx6, hcell⟩ := rfB_at HR.out (j := 6) (by omega)
    rw [hN, List.getD_eq_getElem?_getD, hx6]
    exact HX.out x (List.mem_of_getElem? hx6)
  have HNN := Lib.hid hN
  clear hN hs1 hs2 hl62
  generalize crcAll [bs.drop 6] = y at *
  go_enter Try.func21, Try.ntmps21
  go_wp2_with fail
  refine K1.out.mono ?_
  rintro e w1 ⟨rfl, rfl⟩
  go_wp2_with fail
  refine K2.out.mono ?_
  rintro e w1 ⟨rfl, rfl⟩
  go_wp2_with fail
  refine K3.out.mono ?_
  rintro e w1 ⟨rfl, rfl⟩
  have hq5 : (0 : Int) < ((len - 6 : Nat) : Int) := by omega
  have hq6 : ((len : Int) - 6 != ((len - 6 : Nat) : Int)) = false := by simp; omega
  have c6' := cell_stay (below_new w (.cells #[.slice none 0 0] 72)) c6
  have hfrom : ∀ W : World, (Instr.slice 25 (.slice (some ⟨bl, off + 6, none⟩) (len - 6) (c - 6)) (some (.int .i64 1)) none none).run Try.prog W = .ok (.slice (cutA (some ⟨bl, off + 6, none⟩) (c - 6) 1) (len - 6 - 1) (c - 6 - 1)) W := fun W => run_from bl (off + 6) (len - 6) (c - 6) 1 (by omega) W
  have hR7 : Rf flB w (cutA (some ⟨bl, off + 6, none⟩) (c - 6) 1) (bs.drop 7).length (bs.drop 7) := by
    have h1 := (HR.out.cutB 6 (by omega) hlc)
    rw [show cutA (some ⟨bl, off, none⟩) c 6 = some ⟨bl, off + 6, none⟩ from if_neg hc6] at h1
    have h2 := h1.cutB (c := c - 6) 1 (by omega) (by omega)
    rw [List.drop_drop] at h2
    have h3 : len - 6 - 1 = (bs.drop 7).length := by rw [List.length_drop]; have := HBL.out; omega
    rw [h3] at h2
    exact h2
  have hl7 : len - 6 - 1 = (bs.drop 7).length := by rw [List.length_drop]; have := HBL.out; omega
  have HR7 := Lib.hid hR7
  have HX7 := Lib.hid (show ∀ x ∈ bs.drop 7, x < 256 from fun x h => HX.out x (List.mem_of_mem_drop h))
  have HL7 := Lib.hid hl7
  have hP : Rc (w.alloc (.cells #[.slice none 0 0] 72)) w.heap.size w.heap.size (.slice none 0 0) [] := rcNew w _ (Nat.le_refl _)
  have HP := Lib.hid hP
  have HB0 := Lib.hid (below_new w (.cells #[.slice none 0 0] 72))
  generalize cutA (some ⟨bl, off + 6, none⟩) (c - 6) 1 = A7 at *
  clear hR7 hl7 hP
  have HL8 := Lib.hid (show (bs.drop 7).length ≤ c - 6 - 1 ∧ c - 6 - 1 ≤ 9223372036854775807 from ⟨by rw [← HL7.out]; omega, by omega⟩)
  generalize c - 6 - 1 = c7 at *
  generalize len - 6 - 1 = L7 at *
  go_wp2_with fail
  clear hfrom
  go_loopw [4, 7] (fun rv i wr => ∃ (j : Nat) (acc : List Th) (rest : List Nat) (A' : Option Addr) (c' : Nat), j ≤ N ∧ i = .int .i64 j ∧ rv = .slice A' rest.length c' ∧ Hid (Rf flB w A' rest.length rest ∧ (∀ x ∈ rest, x < 256) ∧ rest.length ≤ c' ∧ c' ≤ 9223372036854775807) ∧
    Hid ((∃ v, Rc wr w.heap.size w.heap.size v acc) ∧ Below w.heap.size w wr) ∧ Hid (acc.length = j ∧ j ≤ 100 ∧ parseR N [] (bs.drop 7) = parseR (N - j) acc rest)) (fun _ i _ => N - (intOf i).toNat)
  case atStart => exact ⟨0, [], bs.drop 7, A7, c7, by omega, rfl, by rw [HL7.out], Lib.hid ⟨HR7.out, HX7.out, HL8.out.1, HL8.out.2⟩, Lib.hid ⟨⟨_, HP.out⟩, HB0.out⟩, Lib.hid ⟨rfl, by omega, rfl⟩⟩
  case round =>
    obtain ⟨j, acc, rest, A', c', hj, rfl, rfl, hr1, hr2, hr3⟩ := hrel
    obtain ⟨v, hrc⟩ := hr2.out.1
    have HRC := Lib.hid hrc
    clear hrc
    by_cases hlt : j < N
    · have hT := RefTk_calls wr A' rest.length c' rest (hr1.out.1.stay hr2.out.2) hr1.out.2.1 hr1.out.2.2.1 hr1.out.2.2.2
      have hpar : parseR N [] (bs.drop 7) = parseR ((N - (j + 1)) + 1) acc rest := by rw [hr3.out.2.2, show N - j = (N - (j + 1)) + 1 by omega]
      have HPAR := Lib.hid hpar
      clear hpar
      unfold RTkPost at hT
      cases ht : takeR rest with
      | none =>
        have htk : tkR rest = (⟨0, 0, .empty, false⟩, 0) := by unfold tkR; rw [ht]; rfl
        have HU : Hid (refU bs = none) := Lib.hid (by rw [HN.out, ← HNN.out, HPAR.out, parseR, ht])
        rw [htk] at hT
        dsimp only [Th.val] at hT
        clear ht htk
        go_wp2_with fail
        refine hT.mono ?_
        rintro e w2 ⟨rfl, b2⟩
        have HB2 := Lib.hid ((hr2.out.2.trans (b2.mono hr2.out.2.size)).alloc (o := .cells #[.int .i64 0, .int .i64 0, .string .empty, .bool false] 70) (by have := hr2.out.2.size; have := b2.size; omega))
        clear b2 hT
        go_wp2_with fail
        go_ret2
        exact .inr ⟨HU.out, rfl, HB2.out⟩
      | some tk =>
        obtain ⟨t, k⟩ := tk
        have htk : tkR rest = (t, k) := by unfold tkR; rw [ht]; rfl
        obtain ⟨i1, i2, i3, i4, i5, i6⟩ := takeR_inv hr1.out.2.1 ht
        clear i1 i2 i5 i6
        obtain ⟨b', o', x, rfl, hx0, hc0⟩ := rfB_at hr1.out.1 (j := 0) (by omega)
        have hk0 : ((k : Int) == 0) = false := by simp; omega
        have I3 := Lib.hid i3
        clear hx0 hc0 i3 i4
        rw [htk] at hT
        dsimp only [Th.val] at hT
        have HTK := Lib.hid ht
        have HTT := Lib.hid hT
        clear ht htk hT
        go_wp2_with fail
        refine HTT.out.mono ?_
        rintro e w2 ⟨rfl, b2⟩
        have hb2 := hr2.out.2.trans (b2.mono hr2.out.2.size)
        have hs2 := hb2.size
        have HB2 := Lib.hid (hb2.alloc (o := .cells #[.int .i64 t.k, .int .i64 t.n, .string t.s, .bool t.b] 70) hs2)
        have HRC2 := Lib.hid ((HRC.out.stay b2).stay (below_new w2 (.cells #[.int .i64 t.k, .int .i64 t.n, .string t.s, .bool t.b] 70)))
        clear b2 hb2
        go_wp2_with fail
        refine (RefAdd_calls t _ w.heap.size w.heap.size v acc HRC2.out HB2.out.size).mono ?_
        rintro e w3 (⟨hl, rfl, hb⟩ | ⟨hl, rfl, v1, hc, ho, _⟩)
        · have HU : Hid (refU bs = none) := Lib.hid (by
            rw [HN.out, ← HNN.out, HPAR.out, parseR, HTK.out]
            dsimp only
            rw [if_neg (by omega)])
          have HB3 := Lib.hid (HB2.out.trans (hb.mono HB2.out.size))
          clear hb
          go_wp2_with fail
          go_ret2
          exact .inr ⟨HU.out, rfl, HB3.out⟩
        · have HB3 := Lib.hid (HB2.out.trans (ho.below HB2.out.size (fun q hq hs => (HRC2.out.foot q hs).1)))
          have HRC3 := Lib.hid hc
          have i3 := I3.out
          have hfr := fun W => run_from b' o' rest.length c' k i3 W
          have hdl : rest.length - k = (rest.drop k).length := by rw [List.length_drop]
          have hcut := hr1.out.1.cutB k i3 hr1.out.2.2.1
          rw [hdl] at hcut
          have HCUT := Lib.hid hcut
          have HLL := Lib.hid (show (rest.drop k).length ≤ c' - k ∧ c' - k ≤ 9223372036854775807 from ⟨by rw [← hdl]; have := hr1.out.2.2.1; omega, by have := hr1.out.2.2.2; omega⟩)
          clear hc ho hcut hdl
          go_wp2_with fail
          go_roundw
          case rel =>
            refine ⟨j + 1, acc ++ [t], rest.drop k, _, c' - k, by omega, by go_num, by rw [List.length_drop], Lib.hid ⟨HCUT.out, fun x hx => hr1.out.2.1 x (List.mem_of_mem_drop hx), HLL.out.1, HLL.out.2⟩, Lib.hid ⟨⟨_, HRC3.out⟩, HB3.out⟩, Lib.hid ⟨by rw [List.length_append, hr3.out.1]; rfl, by have := hr3.out.1; omega, ?_⟩⟩
            rw [HPAR.out, parseR, HTK.out]
            dsimp only
            rw [if_pos hl]
          case measure => simp [intOf]; omega
    · have hjN : j = N := by omega
      have hpn : parseR N [] (bs.drop 7) = some (acc, rest) := by rw [hr3.out.2.2, hjN, Nat.sub_self]; rfl
      have hU : refU bs = if rest.length = 0 then some acc else none := by rw [HN.out, ← HNN.out, hpn]
      have HU := Lib.hid hU
      clear hpn hU
      by_cases h0 : rest.length = 0
      · have h0' : ¬ (0 : Int) < (rest.length : Int) := by omega
        have HUU := Lib.hid (HU.out.trans (if_pos h0))
        clear h0
        go_wp2_with fail
        go_ret2
        exact .inl ⟨acc, _, v, HUU.out, rfl, HRC.out, hr2.out.2⟩
      · have h0' : (0 : Int) < (rest.length : Int) := by omega
        have HUU := Lib.hid (HU.out.trans (if_neg h0))
        clear h0
        go_wp2_with fail
        go_ret2
        exact .inr ⟨HUU.out, rfl, hr2.out.2⟩
end Go.Proofs.Ytodccdfpoocolaa
