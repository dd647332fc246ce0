/- Walk of WireBack. -/
import Derived.Test.YtodccdfpoocolaaWrTrn
import Derived.Test.YtodccdfpoocolaaWrArg
set_option linter.unusedVariables false
namespace Go.Proofs.Ytodccdfpoocolaa
open Go.RowKit Go.Lib

def flU : Fl Int := ⟨1, fun n => [.int .u8 n], fun _ => rfl, fun _ u hu => by rw [List.mem_singleton.1 hu]; rfl⟩
theorem rf8_of {w : World} {A : Option Addr} {n : Nat} {zs : List Int} (h : RdS (Kd.int .u8) w A n zs) : Rf flB w A n (zs.map Int.toNat) ∧ ∀ y ∈ zs.map Int.toNat, y < 256 := by
  have hU : Rf flU w A n zs := Rf.of_rds (k := Kd.int .u8) (f := flU) (fun w x cs hK => hK.1) rfl h
  have hr : ∀ (j : Nat) (x : Int), zs[j]? = some x → 0 ≤ x ∧ x < 256 := by
    intro j x hj
    have hl := (List.getElem?_eq_some_iff.1 hj).1
    obtain ⟨b, off, _, hc⟩ := h.2.2 (by have := h.1; omega)
    obtain ⟨cs, hK, _⟩ := hc j x hj
    exact u8_wf hK.2
  refine ⟨⟨by rw [List.length_map]; exact hU.1, hU.2.1, fun hp => ?_⟩, fun y hy => ?_⟩
  · obtain ⟨b, off, e, hc⟩ := hU.2.2 hp
    refine ⟨b, off, e, fun j x hx i v hv => ?_⟩
    rw [List.getElem?_map] at hx
    obtain ⟨z, hz, rfl⟩ := Option.map_eq_some_iff.1 hx
    have h0 := (hr j z hz).1
    refine hc j z hz i v ?_
    have e2 : ((z.toNat : Nat) : Int) = z := by omega
    have e3 : flB.enc z.toNat = flU.enc z := by show [Value.int .u8 ((z.toNat : Nat) : Int)] = [Value.int .u8 z]; rw [e2]
    rw [e3] at hv
    exact hv
  · obtain ⟨z, hz, rfl⟩ := List.mem_map.1 hy
    obtain ⟨j, hj⟩ := List.mem_iff_getElem?.1 hz
    have := hr j z hj
    omega
/-- Numbers within reach. -/
def Gd (xs : List Th) : Prop := ∀ t ∈ xs, -9223372036854775808 ≤ t.n ∧ t.n < 9223372036854775808
theorem gd_of {w : World} {A : Option Addr} {n : Nat} {xs : List Th} (h : RdS kTh w A n xs) : Gd xs := by
  intro t ht
  obtain ⟨j, hj⟩ := List.mem_iff_getElem?.1 ht
  have hl := (List.getElem?_eq_some_iff.1 hj).1
  obtain ⟨b, off, _, hc⟩ := h.2.2 (by have := h.1; omega)
  obtain ⟨cs, hK, _⟩ := hc j t hj
  obtain ⟨_, _, _, _, _, _, _, ⟨_, hw⟩, _⟩ := hK
  simp [Lit.wf, IntKind.min, IntKind.max, IntKind.bits, IntKind.signed] at hw
  exact ⟨by omega, by omega⟩
theorem good_of {xs : List Th} (hg : Gd xs) (ho : (xs.map itOf).all okB = true) : ∀ x ∈ xs.map itOf, Good x := by
  intro x hx
  rw [List.all_eq_true] at ho
  have h1 := ho x hx
  obtain ⟨t, ht, rfl⟩ := List.mem_map.1 hx
  unfold itOf at h1 ⊢
  by_cases hk1 : t.k = 1
  · rw [if_pos hk1]; exact hg t ht
  · by_cases hk2 : t.k = 2
    · rw [if_neg hk1, if_pos hk2] at h1 ⊢
      simp only [okB, decide_eq_true_eq] at h1
      show t.s.size ≤ 200
      omega
    · rw [if_neg hk1, if_neg hk2]; trivial
theorem Rf.takeB {w : World} {A : Option Addr} {n : Nat} {xs : List Nat} (h : Rf flB w A n xs) {k : Nat} (hk : k ≤ n) : Rf flB w A k (xs.take k) := by
  obtain ⟨h1, h2, h3⟩ := h
  refine ⟨by rw [List.length_take]; omega, by omega, fun hp => ?_⟩
  obtain ⟨b, off, e, hc⟩ := h3 (by omega)
  exact ⟨b, off, e, fun j x hx i v hv => hc j x (by rw [List.getElem?_take] at hx; split at hx; exact hx; cases hx) i v hv⟩
set_option maxHeartbeats 8000000 in
theorem wback_calls (A B : Option Addr) (n c n2 c2 : Nat) (xs : List Th) (p : Int) (more : List Nat) (w : World) (hA : Rf flTh w A n xs) (hs : Sz xs) (hg : Gd xs) (hM : Rf flB w B n2 more) (hmb : ∀ y ∈ more, y < 256) :
    Calls Try.prog 10 #[.slice A n c, .int .i64 p, .slice B n2 c2] w fun e w' => e = .returned (.bool true) ∧ Below w.heap.size w w' := by
  obtain ⟨i0, hi0, hz0, hz1, hz2⟩ := info_parts info_b
  have h1 := Lib.hid hA.1
  have HA := Lib.hid hA
  have HS := Lib.hid hs
  have HG := Lib.hid hg
  have HM := Lib.hid hM
  have HMB := Lib.hid hmb
  have HML := Lib.hid hM.1
  obtain ⟨m, hm⟩ := mask16 p
  clear hA hs hg hM hmb
  go_enter Try.func10, Try.ntmps10
  go_wp2_with fail
  refine (long8_calls A n c xs w HA.out HS.out).mono ?_
  rintro e w1 ⟨rfl | ⟨rfl, hT, hn⟩, hb1⟩
  · go_wp2_with fail
    go_ret
    exact ⟨rfl, hb1⟩
  by_cases hm1 : (n2 : Int) < 1
  · go_wp2_with fail
    go_ret
    exact ⟨rfl, hb1⟩
  by_cases hm2 : (50 : Int) < (n2 : Int)
  · go_wp2_with fail
    go_ret
    exact ⟨rfl, hb1⟩
  have hbody := Lib.hid (body_tl hT (by have := h1.out; omega))
  have HB1 := Lib.hid hb1
  have HN := Lib.hid hn
  clear hT hb1 hn
  go_wp2_with fail
  refine (made8_calls A n c xs w1 (HA.out.stay HB1.out) HN.out).mono ?_
  rintro e w2 ⟨b, b', rfl, hP⟩
  have HP := Lib.hid hP
  clear hP
  go_wp2_with fail
  refine (Pack_calls w2 b (xs.map itOf) HP.out.cz (by have := hbody.out; omega) (by have := h1.out; have := HN.out; simp; omega)).mono ?_
  rintro e w3 (⟨bs, v3, hp, rfl, o3, b3⟩ | ⟨hp, rfl, b3⟩)
  rotate_left
  · have hP3 := HP.out.stay b3
    obtain ⟨v', hrc⟩ := hP3.rc
    have HPB := Lib.hid (RefPack_calls w3 _ b' v' (xs.map plainT) hrc (plt_plain xs) (by rw [plain_its]; have := hbody.out; omega) (by have := h1.out; have := HN.out; simp; omega))
    rw [plain_its, hp] at HPB
    have HB3 := Lib.hid (HB1.out.trans (hP3.below.mono HB1.out.size))
    clear b3 hP3 hrc hp
    go_wp2_with fail
    refine HPB.out.mono ?_
    rintro e w4 (⟨bs, v, hi, _⟩ | ⟨_, rfl, b4⟩)
    · cases hi
    have HB4 := Lib.hid (HB3.out.trans (b4.mono HB3.out.size))
    clear b4
    go_wp2_with fail
    refine (known_calls _).mono ?_
    rintro e w5 ⟨rfl, b5⟩
    go_wp2_with fail
    go_ret
    exact ⟨rfl, HB4.out.trans (b5.mono HB4.out.size)⟩
  have HC3 := Lib.hid (HP.out.cz.stay b3)
  have HB3 := Lib.hid (HB1.out.trans ((HP.out.below.trans (b3.mono HP.out.below.size)).mono HB1.out.size))
  have hl6 : 6 < bs.length := by
    have k1 := (packB_ok hp).2.2
    rw [k1, List.length_append, headB_len]
    simp [bodyB]
  have hl4 : bs.length ≤ 4006 := by
    have k1 := packB_ok hp
    rw [k1.2.2, List.length_append, headB_len]
    have := k1.2.1
    omega
  obtain ⟨A3, c3, rfl, R3, hl1, hl2⟩ := o3.readc (by decide)
  have hmk : m % bs.length < bs.length := Nat.mod_lt _ (by omega)
  have HU1 := Lib.hid (unpack_pack hp (by have := h1.out; have := HN.out; simp; omega) (good_of HG.out (packB_ok hp).1))
  have HU2 := Lib.hid (short_none hp hmk)
  have HU3 := Lib.hid (more_none (more := more) hp (by have := HML.out; omega))
  have HPB := Lib.hid (pack_byte hp)
  generalize hL : bs.length = L at *
  have HL := Lib.hid hL.symm
  have hmn0 : (0 : Int) ≤ (m : Int) % (L : Int) := by omega
  have hmn1 : (m : Int) % (L : Int) < (L : Int) := Int.emod_lt_of_pos _ (by omega)
  have hmn2 : (m : Int) % (L : Int) ≤ (c3 : Int) := by omega
  have HR3 := Lib.hid R3
  have HL3 := Lib.hid (And.intro hl1 hl2)
  have HV1 := Lib.hid (Unpack_calls w3 A3 L c3 bs R3 HPB.out hl1 hl2 (by omega))
  rw [HU1.out] at HV1
  obtain ⟨ba, oa, xa, rfl, _, _⟩ := rfB_at R3 (j := 0) (by omega)
  clear o3 b3 R3 hp hL hl1 hl2
  go_wp2_with fail
  refine HV1.out.mono ?_
  rintro e w4 (⟨its, d, v4, hi, rfl, hc4, b4⟩ | ⟨hi, _⟩)
  rotate_left
  · cases hi
  injection hi with hi
  subst hi
  have HC4 := Lib.hid (HC3.out.stay b4)
  have HD4 := Lib.hid hc4.cz
  have HB4 := Lib.hid (HB3.out.trans (b4.mono HB3.out.size))
  have HR4 := Lib.hid (HR3.out.stay b4)
  have HV2 := Lib.hid (Unpack_calls w4 (some ⟨ba, oa, none⟩) (m % L) c3 (bs.take (m % L)) (HR4.out.takeB (Nat.le_of_lt hmk)) (fun y hy => HPB.out y (List.mem_of_mem_take hy)) (by have := HL3.out.1; omega) HL3.out.2 (by omega))
  rw [HU2.out] at HV2
  clear hc4 b4 HV1
  go_wp2_with fail
  refine HV2.out.mono ?_
  rintro e w5 (⟨_, _, _, hi, _⟩ | ⟨_, rfl, b5⟩)
  · cases hi
  have HC5 := Lib.hid (HC4.out.stay b5)
  have HD5 := Lib.hid (HD4.out.stay b5)
  have HB5 := Lib.hid (HB4.out.trans (b5.mono HB4.out.size))
  have HR5 := Lib.hid (HR4.out.stay b5)
  have hE := Lib.hid (Ow.lit' (f := flB) (xs := []) w5 w5.heap.size 5 #[] w5.heap.size rfl (Nat.le_refl _) (by simp) rfl)
  have HR6 := Lib.hid (HR5.out.stay (below_new w5 (.cells #[] 5)))
  have HM5 := Lib.hid (HM.out.stay HB5.out)
  clear b5 HV2
  go_wp2_with (first
    | (at_builtin; refine wpList_append_any _ rfl (.tmp 84) (.tmp 85) _ rfl w5.heap.size 5 i0 _ 1 1 Try.underlying25 hi0 hz0 hz1 hz2 rfl (by omega) (.slice (some ⟨w5.heap.size, 0, none⟩) 0 0) 0 [] rfl hE.out _ (some ⟨ba, oa, none⟩) L c3 (bs.flatMap flB.enc) rfl (HR6.out.reads (by decide)) (flat_one flB _) (by simp only [maxLen]; omega) (by omega) (by simp) ?_; intro v6 w6 hown6 hg6 hat6; have ho6 : w6.ownsRow w5.heap.size 5 1 v6 L (bs.flatMap flB.enc) := (by simpa using hown6); obtain ⟨A6, c6, rfl⟩ := row_form ho6; have HB6 := Lib.hid ((below_new w5 (.cells #[] 5)).grown hg6 (by simp) (by intro k hk; simp [Value.ownBlock] at hk; omega)); have HO6 := Lib.hid ho6; have HM6 := Lib.hid (HM5.out.stay HB6.out); have hs6 := HB6.out.size; clear ho6 hown6 hg6 hat6)
    | (at_builtin; refine wpList_append_any _ rfl (.tmp 86) (.tmp 87) _ rfl w5.heap.size 5 i0 _ 1 1 Try.underlying25 hi0 hz0 hz1 hz2 rfl (by omega) (.slice A6 L c6) L (bs.flatMap flB.enc) rfl HO6.out w6.heap.size B n2 c2 (more.flatMap flB.enc) rfl (HM6.out.reads (by decide)) (flat_one flB _) (by simp only [maxLen]; omega) (by omega) hs6 ?_; intro v7 w7 hown7 hg7 hat7; have ho7 : Ow flB w7 w5.heap.size 5 v7 (bs ++ more) := Ow.join (f := flB) (xs := bs) (ys := more) (m := n2) HML.out (by rw [← HL.out]; exact hown7); obtain ⟨A7, c7, rfl, R7, hl1, hl2⟩ := ho7.readc (by decide); have HB7 := Lib.hid (HB6.out.grown hg7 hs6 (World.ownsRow.lt HO6.out · · |>.1)); have HR7 := Lib.hid R7; have HL7 := Lib.hid (And.intro hl1 hl2); clear ho7 hown7 hg7 hat7 R7 hl1 hl2))
  have hV3 := Unpack_calls w7 A7 (bs ++ more).length c7 (bs ++ more) HR7.out (fun y hy => by
    rcases List.mem_append.1 hy with h | h
    · exact HPB.out y h
    · exact HMB.out y h) HL7.out.1 HL7.out.2 (by rw [List.length_append, ← HL.out, HML.out]; omega)
  rw [HU3.out, List.length_append] at hV3
  refine hV3.mono ?_
  rintro e w8 (⟨_, _, _, hi, _⟩ | ⟨_, rfl, b8⟩)
  · cases hi
  have hb58 := HB7.out.trans (b8.mono HB7.out.size)
  have HC8 := Lib.hid (HC5.out.stay hb58)
  have HD8 := Lib.hid (HD5.out.stay hb58)
  have HB8 := Lib.hid (HB5.out.trans (hb58.mono HB5.out.size))
  clear b8 hb58 hV3
  go_wp2_with fail
  refine (Same_calls w8 _ _ _ _ HC8.out HD8.out).mono ?_
  rintro e w9 ⟨rfl, b9⟩
  rw [show decide (xs.map itOf = xs.map itOf) = true from decide_eq_true rfl]
  have HB9 := Lib.hid (HB8.out.trans (b9.mono HB8.out.size))
  clear b9
  go_wp2_with fail
  refine (known_calls _).mono ?_
  rintro e w10 ⟨rfl, b10⟩
  go_wp2_with fail
  go_ret
  exact ⟨rfl, HB9.out.trans (b10.mono HB9.out.size)⟩
end Go.Proofs.Ytodccdfpoocolaa
