/- Walk of WireTurned. -/
import Derived.Test.YtodccdfpoocolaaWrPl
import Derived.Test.YtodccdfpoocolaaWrLaw
set_option linter.unusedVariables false
namespace Go.Proofs.Ytodccdfpoocolaa
open Go.RowKit Go.Lib

theorem owB_at {w : World} {base g n c : Nat} {xs : List Nat} (h : Ow flB w base 5 (.slice (some ⟨g, 0, none⟩) n c) xs) {j x : Nat} (hx : xs[j]? = some x) : w.cell? ⟨g, j, none⟩ = some (.int .u8 (x : Int)) ∧ w.frozen? ⟨g, j, none⟩ = false := by
  obtain ⟨A', c', e', hR⟩ := h.read (by decide)
  injection e' with e1 e2 e3
  subst e1
  obtain ⟨b', off', y, e, hy, hcell⟩ := rfB_at hR (j := j) (List.getElem?_eq_some_iff.1 hx).1
  cases e
  rw [hx] at hy
  injection hy with hy
  subst hy
  rw [Nat.zero_add] at hcell
  refine ⟨hcell, ?_⟩
  rcases h.2 with ⟨e, _⟩ | ⟨g', cap, cur, e, _, hh, _⟩
  · cases e
  · injection e with e _ _
    injection e with e
    injection e with e _ _
    subst e
    simp [World.frozen?, hh]
set_option maxHeartbeats 8000000 in
theorem wturned_calls (A : Option Addr) (n c : Nat) (xs : List Th) (p : Int) (y : Nat) (hy : y < 256) (w : World) (hA : Rf flTh w A n xs) (hs : Sz xs) :
    Calls Try.prog 7 #[.slice A n c, .int .i64 p, .int .u8 (y : Int)] w fun e w' => e = .returned (.bool true) ∧ Below w.heap.size w w' := by
  obtain ⟨i0, hi0, hz0, hz1, hz2⟩ := info_parts info_b
  have h1 := Lib.hid hA.1
  have HA := Lib.hid hA
  have HS := Lib.hid hs
  obtain ⟨m, hm⟩ := mask16 p
  clear hA hs
  go_enter Try.func7, Try.ntmps7
  go_wp2_with fail
  refine (long8_calls A n c xs w HA.out HS.out).mono ?_
  rintro e w1 ⟨rfl | ⟨rfl, hT, hn⟩, hb1⟩
  · go_wp2_with fail
    go_ret
    exact ⟨rfl, hb1⟩
  by_cases hy0 : y = 0
  · subst hy0
    go_wp2_with fail
    go_ret
    exact ⟨rfl, hb1⟩
  have hyb : ((y : Int) == 0) = false := by simp; omega
  have hbody := Lib.hid (body_tl hT (by have := h1.out; omega))
  have HB1 := Lib.hid hb1
  have HN := Lib.hid hn
  have HY0 := Lib.hid hy0
  clear hT hb1 hn hy0
  go_wp2_with fail
  refine (made8_calls A n c xs w1 (HA.out.stay HB1.out) HN.out).mono ?_
  rintro e w2 ⟨b, b', rfl, hP⟩
  have HP := Lib.hid hP
  clear hP
  go_wp2_with fail
  refine (Pack_calls w2 b (xs.map itOf) HP.out.cz (by have := hbody.out; omega) (by have := h1.out; have := HN.out; simp; omega)).mono ?_
  rintro e w3 (⟨bs, v3, hp, rfl, o3, b3⟩ | ⟨hp, rfl, b3⟩)
  rotate_left
  · have HB3 := Lib.hid (HB1.out.trans ((HP.out.below.trans (b3.mono HP.out.below.size)).mono HB1.out.size))
    clear b3
    go_wp2_with fail
    refine (known_calls _).mono ?_
    rintro e w4 ⟨rfl, b4⟩
    go_wp2_with fail
    go_ret
    exact ⟨rfl, HB3.out.trans (b4.mono HB3.out.size)⟩
  have HB3 := Lib.hid (HB1.out.trans ((HP.out.below.trans (b3.mono HP.out.below.size)).mono HB1.out.size))
  have hl6 : 6 < bs.length := by
    have k1 := (packB_ok hp).2.2
    rw [k1, List.length_append, headB_len]
    simp [bodyB]
  have hl4 : bs.length ≤ 4006 := by
    have k1 := packB_ok hp
    rw [k1.2.2, List.length_append, headB_len]
    have := k1.2.1
    omega
  obtain ⟨A3, c3, rfl, R3⟩ := o3.read (by decide)
  have HPK := Lib.hid hp
  have HR3 := Lib.hid R3
  have hmk : m % bs.length < bs.length := Nat.mod_lt _ (by omega)
  have hx0 : bs[m % bs.length]? = some (bs.getD (m % bs.length) 0) := by rw [List.getD_eq_getElem?_getD, List.getElem?_eq_getElem hmk]; rfl
  have hxb := pack_byte hp (bs.getD (m % bs.length) 0) (List.mem_of_getElem? hx0)
  generalize hgx : bs.getD (m % bs.length) 0 = x0 at *
  have HX0 := Lib.hid hx0
  have hyx : (x0 ^^^ y) < 256 := Nat.xor_lt_two_pow (n := 8) hxb hy
  have HUN := Lib.hid (turned_none hp hmk hyx (fun e2 => by
    rw [hgx] at e2
    have := xor_cancel' (c := x0) (a := y) (b := 0) (by rw [e2, Nat.xor_zero])
    exact HY0.out this))
  have hxr := u8_xor_nat x0 y hxb hy
  have HPB2 := Lib.hid (show ∀ z ∈ bs.set (m % bs.length) (x0 ^^^ y), z < 256 from fun z hz => by
    rcases List.mem_or_eq_of_mem_set hz with h | h
    · exact pack_byte hp z h
    · rw [h]; exact hyx)
  generalize hL : bs.length = L at *
  have HL := Lib.hid hL.symm
  have hmn0 : (0 : Int) ≤ (m : Int) % (L : Int) := by omega
  have hmn1 : (m : Int) % (L : Int) < (L : Int) := Int.emod_lt_of_pos _ (by omega)
  have hL0 : ((L : Int) == 0) = false := by simp; omega
  have hE := Lib.hid (Ow.lit' (f := flB) (xs := []) w3 w3.heap.size 5 #[] w3.heap.size rfl (Nat.le_refl _) (by simp) rfl)
  have HR4 := Lib.hid (HR3.out.stay (below_new w3 (.cells #[] 5)))
  clear o3 b3 R3 hp hL hx0 hgx
  go_wp2_with (at_builtin; refine wpList_append_any _ rfl (.tmp 44) (.tmp 45) _ rfl w3.heap.size 5 i0 _ 1 1 Try.underlying25 hi0 hz0 hz1 hz2 rfl (by omega) (.slice (some ⟨w3.heap.size, 0, none⟩) 0 0) 0 [] rfl hE.out _ A3 L c3 (bs.flatMap flB.enc) rfl (HR4.out.reads (by decide)) (flat_one flB _) (by simp only [maxLen]; omega) (by omega) (by simp) ?_; intro v5 w5 hown5 hg5 hat5; have ho5 : Ow flB w5 w3.heap.size 5 v5 bs := (by have := Ow.join (f := flB) (xs := []) (ys := bs) (m := L) HL.out.symm hown5; simpa using this); obtain ⟨A5, c5, rfl, -⟩ := ho5.read (by decide); have HB5 := Lib.hid (HB3.out.trans (((below_new w3 (.cells #[] 5)).grown hg5 (by simp) (by intro k hk; simp [Value.ownBlock] at hk; omega)).mono HB3.out.size)); rw [← HL.out] at ho5 ⊢; obtain ⟨g, rfl, hgb, _⟩ := owB_form ho5 HL.out.symm (by omega); obtain ⟨q1, q2⟩ := owB_at ho5 HX0.out; have HO5 := Lib.hid ho5; clear ho5 hown5 hg5 hat5)
  have ho6 : Ow flB (w5.setCell ⟨g, m % L, none⟩ (.int .u8 ((x0 ^^^ y : Nat) : Int))) w3.heap.size 5 (.slice (some ⟨g, 0, none⟩) L c5) (bs.set (m % L) (x0 ^^^ y)) := by
    have h := HO5.out
    rw [HL.out] at h ⊢
    exact (h.put1 rfl (m % bs.length) (x0 ^^^ y) (.int .u8 ((x0 ^^^ y : Nat) : Int)) rfl).1
  obtain ⟨A6, c6, e6, R6, hl1, hl2⟩ := ho6.readc (by decide)
  have hsl : (bs.set (m % L) (x0 ^^^ y)).length = L := by rw [List.length_set, ← HL.out]
  rw [hsl] at e6 R6 hl1
  injection e6 with e1 e2 e3
  subst e1 e3
  have HB6 := Lib.hid (HB5.out.setCell (p := ⟨g, m % L, none⟩) (Nat.le_trans HB3.out.size hgb) (.int .u8 ((x0 ^^^ y : Nat) : Int)))
  have HU := Lib.hid (Unpack_calls _ (some ⟨g, 0, none⟩) L c5 (bs.set (m % L) (x0 ^^^ y)) R6 HPB2.out hl1 hl2 (by omega))
  rw [HUN.out] at HU
  clear ho6 R6 hl1 hl2 hsl e2
  refine HU.out.mono ?_
  rintro e w7 (⟨its, d, v4, hi, _⟩ | ⟨_, rfl, b7⟩)
  · cases hi
  have HB7 := Lib.hid (HB6.out.trans (b7.mono HB6.out.size))
  clear b7 HU
  go_wp2_with fail
  refine (known_calls _).mono ?_
  rintro e w8 ⟨rfl, b8⟩
  go_wp2_with fail
  go_ret
  exact ⟨rfl, HB7.out.trans (b8.mono HB7.out.size)⟩
end Go.Proofs.Ytodccdfpoocolaa
