/- The document's Pack. -/
import Derived.Test.YtodccdfpoocolaaWrRef
set_option linter.unusedVariables false
namespace Go.Proofs.Ytodccdfpoocolaa
open Go.RowKit Go.Lib

theorem rc4_at {w : World} {B b : Nat} {v : Value} {ts : List Th} (h : Rc w B b v ts) {k : Nat} {t : Th} (ht : ts[k]? = some t) :
    ∃ bl ol c, w.cell? ⟨b, 0, none⟩ = some (.slice (some ⟨bl, ol, none⟩) ts.length c) ∧ w.cell? ⟨bl, ol + k * 4, none⟩ = some (.int .i64 t.k) ∧ w.cell? ⟨bl, ol + k * 4 + 1, none⟩ = some (.int .i64 t.n) ∧ w.cell? ⟨bl, ol + k * 4 + 2, none⟩ = some (.string t.s) ∧ w.cell? ⟨bl, ol + k * 4 + 3, none⟩ = some (.bool t.b) := by
  obtain ⟨A, c, rfl, hh, _⟩ := rc_head h
  obtain ⟨A', c', e', hR⟩ := h.own.read (by decide)
  injection e' with e1 e2 e3
  subst e1 e3
  have hk : k < ts.length := (List.getElem?_eq_some_iff.1 ht).1
  obtain ⟨bl, ol, x, rfl, hx, c0, c1, c2, c3⟩ := rfT_at hR hk
  rw [ht] at hx
  injection hx with hx
  subst hx
  exact ⟨bl, ol, c, hh, c0, c1, c2, c3⟩
/-- A text stands in a text alone. -/
def Plt (ts : List Th) : Prop := ∀ t ∈ ts, okB (itOf t) = decide ((t.s.size : Int) ≤ 200)
theorem plt_plain (xs : List Th) : Plt (xs.map plainT) := by
  intro t ht
  obtain ⟨x, _, rfl⟩ := List.mem_map.1 ht
  unfold plainT
  by_cases h1 : x.k = 1
  · simp only [if_pos h1]; rfl
  · by_cases h2 : x.k = 2
    · simp only [if_neg h1, if_pos h2]; rfl
    · simp only [if_neg h1, if_neg h2]; rfl
theorem map_take_flat {ts : List Th} {k : Nat} {x : Th} (hx : ts[k]? = some x) : ((ts.take (k + 1)).map itOf).flatMap thingB = ((ts.take k).map itOf).flatMap thingB ++ thingB (itOf x) := by
  rw [List.take_add_one, hx]
  simp
theorem map_flat_le (ts : List Th) (k : Nat) : (((ts.take k).map itOf).flatMap thingB).length ≤ ((ts.map itOf).flatMap thingB).length := by
  rw [List.map_take]
  exact flat_take_le _ k
set_option maxHeartbeats 4000000 in
theorem RefPack_calls (w : World) (B b : Nat) (u : Value) (ts : List Th) (hr : Rc w B b u ts) (hp : Plt ts) (hl : (bodyB (ts.map itOf)).length ≤ 400000) (hn : ts.length ≤ 100) :
    Calls Try.prog 19 #[.pointer (some ⟨b, 0, none⟩)] w (PackPost w (packB (ts.map itOf))) := by
  obtain ⟨i0, hi0, hz0, hz1, hz2⟩ := info_parts info_b
  obtain ⟨Ar, cr, rfl, hh, hroom⟩ := rc_head hr
  have HR := Lib.hid hr
  have HL := Lib.hid hl
  have HP := Lib.hid hp
  have hb1 : Below w.heap.size w (w.alloc (.cells #[.int .u8 (ts.length : Int)] 5)) := below_new w _
  have hO0 : Ow flB (w.alloc (.cells #[.int .u8 (ts.length : Int)] 5)) w.heap.size 5 (.slice (some ⟨w.heap.size, 0, none⟩) 1 1) [(ts.map itOf).length % 256] :=
    Ow.lit (f := flB) (xs := [(ts.map itOf).length % 256]) w w.heap.size 5 #[.int .u8 (ts.length : Int)] (Nat.le_refl _) (by simp) (by show _ = [Value.int .u8 (((ts.map itOf).length % 256 : Nat) : Int)]; rw [List.length_map, Nat.mod_eq_of_lt (by omega)])
  have HO0 := Lib.hid hO0
  have HB1 := Lib.hid hb1
  clear hO0 hb1 hl hr hp
  go_enter Try.func19, Try.ntmps19
  go_wp2_with fail
  go_loopw [4, 5] (fun v i wr => ∃ k : Nat, k ≤ ts.length ∧ i = .int .i64 k ∧ Hid (Ow flB wr w.heap.size 5 v (((ts.map itOf).length % 256) :: ((ts.take k).map itOf).flatMap thingB)) ∧ Hid (Below w.heap.size w wr) ∧ Hid (∀ x ∈ ts.take k, okB (itOf x) = true)) (fun _ i _ => ts.length - (intOf i).toNat)
  case atStart => exact ⟨0, by omega, rfl, HO0, HB1, Lib.hid (by simp)⟩
  case round =>
    obtain ⟨k, hk, rfl, hO, hB, hok⟩ := hrel
    have hh1 := cell_stay hB.out hh
    by_cases hlt : k < ts.length
    · have hx : ts[k]? = some ts[k] := List.getElem?_eq_getElem hlt
      have hmem : ts[k] ∈ ts := List.getElem_mem hlt
      generalize ts[k] = x at hx hmem
      obtain ⟨bl, ol, c, h0, c0, c1, c2, c3⟩ := rc4_at (HR.out.stay hB.out) hx
      rw [hh1] at h0
      injection h0 with h0
      injection h0 with e1 e2 e3
      subst e1 e3
      have hokx := HP.out x hmem
      have HX := Lib.hid hx
      obtain ⟨R, hR⟩ : ∃ R, R = ((ts.map itOf).length % 256) :: ((ts.take k).map itOf).flatMap thingB := ⟨_, rfl⟩
      rw [← hR] at hO
      obtain ⟨Av, cv, rfl⟩ := row_form hO.out
      have hbd := HL.out
      unfold bodyB at hbd
      rw [List.length_cons] at hbd
      have hlen : R.length ≤ 500000 := by
        have := map_flat_le ts k
        rw [hR, List.length_cons]
        omega
      have HRR := Lib.hid hR
      clear hx hR hbd hmem
      by_cases h200 : (x.s.size : Int) ≤ 200
      · have HOX := Lib.hid (hokx.trans (decide_eq_true h200))
        have hxs : x.s.size ≤ 1000000 := by omega
        clear hokx
        go_wp2_with fail
        refine (RefThing_calls x wr hxs).mono ?_
        rintro e w2 ⟨v2, rfl, o2, b2⟩
        obtain ⟨A2, c2', rfl, R2⟩ := o2.read (by decide)
        have hB2 := hB.out.trans (b2.mono hB.out.size)
        have HO2 := Lib.hid (hO.out.stay b2)
        have HR2 := Lib.hid R2
        have hs2 := hB2.size
        have HB2 := Lib.hid hB2
        have hsz : (thingB (itOf x)).length ≤ 1000 := by
          cases h : itOf x with
          | num n => simp [thingB, bigB, bigTo_len]
          | tru n => simp [thingB]
          | txt s =>
            have h2 := HOX.out
            rw [h] at h2
            simp only [okB, decide_eq_true_eq] at h2
            simp only [thingB, List.length_cons, strB_len]
            omega
        have hTT : ∃ TB, TB = thingB (itOf x) := ⟨_, rfl⟩
        obtain ⟨TB, hTB⟩ := hTT
        rw [← hTB] at HR2 hsz ⊢
        have HTB := Lib.hid hTB
        clear o2 b2 R2 hB2 c0 c1 c2 c3 hTB
        go_wp2_with (at_builtin; refine wpList_append_any _ rfl (.tmp 32) (.tmp 40) _ rfl w.heap.size 5 i0 _ 1 1 Try.underlying25 hi0 hz0 hz1 hz2 rfl (by omega) (.slice Av R.length cv) R.length (R.flatMap flB.enc) rfl HO2.out w2.heap.size A2 TB.length c2' (TB.flatMap flB.enc) rfl (HR2.out.reads (by decide)) (flat_one flB _) (by simp only [maxLen]; omega) (by omega) hs2 ?_; intro v5 w5 hown5 hg5 hat5)
        have hO5 : Ow flB w5 w.heap.size 5 v5 (R ++ TB) := Ow.join (f := flB) (xs := R) (ys := TB) (m := TB.length) rfl hown5
        have HO5 := Lib.hid hO5
        have HB5 := Lib.hid (HB2.out.grown hg5 hs2 (HO2.out.base_))
        clear hO5 hown5 hg5 hat5
        go_roundw
        case rel => exact ⟨k + 1, by omega, by go_num, Lib.hid (by have h2 := HO5.out; rw [HRR.out, HTB.out] at h2; rw [map_take_flat HX.out]; exact h2), HB5, Lib.hid (fun y hy => by
          rw [List.take_add_one, HX.out] at hy
          rcases List.mem_append.1 hy with h | h
          · exact hok.out y h
          · have : y = x := by simpa using h
            rw [this]; exact HOX.out)⟩
        case measure => simp [intOf]; omega
      · have HN : Hid (packB (ts.map itOf) = none) := Lib.hid (by
          unfold packB
          rw [if_neg]
          rintro ⟨h, _⟩
          rw [List.all_eq_true] at h
          have := h (itOf x) (List.mem_map.2 ⟨x, List.mem_of_getElem? HX.out, rfl⟩)
          rw [hokx, decide_eq_false h200] at this
          cases this)
        clear hokx
        go_wp2_with fail
        go_ret2
        exact .inr ⟨HN.out, rfl, hB.out⟩
    · have hkL : k = ts.length := by omega
      have hO' := hO.out
      rw [hkL, List.take_length] at hO'
      change Ow flB wr _ _ _ (bodyB (ts.map itOf)) at hO'
      have hall : (ts.map itOf).all okB = true := by
        rw [List.all_eq_true]
        intro y hy
        obtain ⟨t, ht, rfl⟩ := List.mem_map.1 hy
        have := hok.out
        rw [hkL, List.take_length] at this
        exact this t ht
      obtain ⟨A, c, rfl, hR⟩ := hO'.read (by decide)
      have hbl := HL.out
      generalize hbody : bodyB (ts.map itOf) = body at *
      have hby : ∀ x ∈ body, x < 256 := by rw [← hbody]; exact bodyB_byte _
      by_cases h4 : body.length ≤ 4000
      · have HPK : Hid (packB (ts.map itOf) = some (headB body ++ body)) := Lib.hid (by unfold packB; rw [hbody, if_pos ⟨hall, h4⟩])
        have HS := Lib.hid (Ref_calls A body.length c body wr (rdb_of hR hby))
        have hcr := crcAll_u32 [body]
        have HR3 := Lib.hid hR
        have HB2 := Lib.hid hB.out
        clear hO' hall hR hby hkL hbody hO hB hok HR HL
        go_wp2_with fail
        refine HS.out.mono ?_
        rintro e w2 ⟨rfl, rfl⟩
        clear HS
        go_wp2_with fail
        refine (big_calls (crcAll [body]) 4 (by omega) (by omega) wr).mono ?_
        rintro e w2 ⟨v2, rfl, o2, b2⟩
        obtain ⟨A2, c2, rfl, -⟩ := o2.read (by decide)
        have hl2 : (bigB (crcAll [body]) 4).length = 4 := by simp [bigB, bigTo_len]
        rw [hl2]
        have HO2 := Lib.hid o2
        have HB3 := Lib.hid b2
        have HR4 := Lib.hid (HR3.out.stay b2)
        clear o2 b2
        go_wp2_with fail
        refine (big_calls body.length 2 (by omega) (by omega) w2).mono ?_
        rintro e w3 ⟨v3, rfl, o3, b3⟩
        obtain ⟨A3, c3, rfl, R3⟩ := o3.read (by decide)
        have hl3 : (bigB body.length 2).length = 2 := by simp [bigB, bigTo_len]
        rw [hl3] at R3 ⊢
        have hb4 : Below wr.heap.size wr w3 := below_more HB3.out b3
        have HO3 := Lib.hid (show w3.ownsRow wr.heap.size 5 1 (.slice A2 4 c2) 4 ((bigB (crcAll [body]) 4).flatMap flB.enc) from by have h := HO2.out.stay b3; unfold Ow at h; rw [hl2] at h; exact h)
        have HR5 := Lib.hid R3
        have HR6 := Lib.hid (HR4.out.stay b3)
        have HB4 := Lib.hid hb4
        have hs4 := hb4.size
        have hl2 := Lib.hid hl2
        have hl3 := Lib.hid hl3
        clear o3 b3 HO2 HB3 HR4 R3 hb4
        go_wp2_with (first
          | (at_builtin; refine wpList_append_any _ rfl (.tmp 48) (.tmp 52) _ rfl wr.heap.size 5 i0 _ 1 1 Try.underlying25 hi0 hz0 hz1 hz2 rfl (by omega) (.slice A2 4 c2) 4 ((bigB (crcAll [body]) 4).flatMap flB.enc) rfl HO3.out w3.heap.size A3 2 c3 ((bigB body.length 2).flatMap flB.enc) rfl (HR5.out.reads (by decide)) (flat_one flB _) (by simp only [maxLen]; omega) (by omega) hs4 ?_; intro v5 w5 hown5 hg5 hat5; obtain ⟨A5, c5, rfl⟩ := row_form hown5; have HO5 := Lib.hid (show w5.ownsRow wr.heap.size 5 1 (.slice A5 6 c5) 6 ((headB body).flatMap flB.enc) from by unfold headB; rw [List.flatMap_append]; exact hown5); have HB5 := Lib.hid (HB4.out.grown hg5 hs4 (World.ownsRow.lt HO3.out · · |>.1)); have HR7 := Lib.hid (HR3.out.stay HB5.out); have hs5 := HB5.out.size; clear hown5 hg5 hat5)
          | (at_builtin; refine wpList_append_any _ rfl (.tmp 53) (.tmp 54) _ rfl wr.heap.size 5 i0 _ 1 1 Try.underlying25 hi0 hz0 hz1 hz2 rfl (by omega) (.slice A5 6 c5) 6 ((headB body).flatMap flB.enc) rfl HO5.out w5.heap.size A body.length c (body.flatMap flB.enc) rfl (HR7.out.reads (by decide)) (flat_one flB _) (by simp only [maxLen]; omega) (by omega) hs5 ?_; intro v6 w6 hown6 hg6 hat6))
        have hO6 : Ow flB w6 wr.heap.size 5 v6 (headB body ++ body) := Ow.join (f := flB) (xs := headB body) (ys := body) (m := body.length) rfl (by rw [show (headB body).length = 6 by simp [headB, bigB, bigTo_len]]; exact hown6)
        have hB6 : Below wr.heap.size wr w6 := HB5.out.grown hg6 hs5 (World.ownsRow.lt HO5.out · · |>.1)
        have HO6 := Lib.hid (Ow.lower hO6 (base' := w.heap.size) HB2.out.size)
        have HB6 := Lib.hid (below_more HB2.out hB6)
        clear hO6 hB6 hown6 hg6 hat6
        go_ret2
        exact .inl ⟨_, _, HPK.out, rfl, HO6.out, HB6.out⟩
      · have HPK : Hid (packB (ts.map itOf) = none) := Lib.hid (by unfold packB; rw [hbody, if_neg (fun h => h4 h.2)])
        clear hO' hall hR hby hbody
        go_wp2_with fail
        go_ret2
        exact .inr ⟨HPK.out, rfl, hB.out⟩
end Go.Proofs.Ytodccdfpoocolaa
