/- The document's Read. -/
import Derived.Test.YtmaehdoejpecgaaFlRead
import Derived.Test.YtmaehdoejpecgaaCrIt
set_option linter.unusedVariables false
namespace Go.Proofs.Ytmaehdoejpecgaa
open Go.ChangeShapes Go.WideShapes Go.ChangeAt Go.RowKit

theorem readI_short {its : List It} (h : its.length < 4) : readI its = none := by
  cases hi : intsOf (its.drop 1) with
  | none => exact readI_ints hi
  | some ns =>
    rw [readI_of hi, if_neg]
    rintro ⟨_, h3⟩
    have := congrArg List.length (intsOf_some _ _ hi)
    simp at this
    omega
theorem readI_title {its : List It} (h : lk its 0 ≠ some (.txt stateB)) : readI its = none := by
  cases hi : intsOf (its.drop 1) with
  | none => exact readI_ints hi
  | some ns => rw [readI_of hi, if_neg (fun hh => h hh.1)]
theorem readI_long {its : List It} {ns : List Int} (h : intsOf (its.drop 1) = some ns) (ht : lk its 0 = some (.txt stateB)) (h3 : 3 ≤ ns.length) :
    readI its = match takeN (ns.drop 3) with | none => none | some l => if ns.getD 2 0 = l.length then some (ns.getD 0 0, ns.getD 1 0, l) else none := by
  rw [readI_of h, if_pos ⟨ht, h3⟩]
  rfl
theorem box_reads' {α : Type} (f : Fl α) (W : World) (cs : Array Value) (t : TypeId) (x : α) (h : cs.toList = f.enc x) (g : Nat) (hg : g = W.heap.size) : Reads (W.alloc (.cells cs t)) (W.heap.size + 1) f.sz (some ⟨g, 0, none⟩) 1 (f.enc x) := by
  subst hg
  exact box_reads f W cs t x h
set_option maxHeartbeats 4000000 in
theorem RefRead_calls (w : World) (B b : Nat) (v : Value) (ts : List Th) (h : Rc w B b v ts) (hk : Knd ts) (hl : ts.length ≤ 100) :
    Calls Try.prog 30 #[.pointer (some ⟨b, 0, none⟩)] w (ReadPost w (readI (ts.map itOf))) := by
  obtain ⟨i0, hi0, hz0, hz1, hz2⟩ := info_parts info_int
  obtain ⟨y0, f0, g0⟩ := (tells_facts ts 0 hk).2.1
  obtain ⟨Ar, cr, rfl, hh, hroom⟩ := rc_head h
  have hA0 := RefAt_calls w B b _ ts h 0 2
  rw [f0] at hA0
  unfold Th.val at hA0
  have HR := Lib.hid h
  have HK := Lib.hid hk
  rcases hsb : txtOf (lk (ts.map itOf) 0) with ⟨s, ok⟩
  rw [hsb] at hA0 g0
  dsimp only at hA0 g0
  rw [g0] at hA0
  have HT := Lib.hid (txt_not hsb)
  clear h hk f0 g0 hsb
  go_enter Try.func30, Try.ntmps30
  go_wp2_with fail
  refine hA0.mono ?_
  rintro e w1 ⟨rfl, hb1⟩
  have q0 := (Blk.new w1 #[.int .i64 y0.k, .int .i64 y0.n, .string s, .bool y0.b] 51 (0, 0)).cell 2
  have hh1 := cell_stay ((hb1.trans ((below_new w1 (.cells #[.int .i64 y0.k, .int .i64 y0.n, .string s, .bool y0.b] 51)).mono hb1.size))) hh
  have HB1 := Lib.hid (hb1.trans ((below_new w1 (.cells #[.int .i64 y0.k, .int .i64 y0.n, .string s, .bool y0.b] 51)).mono hb1.size))
  simp only [List.getElem?_toArray, List.getElem?_cons_zero, List.getElem?_cons_succ] at q0
  clear hb1 hA0 hh
  by_cases hgood : ok = true ∧ s = stateB
  rotate_left
  · have HN := Lib.hid (readI_title (its := ts.map itOf) (fun hh => hgood (HT.out.1 hh)))
    cases ok with
    | false =>
      go_wp2_with fail
      refine bodyPost_ret (results_list (rs := [.tmp 2, .tmp 3, .tmp 4, .tmp 5]) rfl (by simp) (.tmp (.tmp (.tmp (.tmp .nil))))) rfl ?_
      exact .inr ⟨HN.out, rfl, HB1.out⟩
    | true =>
      have hs1 := state_not s (fun hh => hgood ⟨rfl, hh⟩)
      go_wp2_with fail
      refine bodyPost_ret (results_list (rs := [.tmp 2, .tmp 3, .tmp 4, .tmp 5]) rfl (by simp) (.tmp (.tmp (.tmp (.tmp .nil))))) rfl ?_
      exact .inr ⟨HN.out, rfl, HB1.out⟩
  obtain ⟨rfl, rfl⟩ := hgood
  have hs1 := state_is
  by_cases h4 : ts.length < 4
  · have h4' : (ts.length : Int) < 4 := by omega
    have HN := Lib.hid (readI_short (its := ts.map itOf) (by simp; omega))
    go_wp2_with fail
    refine bodyPost_ret (results_list (rs := [.tmp 2, .tmp 3, .tmp 4, .tmp 5]) rfl (by simp) (.tmp (.tmp (.tmp (.tmp .nil))))) rfl ?_
    exact .inr ⟨HN.out, rfl, HB1.out⟩
  have h4' : (4 : Int) ≤ (ts.length : Int) := by omega
  go_wp2_with fail
  generalize hW1 : w1.alloc (.cells #[.int .i64 y0.k, .int .i64 y0.n, .string stateB, .bool y0.b] 51) = W1 at *
  clear hW1 q0
  go_loopw [8, 9] (fun v i wr => ∃ (k : Nat) (ns : List Int), k ≤ ts.length - 1 ∧ i = .int .i64 ((k : Int) + 1) ∧ Ow flI wr w.heap.size 3 v ns ∧ Hid (ns.length = k) ∧ Hid (((ts.map itOf).drop 1).take k = ns.map It.num) ∧ Below w.heap.size w wr) (fun _ i _ => ts.length - (intOf i).toNat)
  case atStart => exact ⟨0, [], by omega, rfl, Ow.nil_ _ _ _ _, Lib.hid rfl, Lib.hid rfl, HB1.out⟩
  case round =>
    obtain ⟨k, ns, hk, rfl, hown, hnl, hpre, hbr⟩ := hrel
    have HO := Lib.hid hown
    have HB := Lib.hid hbr
    obtain ⟨Ar', cr', e1, hh2, _⟩ := rc_head (HR.out.stay hbr)
    cases e1
    by_cases hlt : k + 1 < ts.length
    · have hlt' : (k : Int) + 1 < (ts.length : Int) := by omega
      have hx : (ts.map itOf)[k + 1]? = some (itOf ts[k + 1]) := by rw [List.getElem?_map, List.getElem?_eq_getElem hlt]; rfl
      generalize itOf ts[k + 1] = x at hx
      obtain ⟨y, f1, g1⟩ := (tells_facts ts ((k : Int) + 1) HK.out).1
      have hA := RefAt_calls wr B b _ ts (HR.out.stay hbr) ((k : Int) + 1) 1
      rw [f1] at hA
      unfold Th.val at hA
      rw [lk_at hx] at hA g1
      have HX := Lib.hid (drop1_at hx)
      clear hx f1
      rcases x with n | s | t
      · dsimp only [numOf] at hA g1
        rw [g1] at hA
        obtain ⟨Av, cv, rfl⟩ := row_form hown
        clear hown hbr g1
        have hw1 : IntKind.i64.wrap ((k : Int) + 1 + 1) = (k : Int) + 1 + 1 := by rw [IntKind.wrap_i64]; omega
        go_wp2_with fail
        refine hA.mono ?_
        rintro e w2 ⟨rfl, hb2⟩
        clear hA
        have hs2 := HB.out.size
        have hs3 := hb2.size
        have q1 := (Blk.new w2 #[.int .i64 y.k, .int .i64 n, .string y.s, .bool y.b] 51 (0, 0)).cell 1
        simp only [List.getElem?_toArray, List.getElem?_cons_zero, List.getElem?_cons_succ] at q1
        have HO2 := Lib.hid ((HO.out.stay hb2).stay (below_new w2 (.cells #[.int .i64 y.k, .int .i64 n, .string y.s, .bool y.b] 51)))
        have HB2 := Lib.hid ((HB.out.trans (hb2.mono HB.out.size)).alloc (o := .cells #[.int .i64 y.k, .int .i64 n, .string y.s, .bool y.b] 51) (by omega))
        clear hb2
        go_wp2_with (at_builtin; refine wpList_append_any _ rfl (.tmp 51) (.tmp 54) _ rfl w.heap.size 3 i0 _ 1 8 Try.underlying22 hi0 hz0 hz1 hz2 rfl (by omega) (.slice Av ns.length cv) ns.length (ns.flatMap flI.enc) rfl (HO2.out.alloc _) ((w2.alloc (.cells #[.int .i64 y.k, .int .i64 n, .string y.s, .bool y.b] 51)).heap.size + 1) (some ⟨w2.heap.size + 1, 0, none⟩) 1 1 (flI.enc n) rfl (box_reads' flI (w2.alloc (.cells #[.int .i64 y.k, .int .i64 n, .string y.s, .bool y.b] 51)) _ _ n rfl (w2.heap.size + 1) (by simp)) (flI.one _) (by have := hnl.out; simp only [maxLen]; omega) (by have := hnl.out; omega) (by simp; omega) ?_; intro v1 w3 hown1 hg1 hat1)
        go_roundw
        case rel => exact ⟨k + 1, ns ++ [n], by omega, by go_num, Ow.snoc hown1, Lib.hid (by rw [List.length_append, hnl.out]; rfl), Lib.hid (take_more hpre.out HX.out), (HB2.out.alloc HB2.out.size _).grown hg1 (by simp; omega) (HO2.out.base_)⟩
        case measure => simp [intOf]; omega
      · dsimp only [numOf] at hA
        have HN := Lib.hid (readI_ints (intsOf_none HX.out (fun n hn => by cases hn)))
        clear hown hbr g1
        go_wp2_with fail
        refine hA.mono ?_
        rintro e w2 ⟨rfl, hb2⟩
        have HB2 := Lib.hid ((HB.out.trans (hb2.mono HB.out.size)).alloc (o := .cells #[.int .i64 y.k, .int .i64 y.n, .string y.s, .bool y.b] 51) (by have := HB.out.size; have := hb2.size; omega))
        clear hb2
        go_wp2_with fail
        refine bodyPost_ret (results_list (rs := [.tmp 2, .tmp 3, .tmp 4, .tmp 5]) rfl (by simp) (.tmp (.tmp (.tmp (.tmp .nil))))) rfl ?_
        exact .inr ⟨HN.out, rfl, HB2.out⟩
      · dsimp only [numOf] at hA
        have HN := Lib.hid (readI_ints (intsOf_none HX.out (fun n hn => by cases hn)))
        clear hown hbr g1
        go_wp2_with fail
        refine hA.mono ?_
        rintro e w2 ⟨rfl, hb2⟩
        have HB2 := Lib.hid ((HB.out.trans (hb2.mono HB.out.size)).alloc (o := .cells #[.int .i64 y.k, .int .i64 y.n, .string y.s, .bool y.b] 51) (by have := HB.out.size; have := hb2.size; omega))
        clear hb2
        go_wp2_with fail
        refine bodyPost_ret (results_list (rs := [.tmp 2, .tmp 3, .tmp 4, .tmp 5]) rfl (by simp) (.tmp (.tmp (.tmp (.tmp .nil))))) rfl ?_
        exact .inr ⟨HN.out, rfl, HB2.out⟩
    · have hge : ¬ (k : Int) + 1 < (ts.length : Int) := by omega
      have hall : intsOf ((ts.map itOf).drop 1) = some ns := by
        have := hpre.out
        rw [List.take_of_length_le (by simp; omega)] at this
        rw [this, intsOf_map]
      have h3 : 3 ≤ ns.length := by have := hnl.out; omega
      have hnk : ns.length ≤ 100 := by have := hnl.out; omega
      have HRL := Lib.hid (readI_long hall (HT.out.2 (by simp)) h3)
      clear hall hlt
      obtain ⟨A, c, rfl, hRd, hc1, hc2⟩ := hown.readc (by decide)
      obtain ⟨b0, o0, x0, rfl, hx0, d0⟩ := rfI_at hRd (j := 0) (by omega)
      obtain ⟨_, _, x1, e1, hx1, d1⟩ := rfI_at hRd (j := 1) (by omega)
      obtain ⟨_, _, x2, e2, hx2, d2⟩ := rfI_at hRd (j := 2) (by omega)
      cases e1
      cases e2
      have hq1 : (3 : Int) ≤ (ns.length : Int) := by omega
      have hq3 : (0 : Int) < (ns.length : Int) := by omega
      have hq4 : (1 : Int) < (ns.length : Int) := by omega
      have hq5 : (2 : Int) < (ns.length : Int) := by omega
      simp only [Nat.add_zero] at d0
      have hq2 : (ns.length : Int) ≤ (c : Int) := by omega
      have HR2 : Hid (readI (ts.map itOf) = match takeN (ns.drop 3) with | none => none | some l => if x2 = l.length then some (x0, x1, l) else none) := Lib.hid (by
        rw [HRL.out, List.getD_eq_getElem?_getD, List.getD_eq_getElem?_getD, List.getD_eq_getElem?_getD, hx0, hx1, hx2]; rfl)
      by_cases hc3 : c = 3
      · have hz : ns.length - 3 = 0 := by omega
        have hnil : ns.drop 3 = [] := List.drop_of_length_le (by omega)
        have HTk : Hid (Calls Try.prog 20 #[.slice (some ⟨b0, o0, none⟩) (ns.length - 3) 0] wr (TakePost wr (ns.drop 3))) := Lib.hid (by rw [hz, hnil]; exact RefTake_calls (some ⟨b0, o0, none⟩) 0 0 [] wr (Rf.nil_ _ _ _) (by omega))
        clear hz hnil
        clear hown hbr hRd hx0 hx1 hx2 HRL HT
        go_wp2_with fail
        refine HTk.out.mono ?_
        rintro e w2 (⟨ys, v2, hy, rfl, o2, b2⟩ | ⟨hy, rfl, b2⟩)
        · have d0 := cell_stay b2 d0
          have d1 := cell_stay b2 d1
          have d2 := cell_stay b2 d2
          obtain ⟨A2, c2, rfl, -⟩ := o2.read (by decide)
          have HO2 := Lib.hid (Ow.lower o2 (base' := w.heap.size) HB.out.size)
          have HB2 := Lib.hid (HB.out.trans (b2.mono HB.out.size))
          have HR3 := HR2.out
          rw [hy] at HR3
          dsimp only at HR3
          clear o2 b2 hy HTk HR2
          by_cases hx : x2 = (ys.length : Int)
          · have hxb : (x2 != (ys.length : Int)) = false := by simp [hx]
            have HN := Lib.hid (HR3.trans (if_pos hx))
            clear HR3 hx
            go_wp2_with fail
            go_quiet (fail)
            go_wp2_with fail
            refine bodyPost_ret (results_list (rs := [.tmp 2, .tmp 3, .tmp 4, .tmp 5]) rfl (by simp) (.tmp (.tmp (.tmp (.tmp .nil))))) rfl ?_
            exact .inl ⟨x0, x1, ys, _, HN.out, rfl, HO2.out.drewN _, below_drawn HB2.out _⟩
          · have hxb : (x2 != (ys.length : Int)) = true := by simp [hx]
            have HN := Lib.hid (HR3.trans (if_neg hx))
            clear HR3 hx
            go_wp2_with fail
            refine bodyPost_ret (results_list (rs := [.tmp 2, .tmp 3, .tmp 4, .tmp 5]) rfl (by simp) (.tmp (.tmp (.tmp (.tmp .nil))))) rfl ?_
            exact .inr ⟨HN.out, rfl, HB2.out⟩
        · have HB2 := Lib.hid (HB.out.trans (b2.mono HB.out.size))
          have HN : Hid (readI (ts.map itOf) = none) := Lib.hid (by rw [HR2.out, hy])
          clear b2 hy HTk HR2
          go_wp2_with fail
          refine bodyPost_ret (results_list (rs := [.tmp 2, .tmp 3, .tmp 4, .tmp 5]) rfl (by simp) (.tmp (.tmp (.tmp (.tmp .nil))))) rfl ?_
          exact .inr ⟨HN.out, rfl, HB2.out⟩
      · have HTk : Hid (Calls Try.prog 20 #[.slice (some ⟨b0, o0 + 3, none⟩) (ns.length - 3) (c - 3)] wr (TakePost wr (ns.drop 3))) := Lib.hid (RefTake_calls (some ⟨b0, o0 + 3, none⟩) (ns.length - 3) (c - 3) (ns.drop 3) wr (hRd.from 3) (by omega))
        clear hown hbr hRd hx0 hx1 hx2 HRL HT
        go_wp2_with fail
        refine HTk.out.mono ?_
        rintro e w2 (⟨ys, v2, hy, rfl, o2, b2⟩ | ⟨hy, rfl, b2⟩)
        · have d0 := cell_stay b2 d0
          have d1 := cell_stay b2 d1
          have d2 := cell_stay b2 d2
          obtain ⟨A2, c2, rfl, -⟩ := o2.read (by decide)
          have HO2 := Lib.hid (Ow.lower o2 (base' := w.heap.size) HB.out.size)
          have HB2 := Lib.hid (HB.out.trans (b2.mono HB.out.size))
          have HR3 := HR2.out
          rw [hy] at HR3
          dsimp only at HR3
          clear o2 b2 hy HTk HR2
          by_cases hx : x2 = (ys.length : Int)
          · have hxb : (x2 != (ys.length : Int)) = false := by simp [hx]
            have HN := Lib.hid (HR3.trans (if_pos hx))
            clear HR3 hx
            go_wp2_with fail
            go_quiet (fail)
            go_wp2_with fail
            refine bodyPost_ret (results_list (rs := [.tmp 2, .tmp 3, .tmp 4, .tmp 5]) rfl (by simp) (.tmp (.tmp (.tmp (.tmp .nil))))) rfl ?_
            exact .inl ⟨x0, x1, ys, _, HN.out, rfl, HO2.out.drewN _, below_drawn HB2.out _⟩
          · have hxb : (x2 != (ys.length : Int)) = true := by simp [hx]
            have HN := Lib.hid (HR3.trans (if_neg hx))
            clear HR3 hx
            go_wp2_with fail
            refine bodyPost_ret (results_list (rs := [.tmp 2, .tmp 3, .tmp 4, .tmp 5]) rfl (by simp) (.tmp (.tmp (.tmp (.tmp .nil))))) rfl ?_
            exact .inr ⟨HN.out, rfl, HB2.out⟩
        · have HB2 := Lib.hid (HB.out.trans (b2.mono HB.out.size))
          have HN : Hid (readI (ts.map itOf) = none) := Lib.hid (by rw [HR2.out, hy])
          clear b2 hy HTk HR2
          go_wp2_with fail
          refine bodyPost_ret (results_list (rs := [.tmp 2, .tmp 3, .tmp 4, .tmp 5]) rfl (by simp) (.tmp (.tmp (.tmp (.tmp .nil))))) rfl ?_
          exact .inr ⟨HN.out, rfl, HB2.out⟩
end Go.Proofs.Ytmaehdoejpecgaa
