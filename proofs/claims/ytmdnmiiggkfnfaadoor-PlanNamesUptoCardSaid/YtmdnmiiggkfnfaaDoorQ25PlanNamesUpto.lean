/- Texts put together for a claim. -/
import Derived.Test.YtmdnmiiggkfnfaaDoorQ22PlanNamesUpto
import Derived.Test.YtmdnmiiggkfnfaaDoorQ24PlanNamesUpto
/- Contract of plan's builder: read. -/
set_option linter.unusedVariables false
set_option linter.unusedSimpArgs false
namespace Go.Proofs.YtmdnmiiggkfnfaaDoor
open Go.RowKit

theorem next_len (r : Rd) : r.next.2.rest.length ≤ r.rest.length := by
  unfold Rd.next Rd.skip Rd.fail
  split <;> simp
theorem fail_len (r : Rd) (e : Int) : (r.fail e).rest.length = r.rest.length := rfl
theorem word_len (r : Rd) (s : ByteArray) : (r.word s).rest.length ≤ r.rest.length := by
  have := next_len r
  unfold Rd.word
  split
  · exact this
  · rw [fail_len]; exact this
theorem name_len (r : Rd) : r.name.2.rest.length ≤ r.rest.length := by
  have := next_len r
  unfold Rd.name
  dsimp only
  split
  · rw [fail_len]; exact this
  · exact this
theorem viaL_len : ∀ l : List ByteArray, (viaL l).1.length ≤ l.length ∧ (viaL l).2.rest.length ≤ l.length
  | [] => ⟨by simp [viaL], by simp [viaL]⟩
  | x :: t => by
    have ih := viaL_len t
    rw [viaL]
    split
    · simp
    · split
      · simp
      · split
        · simp only [List.length_cons]; omega
        · simp
theorem viaGo_len (r : Rd) : r.viaGo.1.length ≤ r.rest.length ∧ r.viaGo.2.rest.length ≤ r.rest.length := by
  unfold Rd.viaGo
  split
  · exact viaL_len r.rest
  · simp
theorem wantsL_len : ∀ l : List ByteArray, (wantsL l).1.length ≤ l.length ∧ (wantsL l).2.rest.length ≤ l.length
  | [] => ⟨by simp [wantsL], by simp [wantsL]⟩
  | x :: t => by
    have ih := wantsL_len t
    rw [wantsL]
    split
    · simp
    · split
      · simp only [List.length_cons]; omega
      · simp
theorem wants_len (r : Rd) (s : ByteArray) : (r.wants s).1.length ≤ r.rest.length + 1 ∧ (r.wants s).2.rest.length ≤ r.rest.length := by
  have hw : r.skip.want.2.rest.length ≤ r.rest.length := by
    have h1 := next_len r.skip
    have h2 : r.skip.rest.length ≤ r.rest.length := by unfold Rd.skip; simp
    unfold Rd.want
    rw [fail_len]
    omega
  unfold Rd.wants
  split
  · unfold Rd.wantsGo
    split
    · have := wantsL_len r.skip.want.2.rest
      simp only [List.length_cons]
      omega
    · simp only [List.length_cons, List.length_nil]
      omega
  · simp
theorem route_len (r : Rd) : r.route.1.names.length = 2 ∧ r.route.1.via.length ≤ r.rest.length + 1 ∧ r.route.1.set.length ≤ r.rest.length + 1 ∧ r.route.1.flank.length ≤ r.rest.length + 1 := by
  unfold Rd.route
  dsimp only
  have h1 := word_len r fromW
  have h2 := name_len (r.word fromW)
  generalize (r.word fromW).name = a at *
  have h3 := word_len a.2 toW
  have h4 := name_len (a.2.word toW)
  generalize (a.2.word toW).name = b at *
  have h5 := word_len b.2 viaW
  have h6 := name_len (b.2.word viaW)
  generalize (b.2.word viaW).name = c at *
  have h7 := viaGo_len c.2
  generalize c.2.viaGo = d at *
  have h8 := wants_len d.2 setT
  generalize d.2.wants setT = e at *
  have h9 := wants_len e.2 flankT
  refine ⟨rfl, ?_, ?_, ?_⟩
  · show (c.1 :: d.1).length ≤ _
    rw [List.length_cons]
    omega
  · show e.1.length ≤ _
    omega
  · show (e.2.wants flankT).1.length ≤ _
    omega
theorem take_len (r : Rd) : r.take.1.names.length ≤ 3 ∧ r.take.1.via.length ≤ r.rest.length + 1 ∧ r.take.1.set.length ≤ r.rest.length + 1 ∧ r.take.1.flank.length ≤ r.rest.length + 1 := by
  have h1 := next_len r
  have h2 := name_len r.next.2
  have h3 := route_len r.next.2.name.2
  unfold Rd.take
  dsimp only
  split
  · simp
  · split
    · simp
    · split
      · simp
      · split
        · simp only [List.length_cons]
          omega
        · simp
theorem or0_ne {e f : Int} (h : or0 e f = 0) : e = 0 ∧ f = 0 := by
  unfold or0 at h
  split at h
  · rename_i h1; exact ⟨h1, h⟩
  · rename_i h1; exact absurd h h1
theorem take_enough (r : Rd) (h : r.take.2.err = 0) : enough r.take.1.kind r.take.1.names.length := by
  have h3 := route_len r.next.2.name.2
  unfold Rd.take at h ⊢
  dsimp only at h ⊢
  split
  · rename_i hk; exact ⟨by simp, fun e => absurd (hk.symm.trans e) (by decide), fun a => absurd hk a⟩
  · rename_i h1
    split
    · rename_i hk; exact ⟨by simp, fun e => absurd (hk.symm.trans e) (by decide), fun _ a => absurd hk a⟩
    · rename_i h2
      split
      · rename_i hk; exact ⟨by simp, fun e => by simp, fun _ _ a => absurd hk a⟩
      · rename_i h4
        split
        · exact ⟨by simp, fun e => absurd e h4, fun _ _ _ => by simp only [List.length_cons]; omega⟩
        · rename_i h5
          rw [if_neg h1, if_neg h2, if_neg h4, if_neg h5] at h
          exfalso
          dsimp only at h
          unfold Rd.endM at h
          split at h
          · have := or0_ne h
            exact absurd this.2 (by decide)
          · have := or0_ne h
            exact absurd this.2 (by decide)
section
variable {w0 w : World} {B g : Nat} {v1 v2 v3 v4 : Value} {cs : List RtC} {L : Lay}
def ReadPost (w0 w : World) (B g : Nat) (x : Lay × Int) (en : Ending) (w' : World) : Prop :=
  en = .returned (.int .i64 x.2) ∧ (x.2 = 0 → PutP w0 w B g x.1 0 w') ∧ Only (fun b => B ≤ b) w w'
set_option maxRecDepth 20000 in
set_option maxHeartbeats 8000000 in
theorem Read_calls (h : BdAt w0 w B g v1 v2 v3 v4 cs L 0) (hBW : B ≤ w.heap.size) (s : ByteArray) (hs : s.size ≤ 1000000) :
    Calls Tryd.prog 28 #[.pointer (some ⟨g, 0, none⟩), .string s] w (ReadPost w0 w B g (readM L (byt s))) := by
  have KC : Hid (Calls Tryd.prog 27 #[.string s, .string ⟨#[35]⟩] w (CutPost s 35 w)) := Lib.hid (Cut1_calls s 35 w (by omega))
  have HK := Lib.hid h
  have KW := Lib.hid (fun (W : World) (hb : Below w.heap.size w W) (a : ByteArray) (ha : a.size ≤ 1000000) => Words_calls W (h.tab.stay hb) a ha)
  clear h
  generalize hrm : readM L (byt s) = rm at *
  have HRM := Lib.hid hrm
  clear hrm
  obtain ⟨LF, eg⟩ := rm
  go_enter Tryd.func28, Tryd.ntmps28
  go_upto_region 3 with (first
    | (go_at_call 27; refine KC.out.mono ?_; rintro en w1 ⟨a, b, f, rfl, ha, _, has, _, hb1⟩; have HA := Lib.hid ha; have HB1 := Lib.hid hb1; have ha1 : a.size ≤ 1000000 := Nat.le_trans has hs; clear ha hb1)
    | (go_at_call 46; refine (KW.out w1 HB1.out a ha1).mono ?_; rintro en w2 ⟨v, rfl, ho, hb2⟩; obtain ⟨A, c, rfl⟩ := row_form ho; have HO := Lib.hid ho; have HB2 := Lib.hid (below_more HB1.out hb2); clear ho hb2)
    | fail)
  have hbare : byt a = bare (byt s) := HA.out
  have HWB := Lib.hid (words_bound (byt a))
  have HBL := Lib.hid (byt_len a)
  have HRM2 : Hid ((LF, eg) = if 0 ≤ (wordsL (byt a)).2 then (L, 2) else readT L ((wordsL (byt a)).1.map Prod.fst)) := Lib.hid (by rw [hbare, ← HRM.out]; rfl)
  have HSL := Lib.hid (sl_of_own HO.out (by decide) (by have := HWB.out.1; have := HBL.out; omega)).2
  clear hbare HRM HA HO
  generalize wordsL (byt a) = wz at *
  obtain ⟨ws, z⟩ := wz
  dsimp only at HRM2 HSL HWB ⊢
  generalize hn : ws.length = n at HSL ⊢
  have HN := Lib.hid hn
  have hnb : n ≤ 1000000 := by have := HWB.out.1; have := HBL.out; omega
  clear hn
  by_cases hz : 0 ≤ z
  · have HX := Lib.hid (HRM2.out.trans (if_pos hz))
    go_wp2_with fail
    go_ret
    rw [(Prod.mk.inj HX.out).1, (Prod.mk.inj HX.out).2]
    exact ⟨rfl, fun h => absurd (show (2 : Int) = 0 from h) (by decide), Only.of_below HB2.out⟩
  have HX := Lib.hid (HRM2.out.trans (if_neg hz))
  have hz' : z < 0 := by omega
  clear hz HRM2
  by_cases hn0 : n = 0
  · subst hn0
    have HE : Hid (((LF, eg) : Lay × Int) = (L, 0)) := Lib.hid (by
      rw [HX.out, List.eq_nil_of_length_eq_zero HN.out]
      rfl)
    go_wp2_with fail
    go_ret
    rw [(Prod.mk.inj HE.out).1, (Prod.mk.inj HE.out).2]
    exact ⟨rfl, fun _ => ⟨_, _, _, _, _, HK.out.stay HB2.out, Only.of_below HB2.out⟩, Only.of_below HB2.out⟩
  have hn1 : ¬ ((n : Int) = 0) := by omega
  have HW0 := Lib.hid (show ws.map Prod.fst ≠ [] from fun e => by have := congrArg List.length e; rw [List.length_map, HN.out] at this; exact hn0 (by simpa using this))
  have HR0 : Hid (RdAt w2 (w2.alloc (.cells #[.slice A n c, .int .i64 0, .int .i64 0] 83)) w2.heap.size A n c ws 0 ⟨ws.map Prod.fst, 0⟩) := Lib.hid
    ⟨HK.out.tab.stay HB2.out, HSL.out, fun x hx => by have := HWB.out.2 x hx; have := HBL.out; omega, below_new _ _, Nat.le_refl _, by omega, Blk.new _ _ _ _, Nat.zero_le _, rfl⟩
  have HBW3 := Lib.hid (below_more HB2.out (below_new w2 (.cells #[.slice A n c, .int .i64 0, .int .i64 0] 83)))
  have hs2 := HB2.out.size
  have KT := Lib.hid (Take_calls HR0.out)
  have HTL := Lib.hid (take_len ⟨ws.map Prod.fst, 0⟩)
  have HTE := Lib.hid (take_enough ⟨ws.map Prod.fst, 0⟩)
  have HXT : Hid ((LF, eg) = if (Rd.take ⟨ws.map Prod.fst, 0⟩).2.err ≠ 0 then (L, (Rd.take ⟨ws.map Prod.fst, 0⟩).2.err) else putsM L (Rd.take ⟨ws.map Prod.fst, 0⟩).1) := Lib.hid (by
    rw [HX.out]
    unfold readT
    rw [if_neg HW0.out])
  have HRL : Hid ((ws.map Prod.fst).length = n) := Lib.hid (by rw [List.length_map, HN.out])
  clear HX HSL HWB HW0 HR0
  generalize Rd.take ⟨ws.map Prod.fst, 0⟩ = tk at *
  obtain ⟨⟨k, xn, xv, xs, xf⟩, rb⟩ := tk
  obtain ⟨rr, er⟩ := rb
  dsimp only at HTL HTE HXT KT
  go_upto_region 9 with (first
    | (go_at_call 47; refine KT.out.mono ?_; rintro en w4 ⟨vn, vv, vs, vf, rfl, o1, o2, o3, o4, _, _, _, _, ⟨p4, h4⟩, ho4⟩; obtain ⟨C1, f1, rfl⟩ := row_form o1; obtain ⟨C2, f2, rfl⟩ := row_form o2; obtain ⟨C3, f3, rfl⟩ := row_form o3; obtain ⟨C4, f4, rfl⟩ := row_form o4; have HO := Lib.hid (And.intro o1 (And.intro o2 (And.intro o3 o4))); have HR4 := Lib.hid h4; have HBW4 := Lib.hid (HBW3.out.trans (ho4.below HBW3.out.size (fun q _ hq => by have e : q = w2.heap.size := hq; omega))); clear o1 o2 o3 o4 h4 ho4)
    | fail)
  have hbn := below_new w4 (.cells #[.string k, .slice C1 xn.length f1, .slice C2 xv.length f2, .slice C3 xs.length f3, .slice C4 xf.length f4] 86)
  have hB5 := Blk.new w4 #[.string k, .slice C1 xn.length f1, .slice C2 xv.length f2, .slice C3 xs.length f3, .slice C4 xf.length f4] 86 (0, 0)
  have x0 := hB5.cell 0
  have x1 := hB5.cell 1
  have x2 := hB5.cell 2
  have x3 := hB5.cell 3
  have x4 := hB5.cell 4
  simp only [List.getElem?_toArray, List.getElem?_cons_zero, List.getElem?_cons_succ] at x0 x1 x2 x3 x4
  have c2 := (HR4.out.stay hbn).cells.2.2
  have HBW5 := Lib.hid (HBW4.out.trans (hbn.mono HBW4.out.size))
  have HO5 := Lib.hid (And.intro (HO.out.1.stay hbn) (And.intro (HO.out.2.1.stay hbn) (And.intro (HO.out.2.2.1.stay hbn) (HO.out.2.2.2.stay hbn))))
  clear hbn hB5 HO HR4
  generalize (w4.alloc (.cells #[.string k, .slice C1 xn.length f1, .slice C2 xv.length f2, .slice C3 xs.length f3, .slice C4 xf.length f4] 86)) = W5 at *
  generalize w4.heap.size = gx at *
  dsimp only at c2
  cases e0 : (er == 0) with
  | false =>
    have e1 : (er != 0) = true := by simp [bne, e0]
    have HX := Lib.hid (HXT.out.trans (if_pos (by simpa using e0)))
    have HE0 := Lib.hid e0
    go_wp2_with fail
    go_ret
    rw [(Prod.mk.inj HX.out).1, (Prod.mk.inj HX.out).2]
    exact ⟨rfl, fun h => absurd (show er = 0 from h) (by simpa using HE0.out), Only.of_below HBW5.out⟩
  | true =>
    have e1 : (er != 0) = false := by simp [bne, e0]
    have he : er = 0 := by simpa using e0
    have HX := Lib.hid (HXT.out.trans (if_neg (by rw [he]; simp)))
    have hh := HRL.out
    have ht := HTL.out
    have KP := Lib.hid (Puts_calls (HK.out.stay HBW5.out) (Nat.le_trans hBW HBW5.out.size) HO5.out.1 HO5.out.2.1 HO5.out.2.2.1 HO5.out.2.2.2 (HTE.out he) (by omega) (by omega) (by omega) (by omega))
    rw [← HX.out] at KP
    clear he hh ht HX HO5
    go_wp2_with (first
      | (go_at_call 48; refine KP.out.mono ?_; rintro en w6 ⟨rfl, u1, u2, u3, u4, us, hb6, ho6⟩; have cg4 := hb6.cells.2.2.2.2; have H6 := Lib.hid hb6; have HO6 := Lib.hid ((Only.of_below HBW5.out).trans ho6 (fun _ _ h => h) (fun _ _ h => h) (S := fun b => B ≤ b) (U := fun b => B ≤ b)); clear hb6 ho6)
      | fail)
    go_ret
    exact ⟨rfl, fun h => ⟨u1, u2, u3, u4, us, by have := H6.out; rw [show eg = 0 from h] at this; exact this, HO6.out⟩, HO6.out⟩
end
end Go.Proofs.YtmdnmiiggkfnfaaDoor

/- Contract: plan.Parse. -/
set_option linter.unusedVariables false
set_option linter.unusedSimpArgs false
namespace Go.Proofs.YtmdnmiiggkfnfaaDoor
open Go.RowKit

theorem linesL_cons : ∀ (l : List Nat), l ≠ [] → linesL l = l.takeWhile (fun c => c != 10) :: linesL ((l.dropWhile fun c => c != 10).drop 1)
  | [], h => absurd rfl h
  | c :: t, _ => by
    rw [linesL]
    by_cases hc : c = 10
    · subst hc
      simp
    · have hb : (c != 10) = true := by simpa using hc
      rw [if_neg hc, List.takeWhile_cons, List.dropWhile_cons, hb]
      by_cases ht : t = []
      · subst ht
        simp [linesL]
      · rw [linesL_cons t ht]
        simp
theorem parseGo_step (L : Lay) (n : Nat) (l : List Nat) (ls : List (List Nat)) : parseGo L n (l :: ls) = if 60 < n + 1 then (lay0, n + 1, 6) else if (readM L l).2 ≠ 0 then (lay0, n + 1, (readM L l).2) else parseGo (readM L l).1 (n + 1) ls := rfl
theorem parse_ret {fn : Func} {tmps : Array Value} {w : World} {p t u : Tmp} {g : Nat} {a b c d : Value} {ty : TypeId} {fr : Nat × Nat} (h : fn.results = #[.cell p 26, .tmp t, .tmp u]) (hp : tmps.getD p undef = .pointer (some ⟨g, 0, none⟩)) (hg : Blk w g #[a, b, c, d] ty fr) :
    (results fn tmps).run Tryd.prog w = .ok (.tuple #[.agg #[a, b, c, d], tmps.getD t undef, tmps.getD u undef]) w :=
  results_list (rs := [.cell p 26, .tmp t, .tmp u]) h (by simp) (.cell g ty #[a, b, c, d] fr _ hp hg Tryd.underlying26 rfl (by kernel_rfl) (.tmp (.tmp .nil)))
theorem Blk.put4 {w : World} {g : Nat} {a b c d : Value} {t : TypeId} {fr : Nat × Nat} (h : Blk w g #[a, b, c, d] t fr) (x y z u : Value) :
    Blk ((((w.setCell ⟨g, 0, none⟩ x).setCell ⟨g, 1, none⟩ y).setCell ⟨g, 2, none⟩ z).setCell ⟨g, 3, none⟩ u) g #[x, y, z, u] t fr := by
  have := (((h.put 0 x).put 1 y).put 2 z).put 3 u
  simpa using this
/-- A layout that the call made. -/
structure LayO (w : World) (base : Nat) (v1 v2 v3 v4 : Value) (cs : List RtC) (L : Lay) : Prop where
  secs : Ow flS w base 9 v1 L.secs
  pts : Ow flP w base 51 v2 L.pts
  sigs : Ow flS w base 9 v3 L.sigs
  rtes : Ow flRc w base 44 v4 cs
  rel : RtsR w base cs L.rtes
def ParsePost (w : World) (x : Lay × Nat × Int) (e : Ending) (w' : World) : Prop :=
  ∃ v1 v2 v3 v4 cs, e = .returned (.tuple #[.agg #[v1, v2, v3, v4], .int .i64 x.2.1, .int .i64 x.2.2]) ∧ LayO w' w.heap.size v1 v2 v3 v4 cs x.1 ∧ x.1.secs.length ≤ 10 ∧ x.1.pts.length ≤ 5 ∧ x.1.sigs.length ≤ 6 ∧ x.1.rtes.length ≤ 6 ∧ Below w.heap.size w w'
theorem layO_nil (w : World) (base : Nat) : LayO w base (.slice none 0 0) (.slice none 0 0) (.slice none 0 0) (.slice none 0 0) [] lay0 := ⟨Ow.nil_ _ _ _ _, Ow.nil_ _ _ _ _, Ow.nil_ _ _ _ _, Ow.nil_ _ _ _ _, rfl, fun j c x hc => by simp at hc⟩
def sizeV : Value → Nat
  | .string s => s.size
  | _ => 0
theorem only_newer {w w1 : World} {B g : Nat} (h : Only (fun b => B ≤ b) w w1) (hg : B ≤ g) (i : Nat) (u : Value) : Only (fun b => B ≤ b) w (w1.setCell ⟨g, i, none⟩ u) :=
  h.trans (Only.put ⟨g, i, none⟩ u) (fun _ _ h => h) (fun q _ hq => by have e : q = g := hq; omega)
structure PRd (w W1 wr : World) (t : ByteArray) (k : Nat) (L : Lay) (v1 v2 v3 v4 : Value) (cs : List RtC) (pm : Lay × Nat × Int) : Prop where
  bd : BdAt w wr (w.heap.size + 1) (w.heap.size + 1) v1 v2 v3 v4 cs L 0
  on : Only (fun b => w.heap.size + 1 ≤ b) W1 wr
  eq : parseGo L k (linesL (byt t)) = pm
theorem byt_nil {t : ByteArray} (h : t.toList = []) : byt t = [] := by
  rw [ByteArray.toList_eq] at h
  unfold byt
  rw [h]
  rfl
theorem byt_ne {t : ByteArray} (h : t.toList ≠ []) : byt t ≠ [] := by
  intro e
  apply h
  rw [ByteArray.toList_eq]
  unfold byt at e
  exact List.map_eq_nil_iff.1 e
set_option maxRecDepth 20000 in
set_option maxHeartbeats 8000000 in
theorem Parse_calls (w : World) (hT : Tabs w) (s : ByteArray) (hs : s.size ≤ 1000000) :
    Calls Tryd.prog 15 #[.string s] w (ParsePost w (parseM s)) := by
  have hbw := (below_new w (.cells #[.slice none 0 0, .slice none 0 0, .slice none 0 0, .slice none 0 0] 26)).alloc (by simp) (.cells #[.slice none 0 0, .slice none 0 0, .slice none 0 0, .slice none 0 0, .int .i64 0] 57)
  have hgr := (Blk.new w #[.slice none 0 0, .slice none 0 0, .slice none 0 0, .slice none 0 0] 26 (0, 0)).alloc (.cells #[.slice none 0 0, .slice none 0 0, .slice none 0 0, .slice none 0 0, .int .i64 0] 57)
  have hgb := Blk.at_ (w := w.alloc (.cells #[.slice none 0 0, .slice none 0 0, .slice none 0 0, .slice none 0 0] 26)) (g := w.heap.size + 1) (by simp) #[.slice none 0 0, .slice none 0 0, .slice none 0 0, .slice none 0 0, .int .i64 0] 57 (0, 0)
  have hsz : ((w.alloc (.cells #[.slice none 0 0, .slice none 0 0, .slice none 0 0, .slice none 0 0] 26)).alloc (.cells #[.slice none 0 0, .slice none 0 0, .slice none 0 0, .slice none 0 0, .int .i64 0] 57)).heap.size = w.heap.size + 2 := by simp
  have HBW := Lib.hid hbw
  have HGR := Lib.hid hgr
  have HGB := Lib.hid hgb
  have HT := Lib.hid hT
  have HSZ := Lib.hid hsz
  clear hT hbw hgr hgb hsz
  generalize hpm : parseM s = pm at *
  have HPM := Lib.hid hpm
  clear hpm
  go_enter Tryd.func15, Tryd.ntmps15
  go_wp2_with fail
  generalize ((w.alloc (.cells #[.slice none 0 0, .slice none 0 0, .slice none 0 0, .slice none 0 0] 26)).alloc (.cells #[.slice none 0 0, .slice none 0 0, .slice none 0 0, .slice none 0 0, .int .i64 0] 57)) = W1 at *
  have HB0 : Hid (BdAt w W1 (w.heap.size + 1) (w.heap.size + 1) (.slice none 0 0) (.slice none 0 0) (.slice none 0 0) (.slice none 0 0) [] lay0 0) := Lib.hid
    ⟨HT.out, HBW.out, by omega, Nat.le_refl _, HGB.out, Ow.nil_ _ _ _ _, Ow.nil_ _ _ _ _, Ow.nil_ _ _ _ _, Ow.nil_ _ _ _ _, ⟨rfl, fun j c x hc => by simp at hc⟩, fun k hk => by simp [Value.ownBlock] at hk, by decide, by decide, by decide, by decide⟩
  have HBEL : Hid (∀ U : World, Only (fun b => w.heap.size + 1 ≤ b) W1 U → Below w.heap.size w U) := Lib.hid (fun U hU => HBW.out.trans (hU.below HBW.out.size (fun q _ hq => by omega)))
  go_loopw [0, 6] (fun sv nv wr => ∃ (t : ByteArray) (k : Nat) (L : Lay) (v1 v2 v3 v4 : Value) (cs : List RtC), sv = .string t ∧ nv = .int .i64 k ∧ t.size ≤ 1000000 ∧ k ≤ 60 ∧ Hid (PRd w W1 wr t k L v1 v2 v3 v4 cs pm)) (fun sv _ _ => sizeV sv)
  case atStart => exact ⟨s, 0, lay0, _, _, _, _, [], rfl, rfl, hs, by omega, Lib.hid ⟨HB0.out, Only.refl _ _, HPM.out⟩⟩
  case round =>
    obtain ⟨t, k, L, v1, v2, v3, v4, cs, rfl, rfl, hts, hk, hR⟩ := hrel
    by_cases h0 : t.toList = []
    · have e0 : (t.toList == []) = true := by rw [h0]; rfl
      have e1 : (t.toList != []) = false := by rw [h0]; rfl
      have HX : Hid (pm = (L, k, 0)) := Lib.hid (by rw [← hR.out.eq, byt_nil h0]; rfl)
      obtain ⟨A1, d1, rfl⟩ := row_form hR.out.bd.secs
      obtain ⟨A2, d2, rfl⟩ := row_form hR.out.bd.pts
      obtain ⟨A3, d3, rfl⟩ := row_form hR.out.bd.sigs
      obtain ⟨A4, d4, rfl⟩ := row_form hR.out.bd.rtes
      obtain ⟨c0, c1, c2, c3, c4⟩ := hR.out.bd.cells
      have HG2 := Lib.hid (HGR.out.only hR.out.on (by omega))
      have f0 := HG2.out.free 0
      have f1 := HG2.out.free 1
      have f2 := HG2.out.free 2
      have f3 := HG2.out.free 3
      have y0 := HG2.out.cell 0
      have y1 := HG2.out.cell 1
      have y2 := HG2.out.cell 2
      have y3 := HG2.out.cell 3
      simp only [List.getElem?_toArray, List.getElem?_cons_zero, List.getElem?_cons_succ] at y0 y1 y2 y3
      clear h0
      go_wp2_with fail
      refine bodyPost_ret (parse_ret rfl rfl (HG2.out.put4 _ _ _ _)) rfl ?_
      rw [HX.out]
      have hb := hR.out.bd
      have hfar : ∀ {α : Type} {f : Fl α} {e : TypeId} {v : Value} {xs : List α} {u : World} (i : Nat) (y : Value), Ow f u (w.heap.size + 1) e v xs → Ow f (u.setCell ⟨w.heap.size, i, none⟩ y) (w.heap.size + 1) e v xs := fun i y ho => ho.far_ (fun e => by have := ho.base_ _ e; omega) i y
      have hrf : ∀ {u : World} (i : Nat) (y : Value), RtsR u (w.heap.size + 1) cs L.rtes → RtsR (u.setCell ⟨w.heap.size, i, none⟩ y) (w.heap.size + 1) cs L.rtes := fun i y hr => ⟨hr.len, fun j c x hc hx => by
        have r := hr.all j c x hc hx
        exact ⟨r.name, r.frm, r.dst, hfar _ _ r.path, hfar _ _ r.points, hfar _ _ r.flank⟩⟩
      have hrl := hrf 3 (.slice A4 cs.length d4) (hrf 2 (.slice A3 L.sigs.length d3) (hrf 1 (.slice A2 L.pts.length d2) (hrf 0 (.slice A1 L.secs.length d1) hb.rel)))
      refine ⟨_, _, _, _, cs, rfl, ⟨(hfar 3 _ (hfar 2 _ (hfar 1 _ (hfar 0 _ hb.secs)))).lower (by omega), (hfar 3 _ (hfar 2 _ (hfar 1 _ (hfar 0 _ hb.pts)))).lower (by omega), (hfar 3 _ (hfar 2 _ (hfar 1 _ (hfar 0 _ hb.sigs)))).lower (by omega), (hfar 3 _ (hfar 2 _ (hfar 1 _ (hfar 0 _ hb.rtes)))).lower (by omega), ⟨hrl.len, fun j c x hc hx => by
        have r := hrl.all j c x hc hx
        exact ⟨r.name, r.frm, r.dst, r.path.lower (by omega), r.points.lower (by omega), r.flank.lower (by omega)⟩⟩⟩, hb.l1, hb.l2, hb.l3, hb.l4, ?_⟩
      have hbel := HBEL.out wr hR.out.on
      exact (((hbel.setCell (p := ⟨w.heap.size, 0, none⟩) (Nat.le_refl _) _).setCell (p := ⟨w.heap.size, 1, none⟩) (Nat.le_refl _) _).setCell (p := ⟨w.heap.size, 2, none⟩) (Nat.le_refl _) _).setCell (p := ⟨w.heap.size, 3, none⟩) (Nat.le_refl _) _
    · have e0 : (t.toList == []) = false := by simpa using h0
      have e1 : (t.toList != []) = true := by simp [bne, e0]
      have KC : Hid (Calls Tryd.prog 27 #[.string t, .string ⟨#[10]⟩] wr (CutPost t 10 wr)) := Lib.hid (Cut1_calls t 10 wr (by omega))
      have hne := byt_ne h0
      have HLN : Hid (∀ b : ByteArray, byt b = ((byt t).dropWhile (fun x => x != UInt8.toNat 10)).drop 1 → b.size < t.size) := Lib.hid (fun b hb => by
        have h1 := congrArg List.length hb
        rw [byt_len, List.length_drop] at h1
        have h2 : ((byt t).dropWhile (fun x => x != UInt8.toNat 10)).length ≤ (byt t).length := (List.dropWhile_sublist _).length_le
        have h3 := byt_len t
        have h4 : 0 < (byt t).length := List.length_pos_iff.2 hne
        omega)
      have HX : Hid (pm = parseGo L k ((byt t).takeWhile (fun c => c != 10) :: linesL (((byt t).dropWhile fun c => c != 10).drop 1))) := Lib.hid (by rw [← hR.out.eq, linesL_cons _ hne])
      clear hne h0
      by_cases h60 : k = 60
      · have h61 : (60 : Int) < (k : Int) + 1 := by omega
        have HX2 : Hid (pm = (lay0, k + 1, 6)) := Lib.hid (by rw [HX.out, parseGo_step, if_pos (by omega)])
        clear h60
        go_wp2_with (first
          | (go_at_call 27; refine KC.out.mono ?_; rintro en w2 ⟨a, b, f, rfl, ha, hb, has, hbs, hb2⟩; have HA := Lib.hid ha; have HB := Lib.hid hb; have hasz := has; have hbsz := hbs; have H2 := Lib.hid (hR.out.bd.stay hb2); have HO2 := Lib.hid (hR.out.on.trans (Only.of_below hb2) (S := fun b => w.heap.size + 1 ≤ b) (T := fun b => w.heap.size + 1 ≤ b) (U := fun b => w.heap.size + 1 ≤ b) (fun _ _ h => h) (fun _ _ h => h)); have HG2 := Lib.hid (HGR.out.only HO2.out (by omega)); have f0 := HG2.out.free 0; have f1 := HG2.out.free 1; have f2 := HG2.out.free 2; have f3 := HG2.out.free 3; have y0 := HG2.out.cell 0; have y1 := HG2.out.cell 1; have y2 := HG2.out.cell 2; have y3 := HG2.out.cell 3; simp only [List.getElem?_toArray, List.getElem?_cons_zero, List.getElem?_cons_succ] at y0 y1 y2 y3; clear ha hb has hbs hb2)
          | fail)
        refine bodyPost_ret (parse_ret rfl rfl (HG2.out.put4 _ _ _ _)) rfl ?_
        rw [HX2.out]
        exact ⟨_, _, _, _, [], by simp, layO_nil _ _, Nat.zero_le _, Nat.zero_le _, Nat.zero_le _, Nat.zero_le _, (((((HBEL.out _ HO2.out).setCell (p := ⟨w.heap.size, 0, none⟩) (Nat.le_refl _) _).setCell (p := ⟨w.heap.size, 1, none⟩) (Nat.le_refl _) _).setCell (p := ⟨w.heap.size, 2, none⟩) (Nat.le_refl _) _).setCell (p := ⟨w.heap.size, 3, none⟩) (Nat.le_refl _) _)⟩
      · have h61 : ¬ (60 : Int) < (k : Int) + 1 := by omega
        have h62 : k + 1 ≤ 60 := by omega
        clear h60
        go_upto_region 10 with (first
          | (go_at_call 27; refine KC.out.mono ?_; rintro en w2 ⟨a, b, f, rfl, ha, hb, has, hbs, hb2⟩; have HA := Lib.hid ha; have HB := Lib.hid hb; have hasz := has; have hbsz := hbs; have H2 := Lib.hid (hR.out.bd.stay hb2); have HO2 := Lib.hid (hR.out.on.trans (Only.of_below hb2) (S := fun b => w.heap.size + 1 ≤ b) (T := fun b => w.heap.size + 1 ≤ b) (U := fun b => w.heap.size + 1 ≤ b) (fun _ _ h => h) (fun _ _ h => h)); have HG2 := Lib.hid (HGR.out.only HO2.out (by omega)); have f0 := HG2.out.free 0; have f1 := HG2.out.free 1; have f2 := HG2.out.free 2; have f3 := HG2.out.free 3; have y0 := HG2.out.cell 0; have y1 := HG2.out.cell 1; have y2 := HG2.out.cell 2; have y3 := HG2.out.cell 3; simp only [List.getElem?_toArray, List.getElem?_cons_zero, List.getElem?_cons_succ] at y0 y1 y2 y3; clear ha hb has hbs hb2)
          | (go_at_call 28; refine (Read_calls H2.out (by have := HSZ.out; have := HO2.out.size; omega) a (by omega)).mono ?_; rintro en w3 ⟨rfl, hp3, ho3⟩; have HP3 := Lib.hid hp3; have HO3 := Lib.hid (HO2.out.trans ho3 (S := fun b => w.heap.size + 1 ≤ b) (T := fun b => w.heap.size + 1 ≤ b) (U := fun b => w.heap.size + 1 ≤ b) (fun _ _ h => h) (fun _ _ h => h)); have HG3 := Lib.hid (HGR.out.only HO3.out (by omega)); have g0 := HG3.out.free 0; have g1 := HG3.out.free 1; have g2 := HG3.out.free 2; have g3 := HG3.out.free 3; have z0 := HG3.out.cell 0; have z1 := HG3.out.cell 1; have z2 := HG3.out.cell 2; have z3 := HG3.out.cell 3; simp only [List.getElem?_toArray, List.getElem?_cons_zero, List.getElem?_cons_succ] at z0 z1 z2 z3; clear hp3 ho3 f0 f1 f2 f3 y0 y1 y2 y3; generalize hrl : readM L (byt a) = rl at *; obtain ⟨L3, e3⟩ := rl; have HRL := Lib.hid hrl; clear hrl)
          | fail)
        have HX2 : Hid (pm = if e3 ≠ 0 then (lay0, k + 1, e3) else parseGo L3 (k + 1) (linesL (byt b))) := Lib.hid (by
          have ha : byt a = (byt t).takeWhile (fun c => c != 10) := HA.out
          have hb : byt b = ((byt t).dropWhile (fun c => c != 10)).drop 1 := HB.out
          rw [HX.out, parseGo_step, if_neg (by omega), ← ha, ← hb, HRL.out])
        have hblt := HLN.out b HB.out
        try dsimp only at HP3 ⊢
        cases q0 : (e3 == 0) with
        | false =>
          have q1 : (e3 != 0) = true := by simp [bne, q0]
          have HX3 : Hid (pm = (lay0, k + 1, e3)) := Lib.hid (by rw [HX2.out, if_pos (by simpa using q0)])
          go_wp2_with fail
          refine bodyPost_ret (parse_ret rfl rfl (HG3.out.put4 _ _ _ _)) rfl ?_
          rw [HX3.out]
          exact ⟨_, _, _, _, [], by simp, layO_nil _ _, Nat.zero_le _, Nat.zero_le _, Nat.zero_le _, Nat.zero_le _, (((((HBEL.out _ HO3.out).setCell (p := ⟨w.heap.size, 0, none⟩) (Nat.le_refl _) _).setCell (p := ⟨w.heap.size, 1, none⟩) (Nat.le_refl _) _).setCell (p := ⟨w.heap.size, 2, none⟩) (Nat.le_refl _) _).setCell (p := ⟨w.heap.size, 3, none⟩) (Nat.le_refl _) _)⟩
        | true =>
          have q1 : (e3 != 0) = false := by simp [bne, q0]
          have hq : e3 = 0 := by simpa using q0
          have HX3 : Hid (parseGo L3 (k + 1) (linesL (byt b)) = pm) := Lib.hid (by rw [HX2.out, if_neg (by rw [hq]; simp)])
          obtain ⟨u1, u2, u3', u4', us, hb6, ho6⟩ := HP3.out hq
          have HB6 := Lib.hid hb6
          clear hq hb6 ho6
          go_wp2_with fail
          go_roundw
          case rel => exact ⟨b, k + 1, L3, u1, u2, u3', u4', us, rfl, by go_num, by omega, h62, Lib.hid ⟨HB6.out, HO3.out, HX3.out⟩⟩
          case measure => exact hblt
end Go.Proofs.YtmdnmiiggkfnfaaDoor

/- What is known of Parse: the law's own look. -/
set_option linter.unusedVariables false
set_option linter.unusedSimpArgs false
namespace Go.Proofs.YtmdnmiiggkfnfaaDoor
open Go.RowKit

/-- Parse's answer, its four slices written out. -/
def ParseQ (w : World) (L : Lay) (n : Nat) (er : Int) (e : Ending) (w' : World) : Prop :=
  ∃ A1 c1 A2 c2 A3 c3 A4 c4 n4 cs, e = .returned (.tuple #[.agg #[.slice A1 L.secs.length c1, .slice A2 L.pts.length c2, .slice A3 L.sigs.length c3, .slice A4 n4 c4], .int .i64 n, .int .i64 er]) ∧ LayO w' w.heap.size (.slice A1 L.secs.length c1) (.slice A2 L.pts.length c2) (.slice A3 L.sigs.length c3) (.slice A4 n4 c4) cs L ∧ n4 = L.rtes.length ∧ n4 ≤ 6 ∧ Below w.heap.size w w'
theorem ParseQ_calls (w : World) (hT : Tabs w) (s : ByteArray) (hs : s.size ≤ 1000000) (L : Lay) (n : Nat) (er : Int) (hp : parseM s = (L, n, er)) : Calls Tryd.prog 15 #[.string s] w (ParseQ w L n er) :=
  (Parse_calls w hT s hs).mono (by
    rintro e w' ⟨v1, v2, v3, v4, cs, rfl, hL, l1, l2, l3, l4, hb⟩
    rw [hp] at hL l1 l2 l3 l4 ⊢
    dsimp only at hL l1 l2 l3 l4
    obtain ⟨A1, c1, rfl⟩ := row_form hL.secs
    obtain ⟨A2, c2, rfl⟩ := row_form hL.pts
    obtain ⟨A3, c3, rfl⟩ := row_form hL.sigs
    obtain ⟨A4, c4, rfl⟩ := row_form hL.rtes
    exact ⟨A1, c1, A2, c2, A3, c3, A4, c4, cs.length, cs, rfl, hL, hL.rel.len, by rw [hL.rel.len]; exact l4, hb⟩)
def txA : ByteArray := ⟨#[115, 101, 99, 116, 105, 111, 110, 32, 97, 10, 115, 101, 99, 116, 105, 111, 110, 32, 97, 10]⟩
def txB : ByteArray := ⟨#[115, 105, 103, 110, 97, 108, 32, 115]⟩
theorem kn_a : parseM txA = (lay0, 2, 4) := by decide +kernel
theorem kn_b : parseM txB = (⟨[], [], [⟨#[115]⟩], []⟩, 1, 0) := by decide +kernel
set_option maxRecDepth 20000 in
set_option maxHeartbeats 4000000 in
theorem known3_calls (w : World) (hT : Tabs w) : Calls Tryd.prog 16 #[] w fun e w' => e = .returned (.bool true) ∧ Below w.heap.size w w' := by
  have K1 : Hid (Calls Tryd.prog 15 #[.string ⟨#[115, 101, 99, 116, 105, 111, 110, 32, 97, 10, 115, 101, 99, 116, 105, 111, 110, 32, 97, 10]⟩] w (ParseQ w lay0 2 4)) := Lib.hid (ParseQ_calls w hT txA (by decide) _ _ _ kn_a)
  have K2 : Hid (∀ W : World, Below w.heap.size w W → Calls Tryd.prog 15 #[.string ⟨#[115, 105, 103, 110, 97, 108, 32, 115]⟩] W (ParseQ W ⟨[], [], [⟨#[115]⟩], []⟩ 1 0)) := Lib.hid (fun W hb => ParseQ_calls W (hT.stay hb) txB (by decide) _ _ _ kn_b)
  clear hT
  go_enter Tryd.func16, Tryd.ntmps16
  go_upto_region 3 with (first
    | (go_at_call 15; (with_reducible refine K1.out.mono ?_); rintro en w1 ⟨A1, c1, A2, c2, A3, c3, A4, c4, n4, cs, rfl, hL, hn4, hn6, hb⟩; have HB1 := Lib.hid hb; have hs1 := hb.size; clear hL hb)
    | (go_at_call 15; (with_reducible refine (K2.out _ (HB1.out.alloc hs1 _)).mono ?_); rintro en w2 ⟨B1, d1, B2, d2, B3, d3, B4, d4, m4, ds, rfl, hL2, hm4, hm6, hb2⟩; have HL2 := Lib.hid hL2; have HB2 := Lib.hid (below_more (HB1.out.alloc hs1 _) hb2); clear hL2 hb2)
    | fail)
  obtain ⟨b, cap, eb, hc⟩ := own_str HL2.out.sigs (by decide)
  have s0 : w2.cell? ⟨b, 0, none⟩ = some (.string ⟨#[115]⟩) := hc 0 _ rfl
  injection eb with e1 e2 e3
  subst e1 e3
  clear e2 hc
  have hlt := cell_lt s0
  simp only at hlt

  go_wp2_with fail
  go_ret
  exact ⟨rfl, below_more HB2.out (below_new _ _)⟩
end Go.Proofs.YtmdnmiiggkfnfaaDoor

/- Texts line by line: plain. -/
set_option linter.unusedVariables false
set_option linter.unusedSimpArgs false
namespace Go.Proofs.YtmdnmiiggkfnfaaDoor
open Go.RowKit

theorem byt_app3 (x y : ByteArray) : byt (x ++ y) = byt x ++ byt y := by
  unfold byt
  rw [ByteArray.data_append, Array.toList_append, List.map_append]
theorem linesL_line {l : List Nat} (h : 10 ∉ l) (t : List Nat) : linesL (l ++ 10 :: t) = l :: linesL t := by
  induction l with
  | nil => simp [linesL]
  | cons c r ih =>
    have hc : c ≠ 10 := fun e => h (by rw [e]; simp)
    have hr : 10 ∉ r := fun e => h (List.mem_cons_of_mem _ e)
    rw [List.cons_append, linesL, if_neg hc, ih hr]
/-- Lines, each with its end, behind one another. -/
def joinNl (ls : List (List Nat)) : List Nat := (ls.map fun l => l ++ [10]).flatten
theorem linesL_join (ls : List (List Nat)) (h : ∀ l ∈ ls, 10 ∉ l) : linesL (joinNl ls) = ls := by
  induction ls with
  | nil => rfl
  | cons l r ih =>
    have e : joinNl (l :: r) = l ++ 10 :: joinNl r := by simp [joinNl]
    rw [e, linesL_line (h l (by simp)), ih (fun x hx => h x (List.mem_cons_of_mem _ hx))]
theorem joinNl_snoc (ls : List (List Nat)) (l : List Nat) : joinNl (ls ++ [l]) = joinNl ls ++ l ++ [10] := by simp [joinNl]
theorem parseM_lines {s : ByteArray} {ls : List (List Nat)} (hs : byt s = joinNl ls) (h : ∀ l ∈ ls, 10 ∉ l) : parseM s = parseGo lay0 0 ls := by
  unfold parseM
  rw [hs, linesL_join ls h]
end Go.Proofs.YtmdnmiiggkfnfaaDoor
