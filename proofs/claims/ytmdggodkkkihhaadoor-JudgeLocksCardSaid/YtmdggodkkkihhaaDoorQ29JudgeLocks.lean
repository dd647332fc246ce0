/- Texts put together for a claim. -/
import Derived.Test.YtmdggodkkkihhaaDoorQ24JudgeLocks
import Derived.Test.YtmdggodkkkihhaaDoorQ25JudgeLocks
import Derived.Test.YtmdggodkkkihhaaDoorQ26JudgeLocks
import Derived.Deep.RegionHeld3
import Derived.Deep.DeepCutAuto
import Derived.StillTailTactics
/- Contract: the reference's Lock's Cycle. -/
set_option linter.unusedVariables false
set_option linter.unusedSimpArgs false
namespace Go.Proofs.YtmdggodkkkihhaaDoor
open Go.RowKit

theorem Sl.only0 {α : Type} {f : Fl α} {w w1 : World} {S : Nat → Prop} {A : Option Addr} {n c : Nat} {xs : List α} (h : Sl f w A n c xs) (ho : Only S w w1) (hn : 0 < n → ∀ a, A = some a → ¬ S a.block) : Sl f w1 A n c xs := by
  refine ⟨⟨h.rf.1, h.rf.2.1, fun h0 => ?_⟩, h.le, h.cap, h.sz⟩
  obtain ⟨b, off, e, hc⟩ := h.rf.2.2 h0
  refine ⟨b, off, e, fun j x hx i v hv => ?_⟩
  have := hc j x hx i v hv
  rw [← this]
  have hb : b < w.heap.size := cell_lt this
  have := ho.block b hb (hn h0 _ e)
  simp only [World.cell?, this]
theorem cell_only {w w1 : World} {S : Nat → Prop} {p : Addr} {v : Value} (h : w.cell? p = some v) (ho : Only S w w1) (hn : ¬ S p.block) : w1.cell? p = some v := by
  rw [← h]
  have := ho.block p.block (cell_lt h) hn
  simp only [World.cell?, this]
theorem Lk.far {T : TypeId} {w0 w : World} {g rb : Nat} {L : Lay} {A1 A2 A3 A4 : Option Addr} {n1 c1 n2 c2 n3 c3 n4 c4 kc : Nat} {rs : List Rs} {tl : List Value} (h : Lk T w0 w g rb L A1 A2 A3 A4 n1 c1 n2 c2 n3 c3 n4 c4 kc rs tl)
    {b : Nat} (h0 : w0.heap.size ≤ b) (h1 : g ≠ b) (h2 : rb ≠ b) (o : Nat) (u : Value) : Lk T w0 (w.setCell ⟨b, o, none⟩ u) g rb L A1 A2 A3 A4 n1 c1 n2 c2 n3 c3 n4 c4 kc rs tl :=
  ⟨h.lay, h.hb.setCell (p := ⟨b, o, none⟩) h0 u, h.blk.far (p := ⟨b, o, none⟩) h1 u, h.row.far (p := ⟨b, o, none⟩) h2 u, h.len, h.cap, h.lg, h.lr, h.ne⟩
/-- A row of needs does not lie where a row of numbers lies. -/
theorem needs_off {w : World} {A : Option Addr} {q qc g : Nat} {ns : List Need} {xs : List Int} {t : TypeId} {fr : Nat × Nat} (h : Sl flN w A q qc ns) (hb : Blk w g (xs.flatMap flI.enc).toArray t fr) : 0 < q → ∀ a, A = some a → a.block ≠ g := by
  intro hq a ha e
  obtain ⟨b, off, y, e1, _, _, d1⟩ := h.need hq
  rw [ha] at e1
  cases e1
  simp only at e
  subst e
  rw [hb.cell] at d1
  have h1 : ∀ (xs : List Int) (k : Nat) (v : Bool), (xs.flatMap flI.enc)[k]? ≠ some (.bool v) := by
    intro xs
    induction xs with
    | nil => intro k v h; simp at h
    | cons x t ih =>
      intro k v h
      cases k with
      | zero => rw [List.flatMap_cons] at h; cases h
      | succ k => exact ih k v (by rw [List.flatMap_cons] at h; exact h)
  rw [List.getElem?_toArray] at d1
  exact h1 xs _ _ d1
theorem row_int {w : World} {g u : Nat} {d : Int} {xs : List Int} {t : TypeId} {fr : Nat × Nat} (hb : Blk w g (xs.flatMap flI.enc).toArray t fr) (hd : xs[u]? = some d) : w.cell? ⟨g, u, none⟩ = some (.int .i64 d) := by
  rw [hb.cell, List.getElem?_toArray]
  have := flat_get flI xs u 0 (by decide)
  rw [hd] at this
  simpa [flI] using this
theorem row_bool {w : World} {g u : Nat} {d : Bool} {xs : List Bool} {t : TypeId} {fr : Nat × Nat} (hb : Blk w g (xs.flatMap flT.enc).toArray t fr) (hd : xs[u]? = some d) : w.cell? ⟨g, u, none⟩ = some (.bool d) := by
  rw [hb.cell, List.getElem?_toArray]
  have := flat_get flT xs u 0 (by decide)
  rw [hd] at this
  simpa [flT] using this
/-- Within a cycle. -/
structure CyI (w0 w wr : World) (g rb gn gt gO gd gp : Nat) (L : Lay) (A1 A2 A3 A4 : Option Addr) (n1 c1 n2 c2 n3 c3 n4 c4 kc : Nat) (rs : List Rs) (tl : List Value) (C D : Option Addr) (n c m d : Nat) (dr : List Int) (pr : List Bool) : Prop where
  lk : Lk 52 w0 wr g rb L A1 A2 A3 A4 n1 c1 n2 c2 n3 c3 n4 c4 kc rs tl
  only : Only (fun b => b = rb) w wr
  bi : Blk wr gn #[.slice C n c, .slice D m d] 30 (0, 0)
  bt : Blk wr gt #[.slice none 0 0, .slice none 0 0] 32 (0, 0)
  bo : Blk wr gO #[.slice (some ⟨gd, 0, none⟩) n2 n2, .slice (some ⟨gp, 0, none⟩) n3 n3] 32 (0, 0)
  bd : Blk wr gd (dr.flatMap flI.enc).toArray 3 (0, 0)
  bp : Blk wr gp (pr.flatMap flT.enc).toArray 4 (0, 0)
  ld : dr.length = n2
  lp : pr.length = n3
/-- Where they lie. -/
structure CyN (w0 w : World) (g rb gn gt gO gd gp : Nat) : Prop where
  hw : w0.heap.size ≤ w.heap.size
  hg : g < w.heap.size
  hrb : rb < w.heap.size
  hgd : w.heap.size ≤ gd
  hgp : w.heap.size ≤ gp
  d1 : gd ≠ gn ∧ gd ≠ gt ∧ gd ≠ gO ∧ gd ≠ gp
  p1 : gp ≠ gn ∧ gp ≠ gt ∧ gp ≠ gO
  r1 : rb ≠ gn ∧ rb ≠ gt ∧ rb ≠ gO ∧ rb ≠ gd ∧ rb ≠ gp
section
variable {w0 w wr : World} {g rb gn gt gO gd gp : Nat} {L : Lay} {A1 A2 A3 A4 : Option Addr} {n1 c1 n2 c2 n3 c3 n4 c4 kc : Nat} {rs : List Rs} {tl : List Value} {C D : Option Addr} {n c m d : Nat} {dr : List Int} {pr : List Bool} {I : Inn}
theorem CyI.stay (h : CyI w0 w wr g rb gn gt gO gd gp L A1 A2 A3 A4 n1 c1 n2 c2 n3 c3 n4 c4 kc rs tl C D n c m d dr pr) {w1 : World} (hb : Below wr.heap.size wr w1) : CyI w0 w w1 g rb gn gt gO gd gp L A1 A2 A3 A4 n1 c1 n2 c2 n3 c3 n4 c4 kc rs tl C D n c m d dr pr :=
  ⟨h.lk.stay hb, h.only.trans (only_of hb (rb := rb)) (fun _ _ h => h) (fun _ _ h => h), h.bi.below hb h.bi.lt, h.bt.below hb h.bt.lt, h.bo.below hb h.bo.lt, h.bd.below hb h.bd.lt, h.bp.below hb h.bp.lt, h.ld, h.lp⟩
theorem CyI.putd (h : CyI w0 w wr g rb gn gt gO gd gp L A1 A2 A3 A4 n1 c1 n2 c2 n3 c3 n4 c4 kc rs tl C D n c m d dr pr) (hn : CyN w0 w g rb gn gt gO gd gp) (j : Nat) (v : Int) :
    CyI w0 w (wr.setCell ⟨gd, j, none⟩ (.int .i64 v)) g rb gn gt gO gd gp L A1 A2 A3 A4 n1 c1 n2 c2 n3 c3 n4 c4 kc rs tl C D n c m d (dr.set j v) pr := by
  have hd := h.bd.put j (.int .i64 v)
  rw [List.setIfInBounds_toArray, flat_set1 flI rfl dr j v _ rfl] at hd
  have e := hn.d1
  have e2 := hn.r1
  have e3 := hn.hgd
  have e4 := hn.hg
  have e5 := hn.hw
  exact ⟨h.lk.far (by omega) (by omega) (by omega) j _, h.only.trans (Only.put _ _) (fun _ _ h => h) (fun q hq h => by have : q = gd := h; omega), h.bi.far (p := ⟨gd, j, none⟩) (Ne.symm e.1) _, h.bt.far (p := ⟨gd, j, none⟩) (Ne.symm e.2.1) _, h.bo.far (p := ⟨gd, j, none⟩) (Ne.symm e.2.2.1) _, hd, h.bp.far (p := ⟨gd, j, none⟩) (Ne.symm e.2.2.2) _, by rw [List.length_set]; exact h.ld, h.lp⟩
theorem CyI.putp (h : CyI w0 w wr g rb gn gt gO gd gp L A1 A2 A3 A4 n1 c1 n2 c2 n3 c3 n4 c4 kc rs tl C D n c m d dr pr) (hn : CyN w0 w g rb gn gt gO gd gp) (j : Nat) (v : Bool) :
    CyI w0 w (wr.setCell ⟨gp, j, none⟩ (.bool v)) g rb gn gt gO gd gp L A1 A2 A3 A4 n1 c1 n2 c2 n3 c3 n4 c4 kc rs tl C D n c m d dr (pr.set j v) := by
  have hd := h.bp.put j (.bool v)
  rw [List.setIfInBounds_toArray, flat_set1 flT rfl pr j v _ rfl] at hd
  have e := hn.p1
  have e1 := hn.d1
  have e2 := hn.r1
  have e3 := hn.hgp
  have e4 := hn.hg
  have e5 := hn.hw
  exact ⟨h.lk.far (by omega) (by omega) (by omega) j _, h.only.trans (Only.put _ _) (fun _ _ h => h) (fun q hq h => by have : q = gp := h; omega), h.bi.far (p := ⟨gp, j, none⟩) (Ne.symm e.1) _, h.bt.far (p := ⟨gp, j, none⟩) (Ne.symm e.2.1) _, h.bo.far (p := ⟨gp, j, none⟩) (Ne.symm e.2.2) _, h.bd.far (p := ⟨gp, j, none⟩) e1.2.2.2 _, hd, h.ld, by rw [List.length_set]; exact h.lp⟩
/-- The cells that a round reads. -/
theorem CyI.cells (h : CyI w0 w wr g rb gn gt gO gd gp L A1 A2 A3 A4 n1 c1 n2 c2 n3 c3 n4 c4 kc rs tl C D n c m d dr pr) :
    wr.cell? ⟨g, 0, none⟩ = some (.slice A1 n1 c1) ∧ wr.cell? ⟨g, 1, none⟩ = some (.slice A2 n2 c2) ∧ wr.cell? ⟨g, 2, none⟩ = some (.slice A3 n3 c3) ∧ wr.cell? ⟨g, 3, none⟩ = some (.slice A4 n4 c4) ∧ wr.cell? ⟨g, 4, none⟩ = some (.slice (some ⟨rb, 0, none⟩) n4 kc) ∧
    wr.cell? ⟨gn, 0, none⟩ = some (.slice C n c) ∧ wr.cell? ⟨gn, 1, none⟩ = some (.slice D m d) ∧ wr.cell? ⟨gO, 0, none⟩ = some (.slice (some ⟨gd, 0, none⟩) n2 n2) ∧ wr.cell? ⟨gO, 1, none⟩ = some (.slice (some ⟨gp, 0, none⟩) n3 n3) :=
  ⟨h.lk.blk.cell 0, h.lk.blk.cell 1, h.lk.blk.cell 2, h.lk.blk.cell 3, h.lk.blk.cell 4, h.bi.cell 0, h.bi.cell 1, h.bo.cell 0, h.bo.cell 1⟩
theorem CyI.putt (h : CyI w0 w wr g rb gn gt gO gd gp L A1 A2 A3 A4 n1 c1 n2 c2 n3 c3 n4 c4 kc rs tl C D n c m d dr pr) (hn : CyN w0 w g rb gn gt gO gd gp) (hg : w.heap.size ≤ gt) (u v : Value) :
    Lk 52 w0 ((wr.setCell ⟨gt, 0, none⟩ u).setCell ⟨gt, 1, none⟩ v) g rb L A1 A2 A3 A4 n1 c1 n2 c2 n3 c3 n4 c4 kc rs tl ∧ Only (fun b => b = rb) w ((wr.setCell ⟨gt, 0, none⟩ u).setCell ⟨gt, 1, none⟩ v) ∧
    Blk ((wr.setCell ⟨gt, 0, none⟩ u).setCell ⟨gt, 1, none⟩ v) gt #[u, v] 32 (0, 0) ∧ Blk ((wr.setCell ⟨gt, 0, none⟩ u).setCell ⟨gt, 1, none⟩ v) gd (dr.flatMap flI.enc).toArray 3 (0, 0) ∧ Blk ((wr.setCell ⟨gt, 0, none⟩ u).setCell ⟨gt, 1, none⟩ v) gp (pr.flatMap flT.enc).toArray 4 (0, 0) := by
  have e := hn.d1
  have e1 := hn.p1
  have e2 := hn.r1
  have e3 := hn.hg
  have e4 := hn.hw
  exact ⟨(h.lk.far (b := gt) (by omega) (by omega) (by omega) 0 u).far (b := gt) (by omega) (by omega) (by omega) 1 v, (h.only.trans (Only.put ⟨gt, 0, none⟩ u) (fun _ _ h => h) (fun q hq h => by have : q = gt := h; omega)).trans (Only.put ⟨gt, 1, none⟩ v) (fun _ _ h => h) (fun q hq h => by have : q = gt := h; omega),
    (h.bt.put 0 u).put 1 v, (h.bd.far (p := ⟨gt, 0, none⟩) e.2.1 _).far (p := ⟨gt, 1, none⟩) e.2.1 _, (h.bp.far (p := ⟨gt, 0, none⟩) e1.2.1 _).far (p := ⟨gt, 1, none⟩) e1.2.1 _⟩
theorem CyI.outs (h : CyI w0 w wr g rb gn gt gO gd gp L A1 A2 A3 A4 n1 c1 n2 c2 n3 c3 n4 c4 kc rs tl C D n c m d dr pr) (h2 : n2 ≤ 1000000) (h3 : n3 ≤ 1000000) : OuV wr ⟨dr, pr⟩ (some ⟨gd, 0, none⟩) (some ⟨gp, 0, none⟩) n2 n2 n3 n3 :=
  ⟨sl_lit flI dr n2 h.ld h.bd rfl h2, sl_lit flT pr n3 h.lp h.bp rfl h3⟩
/-- Behind a cycle. -/
def CyclePost (w0 w : World) (g rb : Nat) (L : Lay) (A1 A2 A3 A4 : Option Addr) (n1 c1 n2 c2 n3 c3 n4 c4 kc : Nat) (I : Inn) (rs : List Rs) (tl : List Value) (e : Ending) (w' : World) : Prop :=
  ∃ gd gp, e = .returned (.agg #[.slice (some ⟨gd, 0, none⟩) n2 n2, .slice (some ⟨gp, 0, none⟩) n3 n3]) ∧ Lk 52 w0 w' g rb L A1 A2 A3 A4 n1 c1 n2 c2 n3 c3 n4 c4 kc (nextM L I rs) tl ∧ Only (fun b => b = rb) w w' ∧
    OuV w' (cycleOut L I rs) (some ⟨gd, 0, none⟩) (some ⟨gp, 0, none⟩) n2 n2 n3 n3 ∧ w.heap.size ≤ gd ∧ w.heap.size ≤ gp
set_option maxRecDepth 20000 in
set_option maxHeartbeats 16000000 in
theorem RefCycle_calls (w0 w : World) (g rb : Nat) (h : Lk 52 w0 w g rb L A1 A2 A3 A4 n1 c1 n2 c2 n3 c3 n4 c4 kc rs tl) (hin : ∀ w', Only (fun b => b = rb) w w' → InV w' I C D n c m d) (hlo : LayOk L) (h2 : n2 ≤ 6) (h3 : n3 ≤ 6) (hmay : mayInM L I = true)
    (hon : OnesOk L rs) (hpl : ∀ x ∈ L.rtes, 1 ≤ x.path.length) (hfr : ∀ x ∈ L.rtes, 0 ≤ x.frm ∧ x.frm < L.sigs.length) :
    Calls Tryd.prog 18 #[.pointer (some ⟨g, 0, none⟩), .agg #[.slice C n c, .slice D m d]] w (CyclePost w0 w g rb L A1 A2 A3 A4 n1 c1 n2 c2 n3 c3 n4 c4 kc I rs tl) := by
  have hbw : Below w.heap.size w ((w.alloc (.cells #[.slice C n c, .slice D m d] 30)).alloc (.cells #[.slice none 0 0, .slice none 0 0] 32)) := (below_new w _).alloc (by simp) _
  have hbi := (Blk.new w #[.slice C n c, .slice D m d] 30 (0, 0)).alloc (.cells #[.slice none 0 0, .slice none 0 0] 32)
  have hbt := Blk.at_ (w := w.alloc (.cells #[.slice C n c, .slice D m d] 30)) (g := w.heap.size + 1) (by simp) #[.slice none 0 0, .slice none 0 0] 32 (0, 0)
  obtain ⟨e1, e2⟩ : I.occ.length = L.secs.length ∧ I.lies.length = L.pts.length := by
    have := hmay
    unfold mayInM at this
    simp only [Bool.and_eq_true, decide_eq_true_eq] at this
    exact ⟨this.1.2, this.2⟩
  have hi0 := hin w (Only.refl _ _)
  have HK := Lib.hid (h.stay hbw)
  have HIN := Lib.hid hin
  have HB := Lib.hid hbw
  have HBI := Lib.hid hbi
  have HBT := Lib.hid hbt
  have HLO := Lib.hid hlo
  have HAL := Lib.hid (hlo.all e1 e2)
  have HON := Lib.hid hon
  have HPL := Lib.hid hpl
  have HFR := Lib.hid hfr
  have HMAY := Lib.hid hmay
  have H23 := Lib.hid (And.intro h2 h3)
  have HGW := Lib.hid (And.intro h.hb.size (And.intro h.blk.lt h.row.lt))
  have HLN := Lib.hid (And.intro h.len (And.intro h.lay.rtes.len (And.intro h.lay.pts.len (And.intro h.lay.sigs.len (And.intro hi0.occ.len (And.intro hi0.lies.len (And.intro e1 e2)))))))
  have hcap := h.cap
  have qn := Nat.le_trans hi0.occ.le hi0.occ.cap
  have qm := Nat.le_trans hi0.lies.le hi0.lies.cap
  clear h hin hbi hbt hlo hon hpl hfr hmay e1 e2 hi0
  go_enter Tryd.func18, Tryd.ntmps18
  go_wp2_with fail
  have hsz0 : ((w.alloc (.cells #[.slice C n c, .slice D m d] 30)).alloc (.cells #[.slice none 0 0, .slice none 0 0] 32)).heap.size = w.heap.size + 2 := by simp
  generalize ((w.alloc (.cells #[.slice C n c, .slice D m d] 30)).alloc (.cells #[.slice none 0 0, .slice none 0 0] 32)) = W0 at *
  refine (RefLockSafe_calls w0 W0 g rb HK.out h2 h3).mono ?_
  rintro e w2 ⟨gd, gp, rfl, hbd, hbp, ld, lp, hb2⟩
  have HBD := Lib.hid hbd
  have HBP := Lib.hid hbp
  have HB2 := Lib.hid hb2
  have hdp : gd ≠ gp := blk_not_blk hbd hbp (by decide)
  have hdl := hbd.lt
  have hpl := hbp.lt
  clear hbd hbp hb2
  go_wp2_with fail
  have hn3 := below_new w2 (.cells #[.slice (some ⟨gd, 0, none⟩) n2 n2, .slice (some ⟨gp, 0, none⟩) n3 n3] 32)
  have HN : Hid (CyN w0 w g rb w.heap.size (w.heap.size + 1) w2.heap.size gd gp) := Lib.hid (by
    obtain ⟨a1, a2, a3⟩ := HGW.out
    have := HB2.out.size
    exact ⟨a1, a2, a3, by omega, by omega, ⟨by omega, by omega, by omega, hdp⟩, ⟨by omega, by omega, by omega⟩, ⟨by omega, by omega, by omega, by omega, by omega⟩⟩)
  have HC : Hid (CyI w0 w (w2.alloc (.cells #[.slice (some ⟨gd, 0, none⟩) n2 n2, .slice (some ⟨gp, 0, none⟩) n3 n3] 32)) g rb w.heap.size (w.heap.size + 1) w2.heap.size gd gp L A1 A2 A3 A4 n1 c1 n2 c2 n3 c3 n4 c4 kc rs tl C D n c m d (List.replicate n2 0) (List.replicate n3 false)) := Lib.hid (by
    have hb3 := below_more HB2.out hn3
    exact ⟨HK.out.stay hb3, only_of (below_more HB.out hb3), HBI.out.below hb3 HBI.out.lt, HBT.out.below hb3 HBT.out.lt, Blk.new _ _ _ _, HBD.out.below hn3 HBD.out.lt, HBP.out.below hn3 HBP.out.lt, by simp, by simp⟩)
  clear HK HB HBI HBT HB2 HBD HBP hn3 hbw hsz0 ld lp hdp hdl hpl
  generalize (w2.alloc (.cells #[.slice (some ⟨gd, 0, none⟩) n2 n2, .slice (some ⟨gp, 0, none⟩) n3 n3] 32)) = w3 at *
  generalize w2.heap.size = gO at *
  generalize hgt : w.heap.size + 1 = gt at *
  generalize hgn : w.heap.size = gn at *
  have HGN := Lib.hid (And.intro hgn hgt)
  clear hgn hgt
  have KM := Lib.hid (fun z : Later w3 => RefMayIn_calls z.w1 (HC.out.lk.layv.stay z.hb) ((HIN.out w3 HC.out.only).stay z.hb))
  rw [HMAY.out] at KM
  obtain ⟨g0, g1, g2, g3, g4, i0, i1, o0, o1⟩ := HC.out.cells
  have Lg0 := later_cell g0
  have Lg1 := later_cell g1
  have Lg2 := later_cell g2
  have Lg3 := later_cell g3
  have Lg4 := later_cell g4
  have Li0 := later_cell i0
  have Li1 := later_cell i1
  refine wp_region_later (by kernel_rfl) (by kernel_rfl) ?_
  repeat (go_big_quiet_step ((first | (go_at_call 10; rename_i z; exact later_call z (KM.out z)) | fail)))
  refine wpQuiet_nil ?_
  intro q0
  have HC := Lib.hid (HC.out.stay q0.hb)
  clear KM Lg0 Lg1 Lg2 Lg3 Lg4 Li0 Li1
  generalize q0.w1 = w4 at *
  clear g0 g1 g2 g3 g4 i0 i1 o0 o1
  obtain ⟨g0, g1, g2, g3, g4, i0, i1, o0, o1⟩ := HC.out.cells
  go_wp2_with fail
  clear g0 g1 g2 g3 g4 i0 i1 o0 o1
  go_loopw [6] (fun i wr => ∃ j : Nat, j ≤ n4 ∧ i = .int .i64 j ∧ Hid (CyI w0 w wr g rb gn gt gO gd gp L A1 A2 A3 A4 n1 c1 n2 c2 n3 c3 n4 c4 kc (stepsTo L I rs j) tl C D n c m d (List.replicate n2 0) (List.replicate n3 false))) (fun i _ => n4 - (intOf i).toNat)
  case atStart => exact ⟨0, by omega, rfl, HC⟩
  case round =>
    obtain ⟨j, hj, rfl, hr⟩ := hrel
    obtain ⟨g0, g1, g2, g3, g4, i0, i1, o0, o1⟩ := hr.out.cells
    by_cases hlt : j < n4
    · obtain ⟨y, hy⟩ : ∃ y, rs[j]? = some y := ⟨_, List.getElem?_eq_getElem (by have := HLN.out; omega)⟩
      obtain ⟨x, hx⟩ : ∃ x, L.rtes[j]? = some x := ⟨_, List.getElem?_eq_getElem (by have := HLN.out; omega)⟩
      have KS := Lib.hid (RefStep_calls w0 wr g rb hr.out.lk (HIN.out wr hr.out.only) j y (by rw [steps_rest (Nat.le_refl _)]; exact hy) x hx (HAL.out.all x (List.mem_of_getElem? hx)) (HON.out j x y hx hy) (HPL.out x (List.mem_of_getElem? hx)))
      have HNX := Lib.hid (steps_next (L := L) (I := I) hx hy)
      clear hx hy
      go_wp2_with (first
        | (go_at_call 33; refine KS.out.mono ?_; rintro e w5 ⟨rfl, hk5, ho5⟩; have HK5 := Lib.hid hk5; have HO5 := Lib.hid ho5; clear hk5 ho5)
        | fail)
      go_roundw
      case rel =>
        refine ⟨j + 1, by omega, by go_num, Lib.hid ?_⟩
        have e := HN.out.r1
        have hc := hr.out
        rw [HNX.out]
        exact ⟨HK5.out, hc.only.trans HO5.out (fun _ _ h => h) (fun _ _ h => h), hc.bi.only HO5.out (Ne.symm e.1), hc.bt.only HO5.out (Ne.symm e.2.1), hc.bo.only HO5.out (Ne.symm e.2.2.1), hc.bd.only HO5.out (Ne.symm e.2.2.2.1), hc.bp.only HO5.out (Ne.symm e.2.2.2.2), hc.ld, hc.lp⟩
      case measure => simp [intOf]; omega
    · obtain rfl : j = n4 := by omega
      have HC5 : Hid (CyI w0 w wr g rb gn gt gO gd gp L A1 A2 A3 A4 n1 c1 n2 c2 n3 c3 j c4 kc (nextM L I rs) tl C D n c m d (List.replicate n2 0) (List.replicate n3 false)) := Lib.hid (by unfold nextM; rw [HLN.out.1]; exact hr.out)
      clear hlt HC
      have HON2 := Lib.hid (next_ones HON.out HPL.out (I := I))
      have HNL : Hid ((nextM L I rs).length = j) := Lib.hid (by unfold nextM; rw [steps_len, HLN.out.1])
      have HCO : Hid (cycleOut L I rs = outTo L I (nextM L I rs) j) := Lib.hid (by unfold cycleOut; rw [HLN.out.1])
      have HST : Hid (outTo L I (nextM L I rs) 0 = ⟨List.replicate n2 0, List.replicate n3 false⟩) := Lib.hid (by unfold outTo; rw [HLN.out.2.2.1, HLN.out.2.2.2.1])
      generalize hne : nextM L I rs = rn at *
      have HNE := Lib.hid hne
      clear hne hr
      go_wp2_with fail
      generalize hwr : wr = w7 at *
      clear hwr g0 g1 g2 g3 g4 i0 i1 o0 o1
      go_loopw [7] (fun i wr => ∃ s : Nat, s ≤ j ∧ i = .int .i64 s ∧ Hid (CyI w0 w wr g rb gn gt gO gd gp L A1 A2 A3 A4 n1 c1 n2 c2 n3 c3 j c4 kc rn tl C D n c m d (outTo L I rn s).drive (outTo L I rn s).proceed)) (fun i _ => j - (intOf i).toNat)
      case atStart => exact ⟨0, by omega, rfl, Lib.hid (by rw [HST.out]; exact HC5.out)⟩
      case round =>
        obtain ⟨s, hs, rfl, hr⟩ := hrel
        have HC := Lib.hid hr.out
        obtain ⟨g0, g1, g2, g3, g4, i0, i1, o0, o1⟩ := HC.out.cells
        clear hr
        by_cases hlt : s < j
        · obtain ⟨z, hz⟩ : ∃ z, rn[s]? = some z := ⟨_, List.getElem?_eq_getElem (by have := HNL.out; omega)⟩
          obtain ⟨x, hx⟩ : ∃ x, L.rtes[s]? = some x := ⟨_, List.getElem?_eq_getElem (by have := HLN.out; omega)⟩
          obtain ⟨r0, r1, r2, r3⟩ := row_at HC.out.lk.row hz
          have HX := Lib.hid hx
          have HZ := Lib.hid hz
          have hsj : (s : Int) < j := by omega
          have HOX : Hid (outTo L I rn (s + 1) = ⟨driveOf L I rn s (outTo L I rn s).drive, goesOf L I rn s (outTo L I rn s).proceed⟩) := Lib.hid rfl
          obtain ⟨zm, zt, zg, zs⟩ := z
          simp only at r0 r1 r2 r3
          generalize (outTo L I rn s).drive = dr0 at *
          generalize (outTo L I rn s).proceed = pr0 at *
          clear hz hx
          go_upto_if 52 with fail
          go_cut [] (fun wx => Hid (CyI w0 w wx g rb gn gt gO gd gp L A1 A2 A3 A4 n1 c1 n2 c2 n3 c3 j c4 kc rn tl C D n c m d (driveOf L I rn s dr0) pr0))
          case first =>
            by_cases m1 : zm = 1
            case neg =>
              have m1' : (zm == 1) = false := by simp [m1]
              have HF : Hid (driveOf L I rn s dr0 = dr0) := Lib.hid (by unfold driveOf; rw [HX.out, HZ.out]; exact if_neg m1)
              clear m1
              go_wp2_with fail
              go_meet
              exact Lib.hid (by rw [HF.out]; exact HC.out)
            case pos =>
              subst m1
              have HF : Hid (driveOf L I rn s dr0 = driveAll L I rn s dr0 (x.points ++ x.flank)) := Lib.hid (by unfold driveOf; rw [HX.out, HZ.out]; exact if_pos rfl)
              have KN := Lib.hid (RNeeds_calls wr L _ _ _ _ _ _ _ _ _ _ _ _ HC.out.lk.layv s x HX.out (HAL.out.all x (List.mem_of_getElem? HX.out)).few)
              have HNP := Lib.hid (HAL.out.all x (List.mem_of_getElem? HX.out)).need
              generalize x.points ++ x.flank = ns at *
              go_wp2_with (first
                | (go_at_call 34; refine KN.out.mono ?_; rintro e w5 ⟨B, q, qc, rfl, hq, hb5⟩; have HB5 := Lib.hid hb5; have HQ := Lib.hid hq; clear hb5 hq)
                | fail)
              have HC5 := Lib.hid (HC.out.stay HB5.out)
              have HQL := Lib.hid HQ.out.len
              have qq := Nat.le_trans HQ.out.le HQ.out.cap
              clear KN HC g0 g1 g2 g3 g4 i0 i1 o0 o1 r0 r1 r2 r3
              go_loopw [9] (fun i wr => ∃ t : Nat, t ≤ q ∧ i = .int .i64 t ∧ Hid (CyI w0 w wr g rb gn gt gO gd gp L A1 A2 A3 A4 n1 c1 n2 c2 n3 c3 j c4 kc rn tl C D n c m d (driveAll L I rn s dr0 (ns.take t)) pr0 ∧ Sl flN wr B q qc ns)) (fun i _ => q - (intOf i).toNat)
              case atStart => exact ⟨0, by omega, rfl, Lib.hid ⟨HC5.out, HQ.out⟩⟩
              case round =>
                obtain ⟨t, ht, rfl, hr⟩ := hrel
                have HC6 := Lib.hid hr.out.1
                have HQ6 := Lib.hid hr.out.2
                obtain ⟨g0, g1, g2, g3, g4, i0, i1, o0, o1⟩ := HC6.out.cells
                clear hr
                by_cases hlt2 : t < q
                · obtain ⟨bn, on, a, rfl, ha, a0, a1⟩ := HQ6.out.need hlt2
                  obtain ⟨p0, p1⟩ := HNP.out a (List.mem_of_getElem? ha)
                  obtain ⟨u, hu⟩ : ∃ u : Nat, a.p = u := ⟨a.p.toNat, by omega⟩
                  obtain ⟨bp, op, pt, rfl, hpt, _, cp⟩ := HC6.out.lk.layv.pts.pt (j := u) (by have := HLN.out; omega)
                  obtain ⟨s0, s1⟩ := HLO.out.pts pt (List.mem_of_getElem? hpt)
                  obtain ⟨v, hv⟩ : ∃ v : Nat, pt.sec = v := ⟨pt.sec.toNat, by omega⟩
                  have HIV := Lib.hid (HIN.out wr HC6.out.only)
                  obtain ⟨bo, oo, oc, e1, hoc, co⟩ := HIV.out.occ.tru (j := v) (by have := HLN.out; omega)
                  obtain ⟨bl, ol, li, e2, hli, cl⟩ := HIV.out.lies.int (j := u) (by have := HLN.out; omega)
                  subst e1
                  subst e2
                  have HSEC : Hid (secOf L (u : Int) = v) := Lib.hid (by unfold secOf; rw [Int.toNat_natCast, hpt]; exact hv)
                  have HA := Lib.hid ha
                  rw [hv] at cp
                  have KS := Lib.hid (fun W : World => RefSide_calls W a)
                  have HDV : Hid (drives L I rn s a = (!(li == posM a) && !oc && (decide (holderM L rn v < 0) || decide (holderM L rn v = (s : Int))))) := Lib.hid (by
                    unfold drives
                    rw [hu, HSEC.out, Int.toNat_natCast, Int.toNat_natCast, getD_of hli, getD_of hoc])
                  have HSN := Lib.hid (drive_snoc (L := L) (I := I) (rs := rn) (i := s) (dr := dr0) ha)
                  have KH := Lib.hid (fun (W : World) (hb : Below wr.heap.size wr W) => RefHolder_calls w0 W g rb (HC6.out.lk.stay hb) HON2.out.used (v : Int))
                  obtain ⟨ap, ar⟩ := a
                  simp only at hu a0 a1 KS HDV p0 p1
                  subst hu
                  have HSN2 : Hid (driveAll L I rn s dr0 (ns.take (t + 1)) = if drives L I rn s ⟨(u : Int), ar⟩ = true then (driveAll L I rn s dr0 (ns.take t)).set u (posM ⟨(u : Int), ar⟩) else driveAll L I rn s dr0 (ns.take t)) := Lib.hid (by rw [HSN.out]; rfl)
                  have hup : (u : Int) < n2 := by have := HLN.out; omega
                  have hum : (u : Int) < m := by have := HLN.out; omega
                  have hvn : (v : Int) < n := by have := HLN.out; omega
                  have htq : (t : Int) < q := by omega
                  rw [HDV.out] at HSN2
                  generalize posM ⟨(u : Int), ar⟩ = po at *
                  generalize holderM L rn (v : Int) = ho at *
                  generalize driveAll L I rn s dr0 (ns.take t) = dr1 at *
                  clear ha hpt hv hoc hli p0 p1 s0 s1 HSN HDV
                  have Lg0 := later_cell g0
                  have Lg1 := later_cell g1
                  have Lg2 := later_cell g2
                  have Lg3 := later_cell g3
                  have Lg4 := later_cell g4
                  have La0 := later_cell a0
                  have La1 := later_cell a1
                  have Lcp := later_cell cp
                  go_wp2_with fail
                  refine wp_region_later (by kernel_rfl) (by kernel_rfl) ?_
                  repeat (go_big_quiet_step (fail))
                  refine wpQuiet_nil ?_
                  intro q0
                  have hq0 := q0.hb
                  have HC7 := Lib.hid (HC6.out.stay hq0)
                  have HQ7 := Lib.hid (HQ6.out.stay hq0)
                  have KH4 := Lib.hid (fun (W : World) (hb : Below q0.w1.heap.size q0.w1 W) => KH.out W (below_more hq0 hb))
                  generalize q0.w1 = w8 at *
                  replace g0 := cell_stay hq0 g0
                  replace g1 := cell_stay hq0 g1
                  replace g2 := cell_stay hq0 g2
                  replace g3 := cell_stay hq0 g3
                  replace g4 := cell_stay hq0 g4
                  replace i0 := cell_stay hq0 i0
                  replace i1 := cell_stay hq0 i1
                  replace o0 := cell_stay hq0 o0
                  replace o1 := cell_stay hq0 o1
                  replace a0 := cell_stay hq0 a0
                  replace a1 := cell_stay hq0 a1
                  replace cp := cell_stay hq0 cp
                  replace co := cell_stay hq0 co
                  replace cl := cell_stay hq0 cl
                  clear hq0 Lg0 Lg1 Lg2 Lg3 Lg4 La0 La1 Lcp KH HC6 HQ6
                  go_upto_region 18 with (first
                    | (go_at_call 35; refine (KH4.out w8 (Below.refl _ _)).mono ?_; rintro e w9 ⟨rfl, hb9⟩; have HB9 := Lib.hid hb9; (replace g0 := cell_stay hb9 g0); (replace g4 := cell_stay hb9 g4); (replace i0 := cell_stay hb9 i0); (replace i1 := cell_stay hb9 i1); (replace o0 := cell_stay hb9 o0); (replace o1 := cell_stay hb9 o1); (replace a0 := cell_stay hb9 a0); (replace a1 := cell_stay hb9 a1); (replace co := cell_stay hb9 co); (replace cl := cell_stay hb9 cl); clear hb9)
                    | fail)
                  have HC9 := Lib.hid (HC7.out.stay HB9.out)
                  have HQ9 := Lib.hid (HQ7.out.stay HB9.out)
                  generalize he0 : (li == po) = e0 at *
                  generalize hh1 : decide (ho < 0) = h1 at *
                  generalize hh2 : decide (ho = (s : Int)) = h2 at *
                  go_cut [112] (fun v wx => v = .bool (!e0 && !oc && (h1 || h2)) ∧ Below w9.heap.size w9 wx)
                  case first =>
                    have Li0 := later_cell i0
                    have Li1 := later_cell i1
                    have La0 := later_cell a0
                    have La1 := later_cell a1
                    have Lco := later_cell co
                    have Lcl := later_cell cl
                    have he1 : (li != po) = !e0 := by rw [← he0]; rfl
                    have he2 : (ho == (s : Int)) = h2 := hh2
                    clear HSN2
                    cases e0 <;> cases oc <;> cases h1 <;> cases h2
                    all_goals
                      refine wp_region_later (by kernel_rfl) (by kernel_rfl) ?_
                      repeat (go_big_quiet_step ((first | (go_at_call 36; rename_i z; exact later_call z (KS.out z.w1)) | fail)))
                      refine wpQuiet_nil ?_
                      intro q0
                      go_wp2_with fail
                      go_meet
                      exact ⟨rfl, q0.hb⟩
                  case rest =>
                    obtain ⟨rfl, hb6⟩ := hcut
                    have HCA := Lib.hid (HC9.out.stay hb6)
                    have HQA := Lib.hid (HQ9.out.stay hb6)
                    replace o0 := cell_stay hb6 o0
                    replace a0 := cell_stay hb6 a0
                    replace a1 := cell_stay hb6 a1
                    clear hb6 he0 hh1 hh2 HC9 HQ9 HC7 HQ7
                    generalize (!e0 && !oc && (h1 || h2)) = bad at *
                    cases bad with
                    | false =>
                      have HSN3 := Lib.hid (HSN2.out.trans (if_neg (by decide)))
                      go_wp2_with fail
                      go_roundw
                      case rel => exact ⟨t + 1, by omega, by go_num, Lib.hid ⟨by rw [HSN3.out]; exact HCA.out, HQA.out⟩⟩
                      case measure => simp [intOf]; omega
                    | true =>
                      have HSN3 := Lib.hid (HSN2.out.trans (if_pos rfl))
                      obtain ⟨d0, hd0⟩ : ∃ d0, dr1[u]? = some d0 := ⟨_, List.getElem?_eq_getElem (by have := HCA.out.ld; omega)⟩
                      have HOFF := Lib.hid (needs_off HQA.out HCA.out.bd (by omega) _ rfl)
                      have KEEPS := Lib.hid (fun (W : World) (ho : Only (fun b => b = gd) wc W) => And.intro (cell_only o0 ho (fun e => HN.out.d1.2.2.1 e.symm)) (And.intro (cell_only a0 ho HOFF.out) (cell_only a1 ho HOFF.out)))
                      have HRI := Lib.hid (fun (W : World) (hb : Below wc.heap.size wc W) => And.intro (row_int (HCA.out.stay hb).bd hd0) ((HCA.out.stay hb).bd.free u))
                      have HD := Lib.hid (below_drawn (Below.refl wc.heap.size wc) 1)
                      clear hd0 o0 a0 a1 HSN2
                      go_wp2_with fail
                      refine wp_region_held_drew (S := (fun W => W.cell? ⟨gO, 0, none⟩ = some (.slice (some ⟨gd, 0, none⟩) n2 n2) ∧ W.cell? ⟨bn, on + t * 2, none⟩ = some (.int .i64 (u : Int)) ∧ W.cell? ⟨bn, on + t * 2 + 1, none⟩ = some (.bool ar))) (by kernel_rfl) ?_ (fun hHeld => ?_)
                      · exact KEEPS.out _ (Only.of_below HD.out)
                      refine wpAnyH_take (i := 0) (oi := { dst := some 113, op := Op.fieldAddr 32 (Operand.tmp 5) 0, type := 0, pos := "lock.go:177", after := #[], guard := none }) (v := ?_) rfl (by kernel_rfl) (by kernel_rfl) (by kernel_rfl) (fun _ _ _ h => h) (Or.inl ⟨by rfl, ?_⟩) (by assumption) ?_
                      rotate_left
                      · intro w hSw; (try dsimp only at hSw); go_simp; (try (with_reducible rfl))
                      (try simp only [Act.put, List.setIfInBounds_toArray, List.set_cons_zero, List.set_cons_succ])
                      refine wpAnyH_take (i := 1) (oi := { dst := some 114, op := Op.load 28 (Operand.tmp 113), type := 28, pos := "lock.go:177", after := #[{ on := 0, ground := Ground.data }], guard := none }) (v := ?_) rfl (by kernel_rfl) (by kernel_rfl) (by kernel_rfl) (fun _ _ _ h => h) (Or.inl ⟨by rfl, ?_⟩) (by assumption) ?_
                      rotate_left
                      · intro w hSw; (try dsimp only at hSw); go_simp; (try (with_reducible rfl))
                      (try simp only [Act.put, List.setIfInBounds_toArray, List.set_cons_zero, List.set_cons_succ])
                      refine wpAnyH_take (i := 2) (oi := { dst := some 115, op := Op.move (Operand.tmp 8), type := 60, pos := "lock.go:177", after := #[], guard := none }) (v := ?_) rfl (by kernel_rfl) (by kernel_rfl) (by kernel_rfl) (fun _ _ _ h => h) (Or.inl ⟨by rfl, ?_⟩) (by assumption) ?_
                      rotate_left
                      · intro w hSw; (try dsimp only at hSw); go_simp; (try (with_reducible rfl))
                      (try simp only [Act.put, List.setIfInBounds_toArray, List.set_cons_zero, List.set_cons_succ])
                      refine wpAnyH_take (i := 3) (oi := { dst := some 116, op := Op.move (Operand.tmp 9), type := 3, pos := "lock.go:177", after := #[], guard := none }) (v := ?_) rfl (by kernel_rfl) (by kernel_rfl) (by kernel_rfl) (fun _ _ _ h => h) (Or.inl ⟨by rfl, ?_⟩) (by assumption) ?_
                      rotate_left
                      · intro w hSw; (try dsimp only at hSw); go_simp; (try (with_reducible rfl))
                      (try simp only [Act.put, List.setIfInBounds_toArray, List.set_cons_zero, List.set_cons_succ])
                      refine wpAnyH_take (i := 4) (oi := { dst := some 117, op := Op.indexAddr 60 (Operand.tmp 115) (Operand.tmp 116), type := 0, pos := "lock.go:177", after := #[{ on := 2, ground := Ground.data }, { on := 3, ground := Ground.data }], guard := none }) (v := ?_) rfl (by kernel_rfl) (by kernel_rfl) (by kernel_rfl) (fun _ _ _ h => h) (Or.inl ⟨by rfl, ?_⟩) (by assumption) ?_
                      rotate_left
                      · intro w hSw; (try dsimp only at hSw); go_simp; (try (with_reducible rfl))
                      (try simp only [Act.put, List.setIfInBounds_toArray, List.set_cons_zero, List.set_cons_succ])
                      refine wpAnyH_take (i := 5) (oi := { dst := some 118, op := Op.fieldAddr 78 (Operand.tmp 117) 0, type := 0, pos := "lock.go:177", after := #[{ on := 4, ground := Ground.data }], guard := none }) (v := ?_) rfl (by kernel_rfl) (by kernel_rfl) (by kernel_rfl) (fun _ _ _ h => h) (Or.inl ⟨by rfl, ?_⟩) (by assumption) ?_
                      rotate_left
                      · intro w hSw; (try dsimp only at hSw); go_simp; (try (with_reducible rfl))
                      (try simp only [Act.put, List.setIfInBounds_toArray, List.set_cons_zero, List.set_cons_succ])
                      refine wpAnyH_take (i := 6) (oi := { dst := some 119, op := Op.load 3 (Operand.tmp 118), type := 3, pos := "lock.go:177", after := #[{ on := 5, ground := Ground.data }], guard := none }) (v := ?_) rfl (by kernel_rfl) (by kernel_rfl) (by kernel_rfl) (fun _ _ _ h => h) (Or.inl ⟨by rfl, ?_⟩) (by assumption) ?_
                      rotate_left
                      · intro w hSw; (try dsimp only at hSw); go_simp; (try (with_reducible rfl))
                      (try simp only [Act.put, List.setIfInBounds_toArray, List.set_cons_zero, List.set_cons_succ])
                      refine wpAnyH_take (i := 7) (oi := { dst := some 120, op := Op.move (Operand.tmp 8), type := 60, pos := "lock.go:177", after := #[], guard := none }) (v := ?_) rfl (by kernel_rfl) (by kernel_rfl) (by kernel_rfl) (fun _ _ _ h => h) (Or.inl ⟨by rfl, ?_⟩) (by assumption) ?_
                      rotate_left
                      · intro w hSw; (try dsimp only at hSw); go_simp; (try (with_reducible rfl))
                      (try simp only [Act.put, List.setIfInBounds_toArray, List.set_cons_zero, List.set_cons_succ])
                      refine wpAnyH_take (i := 8) (oi := { dst := some 121, op := Op.move (Operand.tmp 9), type := 3, pos := "lock.go:177", after := #[], guard := none }) (v := ?_) rfl (by kernel_rfl) (by kernel_rfl) (by kernel_rfl) (fun _ _ _ h => h) (Or.inl ⟨by rfl, ?_⟩) (by assumption) ?_
                      rotate_left
                      · intro w hSw; (try dsimp only at hSw); go_simp; (try (with_reducible rfl))
                      (try simp only [Act.put, List.setIfInBounds_toArray, List.set_cons_zero, List.set_cons_succ])
                      refine wpAnyH_take (i := 9) (oi := { dst := some 122, op := Op.indexAddr 60 (Operand.tmp 120) (Operand.tmp 121), type := 0, pos := "lock.go:177", after := #[{ on := 7, ground := Ground.data }, { on := 8, ground := Ground.data }], guard := none }) (v := ?_) rfl (by kernel_rfl) (by kernel_rfl) (by kernel_rfl) (fun _ _ _ h => h) (Or.inl ⟨by rfl, ?_⟩) (by assumption) ?_
                      rotate_left
                      · intro w hSw; (try dsimp only at hSw); go_simp; (try (with_reducible rfl))
                      (try simp only [Act.put, List.setIfInBounds_toArray, List.set_cons_zero, List.set_cons_succ])
                      refine wpAnyH_take (i := 10) (oi := { dst := some 123, op := Op.load 78 (Operand.tmp 122), type := 78, pos := "lock.go:177", after := #[{ on := 9, ground := Ground.data }], guard := none }) (v := ?_) rfl (by kernel_rfl) (by kernel_rfl) (by kernel_rfl) (fun _ _ _ h => h) (Or.inl ⟨by rfl, ?_⟩) (by assumption) ?_
                      rotate_left
                      · intro w hSw; (try dsimp only at hSw); go_simp; (try (with_reducible rfl))
                      (try simp only [Act.put, List.setIfInBounds_toArray, List.set_cons_zero, List.set_cons_succ])
                      refine wpAnyH_ready (rs := [11]) (by kernel_rfl) (by simp) ?_
                      refine AllReadyH.cons (o := { dst := some 124, op := Op.call { callee := Callee.value (Operand.func 36), args := #[Operand.tmp 123], argTypes := #[78] }, type := 3, pos := "lock.go:177", after := #[{ on := 10, ground := Ground.data }], guard := none }) rfl (fun K hK => ?_) ?_
                      ·
                        go_simp
                        (go_at_call 36; refine (KS.out _).mono ?_; rintro e wA ⟨rfl, hbA⟩; have HBA := Lib.hid (below_more HD.out hbA); obtain ⟨cd, fd⟩ := HRI.out _ HBA.out; clear hbA)
                        refine hK.out _ _ (by (first | exact KEEPS.out _ (Only.of_below HBA.out) | exact KEEPS.out _ ((Only.of_below (S := fun b => b = gd) HBA.out).trans (Only.put ⟨gd, u, none⟩ _) (fun _ _ h => h) (fun _ _ h => h)))) (fun hHeld => ?_)
                        clear hK K
                        (try simp only [Act.put, List.setIfInBounds_toArray, List.set_cons_zero, List.set_cons_succ])
                        refine wpAnyH_take (i := 12) (oi := { dst := some 125, op := Op.indexAddr 28 (Operand.tmp 114) (Operand.tmp 119), type := 0, pos := "lock.go:177", after := #[{ on := 1, ground := Ground.data }, { on := 6, ground := Ground.data }, { on := 0, ground := Ground.phase }, { on := 1, ground := Ground.phase }, { on := 2, ground := Ground.phase }, { on := 3, ground := Ground.phase }, { on := 4, ground := Ground.phase }, { on := 5, ground := Ground.phase }, { on := 6, ground := Ground.phase }, { on := 7, ground := Ground.phase }, { on := 8, ground := Ground.phase }, { on := 9, ground := Ground.phase }, { on := 10, ground := Ground.phase }, { on := 11, ground := Ground.phase }], guard := none }) (v := ?_) rfl (by kernel_rfl) (by kernel_rfl) (by kernel_rfl) (fun _ _ _ h => h) (Or.inl ⟨by rfl, ?_⟩) (by assumption) ?_
                        rotate_left
                        · intro w hSw; (try dsimp only at hSw); go_simp; (try (with_reducible rfl))
                        (try simp only [Act.put, List.setIfInBounds_toArray, List.set_cons_zero, List.set_cons_succ])
                        refine wpAnyH_ready (rs := [13]) (by kernel_rfl) (by simp) ?_
                        refine AllReadyH.cons (o := { dst := none, op := Op.store 3 (Operand.tmp 125) (Operand.tmp 124), type := 0, pos := "lock.go:177", after := #[{ on := 12, ground := Ground.data }, { on := 11, ground := Ground.data }, { on := 11, ground := Ground.chain }, { on := 0, ground := Ground.phase }, { on := 1, ground := Ground.phase }, { on := 2, ground := Ground.phase }, { on := 3, ground := Ground.phase }, { on := 4, ground := Ground.phase }, { on := 5, ground := Ground.phase }, { on := 6, ground := Ground.phase }, { on := 7, ground := Ground.phase }, { on := 8, ground := Ground.phase }, { on := 9, ground := Ground.phase }, { on := 10, ground := Ground.phase }, { on := 11, ground := Ground.phase }], guard := none }) rfl (fun K hK => ?_) ?_
                        ·
                          go_simp
                          refine hK.out _ _ (by (first | exact KEEPS.out _ (Only.of_below HBA.out) | exact KEEPS.out _ ((Only.of_below (S := fun b => b = gd) HBA.out).trans (Only.put ⟨gd, u, none⟩ _) (fun _ _ h => h) (fun _ _ h => h)))) (fun hHeld => ?_)
                          clear hK K
                          (try simp only [Act.put, List.setIfInBounds_toArray, List.set_cons_zero, List.set_cons_succ])
                          refine wpAnyH_done (by kernel_rfl) ?_ _
                          go_wp2_with fail
                          go_roundw
                          case rel => exact ⟨t + 1, by omega, by go_num, Lib.hid ⟨by rw [HSN3.out]; exact (HCA.out.stay HBA.out).putd HN.out u po, (HQA.out.stay HBA.out).only0 (Only.put ⟨gd, u, none⟩ _) (fun _ a ha e => by cases ha; exact HOFF.out e)⟩⟩
                          case measure => simp [intOf]; omega
                        exact AllReadyH.nil
                      exact AllReadyH.nil
                · obtain rfl : t = q := by omega
                  have HFE : Hid (driveOf L I rn s dr0 = driveAll L I rn s dr0 (ns.take t)) := Lib.hid (by rw [HF.out, List.take_of_length_le (by rw [HQL.out]; exact Nat.le_refl _)])
                  clear hlt2
                  go_wp2_with fail
                  go_meet
                  exact Lib.hid (by rw [HFE.out]; exact HC6.out)
          case rest =>
            have HC := Lib.hid hcut.out
            clear hcut g0 g1 g2 g3 g4 i0 i1 o0 o1 r0 r1 r2 r3
            obtain ⟨g0, g1, g2, g3, g4, i0, i1, o0, o1⟩ := HC.out.cells
            obtain ⟨r0, r1, r2, r3⟩ := row_at HC.out.lk.row HZ.out
            simp only at r0 r1 r2 r3
            have hro := HAL.out.all x (List.mem_of_getElem? HX.out)
            have KC := Lib.hid (fun (W : World) (hb : Below wc.heap.size wc W) => RefClear_calls W (HC.out.lk.layv.stay hb) ((HIN.out wc HC.out.only).stay hb) s x HX.out hro)
            have KR := Lib.hid (fun (W : World) (hb : Below wc.heap.size wc W) => RefRight_calls W (HC.out.lk.layv.stay hb) ((HIN.out wc HC.out.only).stay hb) s x HX.out hro)
            have HGO : Hid (goesOf L I rn s pr0 = if ((zm == 2) && freeM I x.path && rightM I (x.points ++ x.flank)) = true then pr0.set x.frm.toNat true else pr0) := Lib.hid (by
              unfold goesOf
              rw [HX.out, HZ.out]
              simp only [Bool.and_eq_true, beq_iff_eq, and_assoc])
            generalize freeM I x.path = fr at *
            generalize rightM I (x.points ++ x.flank) = rt at *
            generalize driveOf L I rn s dr0 = dr1 at *
            clear hro
            go_upto_region 20 with fail
            generalize hm2 : (zm == 2) = m2 at *
            go_cut [152] (fun v wx => v = .bool (m2 && fr && rt) ∧ Below wc.heap.size wc wx)
            case first =>
              have hm3 : decide (zm = 2) = m2 := hm2
              have KC1 := Lib.hid (fun z : Later wc => KC.out z.w1 z.hb)
              have KR1 := Lib.hid (fun z : Later wc => KR.out z.w1 z.hb)
              clear KC KR HGO
              have Lg0 := later_cell g0
              have Lg1 := later_cell g1
              have Lg2 := later_cell g2
              have Lg3 := later_cell g3
              have Lg4 := later_cell g4
              have Li0 := later_cell i0
              have Li1 := later_cell i1
              have Lr0 := later_cell r0
              cases m2 <;> cases fr <;> cases rt
              all_goals
                refine wp_region_later (by kernel_rfl) (by kernel_rfl) ?_
                repeat (go_big_quiet_step ((first | (go_at_call 37; rename_i z; exact later_call z (KC1.out z)) | (go_at_call 38; rename_i z; exact later_call z (KR1.out z)) | fail)))
                refine wpQuiet_nil ?_
                intro q0
                go_wp2_with fail
                go_meet
                exact ⟨rfl, q0.hb⟩
            case rest =>
              obtain ⟨rfl, hb6⟩ := hcut
              rename_i wd
              have HCA := Lib.hid (HC.out.stay hb6)
              clear hb6 hm2 KC KR HC g0 g1 g2 g3 g4 i0 i1 o0 o1 r0 r1 r2 r3
              generalize (m2 && fr && rt) = bad at *
              cases bad with
              | false =>
                have HG3 := Lib.hid (HGO.out.trans (if_neg (by decide)))
                go_wp2_with fail
                go_roundw
                case rel => exact ⟨s + 1, by omega, by go_num, Lib.hid (by rw [HOX.out, HG3.out]; exact HCA.out)⟩
                case measure => simp [intOf]; omega
              | true =>
                have HG3 := Lib.hid (HGO.out.trans (if_pos rfl))
                obtain ⟨f0, f1⟩ := HFR.out x (List.mem_of_getElem? HX.out)
                obtain ⟨fN, hfN⟩ : ∃ fN : Nat, x.frm = fN := ⟨x.frm.toNat, by omega⟩
                obtain ⟨b, off, x', P, Q, F', p', pc', q', qc', f', fc', eA, hx', _, k1, _⟩ := HCA.out.lk.layv.rtes.at_ hlt
                obtain rfl : x' = x := by rw [HX.out] at hx'; exact (Option.some.inj hx').symm
                subst eA
                rw [hfN] at k1
                obtain ⟨d0, hd0⟩ : ∃ d0, pr0[fN]? = some d0 := ⟨_, List.getElem?_eq_getElem (by have := HCA.out.lp; have := HLN.out; omega)⟩
                have cd := row_bool HCA.out.bp hd0
                have fd := HCA.out.bp.free fN
                have hfn3 : (fN : Int) < n3 := by have := HLN.out; omega
                obtain ⟨g0, g1, g2, g3, g4, i0, i1, o0, o1⟩ := HCA.out.cells
                rw [hfN, Int.toNat_natCast] at HG3
                clear hd0 hx' f0 f1 hfN
                go_wp2_with fail
                go_still_tail 11, (by kernel_rfl)
                change wpList _ _ _ _ _ (World.drew _)
                go_wp2_with fail
                go_roundw
                case rel => exact ⟨s + 1, by omega, by go_num, Lib.hid (by rw [HOX.out, HG3.out]; exact (HCA.out.putp HN.out fN true).stay (below_drawn (Below.refl _ _) 1))⟩
                case measure => simp [intOf]; omega
        · obtain rfl : s = j := by omega
          have f0 := HC.out.bt.free 0
          have f1 := HC.out.bt.free 1
          have t0 := HC.out.bt.cell 0
          have t1 := HC.out.bt.cell 1
          simp only [List.getElem?_toArray, List.getElem?_cons_zero, List.getElem?_cons_succ] at t0 t1
          obtain ⟨p1, p2, p3, p4, p5⟩ := HC.out.putt HN.out (by have := HGN.out; omega) (.slice (some ⟨gd, 0, none⟩) n2 n2) (.slice (some ⟨gp, 0, none⟩) n3 n3)
          have P1 := Lib.hid p1
          have P2 := Lib.hid p2
          have P3 := Lib.hid p3
          have P4 := Lib.hid p4
          have P5 := Lib.hid p5
          clear hlt p1 p2 p3 p4 p5
          go_wp2_with fail
          have e := HN.out
          refine bodyPost_ret (out_ret rfl rfl P3.out) rfl ⟨gd, gp, rfl, ?_, P2.out, ?_, e.hgd, e.hgp⟩
          · rw [HNE.out]; exact P1.out
          · rw [HCO.out]
            have := H23.out
            exact ⟨sl_lit flI _ n2 HC.out.ld P4.out rfl (by omega), sl_lit flT _ n3 HC.out.lp P5.out rfl (by omega)⟩
end
end Go.Proofs.YtmdggodkkkihhaaDoor
