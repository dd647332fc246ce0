/- Texts put together for a claim. -/
import Derived.Test.YtmdnmiiggkfnfaaDoorQ19PlanNamesUpto
import Derived.Test.YtmdnmiiggkfnfaaDoorQ8PlanNamesUpto
import Derived.Test.YtmdnmiiggkfnfaaDoorLater
import Derived.Test.YtmdnmiiggkfnfaaDoorRes
import Derived.Deep.DeepCutAuto
import Derived.Deep.CutBlock
/- Contracts of plan's builder: isNew, fits, place; names of points and routes. -/
set_option linter.unusedVariables false
set_option linter.unusedSimpArgs false
namespace Go.Proofs.YtmdnmiiggkfnfaaDoor
open Go.RowKit

/-- A route as it lies in a row: its cells. -/
structure RtC where
  name : ByteArray
  frm : Int
  dst : Int
  P : Option Addr
  p : Nat
  pc : Nat
  Q : Option Addr
  q : Nat
  qc : Nat
  F : Option Addr
  f : Nat
  fc : Nat
def RtC.pv (c : RtC) : Value := .slice c.P c.p c.pc
def RtC.qv (c : RtC) : Value := .slice c.Q c.q c.qc
def RtC.fv (c : RtC) : Value := .slice c.F c.f c.fc
def flRc : Fl RtC := ⟨6, fun x => [.string x.name, .int .i64 x.frm, .int .i64 x.dst, .slice x.P x.p x.pc, .slice x.Q x.q x.qc, .slice x.F x.f x.fc], fun _ => rfl, fun _ u hu => by
  simp only [List.mem_cons, List.not_mem_nil, or_false] at hu
  rcases hu with rfl | rfl | rfl | rfl | rfl | rfl <;> rfl⟩
/-- A route's cells, and what they mean. -/
structure RtR (w : World) (B : Nat) (c : RtC) (x : Rte) : Prop where
  name : c.name = x.name
  frm : c.frm = x.frm
  dst : c.dst = x.dest
  path : Ow flI w B 3 c.pv x.path
  points : Ow flN w B 46 c.qv x.points
  flank : Ow flN w B 46 c.fv x.flank
structure RtsR (w : World) (B : Nat) (cs : List RtC) (xs : List Rte) : Prop where
  len : cs.length = xs.length
  all : ∀ (j : Nat) (c : RtC) (x : Rte), cs[j]? = some c → xs[j]? = some x → RtR w B c x
theorem RtR.stay {w w1 : World} {B : Nat} {c : RtC} {x : Rte} (h : RtR w B c x) (hb : Below w.heap.size w w1) : RtR w1 B c x := ⟨h.name, h.frm, h.dst, h.path.stay hb, h.points.stay hb, h.flank.stay hb⟩
theorem RtsR.stay {w w1 : World} {B : Nat} {cs : List RtC} {xs : List Rte} (h : RtsR w B cs xs) (hb : Below w.heap.size w w1) : RtsR w1 B cs xs := ⟨h.len, fun j c x hc hx => (h.all j c x hc hx).stay hb⟩
/-- Some blocks have turned that are of none of these types. -/
theorem RtsR.only {w w1 : World} {B : Nat} {cs : List RtC} {xs : List Rte} {S : Nat → Prop} (h : RtsR w B cs xs) (ho : Only S w w1) (hI : ∀ (v : Value) (l : List Int) (k : Nat), Ow flI w B 3 v l → v.ownBlock = some k → ¬ S k) (hN : ∀ (v : Value) (l : List Need) (k : Nat), Ow flN w B 46 v l → v.ownBlock = some k → ¬ S k) : RtsR w1 B cs xs :=
  ⟨h.len, fun j c x hc hx => by
    have r := h.all j c x hc hx
    exact ⟨r.name, r.frm, r.dst, r.path.only ho (fun k hk => hI _ _ k r.path hk), r.points.only ho (fun k hk => hN _ _ k r.points hk), r.flank.only ho (fun k hk => hN _ _ k r.flank hk)⟩⟩
/-- A builder at block g: all its rows are its own, from block B on. -/
structure BdAt (w0 w : World) (B g : Nat) (v1 v2 v3 v4 : Value) (cs : List RtC) (L : Lay) (e : Int) : Prop where
  tabs : Tabs w0
  hb : Below w0.heap.size w0 w
  lB : w0.heap.size ≤ B
  Bg : B ≤ g
  blk : Blk w g #[v1, v2, v3, v4, .int .i64 e] 57 (0, 0)
  secs : Ow flS w B 9 v1 L.secs
  pts : Ow flP w B 51 v2 L.pts
  sigs : Ow flS w B 9 v3 L.sigs
  rtes : Ow flRc w B 44 v4 cs
  rel : RtsR w B cs L.rtes
  ap : ∀ k, v1.ownBlock = some k → v3.ownBlock ≠ some k
  l1 : L.secs.length ≤ 10
  l2 : L.pts.length ≤ 5
  l3 : L.sigs.length ≤ 6
  l4 : L.rtes.length ≤ 6
section
variable {w0 w w1 : World} {B g : Nat} {v1 v2 v3 v4 : Value} {cs : List RtC} {L : Lay} {e : Int}
theorem BdAt.stay (h : BdAt w0 w B g v1 v2 v3 v4 cs L e) (hb : Below w.heap.size w w1) : BdAt w0 w1 B g v1 v2 v3 v4 cs L e :=
  ⟨h.tabs, below_more h.hb hb, h.lB, h.Bg, h.blk.below hb h.blk.lt, h.secs.stay hb, h.pts.stay hb, h.sigs.stay hb, h.rtes.stay hb, h.rel.stay hb, h.ap, h.l1, h.l2, h.l3, h.l4⟩
theorem BdAt.tab (h : BdAt w0 w B g v1 v2 v3 v4 cs L e) : Tabs w := h.tabs.stay h.hb
theorem BdAt.cells (h : BdAt w0 w B g v1 v2 v3 v4 cs L e) : w.cell? ⟨g, 0, none⟩ = some v1 ∧ w.cell? ⟨g, 1, none⟩ = some v2 ∧ w.cell? ⟨g, 2, none⟩ = some v3 ∧ w.cell? ⟨g, 3, none⟩ = some v4 ∧ w.cell? ⟨g, 4, none⟩ = some (.int .i64 e) := by
  have c0 := h.blk.cell 0
  have c1 := h.blk.cell 1
  have c2 := h.blk.cell 2
  have c3 := h.blk.cell 3
  have c4 := h.blk.cell 4
  simp only [List.getElem?_toArray, List.getElem?_cons_zero, List.getElem?_cons_succ] at c0 c1 c2 c3 c4
  exact ⟨c0, c1, c2, c3, c4⟩
/-- The error is stored. -/
theorem BdAt.put_err (h : BdAt w0 w B g v1 v2 v3 v4 cs L e) (e' : Int) : BdAt w0 (w.setCell ⟨g, 4, none⟩ (.int .i64 e')) B g v1 v2 v3 v4 cs L e' := by
  have hb := h.blk.put 4 (.int .i64 e')
  have ho : Only (fun b => b = g) w (w.setCell ⟨g, 4, none⟩ (.int .i64 e')) := Only.put ⟨g, 4, none⟩ _
  refine ⟨h.tabs, h.hb.setCell (p := ⟨g, 4, none⟩) (Nat.le_trans h.lB h.Bg) _, h.lB, h.Bg, by simpa using hb, h.secs.only ho (fun k hk e => own_not_blk h.secs h.blk (by decide) (by rw [hk]; exact congrArg some e)), h.pts.only ho (fun k hk e => own_not_blk h.pts h.blk (by decide) (by rw [hk]; exact congrArg some e)), h.sigs.only ho (fun k hk e => own_not_blk h.sigs h.blk (by decide) (by rw [hk]; exact congrArg some e)), h.rtes.only ho (fun k hk e => own_not_blk h.rtes h.blk (by decide) (by rw [hk]; exact congrArg some e)),
    h.rel.only ho (fun v l k hv hk e => own_not_blk hv h.blk (by decide) (by rw [hk]; exact congrArg some e)) (fun v l k hv hk e => own_not_blk hv h.blk (by decide) (by rw [hk]; exact congrArg some e)), h.ap, h.l1, h.l2, h.l3, h.l4⟩
theorem only_1 {w : World} {g : Nat} (i : Nat) (u : Value) : Only (fun b => b = g) w (w.setCell ⟨g, i, none⟩ u) := Only.put ⟨g, i, none⟩ u

theorem Cont_calls (w : World) (A : Option Addr) (n c : Nat) (l : List ByteArray) (hA : Sl flS w A n c l) (s : ByteArray) :
    Calls Tryd.prog 78 #[.slice A n c, .string s] w fun e w' => e = .returned (.bool (Lib.containsS l s)) ∧ w' = w := by
  have hl := hA.len
  rcases Nat.eq_zero_or_pos n with h0 | h0
  · subst h0
    obtain rfl : l = [] := List.eq_nil_of_length_eq_zero hl
    exact Tryd.slices_Contains_string_empty A c s w
  · obtain ⟨b, off, rfl, hc⟩ := hA.rf.2.2 h0
    have := Tryd.slices_Contains_string b off n c l s w (by omega) (by have := hA.sz; omega) (fun j hj => by
      have := hc j (l[j]'hj) (List.getElem?_eq_getElem hj) 0 _ rfl
      have e : l.getD j ByteArray.empty = l[j]'hj := by rw [List.getD_eq_getElem?_getD, List.getElem?_eq_getElem hj]; rfl
      rw [e]
      simpa [flS] using this)
    rw [← hl, List.take_length] at this
    rw [← hl]
    exact this
theorem Idx_calls (w : World) (A : Option Addr) (n c : Nat) (l : List ByteArray) (hA : Sl flS w A n c l) (s : ByteArray) :
    Calls Tryd.prog 79 #[.slice A n c, .string s] w fun e w' => e = .returned (.int .i64 (idxS l s)) ∧ w' = w := by
  have hl := hA.len
  unfold idxS
  rcases Nat.eq_zero_or_pos n with h0 | h0
  · subst h0
    obtain rfl : l = [] := List.eq_nil_of_length_eq_zero hl
    exact Tryd.slices_Index_string_empty A c s w
  · obtain ⟨b, off, rfl, hc⟩ := hA.rf.2.2 h0
    have := Tryd.slices_Index_string b off n c l s w (by omega) (by have := hA.sz; omega) (fun j hj => by
      have := hc j (l[j]'hj) (List.getElem?_eq_getElem hj) 0 _ rfl
      have e : l.getD j ByteArray.empty = l[j]'hj := by rw [List.getD_eq_getElem?_getD, List.getElem?_eq_getElem hj]; rfl
      rw [e]
      simpa [flS] using this)
    rw [← hl, List.take_length] at this
    rw [← hl]
    exact this
/-- A step of a builder that turns its error alone. -/
def BdP (w0 w : World) (B g : Nat) (v1 v2 v3 v4 : Value) (cs : List RtC) (L : Lay) (e : Int) (w' : World) : Prop := BdAt w0 w' B g v1 v2 v3 v4 cs L e ∧ Only (fun b => b = g) w w'
theorem IsNew_calls (h : BdAt w0 w B g v1 v2 v3 v4 cs L e) (A : Option Addr) (n c : Nat) (l : List ByteArray) (hA : Sl flS w A n c l) (s : ByteArray) :
    Calls Tryd.prog 62 #[.pointer (some ⟨g, 0, none⟩), .slice A n c, .string s] w fun v w' => v = .returned (.tuple #[]) ∧ BdP w0 w B g v1 v2 v3 v4 cs L (newE l s e) w' := by
  have KC := Lib.hid (Cont_calls w A n c l hA s)
  obtain ⟨c0, c1, c2, c3, c4⟩ := h.cells
  have f4 := h.blk.free 4
  have HK := Lib.hid h
  have HE : Hid (newE l s e = if Lib.containsS l s = true then 4 else e) := Lib.hid rfl
  generalize Lib.containsS l s = b at *
  clear h hA
  cases b with
  | true =>
    have HF := Lib.hid (HE.out.trans (if_pos rfl))
    go_enter Tryd.func62, Tryd.ntmps62
    go_wp2_with (first
      | (go_at_call 78; refine KC.out.mono ?_; rintro e' w1 ⟨rfl, rfl⟩)
      | fail)
    go_end0
    rw [HF.out]
    exact ⟨rfl, HK.out.put_err 4, only_1 _ _⟩
  | false =>
    have HF := Lib.hid (HE.out.trans (if_neg (by decide)))
    go_enter Tryd.func62, Tryd.ntmps62
    go_wp2_with (first
      | (go_at_call 78; refine KC.out.mono ?_; rintro e' w1 ⟨rfl, rfl⟩)
      | fail)
    go_end0
    rw [HF.out]
    exact ⟨rfl, HK.out, Only.refl _ _⟩
theorem Fits_calls (h : BdAt w0 w B g v1 v2 v3 v4 cs L e) (n m : Int) :
    Calls Tryd.prog 63 #[.pointer (some ⟨g, 0, none⟩), .int .i64 n, .int .i64 m] w fun v w' => v = .returned (.bool (decide (fitE n m e = 0))) ∧ BdP w0 w B g v1 v2 v3 v4 cs L (fitE n m e) w' := by
  obtain ⟨c0, c1, c2, c3, c4⟩ := h.cells
  have f4 := h.blk.free 4
  have HK := Lib.hid h
  clear h
  by_cases h1 : m < n
  · cases e0 : (e == 0) with
    | true =>
      have HF : Hid (fitE n m e = 6) := Lib.hid (by unfold fitE or0; rw [if_pos (by simpa using e0), if_pos h1])
      go_enter Tryd.func63, Tryd.ntmps63
      go_wp2_with fail
      go_ret
      rw [HF.out]
      exact ⟨rfl, HK.out.put_err 6, only_1 _ _⟩
    | false =>
      have HF : Hid (fitE n m e = e) := Lib.hid (by unfold fitE or0; rw [if_neg (by simpa using e0)])
      have HG : Hid (decide (fitE n m e = 0) = false) := Lib.hid (by rw [HF.out]; simpa using e0)
      go_enter Tryd.func63, Tryd.ntmps63
      go_wp2_with fail
      go_ret
      rw [HG.out, HF.out]
      exact ⟨rfl, HK.out, Only.refl _ _⟩
  · have HF : Hid (fitE n m e = e) := Lib.hid (by unfold fitE or0; rw [if_neg h1]; split <;> simp_all)
    have HG : Hid (decide (fitE n m e = 0) = (e == 0)) := Lib.hid (by rw [HF.out]; rw [Bool.eq_iff_iff]; simp)
    have h2 : ¬ n > m := h1
    go_enter Tryd.func63, Tryd.ntmps63
    go_wp2_with fail
    go_ret
    rw [HG.out, HF.out]
    exact ⟨rfl, HK.out, Only.refl _ _⟩
theorem Place_calls (h : BdAt w0 w B g v1 v2 v3 v4 cs L e) (A : Option Addr) (n c : Nat) (l : List ByteArray) (hA : Sl flS w A n c l) (s : ByteArray) :
    Calls Tryd.prog 65 #[.pointer (some ⟨g, 0, none⟩), .slice A n c, .string s] w fun v w' => v = .returned (.int .i64 (idxS l s)) ∧ BdP w0 w B g v1 v2 v3 v4 cs L (placeE l e s) w' := by
  have KC := Lib.hid (Idx_calls w A n c l hA s)
  obtain ⟨c0, c1, c2, c3, c4⟩ := h.cells
  have f4 := h.blk.free 4
  have HK := Lib.hid h
  have HE : Hid (placeE l e s = or0 e (if idxS l s < 0 then 5 else 0)) := Lib.hid rfl
  generalize idxS l s = b at *
  clear h hA
  by_cases h1 : b < 0
  · cases e0 : (e == 0) with
    | true =>
      have HF : Hid (placeE l e s = 5) := Lib.hid (by rw [HE.out, if_pos h1]; unfold or0; rw [if_pos (by simpa using e0)])
      clear HE
      go_enter Tryd.func65, Tryd.ntmps65
      go_wp2_with (first
        | (go_at_call 79; refine KC.out.mono ?_; rintro e' w1 ⟨rfl, rfl⟩)
        | fail)
      go_ret
      rw [HF.out]
      exact ⟨rfl, HK.out.put_err 5, only_1 _ _⟩
    | false =>
      have HF : Hid (placeE l e s = e) := Lib.hid (by rw [HE.out]; unfold or0; rw [if_neg (by simpa using e0)])
      clear HE
      go_enter Tryd.func65, Tryd.ntmps65
      go_wp2_with (first
        | (go_at_call 79; refine KC.out.mono ?_; rintro e' w1 ⟨rfl, rfl⟩)
        | fail)
      go_ret
      rw [HF.out]
      exact ⟨rfl, HK.out, Only.refl _ _⟩
  · have HF : Hid (placeE l e s = e) := Lib.hid (by rw [HE.out, if_neg h1]; unfold or0; split <;> simp_all)
    clear HE
    go_enter Tryd.func65, Tryd.ntmps65
    go_wp2_with (first
      | (go_at_call 79; refine KC.out.mono ?_; rintro e' w1 ⟨rfl, rfl⟩)
      | fail)
    go_ret
    rw [HF.out]
    exact ⟨rfl, HK.out, Only.refl _ _⟩
end
end Go.Proofs.YtmdnmiiggkfnfaaDoor

/- Contracts of plan's reader: fails, more, is, next, word, isName, name. -/
set_option linter.unusedVariables false
set_option linter.unusedSimpArgs false
namespace Go.Proofs.YtmdnmiiggkfnfaaDoor
open Go.RowKit

/-- A reader at block g: the words lay there in w0; the word at p is the next one. -/
structure RdAt (w0 w : World) (g : Nat) (A : Option Addr) (n c : Nat) (wl : List Wd) (p : Nat) (r : Rd) : Prop where
  tabs : Tabs w0
  sl : Sl flW w0 A n c wl
  sz : ∀ x ∈ wl, x.1.size ≤ 4000000
  hb : Below w0.heap.size w0 w
  lg : w0.heap.size ≤ g
  few : n ≤ 2000000
  blk : Blk w g #[.slice A n c, .int .i64 p, .int .i64 r.err] 83 (0, 0)
  le : p ≤ n
  rest : r.rest = (wl.drop p).map Prod.fst
section
variable {w0 w w1 : World} {g : Nat} {A : Option Addr} {n c : Nat} {wl : List Wd} {p : Nat} {r : Rd}
theorem RdAt.stay (h : RdAt w0 w g A n c wl p r) (hb : Below w.heap.size w w1) : RdAt w0 w1 g A n c wl p r := ⟨h.tabs, h.sl, h.sz, below_more h.hb hb, h.lg, h.few, h.blk.below hb h.blk.lt, h.le, h.rest⟩
theorem RdAt.tab (h : RdAt w0 w g A n c wl p r) : Tabs w := h.tabs.stay h.hb
theorem RdAt.below (h : RdAt w0 w g A n c wl p r) (ho : Only (fun b => b = g) w w1) : Below w0.heap.size w0 w1 := h.hb.trans (ho.below h.hb.size (fun q _ hq => by rw [hq]; exact h.lg))
/-- Other blocks have turned. -/
theorem RdAt.only {S : Nat → Prop} (h : RdAt w0 w g A n c wl p r) (ho : Only S w w1) (hS : ∀ q, q < w.heap.size → S q → w0.heap.size ≤ q) (hg : ¬ S g) : RdAt w0 w1 g A n c wl p r :=
  ⟨h.tabs, h.sl, h.sz, h.hb.trans (ho.below h.hb.size hS), h.lg, h.few, h.blk.only ho hg, h.le, h.rest⟩
theorem RdAt.cells (h : RdAt w0 w g A n c wl p r) : w.cell? ⟨g, 0, none⟩ = some (.slice A n c) ∧ w.cell? ⟨g, 1, none⟩ = some (.int .i64 p) ∧ w.cell? ⟨g, 2, none⟩ = some (.int .i64 r.err) := by
  have c0 := h.blk.cell 0
  have c1 := h.blk.cell 1
  have c2 := h.blk.cell 2
  simp only [List.getElem?_toArray, List.getElem?_cons_zero, List.getElem?_cons_succ] at c0 c1 c2
  exact ⟨c0, c1, c2⟩
theorem RdAt.frees (h : RdAt w0 w g A n c wl p r) (j : Nat) : w.frozen? ⟨g, j, none⟩ = false := h.blk.free j
theorem RdAt.put_err (h : RdAt w0 w g A n c wl p r) (e : Int) : RdAt w0 (w.setCell ⟨g, 2, none⟩ (.int .i64 e)) g A n c wl p ⟨r.rest, e⟩ := by
  refine ⟨h.tabs, h.sl, h.sz, h.hb.setCell (p := ⟨g, 2, none⟩) h.lg _, h.lg, h.few, ?_, h.le, h.rest⟩
  have := h.blk.put 2 (.int .i64 e)
  simpa using this
theorem RdAt.put_at (h : RdAt w0 w g A n c wl p r) (hp : p + 1 ≤ n) : RdAt w0 (w.setCell ⟨g, 1, none⟩ (.int .i64 ((p + 1 : Nat) : Int))) g A n c wl (p + 1) r.skip := by
  refine ⟨h.tabs, h.sl, h.sz, h.hb.setCell (p := ⟨g, 1, none⟩) h.lg _, h.lg, h.few, ?_, hp, ?_⟩
  · have := h.blk.put 1 (.int .i64 ((p + 1 : Nat) : Int))
    simpa [Rd.skip] using this
  · unfold Rd.skip
    rw [h.rest, ← List.map_tail, List.tail_drop]
/-- The word that stands at p. -/
theorem RdAt.word_at (h : RdAt w0 w g A n c wl p r) (hp : p < n) : ∃ (b off : Nat) (t : ByteArray), A = some ⟨b, off, none⟩ ∧ w.cell? ⟨b, off + p * 2, none⟩ = some (.string t) ∧ t.size ≤ 4000000 ∧ b < w0.heap.size ∧ r.rest = t :: (wl.drop (p + 1)).map Prod.fst := by
  obtain ⟨b, off, x, rfl, hx, hc⟩ := h.sl.rf.at_ hp
  have c0 := hc 0 (.string x.1) rfl
  have hlt := cell_lt c0
  refine ⟨b, off, x.1, rfl, ?_, h.sz x (List.mem_of_getElem? hx), hlt, ?_⟩
  · have := cell_stay h.hb c0
    simpa [flW] using this
  · rw [h.rest, List.drop_eq_getElem_cons (by rw [h.sl.len]; exact hp), List.map_cons]
    congr 1
    have := (List.getElem?_eq_some_iff.1 hx).2
    rw [this]
theorem RdAt.rest_nil (h : RdAt w0 w g A n c wl p r) : r.rest.isEmpty = decide (n ≤ p) := by
  rw [Bool.eq_iff_iff, decide_eq_true_iff, List.isEmpty_iff_length_eq_zero, h.rest, List.length_map, List.length_drop, h.sl.len]
  omega
theorem RdAt.more_lt (h : RdAt w0 w g A n c wl p r) (hm : r.more = true) : p < n := by
  unfold Rd.more at hm
  rw [h.rest_nil, Bool.and_eq_true] at hm
  have := hm.2
  simp at this
  omega
/-- Behind a step of a reader. -/
def RdP (w0 w : World) (g : Nat) (A : Option Addr) (n c : Nat) (wl : List Wd) (r : Rd) (w' : World) : Prop := (∃ p, RdAt w0 w' g A n c wl p r) ∧ Only (fun b => b = g) w w'
theorem RdAt.post (h : RdAt w0 w g A n c wl p r) : RdP w0 w g A n c wl r w := ⟨⟨p, h⟩, Only.refl _ _⟩
theorem only_g {w2 : World} (h : Only (fun b => b = g) w w1) (k : Only (fun b => b = g) w1 w2) : Only (fun b => b = g) w w2 := h.trans k (fun _ _ h => h) (fun _ _ h => h)
theorem only_b {w2 : World} (h : Only (fun b => b = g) w w1) (k : Below w1.heap.size w1 w2) : Only (fun b => b = g) w w2 := only_g h (Only.of_below k)

theorem only_put1 (o : Nat) (u : Value) : Only (fun b => b = g) w (w.setCell ⟨g, o, none⟩ u) := Only.put ⟨g, o, none⟩ u
theorem Fails_calls (h : RdAt w0 w g A n c wl p r) (e : Int) :
    Calls Tryd.prog 58 #[.pointer (some ⟨g, 0, none⟩), .int .i64 e] w fun v w' => v = .returned (.tuple #[]) ∧ RdP w0 w g A n c wl (r.fail e) w' := by
  obtain ⟨c0, c1, c2⟩ := h.cells
  have f2 := h.frees 2
  have HK := Lib.hid h
  obtain ⟨rr, er⟩ := r
  simp only at c2
  clear h
  cases e0 : (er == 0) with
  | true =>
    have HE : Hid (Rd.fail ⟨rr, er⟩ e = ⟨rr, e⟩) := Lib.hid (by unfold Rd.fail or0; rw [if_pos (by simpa using e0)])
    go_enter Tryd.func58, Tryd.ntmps58
    go_wp2_with fail
    go_end0
    exact ⟨rfl, by rw [HE.out]; exact ⟨⟨p, HK.out.put_err e⟩, only_put1 _ _⟩⟩
  | false =>
    have HE : Hid (Rd.fail ⟨rr, er⟩ e = ⟨rr, er⟩) := Lib.hid (by unfold Rd.fail or0; rw [if_neg (by simpa using e0)])
    go_enter Tryd.func58, Tryd.ntmps58
    go_wp2_with fail
    go_end0
    exact ⟨rfl, by rw [HE.out]; exact HK.out.post⟩
theorem More_calls (h : RdAt w0 w g A n c wl p r) :
    Calls Tryd.prog 61 #[.pointer (some ⟨g, 0, none⟩)] w fun v w' => v = .returned (.bool r.more) ∧ Below w.heap.size w w' := by
  obtain ⟨c0, c1, c2⟩ := h.cells
  have HM : Hid (r.more = (decide (r.err = 0) && decide (p < n))) := Lib.hid (by
    unfold Rd.more
    rw [h.rest_nil]
    congr 1
    rw [Bool.eq_iff_iff]
    simp)
  have hle := h.le
  have hcap := Nat.le_trans h.sl.le h.sl.cap
  obtain ⟨rr, er⟩ := r
  simp only at c2 HM
  clear h
  cases e0 : (er == 0) with
  | true =>
    have HE : Hid ((decide (p < n)) = Rd.more ⟨rr, er⟩) := Lib.hid (by rw [HM.out, show decide (er = 0) = true by simpa using e0]; rfl)
    go_enter Tryd.func61, Tryd.ntmps61
    go_wp2_with fail
    go_quiet (fail)
    go_wp2_with fail
    go_ret
    exact ⟨ret_bool (by rw [← HE.out]), below_drawn (Below.refl _ _) _⟩
  | false =>
    have HE : Hid (Rd.more ⟨rr, er⟩ = false) := Lib.hid (by rw [HM.out, show decide (er = 0) = false by simpa using e0]; rfl)
    go_enter Tryd.func61, Tryd.ntmps61
    go_wp2_with fail
    go_quiet (fail)
    go_wp2_with fail
    go_ret
    exact ⟨ret_bool (by rw [HE.out]), below_drawn (Below.refl _ _) _⟩
theorem Is_calls (h : RdAt w0 w g A n c wl p r) (s : ByteArray) (hs : s.size ≤ 4000000) :
    Calls Tryd.prog 76 #[.pointer (some ⟨g, 0, none⟩), .string s] w fun v w' => v = .returned (.bool (r.isW s)) ∧ Below w.heap.size w w' := by
  obtain ⟨c0, c1, c2⟩ := h.cells
  have hle := h.le
  have hcap := Nat.le_trans h.sl.le h.sl.cap
  have KM := Lib.hid (fun z : Later w => More_calls (h.stay z.hb))
  cases hm : r.more with
  | false =>
    rw [hm] at KM
    have HE : Hid (r.isW s = false) := Lib.hid (by unfold Rd.isW; rw [hm]; rfl)
    clear h hm
    go_enter Tryd.func76, Tryd.ntmps76
    go_wp2_with fail
    have Lc0 := later_cell c0
    have Lc1 := later_cell c1
    have Lc2 := later_cell c2
    refine wp_region_later (by kernel_rfl) (by kernel_rfl) ?_
    repeat (go_big_quiet_step ((first | (go_at_call 61; rename_i z; exact later_call z (KM.out z)) | fail)))
    refine wpQuiet_nil ?_
    intro q0
    go_wp2_with fail
    go_ret
    exact ⟨ret_bool (by rw [HE.out]), q0.hb⟩
  | true =>
    rw [hm] at KM
    have hlt := h.more_lt hm
    obtain ⟨b, off, t, rfl, ct, _, _, hrest⟩ := h.word_at hlt
    have HE : Hid (r.isW s = decide (t = s)) := Lib.hid (by unfold Rd.isW; rw [hm, hrest]; rfl)
    clear h hm hrest
    cases hq : decide (t = s) with
    | true =>
      have e1 : (t.toList == s.toList) = true := by rw [str_eq]; exact hq
      rw [hq] at HE
      clear hq
      go_enter Tryd.func76, Tryd.ntmps76
      go_wp2_with fail
      have Lc0 := later_cell c0
      have Lc1 := later_cell c1
      have Lc2 := later_cell c2
      have Lct := later_cell ct
      refine wp_region_later (by kernel_rfl) (by kernel_rfl) ?_
      repeat (go_big_quiet_step ((first | (go_at_call 61; rename_i z; exact later_call z (KM.out z)) | fail)))
      refine wpQuiet_nil ?_
      intro q0
      go_wp2_with fail
      go_ret
      exact ⟨ret_bool (by rw [HE.out]), q0.hb⟩
    | false =>
      have e1 : (t.toList == s.toList) = false := by rw [str_eq]; exact hq
      rw [hq] at HE
      clear hq
      go_enter Tryd.func76, Tryd.ntmps76
      go_wp2_with fail
      have Lc0 := later_cell c0
      have Lc1 := later_cell c1
      have Lc2 := later_cell c2
      have Lct := later_cell ct
      refine wp_region_later (by kernel_rfl) (by kernel_rfl) ?_
      repeat (go_big_quiet_step ((first | (go_at_call 61; rename_i z; exact later_call z (KM.out z)) | fail)))
      refine wpQuiet_nil ?_
      intro q0
      go_wp2_with fail
      go_ret
      exact ⟨ret_bool (by rw [HE.out]), q0.hb⟩
theorem Next_calls (h : RdAt w0 w g A n c wl p r) :
    Calls Tryd.prog 56 #[.pointer (some ⟨g, 0, none⟩)] w fun v w' => v = .returned (.string r.next.1) ∧ r.next.1.size ≤ 4000000 ∧ RdP w0 w g A n c wl r.next.2 w' := by
  have KM := Lib.hid (More_calls h)
  cases hm : r.more with
  | false =>
    rw [hm] at KM
    have HE : Hid (r.next = (.empty, r.fail 2)) := Lib.hid (by unfold Rd.next; rw [hm]; rfl)
    have HK := Lib.hid h
    clear h hm
    go_enter Tryd.func56, Tryd.ntmps56
    go_wp2_with (first
      | (go_at_call 61; refine KM.out.mono ?_; rintro e w1 ⟨rfl, hb1⟩; have HB1 := Lib.hid hb1; clear hb1)
      | (go_at_call 58; refine (Fails_calls (HK.out.stay HB1.out) 2).mono ?_; rintro e w2 ⟨rfl, h2⟩; have H2 := Lib.hid h2; clear h2)
      | fail)
    go_ret
    rw [HE.out]
    exact ⟨rfl, Nat.zero_le _, H2.out.1, only_g (Only.of_below HB1.out) H2.out.2⟩
  | true =>
    rw [hm] at KM
    have hlt := h.more_lt hm
    obtain ⟨b, off, t, rfl, ct, ht, hb0, hrest⟩ := h.word_at hlt
    obtain ⟨c0, c1, c2⟩ := h.cells
    have HE : Hid (r.next = (t, r.skip)) := Lib.hid (by unfold Rd.next; rw [hm, hrest]; rfl)
    have HK := Lib.hid h
    have hcap := Nat.le_trans h.sl.le h.sl.cap
    have hbg : b ≠ g := by have := h.lg; omega
    clear h hm hrest
    go_enter Tryd.func56, Tryd.ntmps56
    go_wp2_with (first
      | (go_at_call 61; refine KM.out.mono ?_; rintro e w1 ⟨rfl, hb1⟩; (replace c0 := cell_stay hb1 c0); (replace c1 := cell_stay hb1 c1); (replace c2 := cell_stay hb1 c2); (replace ct := cell_stay hb1 ct); have HB1 := Lib.hid hb1; have f1 := (HK.out.stay hb1).frees 1; clear hb1)
      | fail)
    go_quiet (fail)
    go_wp2_with fail
    go_ret
    rw [HE.out]
    have hK := (HK.out.stay HB1.out).put_at (show p + 1 ≤ n by omega)
    exact ⟨rfl, ht, ⟨p + 1, (by simpa using hK.stay (below_drawn (Below.refl _ _) nq))⟩, only_b (only_g (Only.of_below HB1.out) (only_put1 _ _)) (below_drawn (Below.refl _ _) nq)⟩
theorem Word_calls (h : RdAt w0 w g A n c wl p r) (s : ByteArray) (hs : s.size ≤ 4000000) :
    Calls Tryd.prog 59 #[.pointer (some ⟨g, 0, none⟩), .string s] w fun v w' => v = .returned (.tuple #[]) ∧ RdP w0 w g A n c wl (r.word s) w' := by
  have KN := Lib.hid (Next_calls h)
  have HE : Hid (r.word s = if r.next.1 = s then r.next.2 else r.next.2.fail 2) := Lib.hid rfl
  clear h
  generalize r.next = nx at *
  obtain ⟨t, r1⟩ := nx
  dsimp only at KN HE
  cases hq : decide (t = s) with
  | true =>
    have e1 : (t.toList == s.toList) = true := by rw [str_eq]; exact hq
    have e2 : (t.toList != s.toList) = false := by simp [bne, e1]
    have HF := Lib.hid (HE.out.trans (if_pos (by simpa using hq)))
    clear hq
    go_enter Tryd.func59, Tryd.ntmps59
    go_wp2_with (first
      | (go_at_call 56; refine KN.out.mono ?_; rintro e w1 ⟨rfl, hz, ⟨p1, h1⟩, ho1⟩; have H1 := Lib.hid h1; have HO1 := Lib.hid ho1; clear h1 ho1)
      | fail)
    go_end0
    exact ⟨rfl, by rw [HF.out]; exact ⟨⟨p1, H1.out⟩, HO1.out⟩⟩
  | false =>
    have e1 : (t.toList == s.toList) = false := by rw [str_eq]; exact hq
    have e2 : (t.toList != s.toList) = true := by simp [bne, e1]
    have HF := Lib.hid (HE.out.trans (if_neg (by simpa using hq)))
    clear hq
    go_enter Tryd.func59, Tryd.ntmps59
    go_wp2_with (first
      | (go_at_call 56; refine KN.out.mono ?_; rintro e w1 ⟨rfl, hz, ⟨p1, h1⟩, ho1⟩; have H1 := Lib.hid h1; have HO1 := Lib.hid ho1; clear h1 ho1)
      | (go_at_call 58; refine (Fails_calls H1.out 2).mono ?_; rintro e w2 ⟨rfl, h2⟩; have H2 := Lib.hid h2; clear h2)
      | fail)
    go_end0
    exact ⟨rfl, by rw [HF.out]; exact ⟨H2.out.1, only_g HO1.out H2.out.2⟩⟩
theorem IsName3_calls (w : World) (hT : Tabs w) (s : ByteArray) (hs : s.size ≤ 4000000) :
    Calls Tryd.prog 75 #[.string s] w fun e w' => e = .returned (.bool (nmB s)) ∧ Below w.heap.size w w' := by
  have KN := Lib.hid (IsName_calls w hT s (by omega))
  have HM : Hid (nmB s = (nameL (byt s) && !decide (s.toList = setW) && !decide (s.toList = flankW))) := Lib.hid rfl
  unfold setW flankW at HM
  generalize nameL (byt s) = b at *
  clear hT
  cases b with
  | false =>
    go_enter Tryd.func75, Tryd.ntmps75
    go_wp2_with (first
      | (go_at_call 87; refine KN.out.mono ?_; rintro e w1 ⟨rfl, hb1⟩)
      | fail)
    go_ret
    exact ⟨ret_bool (by rw [HM.out]; rfl), hb1⟩
  | true =>
    by_cases h1 : s.toList = [115, 101, 116]
    · have e1 : (s.toList == [115, 101, 116]) = true := by rw [h1]; rfl
      have HE : Hid (nmB s = false) := Lib.hid (by rw [HM.out, decide_eq_true h1]; rfl)
      have HH := Lib.hid h1
      clear h1
      go_enter Tryd.func75, Tryd.ntmps75
      go_wp2_with (first
        | (go_at_call 87; refine KN.out.mono ?_; rintro e w1 ⟨rfl, hb1⟩)
        | fail)
      all_goals first
        | (exact absurd HH.out (by assumption))
        | (go_ret; exact ⟨ret_bool (by rw [HE.out]), hb1⟩)
    have e1 : (s.toList == [115, 101, 116]) = false := by simpa using h1
    by_cases h2 : s.toList = [102, 108, 97, 110, 107]
    · have e3 : (s.toList == [102, 108, 97, 110, 107]) = true := by rw [h2]; rfl
      have HE : Hid (nmB s = false) := Lib.hid (by rw [HM.out, decide_eq_true h2]; simp)
      clear h2
      go_enter Tryd.func75, Tryd.ntmps75
      go_wp2_with (first
        | (go_at_call 87; refine KN.out.mono ?_; rintro e w1 ⟨rfl, hb1⟩)
        | fail)
      go_ret
      exact ⟨ret_bool (by rw [HE.out]), hb1⟩
    · have e3 : (s.toList == [102, 108, 97, 110, 107]) = false := by simpa using h2
      have HE : Hid (nmB s = true) := Lib.hid (by rw [HM.out, decide_eq_false h1, decide_eq_false h2]; rfl)
      clear h2
      go_enter Tryd.func75, Tryd.ntmps75
      go_wp2_with (first
        | (go_at_call 87; refine KN.out.mono ?_; rintro e w1 ⟨rfl, hb1⟩)
        | fail)
      go_ret
      exact ⟨ret_bool (by rw [HE.out]), hb1⟩
theorem Name_calls (h : RdAt w0 w g A n c wl p r) :
    Calls Tryd.prog 57 #[.pointer (some ⟨g, 0, none⟩)] w fun v w' => v = .returned (.string r.name.1) ∧ r.name.1.size ≤ 4000000 ∧ RdP w0 w g A n c wl r.name.2 w' := by
  have KN := Lib.hid (Next_calls h)
  have HE : Hid (r.name = (r.next.1, if r.next.2.err = 0 ∧ nmB r.next.1 = false then r.next.2.fail 3 else r.next.2)) := Lib.hid rfl
  clear h
  generalize r.next = nx at *
  obtain ⟨t, rr, er⟩ := nx
  dsimp only at KN HE
  cases e0 : (er == 0) with
  | false =>
    have HF := Lib.hid (HE.out.trans (by rw [if_neg (fun h => by simp [h.1] at e0)]))
    go_enter Tryd.func57, Tryd.ntmps57
    go_wp2_with (first
      | (go_at_call 56; refine KN.out.mono ?_; rintro e w1 ⟨rfl, hz, ⟨p1, h1⟩, ho1⟩; obtain ⟨c0, c1, c2⟩ := h1.cells; have H1 := Lib.hid h1; have HO1 := Lib.hid ho1; clear h1 ho1)
      | fail)
    go_ret
    rw [HF.out]
    exact ⟨rfl, hz, ⟨p1, H1.out⟩, HO1.out⟩
  | true =>
    have HER := Lib.hid e0
    have HN : Hid (∀ W : World, Tabs W → t.size ≤ 4000000 → Calls Tryd.prog 75 #[.string t] W fun e w' => e = .returned (.bool (nmB t)) ∧ Below W.heap.size W w') := Lib.hid (fun W hW hz => IsName3_calls W hW t hz)
    generalize hb : nmB t = b at *
    cases b with
    | true =>
      have HF := Lib.hid (HE.out.trans (by rw [if_neg (fun h => by cases h.2)]))
      clear hb
      go_enter Tryd.func57, Tryd.ntmps57
      go_wp2_with (first
        | (go_at_call 56; refine KN.out.mono ?_; rintro e w1 ⟨rfl, hz, ⟨p1, h1⟩, ho1⟩; obtain ⟨c0, c1, c2⟩ := h1.cells; have H1 := Lib.hid h1; have HO1 := Lib.hid ho1; clear h1 ho1)
        | (go_at_call 75; refine (HN.out _ H1.out.tab hz).mono ?_; rintro e w2 ⟨rfl, hb2⟩; have HB2 := Lib.hid hb2; clear hb2)
        | fail)
      go_ret
      rw [HF.out]
      exact ⟨rfl, hz, ⟨p1, H1.out.stay HB2.out⟩, only_b HO1.out HB2.out⟩
    | false =>
      have HF := Lib.hid (HE.out.trans (by rw [if_pos ⟨by simpa using HER.out, rfl⟩]))
      clear hb
      go_enter Tryd.func57, Tryd.ntmps57
      go_wp2_with (first
        | (go_at_call 56; refine KN.out.mono ?_; rintro e w1 ⟨rfl, hz, ⟨p1, h1⟩, ho1⟩; obtain ⟨c0, c1, c2⟩ := h1.cells; have H1 := Lib.hid h1; have HO1 := Lib.hid ho1; clear h1 ho1)
        | (go_at_call 75; refine (HN.out _ H1.out.tab hz).mono ?_; rintro e w2 ⟨rfl, hb2⟩; have HB2 := Lib.hid hb2; clear hb2)
        | (go_at_call 58; refine (Fails_calls (H1.out.stay HB2.out) 3).mono ?_; rintro e w3 ⟨rfl, h3⟩; have H3 := Lib.hid h3; clear h3)
        | fail)
      go_ret
      rw [HF.out]
      exact ⟨rfl, hz, H3.out.1, only_g (only_b HO1.out HB2.out) H3.out.2⟩
end
end Go.Proofs.YtmdnmiiggkfnfaaDoor

/- Contracts of plan's reader: want, wants. -/
set_option linter.unusedVariables false
set_option linter.unusedSimpArgs false
namespace Go.Proofs.YtmdnmiiggkfnfaaDoor
open Go.RowKit

def flWn : Fl Wnt := ⟨2, fun x => [.string x.name, .bool x.rev], fun _ => rfl, fun _ u hu => two_one hu rfl rfl⟩
theorem wantsGo_step {r : Rd} (h : r.more = true) (h2 : r.isW flankT = false) : r.wantsGo = (r.want.1 :: r.want.2.wantsGo.1, r.want.2.wantsGo.2) := by
  obtain ⟨rr, er⟩ := r
  unfold Rd.more at h
  simp only [Bool.and_eq_true, decide_eq_true_eq] at h
  obtain ⟨rfl, h⟩ := h
  cases rr with
  | nil => simp at h
  | cons x t =>
    have hx : x ≠ flankT := by
      intro e
      subst e
      simp [Rd.isW, Rd.more] at h2
    have hw : Rd.want ⟨x :: t, 0⟩ = ((wantOf x).1, ⟨t, (wantOf x).2⟩) := rfl
    rw [hw]
    show wantsL (x :: t) = _
    rw [wantsL, if_neg hx]
    by_cases h0 : (wantOf x).2 = 0
    · rw [if_pos h0]
      dsimp only
      unfold Rd.wantsGo
      rw [if_pos h0]
    · rw [if_neg h0]
      dsimp only
      unfold Rd.wantsGo
      rw [if_neg h0]
theorem wantsGo_stop {r : Rd} (h : r.more = false ∨ r.isW flankT = true) : r.wantsGo = ([], r) := by
  obtain ⟨rr, er⟩ := r
  unfold Rd.wantsGo
  by_cases h0 : er = 0
  · subst h0
    rw [if_pos rfl]
    cases rr with
    | nil => rfl
    | cons x t =>
      have hx : x = flankT := by
        rcases h with h | h
        · simp [Rd.more] at h
        · simpa [Rd.isW, Rd.more] using h
      show wantsL (x :: t) = _
      rw [wantsL, if_pos hx]
  · rw [if_neg h0]
theorem viaGo_step {r : Rd} (h : r.more = true) (h1 : r.isW setT = false) (h2 : r.isW flankT = false) : r.viaGo = (r.name.1 :: r.name.2.viaGo.1, r.name.2.viaGo.2) := by
  obtain ⟨rr, er⟩ := r
  unfold Rd.more at h
  simp only [Bool.and_eq_true, decide_eq_true_eq] at h
  obtain ⟨rfl, h⟩ := h
  cases rr with
  | nil => simp at h
  | cons x t =>
    have hx1 : x ≠ setT := by
      intro e
      subst e
      simp [Rd.isW, Rd.more] at h1
    have hx2 : x ≠ flankT := by
      intro e
      subst e
      simp [Rd.isW, Rd.more] at h2
    show viaL (x :: t) = _
    rw [viaL, if_neg hx1, if_neg hx2]
    by_cases h0 : nmB x = true
    · have hw : Rd.name ⟨x :: t, 0⟩ = (x, ⟨t, 0⟩) := by
        show (x, if (0 : Int) = 0 ∧ nmB x = false then _ else _) = _
        rw [if_neg (by rw [h0]; simp)]
        rfl
      rw [hw, if_pos h0]
      rfl
    · have hw : Rd.name ⟨x :: t, 0⟩ = (x, ⟨t, 3⟩) := by
        show (x, if (0 : Int) = 0 ∧ nmB x = false then _ else _) = _
        rw [if_pos ⟨rfl, by simpa using h0⟩]
        rfl
      rw [hw, if_neg h0]
      rfl
theorem viaGo_stop {r : Rd} (h : r.more = false ∨ r.isW setT = true ∨ r.isW flankT = true) : r.viaGo = ([], r) := by
  obtain ⟨rr, er⟩ := r
  unfold Rd.viaGo
  by_cases h0 : er = 0
  · subst h0
    rw [if_pos rfl]
    cases rr with
    | nil => rfl
    | cons x t =>
      show viaL (x :: t) = _
      rcases h with h | h | h
      · simp [Rd.more] at h
      · have hx : x = setT := by simpa [Rd.isW, Rd.more] using h
        rw [viaL, if_pos hx]
      · have hx : x = flankT := by simpa [Rd.isW, Rd.more] using h
        by_cases h3 : x = setT
        · rw [viaL, if_pos h3]
        · rw [viaL, if_neg h3, if_pos hx]
  · rw [if_neg h0]
theorem trim_ends (s : ByteArray) (c : UInt8) : (⟨(Lib.trimSuffix s.data.toList [c]).toArray⟩ : ByteArray) = if endsB s c = true then chop s else s := by
  unfold Lib.trimSuffix Lib.hasSuffix endsB chop
  split
  · rfl
  · rfl
theorem cut_calls (s : ByteArray) (c : UInt8) (w : World) (hs : s.size ≤ 4000000) :
    Calls Tryd.prog 92 #[.string s, .string ⟨#[c]⟩] w fun e w' => e = .returned (.tuple #[.string (if endsB s c = true then chop s else s), .bool (endsB s c)]) ∧ w' = w :=
  (Tryd.strings_CutSuffix s ⟨#[c]⟩ w (by omega)).mono (by
    rintro e w1 ⟨rfl, rfl⟩
    refine ⟨?_, rfl⟩
    have h := trim_ends s c
    show Ending.returned (.tuple #[.string ⟨(Lib.trimSuffix s.data.toList [c]).toArray⟩, _]) = _
    rw [h]
    rfl)
theorem Blk.put2 {w : World} {g : Nat} {a b : Value} {t : TypeId} {fr : Nat × Nat} (h : Blk w g #[a, b] t fr) (x y : Value) : Blk ((w.setCell ⟨g, 0, none⟩ x).setCell ⟨g, 1, none⟩ y) g #[x, y] t fr := by
  have := (h.put 0 x).put 1 y
  simpa using this
theorem chop_size (s : ByteArray) : (chop s).size ≤ s.size := by
  show (List.take _ _).toArray.size ≤ s.data.size
  simp
section
variable {w0 w w1 : World} {g : Nat} {A : Option Addr} {n c : Nat} {wl : List Wd} {p : Nat} {r : Rd}
theorem fail_0 (r : Rd) : r.fail 0 = r := by
  obtain ⟨rr, er⟩ := r
  unfold Rd.fail or0
  by_cases h : er = 0
  · subst h; rfl
  · rw [if_neg h]
theorem RdAt.far (h : RdAt w0 w g A n c wl p r) {q : Nat} (hq : q ≠ g) (hl : w0.heap.size ≤ q) (o : Nat) (u : Value) : RdAt w0 (w.setCell ⟨q, o, none⟩ u) g A n c wl p r :=
  ⟨h.tabs, h.sl, h.sz, h.hb.setCell (p := ⟨q, o, none⟩) hl u, h.lg, h.few, h.blk.far (p := ⟨q, o, none⟩) (fun e => hq e.symm) u, h.le, h.rest⟩
theorem only_far {w w1 : World} (h : Only (fun b => b = g) w w1) {q : Nat} (hq : w.heap.size ≤ q) (o : Nat) (u : Value) : Only (fun b => b = g) w (w1.setCell ⟨q, o, none⟩ u) :=
  ⟨h.os, h.tape, h.output, by simpa [World.setCell] using h.size, fun k hk hn => (Below.heap_setCell _ _ _ _ (by show k ≠ q; omega)).trans (h.block k hk hn)⟩
theorem want_ret {fn : Func} {tmps : Array Value} {w : World} {p : Tmp} {g : Nat} {x y : Value} {t : TypeId} {fr : Nat × Nat} (h : fn.results = #[.cell p 130]) (hp : tmps.getD p undef = .pointer (some ⟨g, 0, none⟩)) (hg : Blk w g #[x, y] t fr) :
    (results fn tmps).run Tryd.prog w = .ok (.agg #[x, y]) w :=
  results_single h (.cell g t #[x, y] fr _ hp hg Tryd.underlying130 rfl (by kernel_rfl) .nil)
set_option maxRecDepth 20000 in
set_option maxHeartbeats 2000000 in
theorem Want_calls (h : RdAt w0 w g A n c wl p r) :
    Calls Tryd.prog 88 #[.pointer (some ⟨g, 0, none⟩)] w fun v w' => v = .returned (.agg #[.string r.want.1.name, .bool r.want.1.rev]) ∧ r.want.1.name.size ≤ 4000000 ∧ RdP w0 w g A n c wl r.want.2 w' := by
  have hbw := below_new w (.cells #[.string .empty, .bool false] 130)
  have KN := Lib.hid (Next_calls (h.stay hbw))
  have HE : Hid (r.want = ((wantOf r.next.1).1, r.next.2.fail (wantOf r.next.1).2)) := Lib.hid rfl
  have HBW := Lib.hid hbw
  have hle0 : w0.heap.size ≤ w.heap.size := h.hb.size
  have hgn : w.heap.size ≠ g := by have := h.blk.lt; omega
  have HB0 := Lib.hid (Blk.new w #[.string .empty, .bool false] 130 (0, 0))
  clear h
  generalize r.next = nx at *
  obtain ⟨t, r1⟩ := nx
  dsimp only at KN HE
  have HN : Hid (∀ (W : World) (u : ByteArray), Tabs W → u.size ≤ 4000000 → Calls Tryd.prog 75 #[.string u] W fun e w' => e = .returned (.bool (nmB u)) ∧ Below W.heap.size W w') := Lib.hid (fun W u hW hz => IsName3_calls W hW u hz)
  have HC := Lib.hid (fun (u : UInt8) (W : World) (hz : t.size ≤ 4000000) => cut_calls t u W hz)
  have hch := chop_size t
  have HLE := Lib.hid (hle0)
  cases k1 : endsB t 43 with
  | true =>
    have KC := Lib.hid (HC.out 43)
    simp only [k1, if_true] at KC
    have HW : Hid (wantOf t = (⟨chop t, false⟩, if nmB (chop t) = true then 0 else 3)) := Lib.hid (by unfold wantOf; rw [if_pos k1])
    have KI := Lib.hid (fun W => HN.out W (chop t))
    clear HC HN k1
    generalize chop t = u at *
    cases hb : nmB u with
    | true =>
      rw [hb] at KI
      have HF : Hid ((((wantOf t).1, r1.fail (wantOf t).2) : Wnt × Rd) = (⟨u, false⟩, r1)) := Lib.hid (by rw [HW.out, hb, if_pos rfl, fail_0])
      replace HF := Lib.hid (HE.out.trans HF.out)
      clear hb HE HW
      go_enter Tryd.func88, Tryd.ntmps88
      go_wp2_with (first
        | (go_at_call 56; refine KN.out.mono ?_; rintro e w1 ⟨rfl, hz, ⟨p1, h1⟩, ho1⟩; have hzu := Nat.le_trans hch hz; have HP1 := Lib.hid (HB0.out.only ho1 hgn); have f0 := HP1.out.free 0; have f1 := HP1.out.free 1; have c0 := HP1.out.cell 0; have c1 := HP1.out.cell 1; simp only [List.getElem?_toArray, List.getElem?_cons_zero, List.getElem?_cons_succ] at c0 c1; have H1 := Lib.hid h1; have HO1 := Lib.hid (only_g (Only.of_below HBW.out) ho1); clear h1 ho1)
        | (go_at_call 92; refine (KC.out _ hz).mono ?_; rintro e w1' ⟨rfl, rfl⟩)
        | (go_at_call 75; refine (KI.out _ H1.out.tab hzu).mono ?_; rintro e w2 ⟨rfl, hb2⟩; have HP2 := Lib.hid (HP1.out.below hb2 HP1.out.lt); (replace f0 := HP2.out.free 0); (replace f1 := HP2.out.free 1); (replace c0 := cell_stay hb2 c0); (replace c1 := cell_stay hb2 c1); have H2 := Lib.hid (H1.out.stay hb2); have HO2 := Lib.hid (only_b HO1.out hb2); clear hb2)
        | fail)
      refine bodyPost_ret (want_ret rfl rfl (HP2.out.put2 _ _)) rfl ?_
      rw [HF.out]
      exact ⟨rfl, hzu, ⟨⟨_, (H2.out.far (by omega) HLE.out _ _).far (by omega) HLE.out _ _⟩, only_far (only_far HO2.out (Nat.le_refl _) _ _) (Nat.le_refl _) _ _⟩⟩
    | false =>
      rw [hb] at KI
      have HF : Hid ((((wantOf t).1, r1.fail (wantOf t).2) : Wnt × Rd) = (⟨u, false⟩, r1.fail 3)) := Lib.hid (by rw [HW.out, hb, if_neg (by decide)])
      replace HF := Lib.hid (HE.out.trans HF.out)
      clear hb HE HW
      go_enter Tryd.func88, Tryd.ntmps88
      go_wp2_with (first
        | (go_at_call 56; refine KN.out.mono ?_; rintro e w1 ⟨rfl, hz, ⟨p1, h1⟩, ho1⟩; have hzu := Nat.le_trans hch hz; have HP1 := Lib.hid (HB0.out.only ho1 hgn); have f0 := HP1.out.free 0; have f1 := HP1.out.free 1; have c0 := HP1.out.cell 0; have c1 := HP1.out.cell 1; simp only [List.getElem?_toArray, List.getElem?_cons_zero, List.getElem?_cons_succ] at c0 c1; have H1 := Lib.hid h1; have HO1 := Lib.hid (only_g (Only.of_below HBW.out) ho1); clear h1 ho1)
        | (go_at_call 92; refine (KC.out _ hz).mono ?_; rintro e w1' ⟨rfl, rfl⟩)
        | (go_at_call 75; refine (KI.out _ H1.out.tab hzu).mono ?_; rintro e w2 ⟨rfl, hb2⟩; have HP2 := Lib.hid (HP1.out.below hb2 HP1.out.lt); (replace f0 := HP2.out.free 0); (replace f1 := HP2.out.free 1); (replace c0 := cell_stay hb2 c0); (replace c1 := cell_stay hb2 c1); have H2 := Lib.hid (H1.out.stay hb2); have HO2 := Lib.hid (only_b HO1.out hb2); clear hb2)
        | (go_at_call 58; refine (Fails_calls H2.out 3).mono ?_; rintro e w3 ⟨rfl, ⟨p3, h3⟩, ho3⟩; have HP3 := Lib.hid (HP2.out.only ho3 hgn); (replace f0 := HP3.out.free 0); (replace f1 := HP3.out.free 1); (replace c0 := HP3.out.cell 0); (replace c1 := HP3.out.cell 1); simp only [List.getElem?_toArray, List.getElem?_cons_zero, List.getElem?_cons_succ] at c0 c1; have H3 := Lib.hid h3; have HO3 := Lib.hid (only_g HO2.out ho3); clear h3 ho3)
        | fail)
      refine bodyPost_ret (want_ret rfl rfl (HP3.out.put2 _ _)) rfl ?_
      rw [HF.out]
      exact ⟨rfl, hzu, ⟨⟨_, (H3.out.far (by omega) HLE.out _ _).far (by omega) HLE.out _ _⟩, only_far (only_far HO3.out (Nat.le_refl _) _ _) (Nat.le_refl _) _ _⟩⟩

  | false =>
    have KC0 := Lib.hid (HC.out 43)
    simp only [k1, Bool.false_eq_true, if_false] at KC0
    cases k2 : endsB t 45 with
    | true =>
      have KC := Lib.hid (HC.out 45)
      simp only [k2, if_true] at KC
      have HW : Hid (wantOf t = (⟨chop t, true⟩, if nmB (chop t) = true then 0 else 3)) := Lib.hid (by unfold wantOf; rw [if_neg (by rw [k1]; decide), if_pos k2])
      have KI := Lib.hid (fun W => HN.out W (chop t))
      clear HC HN k1 k2
      generalize chop t = u at *
      cases hb : nmB u with
      | true =>
        rw [hb] at KI
        have HF : Hid ((((wantOf t).1, r1.fail (wantOf t).2) : Wnt × Rd) = (⟨u, true⟩, r1)) := Lib.hid (by rw [HW.out, hb, if_pos rfl, fail_0])
        replace HF := Lib.hid (HE.out.trans HF.out)
        clear hb HE HW
        go_enter Tryd.func88, Tryd.ntmps88
        go_wp2_with (first
          | (go_at_call 56; refine KN.out.mono ?_; rintro e w1 ⟨rfl, hz, ⟨p1, h1⟩, ho1⟩; have hzu := Nat.le_trans hch hz; have HP1 := Lib.hid (HB0.out.only ho1 hgn); have f0 := HP1.out.free 0; have f1 := HP1.out.free 1; have c0 := HP1.out.cell 0; have c1 := HP1.out.cell 1; simp only [List.getElem?_toArray, List.getElem?_cons_zero, List.getElem?_cons_succ] at c0 c1; have H1 := Lib.hid h1; have HO1 := Lib.hid (only_g (Only.of_below HBW.out) ho1); clear h1 ho1)
          | (go_at_call 92; first | (with_reducible refine (KC0.out _ hz).mono ?_; rintro e w1x ⟨rfl, rfl⟩) | (with_reducible refine (KC.out _ hz).mono ?_; rintro e w1' ⟨rfl, rfl⟩))
          | (go_at_call 75; refine (KI.out _ H1.out.tab hzu).mono ?_; rintro e w2 ⟨rfl, hb2⟩; have HP2 := Lib.hid (HP1.out.below hb2 HP1.out.lt); (replace f0 := HP2.out.free 0); (replace f1 := HP2.out.free 1); (replace c0 := cell_stay hb2 c0); (replace c1 := cell_stay hb2 c1); have H2 := Lib.hid (H1.out.stay hb2); have HO2 := Lib.hid (only_b HO1.out hb2); clear hb2)
          | fail)
        refine bodyPost_ret (want_ret rfl rfl (HP2.out.put2 _ _)) rfl ?_
        rw [HF.out]
        exact ⟨rfl, hzu, ⟨⟨_, (H2.out.far (by omega) HLE.out _ _).far (by omega) HLE.out _ _⟩, only_far (only_far HO2.out (Nat.le_refl _) _ _) (Nat.le_refl _) _ _⟩⟩
      | false =>
        rw [hb] at KI
        have HF : Hid ((((wantOf t).1, r1.fail (wantOf t).2) : Wnt × Rd) = (⟨u, true⟩, r1.fail 3)) := Lib.hid (by rw [HW.out, hb, if_neg (by decide)])
        replace HF := Lib.hid (HE.out.trans HF.out)
        clear hb HE HW
        go_enter Tryd.func88, Tryd.ntmps88
        go_wp2_with (first
          | (go_at_call 56; refine KN.out.mono ?_; rintro e w1 ⟨rfl, hz, ⟨p1, h1⟩, ho1⟩; have hzu := Nat.le_trans hch hz; have HP1 := Lib.hid (HB0.out.only ho1 hgn); have f0 := HP1.out.free 0; have f1 := HP1.out.free 1; have c0 := HP1.out.cell 0; have c1 := HP1.out.cell 1; simp only [List.getElem?_toArray, List.getElem?_cons_zero, List.getElem?_cons_succ] at c0 c1; have H1 := Lib.hid h1; have HO1 := Lib.hid (only_g (Only.of_below HBW.out) ho1); clear h1 ho1)
          | (go_at_call 92; first | (with_reducible refine (KC0.out _ hz).mono ?_; rintro e w1x ⟨rfl, rfl⟩) | (with_reducible refine (KC.out _ hz).mono ?_; rintro e w1' ⟨rfl, rfl⟩))
          | (go_at_call 75; refine (KI.out _ H1.out.tab hzu).mono ?_; rintro e w2 ⟨rfl, hb2⟩; have HP2 := Lib.hid (HP1.out.below hb2 HP1.out.lt); (replace f0 := HP2.out.free 0); (replace f1 := HP2.out.free 1); (replace c0 := cell_stay hb2 c0); (replace c1 := cell_stay hb2 c1); have H2 := Lib.hid (H1.out.stay hb2); have HO2 := Lib.hid (only_b HO1.out hb2); clear hb2)
          | (go_at_call 58; refine (Fails_calls H2.out 3).mono ?_; rintro e w3 ⟨rfl, ⟨p3, h3⟩, ho3⟩; have HP3 := Lib.hid (HP2.out.only ho3 hgn); (replace f0 := HP3.out.free 0); (replace f1 := HP3.out.free 1); (replace c0 := HP3.out.cell 0); (replace c1 := HP3.out.cell 1); simp only [List.getElem?_toArray, List.getElem?_cons_zero, List.getElem?_cons_succ] at c0 c1; have H3 := Lib.hid h3; have HO3 := Lib.hid (only_g HO2.out ho3); clear h3 ho3)
          | fail)
        refine bodyPost_ret (want_ret rfl rfl (HP3.out.put2 _ _)) rfl ?_
        rw [HF.out]
        exact ⟨rfl, hzu, ⟨⟨_, (H3.out.far (by omega) HLE.out _ _).far (by omega) HLE.out _ _⟩, only_far (only_far HO3.out (Nat.le_refl _) _ _) (Nat.le_refl _) _ _⟩⟩

    | false =>
      have KC := Lib.hid (HC.out 45)
      simp only [k2, Bool.false_eq_true, if_false] at KC
      have HW : Hid (wantOf t = (⟨t, false⟩, 2)) := Lib.hid (by unfold wantOf; rw [if_neg (by rw [k1]; decide), if_neg (by rw [k2]; decide)])
      have HF : Hid ((((wantOf t).1, r1.fail (wantOf t).2) : Wnt × Rd) = (⟨t, false⟩, r1.fail 2)) := Lib.hid (by rw [HW.out])
      replace HF := Lib.hid (HE.out.trans HF.out)
      clear HC HN k1 k2 HE HW
      go_enter Tryd.func88, Tryd.ntmps88
      go_wp2_with (first
        | (go_at_call 56; refine KN.out.mono ?_; rintro e w1 ⟨rfl, hz, ⟨p1, h1⟩, ho1⟩; have hzu := Nat.le_trans hch hz; have HP1 := Lib.hid (HB0.out.only ho1 hgn); have f0 := HP1.out.free 0; have f1 := HP1.out.free 1; have c0 := HP1.out.cell 0; have c1 := HP1.out.cell 1; simp only [List.getElem?_toArray, List.getElem?_cons_zero, List.getElem?_cons_succ] at c0 c1; have H1 := Lib.hid h1; have HO1 := Lib.hid (only_g (Only.of_below HBW.out) ho1); clear h1 ho1)
        | (go_at_call 92; first | (with_reducible refine (KC0.out _ hz).mono ?_; rintro e w1x ⟨rfl, rfl⟩) | (with_reducible refine (KC.out _ hz).mono ?_; rintro e w1' ⟨rfl, rfl⟩))
        | (go_at_call 58; refine (Fails_calls H1.out 2).mono ?_; rintro e w3 ⟨rfl, ⟨p3, h3⟩, ho3⟩; have HP3 := Lib.hid (HP1.out.only ho3 hgn); (replace f0 := HP3.out.free 0); (replace f1 := HP3.out.free 1); (replace c0 := HP3.out.cell 0); (replace c1 := HP3.out.cell 1); simp only [List.getElem?_toArray, List.getElem?_cons_zero, List.getElem?_cons_succ] at c0 c1; have H3 := Lib.hid h3; have HO3 := Lib.hid (only_g HO1.out ho3); clear h3 ho3)
        | fail)
      refine bodyPost_ret (want_ret rfl rfl (HP3.out.put2 _ _)) rfl ?_
      rw [HF.out]
      exact ⟨rfl, hz, ⟨⟨_, (H3.out.far (by omega) HLE.out _ _).far (by omega) HLE.out _ _⟩, only_far (only_far HO3.out (Nat.le_refl _) _ _) (Nat.le_refl _) _ _⟩⟩

theorem RdAt.grown {w1 : World} {row : Option Nat} (h : RdAt w0 w g A n c wl p r) (hg : w.grownBy w1 row) (hrow : ∀ k, row = some k → w0.heap.size ≤ k ∧ k ≠ g) : RdAt w0 w1 g A n c wl p r :=
  h.only (Only.of_grown hg) (fun q _ hq => (hrow q hq).1) (fun hq => (hrow g hq).2 rfl)
theorem only_grown {w w1 w2 : World} {row : Option Nat} (h : Only (fun b => b = g) w w1) (hg : w1.grownBy w2 row) (hrow : ∀ k, row = some k → w.heap.size ≤ k) : Only (fun b => b = g) w w2 :=
  h.trans (Only.of_grown hg) (fun _ _ h => h) (fun q hq hr => absurd (hrow q hr) (by omega))
theorem want_more {r : Rd} (h : r.more = true) : r.want.2.rest.length + 1 = r.rest.length := by
  obtain ⟨rr, er⟩ := r
  unfold Rd.more at h
  simp only [Bool.and_eq_true, decide_eq_true_eq] at h
  obtain ⟨rfl, h⟩ := h
  cases rr with
  | nil => simp at h
  | cons x t => rfl
theorem want_less (r : Rd) : r.want.2.rest.length ≤ r.rest.length := by
  obtain ⟨rr, er⟩ := r
  cases hm : Rd.more ⟨rr, er⟩ with
  | true => have := want_more hm; omega
  | false =>
    unfold Rd.want Rd.next
    rw [hm]
    exact Nat.le_refl _
theorem isW_more {r : Rd} {s : ByteArray} (h : r.isW s = true) : r.more = true := by
  unfold Rd.isW at h
  rw [Bool.and_eq_true] at h
  exact h.1
theorem skip_more {r : Rd} (h : r.more = true) : r.skip.rest.length + 1 = r.rest.length := by
  obtain ⟨rr, er⟩ := r
  unfold Rd.more at h
  simp only [Bool.and_eq_true, decide_eq_true_eq] at h
  obtain ⟨rfl, h⟩ := h
  cases rr with
  | nil => simp at h
  | cons x t => rfl
theorem RdAt.rlen (h : RdAt w0 w g A n c wl p r) : r.rest.length + p = n := by
  rw [h.rest, List.length_map, List.length_drop, h.sl.len]
  have := h.le
  omega
def lenV : Value → Nat
  | .slice _ n _ => n
  | _ => 0
theorem info_wn : (Tryd.prog.info? 130).map (fun i => (i.zero, i.size, i.bytes)) = some (some (.agg #[.string .empty, .bool false]), 2, 24) := by kernel_rfl
def smallW (l : List Wnt) : Prop := ∀ x ∈ l, x.name.size ≤ 4000000
/-- Wants that were taken. -/
def WantsPost (w0 w : World) (g : Nat) (A : Option Addr) (n c : Nat) (wl : List Wd) (x : List Wnt × Rd) (e : Ending) (w' : World) : Prop :=
  ∃ v, e = .returned v ∧ Ow flWn w' w.heap.size 130 v x.1 ∧ smallW x.1 ∧ x.1.length ≤ n ∧ RdP w0 w g A n c wl x.2 w'
/-- What a round keeps. -/
structure WRnd (w0 w wr : World) (g : Nat) (A : Option Addr) (n c : Nat) (wl : List Wd) (v : Value) (acc : List Wnt) (rc : Rd) (x : List Wnt × Rd) : Prop where
  own : Ow flWn wr w.heap.size 130 v acc
  small : smallW acc
  rd : ∃ p, RdAt w0 wr g A n c wl p rc
  only : Only (fun b => b = g) w wr
  eq : (acc ++ rc.wantsGo.1, rc.wantsGo.2) = x
  len : acc.length + rc.rest.length ≤ n
set_option maxRecDepth 20000 in
set_option maxHeartbeats 4000000 in
theorem Wants_calls (h : RdAt w0 w g A n c wl p r) (s : ByteArray) (hs : s.size ≤ 4000000) :
    Calls Tryd.prog 77 #[.pointer (some ⟨g, 0, none⟩), .string s] w (WantsPost w0 w g A n c wl (r.wants s)) := by
  obtain ⟨i0, hi0, hz0, hz1, hz2⟩ := info_parts info_wn
  have KI := Lib.hid (Is_calls h s hs)
  have HK := Lib.hid h
  have hgl := h.blk.lt
  have hfew := h.few
  have hle := h.le
  have hl0 : w0.heap.size ≤ w.heap.size := h.hb.size
  cases hi : r.isW s with
  | false =>
    rw [hi] at KI
    have HF : Hid (r.wants s = ([], r)) := Lib.hid (by unfold Rd.wants; rw [if_neg (by rw [hi]; decide)])
    clear h hi
    go_enter Tryd.func77, Tryd.ntmps77
    go_wp2_with (first
      | (go_at_call 76; refine KI.out.mono ?_; rintro e w1 ⟨rfl, hb1⟩; have HB1 := Lib.hid hb1; clear hb1)
      | fail)
    go_ret
    rw [HF.out]
    exact ⟨_, rfl, Ow.nil_ _ _ _ _, fun x hx => by simp at hx, Nat.zero_le _, ⟨p, HK.out.stay HB1.out⟩, Only.of_below HB1.out⟩
  | true =>
    rw [hi] at KI
    have hm := isW_more hi
    have hlt := h.more_lt hm
    have HL := Lib.hid (And.intro (skip_more hm) h.rlen)
    have HF : Hid (r.wants s = (r.skip.want.1 :: r.skip.want.2.wantsGo.1, r.skip.want.2.wantsGo.2)) := Lib.hid (by unfold Rd.wants; rw [if_pos hi])
    obtain ⟨c0, c1, c2⟩ := h.cells
    clear h hi hm
    go_enter Tryd.func77, Tryd.ntmps77
    go_wp2_with (first
      | (go_at_call 76; refine KI.out.mono ?_; rintro e w1 ⟨rfl, hb1⟩; (replace c0 := cell_stay hb1 c0); (replace c1 := cell_stay hb1 c1); (replace c2 := cell_stay hb1 c2); have HB1 := Lib.hid hb1; have f1 := (HK.out.stay hb1).frees 1; have hs1 := hb1.size; clear hb1)
      | (go_at_call 88; refine (Want_calls ((HK.out.stay HB1.out).put_at (by omega))).mono ?_; rintro e w2 ⟨rfl, hz, ⟨p2, h2⟩, ho2⟩; have H2 := Lib.hid h2; have HO2 := Lib.hid (only_g (only_g (Only.of_below HB1.out) (only_put1 1 _)) ho2); have HZ := Lib.hid hz; clear h2 ho2 hz)
      | fail)
    have HWL := Lib.hid (want_less r.skip)
    go_loopw [5] (fun v wr => ∃ (acc : List Wnt) (rc : Rd), Hid (WRnd w0 w wr g A n c wl v acc rc (r.wants s)) ∧ lenV v = acc.length ∧ acc.length ≤ n) (fun v _ => n - lenV v)
    case atStart =>
      refine ⟨[r.skip.want.1], r.skip.want.2, Lib.hid ⟨?_, fun x hx => by rw [List.mem_singleton.1 hx]; exact HZ.out, ⟨p2, H2.out.stay (below_new _ _)⟩, only_b HO2.out (below_new _ _), by rw [HF.out]; rfl, by have := HL.out; have := HWL.out; simp only [List.length_singleton]; omega⟩, rfl, by simp only [List.length_singleton]; omega⟩
      exact Ow.lit (f := flWn) (xs := [r.skip.want.1]) w2 w.heap.size 130 _ HO2.out.size (by simp) rfl
    case round =>
      obtain ⟨acc, rc, hR, hlv, hal⟩ := hrel
      obtain ⟨p3, h3⟩ := hR.out.rd
      have HK3 := Lib.hid h3
      have HW3 := Lib.hid (hR.out.only.size)
      have KM := Lib.hid (More_calls h3)
      have HR := hR
      clear HL HWL c0 c1 c2 f1 KI
      cases hm : rc.more with
      | false =>
        rw [hm] at KM
        have HE : Hid (r.wants s = (acc, rc)) := Lib.hid (by rw [← HR.out.eq, wantsGo_stop (.inl hm)]; simp)
        clear hm h3
        go_wp2_with (first
          | (go_at_call 61; refine KM.out.mono ?_; rintro e w4 ⟨rfl, hb4⟩; have HB4 := Lib.hid hb4; clear hb4)
          | fail)
        go_ret
        rw [HE.out]
        exact ⟨_, rfl, HR.out.own.stay HB4.out, HR.out.small, by have := HR.out.len; dsimp only; omega, ⟨p3, HK3.out.stay HB4.out⟩, only_b HR.out.only HB4.out⟩
      | true =>
        rw [hm] at KM
        have KI := Lib.hid (fun (W : World) (hb : Below wr.heap.size wr W) => Is_calls (h3.stay hb) flankT (by decide))
        cases hi : rc.isW flankT with
        | true =>
          rw [hi] at KI
          have HE : Hid (r.wants s = (acc, rc)) := Lib.hid (by rw [← HR.out.eq, wantsGo_stop (.inr hi)]; simp)
          clear hm hi h3
          go_wp2_with (first
            | (go_at_call 61; refine KM.out.mono ?_; rintro e w4 ⟨rfl, hb4⟩; have HB4 := Lib.hid hb4; clear hb4)
            | (go_at_call 76; refine (KI.out _ HB4.out).mono ?_; rintro e w5 ⟨rfl, hb5⟩; have HB5 := Lib.hid (below_more HB4.out hb5); clear hb5)
            | fail)
          go_ret
          rw [HE.out]
          exact ⟨_, rfl, HR.out.own.stay HB5.out, HR.out.small, by have := HR.out.len; dsimp only; omega, ⟨p3, HK3.out.stay HB5.out⟩, only_b HR.out.only HB5.out⟩
        | false =>
          rw [hi] at KI
          have HE : Hid ((acc ++ [rc.want.1] ++ rc.want.2.wantsGo.1, rc.want.2.wantsGo.2) = r.wants s) := Lib.hid (by rw [← HR.out.eq, wantsGo_step hm hi]; simp)
          have hwm := want_more hm
          have hln := HR.out.len
          have HLN := Lib.hid (show acc.length + 1 + rc.want.2.rest.length ≤ n by omega)
          have hal2 : acc.length + 1 ≤ n := by omega
          have HBX := Lib.hid (fun W => box_reads flWn W #[.string rc.want.1.name, .bool rc.want.1.rev] 130 rc.want.1 rfl)
          clear hm hi hwm hln h3
          go_wp2_with (first
            | (go_at_call 61; refine KM.out.mono ?_; rintro e w4 ⟨rfl, hb4⟩; have HB4 := Lib.hid hb4; clear hb4)
            | (go_at_call 76; refine (KI.out _ HB4.out).mono ?_; rintro e w5 ⟨rfl, hb5⟩; have HB5 := Lib.hid (below_more HB4.out hb5); clear hb5)
            | (go_at_call 88; refine (Want_calls (HK3.out.stay HB5.out)).mono ?_; rintro e w6 ⟨rfl, hz, ⟨p6, h6⟩, ho6⟩; have H6 := Lib.hid h6; have HO6 := Lib.hid (only_g (only_b HR.out.only HB5.out) ho6); have HOW := Lib.hid ((HR.out.own.stay HB5.out).only ho6 (fun k hk e => by have := HR.out.own.base_ k hk; omega)); have HZ6 := Lib.hid hz; have hs6 := ho6.size; have hs5 := HB5.out.size; clear h6 ho6 hz)
            | (at_builtin; refine wpList_append_any _ rfl (.tmp 27) (.tmp 30) _ rfl w.heap.size 130 i0 _ 2 24 Tryd.underlying84 hi0 hz0 hz1 hz2 rfl (by omega) _ acc.length (acc.flatMap flWn.enc) rfl (HOW.out.alloc _) _ (some ⟨w6.heap.size, 0, none⟩) 1 1 (flWn.enc rc.want.1) rfl (HBX.out w6) (flWn.one _) (by simp only [maxLen]; omega) (by omega) (by have := HW3.out; simp; omega) ?_; intro v7 w7 hown7 hg7 hat7; have HO7 := Lib.hid hown7; have HG7 := Lib.hid hg7; clear hown7 hg7 hat7)
            | fail)
          go_roundw
          case rel =>
            obtain ⟨A7, c7, e7⟩ := row_form HO7.out
            refine ⟨acc ++ [rc.want.1], rc.want.2, Lib.hid ⟨Ow.snoc HO7.out, fun x hx => ?_, ⟨p6, (H6.out.stay (below_new _ _)).grown HG7.out (fun k hk => ?_)⟩, only_grown (only_b HO6.out (below_new _ _)) HG7.out (fun k hk => HOW.out.base_ k hk), HE.out, by rw [List.length_append, List.length_singleton]; exact HLN.out⟩, by rw [e7, List.length_append]; rfl, by rw [List.length_append, List.length_singleton]; exact hal2⟩
            · rcases List.mem_append.1 hx with h | h
              · exact HR.out.small x h
              · rw [List.mem_singleton.1 h]; exact HZ6.out
            · have := HOW.out.base_ k hk
              exact ⟨by omega, by omega⟩
          case measure =>
            obtain ⟨A7, c7, e7⟩ := row_form HO7.out
            rw [e7, hlv]
            show n - (acc.length + 1) < n - acc.length
            omega
end
end Go.Proofs.YtmdnmiiggkfnfaaDoor
