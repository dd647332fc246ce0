/- Texts put together for a claim. -/
import Derived.Test.YtmdnmiiggkfnfaaDoorQ20PlanNamesUpto
import Derived.Deep.RegionLaw
/- Contract of plan's reader: route. -/
set_option linter.unusedVariables false
set_option linter.unusedSimpArgs false
namespace Go.Proofs.YtmdnmiiggkfnfaaDoor
open Go.RowKit

def smallS (l : List ByteArray) : Prop := ∀ x ∈ l, x.size ≤ 4000000
theorem smallS.snoc {l : List ByteArray} {x : ByteArray} (h : smallS l) (hx : x.size ≤ 4000000) : smallS (l ++ [x]) := by
  intro y hy
  rcases List.mem_append.1 hy with h1 | h1
  · exact h y h1
  · rw [List.mem_singleton.1 h1]; exact hx
/-- A line that is being read: its cells, its rows; the reader. -/
structure RtSt (w0 W0 : World) (B g gx : Nat) (A : Option Addr) (n c : Nat) (wl : List Wd) (k : ByteArray) (w : World) (vn vv vs vf : Value) (xn xv : List ByteArray) (xs xf : List Wnt) (rc : Rd) : Prop where
  rd : ∃ p, RdAt w0 w g A n c wl p rc
  blk : Blk w gx #[.string k, vn, vv, vs, vf] 86 (0, 0)
  names : Ow flS w B 9 vn xn
  via : Ow flS w B 9 vv xv
  ap : ∀ k, vn.ownBlock = some k → vv.ownBlock ≠ some k
  set : Ow flWn w B 130 vs xs
  flank : Ow flWn w B 130 vf xf
  sn : smallS xn
  sv : smallS xv
  ss : smallW xs
  sf : smallW xf
  lB : w0.heap.size ≤ B
  gB : g < B
  xB : B ≤ gx
  WB : B ≤ w.heap.size
  only : Only (fun b => b = g ∨ B ≤ b) W0 w
section
variable {w0 W0 w w1 : World} {B g gx : Nat} {A : Option Addr} {n c : Nat} {wl : List Wd} {k : ByteArray} {vn vv vs vf : Value} {xn xv : List ByteArray} {xs xf : List Wnt} {rc rc' : Rd}
theorem RtSt.step (h : RtSt w0 W0 B g gx A n c wl k w vn vv vs vf xn xv xs xf rc) (hp : RdP w0 w g A n c wl rc' w1) : RtSt w0 W0 B g gx A n c wl k w1 vn vv vs vf xn xv xs xf rc' := by
  obtain ⟨hp, ho⟩ := hp
  have hg := h.gB
  have hx := h.xB
  exact ⟨hp, h.blk.only ho (by omega), h.names.only ho (fun k hk e => by have := h.names.base_ k hk; omega), h.via.only ho (fun k hk e => by have := h.via.base_ k hk; omega), h.ap,
    h.set.only ho (fun k hk e => by have := h.set.base_ k hk; omega), h.flank.only ho (fun k hk e => by have := h.flank.base_ k hk; omega), h.sn, h.sv, h.ss, h.sf, h.lB, h.gB, h.xB, Nat.le_trans h.WB ho.size,
    h.only.trans ho (fun _ _ h => h) (fun _ _ h => .inl h)⟩
theorem RtSt.stay (h : RtSt w0 W0 B g gx A n c wl k w vn vv vs vf xn xv xs xf rc) (hb : Below w.heap.size w w1) : RtSt w0 W0 B g gx A n c wl k w1 vn vv vs vf xn xv xs xf rc := by
  obtain ⟨p, hp⟩ := h.rd
  exact h.step ⟨⟨p, hp.stay hb⟩, Only.of_below hb⟩
theorem RtSt.cells (h : RtSt w0 W0 B g gx A n c wl k w vn vv vs vf xn xv xs xf rc) : w.cell? ⟨gx, 0, none⟩ = some (.string k) ∧ w.cell? ⟨gx, 1, none⟩ = some vn ∧ w.cell? ⟨gx, 2, none⟩ = some vv ∧ w.cell? ⟨gx, 3, none⟩ = some vs ∧ w.cell? ⟨gx, 4, none⟩ = some vf := by
  have c0 := h.blk.cell 0
  have c1 := h.blk.cell 1
  have c2 := h.blk.cell 2
  have c3 := h.blk.cell 3
  have c4 := h.blk.cell 4
  simp only [List.getElem?_toArray, List.getElem?_cons_zero, List.getElem?_cons_succ] at c0 c1 c2 c3 c4
  exact ⟨c0, c1, c2, c3, c4⟩
theorem Blk.set5 {w : World} {g : Nat} {a b c d e : Value} {t : TypeId} {fr : Nat × Nat} (h : Blk w g #[a, b, c, d, e] t fr) (u : Value) :
    Blk (w.setCell ⟨g, 1, none⟩ u) g #[a, u, c, d, e] t fr ∧ Blk (w.setCell ⟨g, 2, none⟩ u) g #[a, b, u, d, e] t fr ∧ Blk (w.setCell ⟨g, 3, none⟩ u) g #[a, b, c, u, e] t fr ∧ Blk (w.setCell ⟨g, 4, none⟩ u) g #[a, b, c, d, u] t fr := by
  refine ⟨?_, ?_, ?_, ?_⟩
  · have := h.put 1 u; simpa using this
  · have := h.put 2 u; simpa using this
  · have := h.put 3 u; simpa using this
  · have := h.put 4 u; simpa using this
/-- A row of strings has been appended to, of whatever other block. -/
theorem RtSt.grownBlk (h : RtSt w0 W0 B g gx A n c wl k w vn vv vs vf xn xv xs xf rc) {row : Option Nat} (hg : w.grownBy w1 row) (hr : ∀ q, row = some q → B ≤ q ∧ q ≠ gx) : Blk w1 gx #[.string k, vn, vv, vs, vf] 86 (0, 0) :=
  h.blk.only (Only.of_grown hg) (fun e => (hr gx e).2 rfl)
theorem own_ne_line (h : RtSt w0 W0 B g gx A n c wl k w vn vv vs vf xn xv xs xf rc) : (∀ q, vn.ownBlock = some q → B ≤ q ∧ q ≠ gx) ∧ (∀ q, vv.ownBlock = some q → B ≤ q ∧ q ≠ gx) := by
  refine ⟨fun q hq => ⟨h.names.base_ q hq, ?_⟩, fun q hq => ⟨h.via.base_ q hq, ?_⟩⟩
  · rintro rfl
    exact own_not_blk h.names h.blk (by decide) hq
  · rintro rfl
    exact own_not_blk h.via h.blk (by decide) hq
/-- A field of the line is stored. -/
theorem only_line {w2 : World} (ho : Only (fun b => b = g ∨ B ≤ b) W0 w) (hx : B ≤ gx) (i : Nat) (u : Value) : Only (fun b => b = g ∨ B ≤ b) W0 (w.setCell ⟨gx, i, none⟩ u) :=
  ho.trans (Only.put ⟨gx, i, none⟩ u) (fun _ _ h => h) (fun q _ hq => .inr (by have : q = gx := hq; omega))
theorem Ow.far_ {α : Type} {f : Fl α} {w : World} {base : Nat} {e : TypeId} {v : Value} {xs : List α} (h : Ow f w base e v xs) {q : Nat} (hq : v.ownBlock ≠ some q) (i : Nat) (u : Value) : Ow f (w.setCell ⟨q, i, none⟩ u) base e v xs :=
  h.only (Only.put ⟨q, i, none⟩ u) (fun k hk e => hq (by rw [hk]; exact congrArg some e))
theorem names_app (h : RtSt w0 W0 B g gx A n c wl k w vn vv vs vf xn xv xs xf rc) {t : ByteArray} (ht : t.size ≤ 4000000) {v1 : Value} (ho : w1.ownsRow B 9 1 v1 (xn.length + 1) (xn.flatMap flS.enc ++ [.string t])) (hg : w.grownBy w1 vn.ownBlock) (hat : v1.ownBlock = vn.ownBlock ∨ v1.ownBlock = some w.heap.size) :
    RtSt w0 W0 B g gx A n c wl k (w1.setCell ⟨gx, 1, none⟩ v1) v1 vv vs vf (xn ++ [t]) xv xs xf rc := by
  obtain ⟨hn, hv⟩ := own_ne_line h
  obtain ⟨p, hp⟩ := h.rd
  have hB := h.lB
  have hgB := h.gB
  have hxB := h.xB
  have hb1 := h.grownBlk hg hn
  have hO : Ow flS w1 B 9 v1 (xn ++ [t]) := Ow.snoc ho
  have hrd : RdAt w0 w1 g A n c wl p rc := hp.grown hg (fun q hq => by have := (hn q hq).1; exact ⟨by omega, by omega⟩)
  have hlt := h.blk.lt
  have hne1 : v1.ownBlock ≠ some gx := by
    rcases hat with e | e
    · rw [e]; exact fun e2 => (hn gx e2).2 rfl
    · rw [e]; intro e2; injection e2 with e2; omega
  have hap : ∀ q, vv.ownBlock = some q → q ≠ w.heap.size := fun q hq e => by have := Ow.lt_ h.via q hq; omega
  have hvia : Ow flS w1 B 9 vv xv := h.via.kept hg (by
    rcases hvn : vn.ownBlock with _ | q
    · rcases hvv : vv.ownBlock with _ | q
      · exact .inl rfl
      · exact .inr (by simp)
    · exact .inr (h.ap q hvn))
  have hset : Ow flWn w1 B 130 vs xs := h.set.kept hg (by
    rcases hvs : vs.ownBlock with _ | q
    · exact .inl rfl
    · exact .inr (fun e => own_not_own h.set h.names (by decide) q hvs e.symm))
  have hfl : Ow flWn w1 B 130 vf xf := h.flank.kept hg (by
    rcases hvs : vf.ownBlock with _ | q
    · exact .inl rfl
    · exact .inr (fun e => own_not_own h.flank h.names (by decide) q hvs e.symm))
  refine ⟨⟨p, hrd.far (by omega) (by omega) 1 v1⟩, (hb1.set5 v1).1, hO.far_ hne1 _ _, hvia.far_ (fun e => (hv gx e).2 rfl) _ _, ?_, hset.far_ (own_not_blk hset hb1 (by decide)) _ _, hfl.far_ (own_not_blk hfl hb1 (by decide)) _ _, h.sn.snoc ht, h.sv, h.ss, h.sf, h.lB, h.gB, h.xB, ?_, ?_⟩
  · intro q hq e
    rcases hat with e2 | e2
    · exact h.ap q (by rw [← e2]; exact hq) e
    · rw [e2] at hq
      injection hq with hq
      exact hap q e hq.symm
  · have := hg.size
    have := h.WB
    rw [size_put]
    omega
  · exact only_line (w2 := w1) (h.only.trans (Only.of_grown hg) (fun _ _ h => h) (fun q _ hq => .inr (hn q hq).1)) hxB _ _
theorem via_app (h : RtSt w0 W0 B g gx A n c wl k w vn vv vs vf xn xv xs xf rc) {t : ByteArray} (ht : t.size ≤ 4000000) {v1 : Value} (ho : w1.ownsRow B 9 1 v1 (xv.length + 1) (xv.flatMap flS.enc ++ [.string t])) (hg : w.grownBy w1 vv.ownBlock) (hat : v1.ownBlock = vv.ownBlock ∨ v1.ownBlock = some w.heap.size) :
    RtSt w0 W0 B g gx A n c wl k (w1.setCell ⟨gx, 2, none⟩ v1) vn v1 vs vf xn (xv ++ [t]) xs xf rc := by
  obtain ⟨hn, hv⟩ := own_ne_line h
  obtain ⟨p, hp⟩ := h.rd
  have hB := h.lB
  have hgB := h.gB
  have hxB := h.xB
  have hb1 := h.grownBlk hg hv
  have hO : Ow flS w1 B 9 v1 (xv ++ [t]) := Ow.snoc ho
  have hrd : RdAt w0 w1 g A n c wl p rc := hp.grown hg (fun q hq => by have := (hv q hq).1; exact ⟨by omega, by omega⟩)
  have hlt := h.blk.lt
  have hne1 : v1.ownBlock ≠ some gx := by
    rcases hat with e | e
    · rw [e]; exact fun e2 => (hv gx e2).2 rfl
    · rw [e]; intro e2; injection e2 with e2; omega
  have hap : ∀ q, vn.ownBlock = some q → q ≠ w.heap.size := fun q hq e => by have := Ow.lt_ h.names q hq; omega
  have hnm : Ow flS w1 B 9 vn xn := h.names.kept hg (by
    rcases hvn : vn.ownBlock with _ | q
    · exact .inl rfl
    · exact .inr (fun e => h.ap q hvn e.symm))
  have hset : Ow flWn w1 B 130 vs xs := h.set.kept hg (by
    rcases hvs : vs.ownBlock with _ | q
    · exact .inl rfl
    · exact .inr (fun e => own_not_own h.set h.via (by decide) q hvs e.symm))
  have hfl : Ow flWn w1 B 130 vf xf := h.flank.kept hg (by
    rcases hvs : vf.ownBlock with _ | q
    · exact .inl rfl
    · exact .inr (fun e => own_not_own h.flank h.via (by decide) q hvs e.symm))
  refine ⟨⟨p, hrd.far (by omega) (by omega) 2 v1⟩, (hb1.set5 v1).2.1, hnm.far_ (fun e => (hn gx e).2 rfl) _ _, hO.far_ hne1 _ _, ?_, hset.far_ (own_not_blk hset hb1 (by decide)) _ _, hfl.far_ (own_not_blk hfl hb1 (by decide)) _ _, h.sn, h.sv.snoc ht, h.ss, h.sf, h.lB, h.gB, h.xB, ?_, ?_⟩
  · intro q hq e
    rcases hat with e2 | e2
    · exact h.ap q hq (by rw [← e2]; exact e)
    · rw [e2] at e
      injection e with e
      exact hap q hq e.symm
  · have := hg.size
    have := h.WB
    rw [size_put]
    omega
  · exact only_line (w2 := w1) (h.only.trans (Only.of_grown hg) (fun _ _ h => h) (fun q _ hq => .inr (hv q hq).1)) hxB _ _
theorem set_put (h : RtSt w0 W0 B g gx A n c wl k w vn vv vs vf xn xv xs xf rc) {v1 : Value} {ys : List Wnt} (ho : Ow flWn w B 130 v1 ys) (hs : smallW ys) :
    RtSt w0 W0 B g gx A n c wl k (w.setCell ⟨gx, 3, none⟩ v1) vn vv v1 vf xn xv ys xf rc := by
  obtain ⟨hn, hv⟩ := own_ne_line h
  obtain ⟨p, hp⟩ := h.rd
  have hB := h.lB
  have hgB := h.gB
  have hxB := h.xB
  exact ⟨⟨p, hp.far (by omega) (by omega) 3 v1⟩, (h.blk.set5 v1).2.2.1, h.names.far_ (fun e => (hn gx e).2 rfl) _ _, h.via.far_ (fun e => (hv gx e).2 rfl) _ _, h.ap, ho.far_ (own_not_blk ho h.blk (by decide)) _ _, h.flank.far_ (own_not_blk h.flank h.blk (by decide)) _ _, h.sn, h.sv, hs, h.sf, h.lB, h.gB, h.xB, by rw [size_put]; exact h.WB, only_line (w2 := w) h.only hxB _ _⟩
theorem flank_put (h : RtSt w0 W0 B g gx A n c wl k w vn vv vs vf xn xv xs xf rc) {v1 : Value} {ys : List Wnt} (ho : Ow flWn w B 130 v1 ys) (hs : smallW ys) :
    RtSt w0 W0 B g gx A n c wl k (w.setCell ⟨gx, 4, none⟩ v1) vn vv vs v1 xn xv xs ys rc := by
  obtain ⟨hn, hv⟩ := own_ne_line h
  obtain ⟨p, hp⟩ := h.rd
  have hB := h.lB
  have hgB := h.gB
  have hxB := h.xB
  exact ⟨⟨p, hp.far (by omega) (by omega) 4 v1⟩, (h.blk.set5 v1).2.2.2, h.names.far_ (fun e => (hn gx e).2 rfl) _ _, h.via.far_ (fun e => (hv gx e).2 rfl) _ _, h.ap, h.set.far_ (own_not_blk h.set h.blk (by decide)) _ _, ho.far_ (own_not_blk ho h.blk (by decide)) _ _, h.sn, h.sv, h.ss, hs, h.lB, h.gB, h.xB, by rw [size_put]; exact h.WB, only_line (w2 := w) h.only hxB _ _⟩
end
end Go.Proofs.YtmdnmiiggkfnfaaDoor

/- Contract of plan's reader: route. -/
set_option linter.unusedVariables false
set_option linter.unusedSimpArgs false
namespace Go.Proofs.YtmdnmiiggkfnfaaDoor
open Go.RowKit

theorem info_st3 : (Tryd.prog.info? 9).map (fun i => (i.zero, i.size, i.bytes)) = some (some (.string .empty), 1, 16) := by kernel_rfl
section
variable {w0 W0 w w1 : World} {B g gx : Nat} {A : Option Addr} {n c : Nat} {wl : List Wd} {k : ByteArray} {vn vv vs vf : Value} {xn xv : List ByteArray} {xs xf : List Wnt} {rc rc' : Rd}

theorem names_app_step {ops : Array Oper} {o : Oper} {a : Act} {K : Act → World → Prop} {Q : Exit → Act → World → Prop} {E : Prop} (h : RtSt w0 W0 B g gx A n c wl k w vn vv vs vf xn xv xs xf rc) {t : ByteArray} (hz : t.size ≤ 4000000) {q : Nat} (hq : xn.length = q) (hl : q ≤ 3000000) (hgd : o.guard = none) (s x : Operand)
    (ho : o.op = .call { callee := .builtin .append, args := #[s, x], argTypes := #[22, 22] }) (hs : a.eval s = vn) (hx : a.eval x = .slice (some ⟨w.heap.size, 0, none⟩) 1 1)
    (hK : ∀ A7 c7 w7, World.frozen? w7 ⟨gx, 1, none⟩ = false → World.cell? w7 ⟨gx, 1, none⟩ = some vn → Hid (RtSt w0 W0 B g gx A n c wl k (w7.setCell ⟨gx, 1, none⟩ (.slice A7 (q + 1) c7)) (.slice A7 (q + 1) c7) vv vs vf (xn ++ [t]) xv xs xf rc) → K (a.put o.dst (.slice A7 (q + 1) c7)) w7) :
    if Region.wanted o (yielded ops a.tmps) = true then Oper.wp Tryd.prog o a (w.alloc (.cells #[.string t] 9)) K Q else E := by
  subst hq
  obtain ⟨i0, hi0, hz0, hz1, hz2⟩ := info_parts info_st3
  have hWB := h.WB
  have h1 := h.stay (below_new w (.cells #[.string t] 9))
  refine step_append_any (P := Tryd.prog) _ hgd s x 22 ho B 9 i0 _ 1 16 Tryd.underlying22 hi0 hz0 hz1 hz2 rfl (by omega) vn xn.length (xn.flatMap flS.enc) hs h1.names _ (some ⟨w.heap.size, 0, none⟩) 1 1 [.string t] hx (box_reads flS w #[.string t] 9 t rfl) (by intro u hu; rw [List.mem_singleton.1 hu]; rfl) (by simp only [maxLen]; omega) (by omega) (by simp; omega) ?_
  intro v7 w7 hown7 hg7 hat7
  obtain ⟨A7, c7, rfl⟩ := row_form hown7
  have hb7 := h1.grownBlk hg7 (own_ne_line h1).1
  have c := hb7.cell 1
  simp only [List.getElem?_toArray, List.getElem?_cons_zero, List.getElem?_cons_succ] at c
  exact hK A7 c7 w7 (hb7.free 1) c (Lib.hid (names_app h1 hz hown7 hg7 hat7))
theorem via_app_step {ops : Array Oper} {o : Oper} {a : Act} {K : Act → World → Prop} {Q : Exit → Act → World → Prop} {E : Prop} (h : RtSt w0 W0 B g gx A n c wl k w vn vv vs vf xn xv xs xf rc) {t : ByteArray} (hz : t.size ≤ 4000000) {q : Nat} (hq : xv.length = q) (hl : q ≤ 3000000) (hgd : o.guard = none) (s x : Operand)
    (ho : o.op = .call { callee := .builtin .append, args := #[s, x], argTypes := #[22, 22] }) (hs : a.eval s = vv) (hx : a.eval x = .slice (some ⟨w.heap.size, 0, none⟩) 1 1)
    (hK : ∀ A7 c7 w7, World.frozen? w7 ⟨gx, 2, none⟩ = false → World.cell? w7 ⟨gx, 2, none⟩ = some vv → Hid (RtSt w0 W0 B g gx A n c wl k (w7.setCell ⟨gx, 2, none⟩ (.slice A7 (q + 1) c7)) vn (.slice A7 (q + 1) c7) vs vf xn (xv ++ [t]) xs xf rc) → K (a.put o.dst (.slice A7 (q + 1) c7)) w7) :
    if Region.wanted o (yielded ops a.tmps) = true then Oper.wp Tryd.prog o a (w.alloc (.cells #[.string t] 9)) K Q else E := by
  subst hq
  obtain ⟨i0, hi0, hz0, hz1, hz2⟩ := info_parts info_st3
  have hWB := h.WB
  have h1 := h.stay (below_new w (.cells #[.string t] 9))
  refine step_append_any (P := Tryd.prog) _ hgd s x 22 ho B 9 i0 _ 1 16 Tryd.underlying22 hi0 hz0 hz1 hz2 rfl (by omega) vv xv.length (xv.flatMap flS.enc) hs h1.via _ (some ⟨w.heap.size, 0, none⟩) 1 1 [.string t] hx (box_reads flS w #[.string t] 9 t rfl) (by intro u hu; rw [List.mem_singleton.1 hu]; rfl) (by simp only [maxLen]; omega) (by omega) (by simp; omega) ?_
  intro v7 w7 hown7 hg7 hat7
  obtain ⟨A7, c7, rfl⟩ := row_form hown7
  have hb7 := h1.grownBlk hg7 (own_ne_line h1).2
  have c := hb7.cell 2
  simp only [List.getElem?_toArray, List.getElem?_cons_zero, List.getElem?_cons_succ] at c
  exact hK A7 c7 w7 (hb7.free 2) c (Lib.hid (via_app h1 hz hown7 hg7 hat7))

/-- The place of the next word, out of memory. -/
def atOf (w : World) (g : Nat) : Nat := match w.cell? ⟨g, 1, none⟩ with
  | some (.int _ z) => z.toNat
  | _ => 0
theorem atOf_eq {p : Nat} (h : RdAt w0 w g A n c wl p rc) : atOf w g = p := by
  unfold atOf
  rw [h.cells.2.1]
  exact Int.toNat_natCast p
theorem meas_lt {w' : World} {p p' : Nat} (h : RdAt w0 w g A n c wl p rc) (h' : RdAt w0 w' g A n c wl p' rc') (hl : rc'.rest.length + 1 = rc.rest.length) : n - atOf w' g < n - atOf w g := by
  rw [atOf_eq h, atOf_eq h']
  have e1 := h.rlen
  have e2 := h'.rlen
  omega
theorem WantsF_calls {p : Nat} (h : RdAt w0 w g A n c wl p rc) : Calls Tryd.prog 77 #[.pointer (some ⟨g, 0, none⟩), .string ⟨#[102, 108, 97, 110, 107]⟩] w (WantsPost w0 w g A n c wl (rc.wants flankT)) := Wants_calls h flankT (by decide)
theorem name_more {r : Rd} (h : r.more = true) : r.name.2.rest.length + 1 = r.rest.length := by
  obtain ⟨rr, er⟩ := r
  unfold Rd.more at h
  simp only [Bool.and_eq_true, decide_eq_true_eq] at h
  obtain ⟨rfl, h⟩ := h
  cases rr with
  | nil => simp at h
  | cons x t =>
    show (if (0 : Int) = 0 ∧ nmB x = false then Rd.fail ⟨t, 0⟩ 3 else ⟨t, 0⟩).rest.length + 1 = _
    split <;> rfl
set_option maxRecDepth 20000 in
set_option maxHeartbeats 4000000 in
theorem Route_calls (h : RtSt w0 W0 B g gx A n c wl k w vn (.slice none 0 0) (.slice none 0 0) (.slice none 0 0) xn [] [] [] rc) (hxl : xn.length ≤ 10) :
    Calls Tryd.prog 60 #[.pointer (some ⟨g, 0, none⟩), .pointer (some ⟨gx, 0, none⟩)] w fun v w' => v = .returned (.tuple #[]) ∧
      ∃ vn vv vs vf, RtSt w0 W0 B g gx A n c wl k w' vn vv vs vf (xn ++ rc.route.1.names) rc.route.1.via rc.route.1.set rc.route.1.flank rc.route.2 := by
  obtain ⟨i0, hi0, hz0, hz1, hz2⟩ := info_parts info_st3
  have H0 := Lib.hid h
  obtain ⟨p0, hrd⟩ := h.rd
  have hfew := hrd.few
  have KW := Lib.hid (Word_calls hrd fromW (by decide))
  clear h hrd
  go_enter Tryd.func60, Tryd.ntmps60
  go_wp2_with (first
    | (go_at_call 59; refine (KW.out).mono ?_; rintro e w1 ⟨rfl, hp⟩; have H1 := Lib.hid (H0.out.step hp); clear hp)
    | fail)
  clear KW
  obtain ⟨q, hq⟩ : ∃ q, (xn).length = q := ⟨_, rfl⟩
  have hql : q ≤ 2500000 := by rw [← hq]; omega
  have HQ := Lib.hid hq
  clear hq
  have HD := Lib.hid (H1.out.stay (show Below w1.heap.size w1 w1.drew from below_drawn (Below.refl _ _) 1))
  obtain ⟨pd, hrd⟩ := HD.out.rd
  have KN := Lib.hid (Name_calls hrd)
  have c1 : w1.drew.cell? ⟨gx, 1, none⟩ = some _ := HD.out.cells.2.1
  clear hrd
  generalize hnm : Rd.name (rc.word fromW) = nm at *
  obtain ⟨t1, r1⟩ := nm
  dsimp only at KN
  have HN1 := Lib.hid hnm
  clear hnm
  go_cut [] (fun wx => Hid (∃ v', RtSt w0 W0 B g gx A n c wl k wx v' (.slice none 0 0) (.slice none 0 0) (.slice none 0 0) (xn ++ [t1]) [] [] [] r1))
  case first =>
    go_region_law (first
      | (go_simp; go_at_call 57; refine KN.out.mono ?_; rintro e w5 ⟨rfl, hz, hp5⟩; have H5 := Lib.hid (HD.out.step hp5); (replace c1 := H5.out.cells.2.1); have l5 := H5.out.blk.lt; clear hp5)
      | (refine names_app_step H5.out hz HQ.out (by omega) (by rfl) (.tmp 10) (.tmp 13) (by rfl) (by rfl) (by rfl) ?_; intro A7 c7 w7 f1 hc1 HA; (replace c1 := hc1)))
    all_goals go_wp2_with fail
    all_goals go_meet
    all_goals exact Lib.hid ⟨_, HA.out⟩
  case rest =>
  obtain ⟨vn1, h2⟩ := hcut.out
  have H2 := Lib.hid h2
  have KW := Lib.hid (Word_calls h2.rd.choose_spec toW (by decide))
  clear hcut h2 HD KN c1
  go_wp2_with (first
    | (go_at_call 59; refine (KW.out).mono ?_; rintro e w3 ⟨rfl, hp⟩; have H3 := Lib.hid (H2.out.step hp); clear hp)
    | fail)
  clear KW
  have hxl2 : (xn ++ [t1]).length ≤ 11 := by rw [List.length_append, List.length_singleton]; omega
  obtain ⟨q, hq⟩ : ∃ q, ((xn ++ [t1])).length = q := ⟨_, rfl⟩
  have hql : q ≤ 2500000 := by rw [← hq]; omega
  have HQ := Lib.hid hq
  clear hq
  have HD := Lib.hid (H3.out.stay (show Below w3.heap.size w3 w3.drew from below_drawn (Below.refl _ _) 1))
  obtain ⟨pd, hrd⟩ := HD.out.rd
  have KN := Lib.hid (Name_calls hrd)
  have c1 : w3.drew.cell? ⟨gx, 1, none⟩ = some _ := HD.out.cells.2.1
  clear hrd
  generalize hnm : Rd.name (r1.word toW) = nm at *
  obtain ⟨t2, r2⟩ := nm
  dsimp only at KN
  have HN2 := Lib.hid hnm
  clear hnm
  go_cut [] (fun wx => Hid (∃ v', RtSt w0 W0 B g gx A n c wl k wx v' (.slice none 0 0) (.slice none 0 0) (.slice none 0 0) (xn ++ [t1] ++ [t2]) [] [] [] r2))
  case first =>
    go_region_law (first
      | (go_simp; go_at_call 57; refine KN.out.mono ?_; rintro e w5 ⟨rfl, hz, hp5⟩; have H5 := Lib.hid (HD.out.step hp5); (replace c1 := H5.out.cells.2.1); have l5 := H5.out.blk.lt; clear hp5)
      | (refine names_app_step H5.out hz HQ.out (by omega) (by rfl) (.tmp 23) (.tmp 26) (by rfl) (by rfl) (by rfl) ?_; intro A7 c7 w7 f1 hc1 HA; (replace c1 := hc1)))
    all_goals go_wp2_with fail
    all_goals go_meet
    all_goals exact Lib.hid ⟨_, HA.out⟩
  case rest =>
  obtain ⟨vn2, h4⟩ := hcut.out
  have H4 := Lib.hid h4
  have KW := Lib.hid (Word_calls h4.rd.choose_spec viaW (by decide))
  clear hcut h4 HD KN c1
  go_wp2_with (first
    | (go_at_call 59; refine (KW.out).mono ?_; rintro e w6 ⟨rfl, hp⟩; have H6 := Lib.hid (H4.out.step hp); clear hp)
    | fail)
  clear KW
  obtain ⟨q, hq⟩ : ∃ q, (([] : List ByteArray)).length = q := ⟨_, rfl⟩
  have hql : q ≤ 2500000 := by rw [← hq]; decide
  have HQ := Lib.hid hq
  clear hq
  have HD := Lib.hid (H6.out.stay (show Below w6.heap.size w6 w6.drew from below_drawn (Below.refl _ _) 1))
  obtain ⟨pd, hrd⟩ := HD.out.rd
  have KN := Lib.hid (Name_calls hrd)
  have c2 : w6.drew.cell? ⟨gx, 2, none⟩ = some _ := HD.out.cells.2.2.1
  clear hrd
  generalize hnm : Rd.name (r2.word viaW) = nm at *
  obtain ⟨t3, r3⟩ := nm
  dsimp only at KN
  have HN3 := Lib.hid hnm
  clear hnm
  go_cut [] (fun wx => Hid (∃ v', RtSt w0 W0 B g gx A n c wl k wx vn2 v' (.slice none 0 0) (.slice none 0 0) (xn ++ [t1] ++ [t2]) [t3] [] [] r3))
  case first =>
    go_region_law (first
      | (go_simp; go_at_call 57; refine KN.out.mono ?_; rintro e w5 ⟨rfl, hz, hp5⟩; have H5 := Lib.hid (HD.out.step hp5); (replace c2 := H5.out.cells.2.2.1); have l5 := H5.out.blk.lt; clear hp5)
      | (refine via_app_step H5.out hz HQ.out (by omega) (by rfl) (.tmp 36) (.tmp 39) (by rfl) (by rfl) (by rfl) ?_; intro A7 c7 w7 f2 hc2 HA; (replace c2 := hc2)))
    all_goals go_wp2_with fail
    all_goals go_meet
    all_goals exact Lib.hid ⟨_, HA.out⟩
  case rest =>
  obtain ⟨vv3, h7⟩ := hcut.out
  have H7 := Lib.hid h7
  have HL7 := Lib.hid (show [t3].length + r3.rest.length ≤ n + 1 by
    obtain ⟨p, hp⟩ := h7.rd
    have := hp.rlen
    simp only [List.length_singleton]
    omega)
  clear hcut h7 HD KN c2 HQ
  have HRT : Hid (rc.route = (⟨[t1, t2], t3 :: r3.viaGo.1, (r3.viaGo.2.wants setT).1, ((r3.viaGo.2.wants setT).2.wants flankT).1⟩, ((r3.viaGo.2.wants setT).2.wants flankT).2)) := Lib.hid (by
    unfold Rd.route
    simp only [HN1.out, HN2.out, HN3.out])
  generalize hvt : ((t3 :: r3.viaGo.1, r3.viaGo.2) : List ByteArray × Rd) = vt at *
  have HVT : Hid (([t3] ++ r3.viaGo.1, r3.viaGo.2) = vt) := Lib.hid hvt
  obtain ⟨xv, rv⟩ := vt
  obtain ⟨hv1, hv2⟩ : t3 :: r3.viaGo.1 = xv ∧ r3.viaGo.2 = rv := by injection hvt with a b; exact ⟨a, b⟩
  rw [hv1, hv2] at HRT
  clear hvt hv1 hv2 HN1 HN2 HN3
  go_wp2_with fail
  go_loopw [] (fun wr => ∃ (vv : Value) (xc : List ByteArray) (rl : Rd), Hid (RtSt w0 W0 B g gx A n c wl k wr vn2 vv (.slice none 0 0) (.slice none 0 0) (xn ++ [t1] ++ [t2]) xc [] [] rl) ∧ Hid ((xc ++ rl.viaGo.1, rl.viaGo.2) = (xv, rv)) ∧ xc.length + rl.rest.length ≤ n + 1) (fun wr => n - atOf wr g)
  case atStart => exact ⟨vv3, [t3], r3, H7, HVT, HL7.out⟩
  case round =>
    obtain ⟨vv, xc, rl, hR, hE, hlen⟩ := hrel
    obtain ⟨pr, hrd⟩ := hR.out.rd
    have HR := hR
    have hfr := HR.out.only.size
    have KM := Lib.hid (More_calls hrd)
    have KI := Lib.hid (fun (W : World) (s : ByteArray) (hs : s.size ≤ 4000000) (hb : Below wr.heap.size wr W) => Is_calls (hrd.stay hb) s hs)
    have HRD := Lib.hid hrd
    clear hR hrd H7 HVT HL7
    have STAY := Lib.hid (fun (W : World) (hb : Below wr.heap.size wr W) => HR.out.stay hb)
    have KS : Hid (∀ W : World, Below wr.heap.size wr W → Calls Tryd.prog 77 #[.pointer (some ⟨g, 0, none⟩), .string ⟨#[115, 101, 116]⟩] W (WantsPost w0 W g A n c wl (rl.wants setT))) := Lib.hid (fun W hb => by
      obtain ⟨p8, hr8⟩ := (STAY.out W hb).rd
      exact Wants_calls hr8 setT (by decide))
    cases hm : rl.more with
    | false =>
      rw [hm] at KM
      have HX : Hid ((xc, rl) = (xv, rv)) := Lib.hid (by rw [← hE.out, viaGo_stop (.inl hm)]; simp)
      clear hm KI
      obtain ⟨e1, e2⟩ := Prod.mk.inj HX.out
      subst e1 e2
      clear HX
      go_wp2_with (first
        | (go_at_call 61; refine KM.out.mono ?_; rintro e w4 ⟨rfl, hb4⟩; have HB4 := Lib.hid hb4; clear hb4)
        | (go_at_call 77; (with_reducible refine (KS.out _ HB4.out).mono ?_); rintro e w8 ⟨v8, rfl, ho8, hs8, hl8, hp8⟩; obtain ⟨A8, c8, rfl⟩ := row_form ho8; have H8 := Lib.hid ((STAY.out _ HB4.out).step hp8); have f3 := H8.out.blk.free 3; have c3 := H8.out.cells.2.2.2.1; have HO8 := Lib.hid (ho8.lower (STAY.out _ HB4.out).WB); have HS8 := Lib.hid hs8; clear ho8 hs8 hp8)
        | (go_at_call 77; (with_reducible refine (WantsF_calls (set_put H8.out HO8.out HS8.out).rd.choose_spec).mono ?_); rintro e w9 ⟨v9, rfl, ho9, hs9, hl9, hp9⟩; obtain ⟨A9, c9, rfl⟩ := row_form ho9; have H9 := Lib.hid ((set_put H8.out HO8.out HS8.out).step hp9); have f4 := H9.out.blk.free 4; have c4 := H9.out.cells.2.2.2.2; have HO9 := Lib.hid (ho9.lower (set_put H8.out HO8.out HS8.out).WB); have HS9 := Lib.hid hs9; clear ho9 hs9 hp9)
        | fail)
      go_end0
      refine ⟨rfl, ?_⟩
      rw [HRT.out]
      have hf := flank_put H9.out HO9.out HS9.out
      rw [List.append_assoc] at hf
      exact ⟨_, _, _, _, hf⟩
    | true =>
      rw [hm] at KM
      cases h1 : rl.isW setT with
      | true =>
        have K1 := Lib.hid (fun W hb => KI.out W setT (by decide) hb)
        rw [h1] at K1
        unfold setT at K1
        have HX : Hid ((xc, rl) = (xv, rv)) := Lib.hid (by rw [← hE.out, viaGo_stop (.inr (.inl h1))]; simp)
        clear hm KI h1
        obtain ⟨e1, e2⟩ := Prod.mk.inj HX.out
        subst e1 e2
        clear HX
        go_wp2_with (first
          | (go_at_call 61; refine KM.out.mono ?_; rintro e w4 ⟨rfl, hb4⟩; have HB4 := Lib.hid hb4; clear hb4)
          | (go_at_call 76; (with_reducible refine (K1.out _ HB4.out).mono ?_); rintro e w5 ⟨rfl, hb5⟩; have HB5 := Lib.hid (below_more HB4.out hb5); clear hb5)
          | (go_at_call 77; (with_reducible refine (KS.out _ HB5.out).mono ?_); rintro e w8 ⟨v8, rfl, ho8, hs8, hl8, hp8⟩; obtain ⟨A8, c8, rfl⟩ := row_form ho8; have H8 := Lib.hid ((STAY.out _ HB5.out).step hp8); have f3 := H8.out.blk.free 3; have c3 := H8.out.cells.2.2.2.1; have HO8 := Lib.hid (ho8.lower (STAY.out _ HB5.out).WB); have HS8 := Lib.hid hs8; clear ho8 hs8 hp8)
          | (go_at_call 77; (with_reducible refine (WantsF_calls (set_put H8.out HO8.out HS8.out).rd.choose_spec).mono ?_); rintro e w9 ⟨v9, rfl, ho9, hs9, hl9, hp9⟩; obtain ⟨A9, c9, rfl⟩ := row_form ho9; have H9 := Lib.hid ((set_put H8.out HO8.out HS8.out).step hp9); have f4 := H9.out.blk.free 4; have c4 := H9.out.cells.2.2.2.2; have HO9 := Lib.hid (ho9.lower (set_put H8.out HO8.out HS8.out).WB); have HS9 := Lib.hid hs9; clear ho9 hs9 hp9)
          | fail)
        go_end0
        refine ⟨rfl, ?_⟩
        rw [HRT.out]
        have hf := flank_put H9.out HO9.out HS9.out
        rw [List.append_assoc] at hf
        exact ⟨_, _, _, _, hf⟩
      | false =>
        have K1 := Lib.hid (fun W hb => KI.out W setT (by decide) hb)
        rw [h1] at K1
        unfold setT at K1
        cases h2 : rl.isW flankT with
        | true =>
          have K2 := Lib.hid (fun W hb => KI.out W flankT (by decide) hb)
          rw [h2] at K2
          unfold flankT at K2
          have HX : Hid ((xc, rl) = (xv, rv)) := Lib.hid (by rw [← hE.out, viaGo_stop (.inr (.inr h2))]; simp)
          clear hm KI h1 h2
          obtain ⟨e1, e2⟩ := Prod.mk.inj HX.out
          subst e1 e2
          clear HX
          go_wp2_with (first
            | (go_at_call 61; refine KM.out.mono ?_; rintro e w4 ⟨rfl, hb4⟩; have HB4 := Lib.hid hb4; clear hb4)
            | (go_at_call 76; (with_reducible refine (K1.out _ HB4.out).mono ?_); rintro e w5 ⟨rfl, hb5⟩; have HB5 := Lib.hid (below_more HB4.out hb5); clear hb5)
            | (go_at_call 76; (with_reducible refine (K2.out _ HB5.out).mono ?_); rintro e w6 ⟨rfl, hb6⟩; have HB6 := Lib.hid (below_more HB5.out hb6); clear hb6)
            | (go_at_call 77; (with_reducible refine (KS.out _ HB6.out).mono ?_); rintro e w8 ⟨v8, rfl, ho8, hs8, hl8, hp8⟩; obtain ⟨A8, c8, rfl⟩ := row_form ho8; have H8 := Lib.hid ((STAY.out _ HB6.out).step hp8); have f3 := H8.out.blk.free 3; have c3 := H8.out.cells.2.2.2.1; have HO8 := Lib.hid (ho8.lower (STAY.out _ HB6.out).WB); have HS8 := Lib.hid hs8; clear ho8 hs8 hp8)
            | (go_at_call 77; (with_reducible refine (WantsF_calls (set_put H8.out HO8.out HS8.out).rd.choose_spec).mono ?_); rintro e w9 ⟨v9, rfl, ho9, hs9, hl9, hp9⟩; obtain ⟨A9, c9, rfl⟩ := row_form ho9; have H9 := Lib.hid ((set_put H8.out HO8.out HS8.out).step hp9); have f4 := H9.out.blk.free 4; have c4 := H9.out.cells.2.2.2.2; have HO9 := Lib.hid (ho9.lower (set_put H8.out HO8.out HS8.out).WB); have HS9 := Lib.hid hs9; clear ho9 hs9 hp9)
            | fail)
          go_end0
          refine ⟨rfl, ?_⟩
          rw [HRT.out]
          have hf := flank_put H9.out HO9.out HS9.out
          rw [List.append_assoc] at hf
          exact ⟨_, _, _, _, hf⟩
        | false =>
          have K2 := Lib.hid (fun W hb => KI.out W flankT (by decide) hb)
          rw [h2] at K2
          unfold flankT at K2
          have HE2 : Hid ((xc ++ [rl.name.1] ++ rl.name.2.viaGo.1, rl.name.2.viaGo.2) = (xv, rv)) := Lib.hid (by rw [← hE.out, viaGo_step hm h1 h2]; simp)
          have hnl := name_more hm
          clear hm KI h1 h2 hE
          go_wp2_with (first
            | (go_at_call 61; refine KM.out.mono ?_; rintro e w4 ⟨rfl, hb4⟩; have HB4 := Lib.hid hb4; clear hb4)
            | (go_at_call 76; (with_reducible refine (K1.out _ HB4.out).mono ?_); rintro e w5 ⟨rfl, hb5⟩; have HB5 := Lib.hid (below_more HB4.out hb5); clear hb5)
            | (go_at_call 76; (with_reducible refine (K2.out _ HB5.out).mono ?_); rintro e w6 ⟨rfl, hb6⟩; have HB6 := Lib.hid (below_more HB5.out hb6); clear hb6)
            | fail)
          have HRW := Lib.hid (STAY.out _ HB6.out)
          have HPW := Lib.hid (HRD.out.stay HB6.out)
          obtain ⟨q, hq⟩ : ∃ q, xc.length = q := ⟨_, rfl⟩
          have hql : q ≤ 2500000 := by omega
          have HQ := Lib.hid hq
          have HLN := Lib.hid (And.intro hnl (And.intro hlen hq))
          clear hq
          have HD := Lib.hid (HRW.out.stay (show Below w6.heap.size w6 w6.drew from below_drawn (Below.refl _ _) 1))
          obtain ⟨pd, hrd⟩ := HD.out.rd
          have KN := Lib.hid (Name_calls hrd)
          have c2 : w6.drew.cell? ⟨gx, 2, none⟩ = some _ := HD.out.cells.2.2.1
          clear hrd hnl hlen
          generalize Rd.name rl = nm at *
          obtain ⟨t, r9⟩ := nm
          dsimp only at KN HE2 HLN
          go_region_law (first
            | (go_simp; go_at_call 57; refine KN.out.mono ?_; rintro e w5' ⟨rfl, hz, hp5⟩; have H5 := Lib.hid (HD.out.step hp5); (replace c2 := H5.out.cells.2.2.1); have l5 := H5.out.blk.lt; clear hp5)
            | (refine via_app_step H5.out hz HQ.out (by omega) (by rfl) (.tmp 59) (.tmp 62) (by rfl) (by rfl) (by rfl) ?_; intro A7 c7 w7 f2 hc2 HA; (replace c2 := hc2)))
          all_goals
            go_wp2_with fail
            go_roundw
            case rel => exact ⟨_, xc ++ [t], r9, HA, HE2, by have := HLN.out; rw [List.length_append, List.length_singleton]; omega⟩
            case measure =>
              obtain ⟨p9, hr9⟩ := HA.out.rd
              exact meas_lt HRD.out hr9 HLN.out.1
end
end Go.Proofs.YtmdnmiiggkfnfaaDoor

/- Contract of plan's reader: take. -/
set_option linter.unusedVariables false
set_option linter.unusedSimpArgs false
namespace Go.Proofs.YtmdnmiiggkfnfaaDoor
open Go.RowKit

theorem lit_eq (k : ByteArray) (l : List UInt8) : (k.toList == l) = decide (k = ⟨l.toArray⟩) := by
  have h := str_eq k ⟨l.toArray⟩
  rw [ByteArray.toList_eq ⟨l.toArray⟩] at h
  simpa using h
theorem kinds (k : ByteArray) :
    (k = secW ∧ (k.toList == [115, 101, 99, 116, 105, 111, 110]) = true ∧ (k.toList == [115, 105, 103, 110, 97, 108]) = false ∧ (k.toList == [112, 111, 105, 110, 116]) = false ∧ (k.toList == [114, 111, 117, 116, 101]) = false) ∨
    (k = sigW ∧ (k.toList == [115, 101, 99, 116, 105, 111, 110]) = false ∧ (k.toList == [115, 105, 103, 110, 97, 108]) = true ∧ (k.toList == [112, 111, 105, 110, 116]) = false ∧ (k.toList == [114, 111, 117, 116, 101]) = false) ∨
    (k = ptW ∧ (k.toList == [115, 101, 99, 116, 105, 111, 110]) = false ∧ (k.toList == [115, 105, 103, 110, 97, 108]) = false ∧ (k.toList == [112, 111, 105, 110, 116]) = true ∧ (k.toList == [114, 111, 117, 116, 101]) = false) ∨
    (k = rtW ∧ (k.toList == [115, 101, 99, 116, 105, 111, 110]) = false ∧ (k.toList == [115, 105, 103, 110, 97, 108]) = false ∧ (k.toList == [112, 111, 105, 110, 116]) = false ∧ (k.toList == [114, 111, 117, 116, 101]) = true) ∨
    ((k ≠ secW ∧ k ≠ sigW ∧ k ≠ ptW ∧ k ≠ rtW) ∧ (k.toList == [115, 101, 99, 116, 105, 111, 110]) = false ∧ (k.toList == [115, 105, 103, 110, 97, 108]) = false ∧ (k.toList == [112, 111, 105, 110, 116]) = false ∧ (k.toList == [114, 111, 117, 116, 101]) = false) := by
  rw [lit_eq, lit_eq, lit_eq, lit_eq]
  by_cases h1 : k = secW
  · left; subst h1; exact ⟨rfl, by decide, by decide, by decide, by decide⟩
  by_cases h2 : k = sigW
  · right; left; subst h2; exact ⟨rfl, by decide, by decide, by decide, by decide⟩
  by_cases h3 : k = ptW
  · right; right; left; subst h3; exact ⟨rfl, by decide, by decide, by decide, by decide⟩
  by_cases h4 : k = rtW
  · right; right; right; left; subst h4; exact ⟨rfl, by decide, by decide, by decide, by decide⟩
  right; right; right; right
  exact ⟨⟨h1, h2, h3, h4⟩, decide_eq_false h1, decide_eq_false h2, decide_eq_false h3, decide_eq_false h4⟩
/-- The first name, where there is to be one. -/
def tk1 (k : ByteArray) (r : Rd) : List ByteArray × Rd := if k = secW ∨ k = sigW ∨ k = ptW ∨ k = rtW then ([r.name.1], r.name.2) else ([], r.fail 2)
def tk2 (k : ByteArray) (l : List ByteArray) (r : Rd) : Rt3 × Rd :=
  if k = ptW then (⟨l ++ [(r.word inW).name.1], [], [], []⟩, (r.word inW).name.2)
  else if k = rtW then (⟨l ++ r.route.1.names, r.route.1.via, r.route.1.set, r.route.1.flank⟩, r.route.2)
  else (⟨l, [], [], []⟩, r)
theorem tk1_yes {k : ByteArray} {r : Rd} (h : k = secW ∨ k = sigW ∨ k = ptW ∨ k = rtW) : tk1 k r = ([r.name.1], r.name.2) := if_pos h
theorem tk1_no {k : ByteArray} {r : Rd} (h1 : k ≠ secW) (h2 : k ≠ sigW) (h3 : k ≠ ptW) (h4 : k ≠ rtW) : tk1 k r = ([], r.fail 2) := if_neg (by rintro (h | h | h | h) <;> contradiction)
theorem tk2_pt {k : ByteArray} {l : List ByteArray} {r : Rd} (h : k = ptW) : tk2 k l r = (⟨l ++ [(r.word inW).name.1], [], [], []⟩, (r.word inW).name.2) := if_pos h
theorem tk2_rt {k : ByteArray} {l : List ByteArray} {r : Rd} (h : k = rtW) : tk2 k l r = (⟨l ++ r.route.1.names, r.route.1.via, r.route.1.set, r.route.1.flank⟩, r.route.2) := (if_neg (by subst h; decide)).trans (if_pos h)
theorem tk2_no {k : ByteArray} {l : List ByteArray} {r : Rd} (h : k ≠ ptW) (h2 : k ≠ rtW) : tk2 k l r = (⟨l, [], [], []⟩, r) := (if_neg h).trans (if_neg h2)
theorem take_eq (r : Rd) : r.take = (⟨r.next.1, (tk2 r.next.1 (tk1 r.next.1 r.next.2).1 (tk1 r.next.1 r.next.2).2).1.names, (tk2 r.next.1 (tk1 r.next.1 r.next.2).1 (tk1 r.next.1 r.next.2).2).1.via, (tk2 r.next.1 (tk1 r.next.1 r.next.2).1 (tk1 r.next.1 r.next.2).2).1.set, (tk2 r.next.1 (tk1 r.next.1 r.next.2).1 (tk1 r.next.1 r.next.2).2).1.flank⟩, (tk2 r.next.1 (tk1 r.next.1 r.next.2).1 (tk1 r.next.1 r.next.2).2).2.endM) := by
  unfold Rd.take
  generalize r.next.1 = k
  generalize r.next.2 = s
  dsimp only
  by_cases h1 : k = secW
  · subst h1
    rw [if_pos rfl, tk1_yes (.inl rfl), tk2_no (by decide) (by decide)]
  rw [if_neg h1]
  by_cases h2 : k = sigW
  · subst h2
    rw [if_pos rfl, tk1_yes (.inr (.inl rfl)), tk2_no (by decide) (by decide)]
  rw [if_neg h2]
  by_cases h3 : k = ptW
  · subst h3
    rw [if_pos rfl, tk1_yes (.inr (.inr (.inl rfl))), tk2_pt rfl]
    rfl
  rw [if_neg h3]
  by_cases h4 : k = rtW
  · subst h4
    rw [if_pos rfl, tk1_yes (.inr (.inr (.inr rfl))), tk2_rt rfl]
    rfl
  rw [if_neg h4, tk1_no h1 h2 h3 h4, tk2_no h3 h4]
section
variable {w0 w w1 : World} {g : Nat} {A : Option Addr} {n c : Nat} {wl : List Wd} {p : Nat} {r : Rd}
theorem line_ret {fn : Func} {tmps : Array Value} {w : World} {p : Tmp} {g : Nat} {x y z u v : Value} {t : TypeId} {fr : Nat × Nat} (h : fn.results = #[.cell p 86]) (hp : tmps.getD p undef = .pointer (some ⟨g, 0, none⟩)) (hg : Blk w g #[x, y, z, u, v] t fr) :
    (results fn tmps).run Tryd.prog w = .ok (.agg #[x, y, z, u, v]) w :=
  results_single h (.cell g t #[x, y, z, u, v] fr _ hp hg Tryd.underlying86 rfl (by kernel_rfl) .nil)
theorem Blk.put5 {w : World} {g : Nat} {a b c d e : Value} {t : TypeId} {fr : Nat × Nat} (h : Blk w g #[a, b, c, d, e] t fr) (x y z u v : Value) :
    Blk (((((w.setCell ⟨g, 0, none⟩ x).setCell ⟨g, 1, none⟩ y).setCell ⟨g, 2, none⟩ z).setCell ⟨g, 3, none⟩ u).setCell ⟨g, 4, none⟩ v) g #[x, y, z, u, v] t fr := by
  have := ((((h.put 0 x).put 1 y).put 2 z).put 3 u).put 4 v
  simpa using this
/-- What take hands back. -/
def TakePost (w0 w : World) (g : Nat) (A : Option Addr) (n c : Nat) (wl : List Wd) (x : Lin × Rd) (e : Ending) (w' : World) : Prop :=
  ∃ vn vv vs vf, e = .returned (.agg #[.string x.1.kind, vn, vv, vs, vf]) ∧ Ow flS w' w.heap.size 9 vn x.1.names ∧ Ow flS w' w.heap.size 9 vv x.1.via ∧ Ow flWn w' w.heap.size 130 vs x.1.set ∧ Ow flWn w' w.heap.size 130 vf x.1.flank ∧
    smallS x.1.names ∧ smallS x.1.via ∧ smallW x.1.set ∧ smallW x.1.flank ∧ RdP w0 w g A n c wl x.2 w'
/-- All is read; the line is handed back. -/
theorem take_done {W0 : World} {gx : Nat} {k : ByteArray} {w' : World} {vn vv vs vf : Value} {xn xv : List ByteArray} {xs xf : List Wnt} {rc : Rd} {z : Lin × Rd} (h : RtSt w0 W0 (w.heap.size + 1) g gx A n c wl k w' vn vv vs vf xn xv xs xf rc) (hW : Below w.heap.size w W0) (hs : W0.heap.size = w.heap.size + 1) (hg : g < w.heap.size)
    (hz : z = (⟨k, xn, xv, xs, xf⟩, rc)) : TakePost w0 w g A n c wl z (.returned (.agg #[.string k, vn, vv, vs, vf])) (((((w'.setCell ⟨w.heap.size, 0, none⟩ (.string k)).setCell ⟨w.heap.size, 1, none⟩ vn).setCell ⟨w.heap.size, 2, none⟩ vv).setCell ⟨w.heap.size, 3, none⟩ vs).setCell ⟨w.heap.size, 4, none⟩ vf) := by
  subst hz
  have hfar : ∀ {α : Type} {f : Fl α} {e : TypeId} {v : Value} {xs : List α} {u : World} (i : Nat) (y : Value), Ow f u (w.heap.size + 1) e v xs → Ow f (u.setCell ⟨w.heap.size, i, none⟩ y) (w.heap.size + 1) e v xs := fun i y ho => ho.far_ (fun e => by have := ho.base_ _ e; omega) i y
  obtain ⟨p, hp⟩ := h.rd
  have hl : w0.heap.size ≤ w.heap.size := by
    have h1 := hp.hb
    have h2 := hp.lg
    omega
  have hrd : ∀ {u : World} (i : Nat) (y : Value), RdAt w0 u g A n c wl p rc → RdAt w0 (u.setCell ⟨w.heap.size, i, none⟩ y) g A n c wl p rc := fun i y hr => hr.far (by omega) hl i y
  have ho : Only (fun b => b = g) w w' := (Only.of_below hW).trans h.only (fun _ _ h => h) (fun q hq h => h.elim id (fun h => by omega))
  have hof : ∀ {u : World} (i : Nat) (y : Value), Only (fun b => b = g) w u → Only (fun b => b = g) w (u.setCell ⟨w.heap.size, i, none⟩ y) := fun i y hu => only_far hu (Nat.le_refl _) i y
  exact ⟨vn, vv, vs, vf, rfl, (hfar _ _ (hfar _ _ (hfar _ _ (hfar _ _ (hfar _ _ h.names))))).lower (by omega), (hfar _ _ (hfar _ _ (hfar _ _ (hfar _ _ (hfar _ _ h.via))))).lower (by omega), (hfar _ _ (hfar _ _ (hfar _ _ (hfar _ _ (hfar _ _ h.set))))).lower (by omega), (hfar _ _ (hfar _ _ (hfar _ _ (hfar _ _ (hfar _ _ h.flank))))).lower (by omega), h.sn, h.sv, h.ss, h.sf,
    ⟨p, hrd _ _ (hrd _ _ (hrd _ _ (hrd _ _ (hrd _ _ hp))))⟩, hof _ _ (hof _ _ (hof _ _ (hof _ _ (hof _ _ ho))))⟩
set_option maxRecDepth 20000 in
set_option maxHeartbeats 8000000 in
theorem Take_calls (h : RdAt w0 w g A n c wl p r) :
    Calls Tryd.prog 47 #[.pointer (some ⟨g, 0, none⟩)] w (TakePost w0 w g A n c wl r.take) := by
  have hbw := below_new w (.cells #[.string .empty, .slice none 0 0, .slice none 0 0, .slice none 0 0, .slice none 0 0] 86)
  have KN := Lib.hid (Next_calls (h.stay hbw))
  have HBW := Lib.hid hbw
  have hle0 : w0.heap.size ≤ w.heap.size := h.hb.size
  have hlt0 := h.blk.lt
  have HB0 := Lib.hid (Blk.new w #[.string .empty, .slice none 0 0, .slice none 0 0, .slice none 0 0, .slice none 0 0] 86 (0, 0))
  have HWS := Lib.hid (size_new w (.cells #[.string .empty, .slice none 0 0, .slice none 0 0, .slice none 0 0, .slice none 0 0] 86))
  clear h hbw
  have HTK := Lib.hid (take_eq r)
  generalize hnx : r.next = nx at *
  obtain ⟨k, r1⟩ := nx
  dsimp only at KN HTK
  go_enter Tryd.func47, Tryd.ntmps47
  go_upto_block 0 with (first
    | (go_at_call 56; refine KN.out.mono ?_; rintro e w1 ⟨rfl, hz, hp1⟩; have HB1 := Lib.hid (HB0.out.only hp1.2 (by omega)); have hs1 := hp1.2.size; have HP1 := Lib.hid hp1; have hz1 := hz; clear hp1 hz)
    | fail)
  have H2 : Hid (RtSt w0 (w.alloc (.cells #[.string .empty, .slice none 0 0, .slice none 0 0, .slice none 0 0, .slice none 0 0] 86)) (w.heap.size + 1) g w1.heap.size A n c wl k (w1.alloc (.cells #[.string k, .slice none 0 0, .slice none 0 0, .slice none 0 0, .slice none 0 0] 86)) (.slice none 0 0) (.slice none 0 0) (.slice none 0 0) (.slice none 0 0) [] [] [] [] r1) := Lib.hid (by
    obtain ⟨⟨p1, h1⟩, ho⟩ := HP1.out
    have e1 := HWS.out
    exact ⟨⟨p1, h1.stay (below_new _ _)⟩, Blk.new _ _ _ _, Ow.nil_ _ _ _ _, Ow.nil_ _ _ _ _, fun q hq => by simp [Value.ownBlock] at hq, Ow.nil_ _ _ _ _, Ow.nil_ _ _ _ _, fun x hx => by simp at hx, fun x hx => by simp at hx, fun x hx => by simp at hx, fun x hx => by simp at hx, by omega, by omega, by omega, by rw [size_new]; omega,
      (ho.trans (Only.of_below (below_new w1 _)) (S := fun b => b = g) (T := fun b => b = g) (fun _ _ h => .inl h) (fun _ _ h => .inl h))⟩)
  have HBX := Lib.hid (HB1.out.alloc (.cells #[.string k, .slice none 0 0, .slice none 0 0, .slice none 0 0, .slice none 0 0] 86))
  generalize hgx : w1.heap.size = gx at *
  generalize (w1.alloc (.cells #[.string k, .slice none 0 0, .slice none 0 0, .slice none 0 0, .slice none 0 0] 86)) = W2 at *
  generalize (w.alloc (.cells #[.string .empty, .slice none 0 0, .slice none 0 0, .slice none 0 0, .slice none 0 0] 86)) = W0 at *
  clear KN HP1 hnx hs1
  go_cut [] (fun wx => Hid (∃ vn, RtSt w0 W0 (w.heap.size + 1) g gx A n c wl k wx vn (.slice none 0 0) (.slice none 0 0) (.slice none 0 0) (tk1 k r1).1 [] [] [] (tk1 k r1).2))
  case first =>
    rcases kinds k with ⟨hk, e1, e2, e3, e4⟩ | ⟨hk, e1, e2, e3, e4⟩ | ⟨hk, e1, e2, e3, e4⟩ | ⟨hk, e1, e2, e3, e4⟩ | ⟨hk, e1, e2, e3, e4⟩
    rotate_right 1
    · have HT := Lib.hid (tk1_no (r := r1) hk.1 hk.2.1 hk.2.2.1 hk.2.2.2)
      clear hk
      go_wp2_with (first
        | (go_at_call 58; refine (Fails_calls (H2.out.rd.choose_spec) 2).mono ?_; rintro e w3 ⟨rfl, hp3⟩; have H3 := Lib.hid (H2.out.step hp3); clear hp3)
        | fail)
      go_meet
      rw [HT.out]
      exact Lib.hid ⟨_, H3.out⟩
    · have HT := Lib.hid (tk1_yes (r := r1) (.inl hk))
      clear hk
      go_wp2_with fail
      obtain ⟨q, hq⟩ : ∃ q, (([] : List ByteArray)).length = q := ⟨_, rfl⟩
      have hql : q ≤ 2500000 := by rw [← hq]; decide
      have HQ := Lib.hid hq
      clear hq
      have HD := Lib.hid (H2.out.stay (show Below W2.heap.size W2 W2.drew from below_drawn (Below.refl _ _) 1))
      obtain ⟨pd, hrd⟩ := HD.out.rd
      have KN := Lib.hid (Name_calls hrd)
      have c1 : W2.drew.cell? ⟨gx, 1, none⟩ = some _ := HD.out.cells.2.1
      clear hrd
      generalize Rd.name (r1) = nm at *
      obtain ⟨t1, r2⟩ := nm
      dsimp only at KN
      go_region_law (first
        | (go_simp; go_at_call 57; refine KN.out.mono ?_; rintro e w5 ⟨rfl, hz, hp5⟩; have H5 := Lib.hid (HD.out.step hp5); (replace c1 := H5.out.cells.2.1); have l5 := H5.out.blk.lt; clear hp5)
        | (refine names_app_step H5.out hz HQ.out (by omega) (by rfl) (.tmp 17) (.tmp 20) (by rfl) (by rfl) (by rfl) ?_; intro A7 c7 w7 f1 hc1 HA; (replace c1 := hc1)))
      all_goals go_wp2_with fail
      all_goals go_meet
      all_goals (rw [HT.out]; exact Lib.hid ⟨_, HA.out⟩)

    · have HT := Lib.hid (tk1_yes (r := r1) (.inr (.inl hk)))
      clear hk
      go_wp2_with fail
      obtain ⟨q, hq⟩ : ∃ q, (([] : List ByteArray)).length = q := ⟨_, rfl⟩
      have hql : q ≤ 2500000 := by rw [← hq]; decide
      have HQ := Lib.hid hq
      clear hq
      have HD := Lib.hid (H2.out.stay (show Below W2.heap.size W2 W2.drew from below_drawn (Below.refl _ _) 1))
      obtain ⟨pd, hrd⟩ := HD.out.rd
      have KN := Lib.hid (Name_calls hrd)
      have c1 : W2.drew.cell? ⟨gx, 1, none⟩ = some _ := HD.out.cells.2.1
      clear hrd
      generalize Rd.name (r1) = nm at *
      obtain ⟨t1, r2⟩ := nm
      dsimp only at KN
      go_region_law (first
        | (go_simp; go_at_call 57; refine KN.out.mono ?_; rintro e w5 ⟨rfl, hz, hp5⟩; have H5 := Lib.hid (HD.out.step hp5); (replace c1 := H5.out.cells.2.1); have l5 := H5.out.blk.lt; clear hp5)
        | (refine names_app_step H5.out hz HQ.out (by omega) (by rfl) (.tmp 17) (.tmp 20) (by rfl) (by rfl) (by rfl) ?_; intro A7 c7 w7 f1 hc1 HA; (replace c1 := hc1)))
      all_goals go_wp2_with fail
      all_goals go_meet
      all_goals (rw [HT.out]; exact Lib.hid ⟨_, HA.out⟩)

    · have HT := Lib.hid (tk1_yes (r := r1) (.inr (.inr (.inl hk))))
      clear hk
      go_wp2_with fail
      obtain ⟨q, hq⟩ : ∃ q, (([] : List ByteArray)).length = q := ⟨_, rfl⟩
      have hql : q ≤ 2500000 := by rw [← hq]; decide
      have HQ := Lib.hid hq
      clear hq
      have HD := Lib.hid (H2.out.stay (show Below W2.heap.size W2 W2.drew from below_drawn (Below.refl _ _) 1))
      obtain ⟨pd, hrd⟩ := HD.out.rd
      have KN := Lib.hid (Name_calls hrd)
      have c1 : W2.drew.cell? ⟨gx, 1, none⟩ = some _ := HD.out.cells.2.1
      clear hrd
      generalize Rd.name (r1) = nm at *
      obtain ⟨t1, r2⟩ := nm
      dsimp only at KN
      go_region_law (first
        | (go_simp; go_at_call 57; refine KN.out.mono ?_; rintro e w5 ⟨rfl, hz, hp5⟩; have H5 := Lib.hid (HD.out.step hp5); (replace c1 := H5.out.cells.2.1); have l5 := H5.out.blk.lt; clear hp5)
        | (refine names_app_step H5.out hz HQ.out (by omega) (by rfl) (.tmp 17) (.tmp 20) (by rfl) (by rfl) (by rfl) ?_; intro A7 c7 w7 f1 hc1 HA; (replace c1 := hc1)))
      all_goals go_wp2_with fail
      all_goals go_meet
      all_goals (rw [HT.out]; exact Lib.hid ⟨_, HA.out⟩)

    · have HT := Lib.hid (tk1_yes (r := r1) (.inr (.inr (.inr hk))))
      clear hk
      go_wp2_with fail
      obtain ⟨q, hq⟩ : ∃ q, (([] : List ByteArray)).length = q := ⟨_, rfl⟩
      have hql : q ≤ 2500000 := by rw [← hq]; decide
      have HQ := Lib.hid hq
      clear hq
      have HD := Lib.hid (H2.out.stay (show Below W2.heap.size W2 W2.drew from below_drawn (Below.refl _ _) 1))
      obtain ⟨pd, hrd⟩ := HD.out.rd
      have KN := Lib.hid (Name_calls hrd)
      have c1 : W2.drew.cell? ⟨gx, 1, none⟩ = some _ := HD.out.cells.2.1
      clear hrd
      generalize Rd.name (r1) = nm at *
      obtain ⟨t1, r2⟩ := nm
      dsimp only at KN
      go_region_law (first
        | (go_simp; go_at_call 57; refine KN.out.mono ?_; rintro e w5 ⟨rfl, hz, hp5⟩; have H5 := Lib.hid (HD.out.step hp5); (replace c1 := H5.out.cells.2.1); have l5 := H5.out.blk.lt; clear hp5)
        | (refine names_app_step H5.out hz HQ.out (by omega) (by rfl) (.tmp 17) (.tmp 20) (by rfl) (by rfl) (by rfl) ?_; intro A7 c7 w7 f1 hc1 HA; (replace c1 := hc1)))
      all_goals go_wp2_with fail
      all_goals go_meet
      all_goals (rw [HT.out]; exact Lib.hid ⟨_, HA.out⟩)

  case rest =>
  obtain ⟨vn1, h3⟩ := hcut.out
  generalize hk1 : tk1 k r1 = s1 at *
  obtain ⟨l1, ra⟩ := s1
  dsimp only at h3 HTK
  have H3 := Lib.hid h3
  have hl1 : l1.length ≤ 1 := by
    unfold tk1 at hk1
    split at hk1 <;> (injection hk1 with a b; subst a; simp)
  clear h3 hcut hk1 H2
  have c0 := H3.out.cells.1
  go_upto_block 1 with fail
  clear c0
  go_cut [] (fun wx => Hid (∃ vn vv vs vf, RtSt w0 W0 (w.heap.size + 1) g gx A n c wl k wx vn vv vs vf (tk2 k l1 ra).1.names (tk2 k l1 ra).1.via (tk2 k l1 ra).1.set (tk2 k l1 ra).1.flank (tk2 k l1 ra).2))
  case first =>
    rcases kinds k with ⟨hk, e1, e2, e3, e4⟩ | ⟨hk, e1, e2, e3, e4⟩ | ⟨hk, e1, e2, e3, e4⟩ | ⟨hk, e1, e2, e3, e4⟩ | ⟨hk, e1, e2, e3, e4⟩
    · have HT := Lib.hid (tk2_no (l := l1) (r := ra) (show k ≠ ptW by subst hk; decide) (by subst hk; decide))
      clear hk
      go_wp2_with fail
      go_meet
      rw [HT.out]
      exact Lib.hid ⟨_, _, _, _, H3.out⟩
    · have HT := Lib.hid (tk2_no (l := l1) (r := ra) (show k ≠ ptW by subst hk; decide) (by subst hk; decide))
      clear hk
      go_wp2_with fail
      go_meet
      rw [HT.out]
      exact Lib.hid ⟨_, _, _, _, H3.out⟩
    · have HT := Lib.hid (tk2_pt (l := l1) (r := ra) hk)
      clear hk
      go_wp2_with (first
        | (go_at_call 59; refine (Word_calls (H3.out.rd.choose_spec) inW (by decide)).mono ?_; rintro e w4 ⟨rfl, hp⟩; have H4 := Lib.hid (H3.out.step hp); clear hp)
        | fail)
      obtain ⟨q, hq⟩ : ∃ q, (l1).length = q := ⟨_, rfl⟩
      have hql : q ≤ 2500000 := by omega
      have HQ := Lib.hid hq
      clear hq
      have HD := Lib.hid (H4.out.stay (show Below w4.heap.size w4 w4.drew from below_drawn (Below.refl _ _) 1))
      obtain ⟨pd, hrd⟩ := HD.out.rd
      have KN := Lib.hid (Name_calls hrd)
      have c1 : w4.drew.cell? ⟨gx, 1, none⟩ = some _ := HD.out.cells.2.1
      clear hrd
      generalize Rd.name (ra.word inW) = nm at *
      obtain ⟨t1, r2⟩ := nm
      dsimp only at KN
      go_region_law (first
        | (go_simp; go_at_call 57; refine KN.out.mono ?_; rintro e w5 ⟨rfl, hz, hp5⟩; have H5 := Lib.hid (HD.out.step hp5); (replace c1 := H5.out.cells.2.1); have l5 := H5.out.blk.lt; clear hp5)
        | (refine names_app_step H5.out hz HQ.out (by omega) (by rfl) (.tmp 30) (.tmp 33) (by rfl) (by rfl) (by rfl) ?_; intro A7 c7 w7 f1 hc1 HA; (replace c1 := hc1)))
      all_goals go_wp2_with fail
      all_goals go_meet
      all_goals (rw [HT.out]; exact Lib.hid ⟨_, _, _, _, HA.out⟩)

    · have HT := Lib.hid (tk2_rt (l := l1) (r := ra) hk)
      clear hk
      go_wp2_with (first
        | (go_at_call 60; refine (Route_calls H3.out (by omega)).mono ?_; rintro e w4 ⟨rfl, h4⟩; have H4 := Lib.hid h4; clear h4)
        | fail)
      go_meet
      rw [HT.out]
      exact H4
    · have HT := Lib.hid (tk2_no (l := l1) (r := ra) hk.2.2.1 hk.2.2.2)
      clear hk
      go_wp2_with fail
      go_meet
      rw [HT.out]
      exact Lib.hid ⟨_, _, _, _, H3.out⟩
  case rest =>
  obtain ⟨vn2, vv2, vs2, vf2, h4⟩ := hcut.out
  generalize tk2 k l1 ra = s2 at *
  obtain ⟨⟨xn, xv, xs, xf⟩, rb⟩ := s2
  dsimp only at h4 HTK
  obtain ⟨B1, b1, rfl⟩ := row_form h4.names
  obtain ⟨B2, b2, rfl⟩ := row_form h4.via
  obtain ⟨B3, b3, rfl⟩ := row_form h4.set
  obtain ⟨B4, b4, rfl⟩ := row_form h4.flank
  have H4 := Lib.hid h4
  have KM := Lib.hid (More_calls h4.rd.choose_spec)
  have HGX := Lib.hid (And.intro h4.gB h4.xB)
  clear h4 hcut H3 hl1
  cases hm : rb.more with
  | false =>
    rw [hm] at KM
    have HF := Lib.hid (HTK.out.trans (congrArg (Prod.mk (Lin.mk k xn xv xs xf)) (show rb.endM = rb by unfold Rd.endM; rw [hm]; rfl)))
    clear hm HTK
    go_wp2_with (first
      | (go_at_call 61; refine KM.out.mono ?_; rintro e w5 ⟨rfl, hb5⟩; have H5 := Lib.hid (H4.out.stay hb5); obtain ⟨c0, c1, c2, c3, c4⟩ := H5.out.cells; have HP := Lib.hid (HB0.out.only H5.out.only (by have := HGX.out; omega)); have f0 := HP.out.free 0; have f1 := HP.out.free 1; have f2 := HP.out.free 2; have f3 := HP.out.free 3; have f4 := HP.out.free 4; have d0 := HP.out.cell 0; have d1 := HP.out.cell 1; have d2 := HP.out.cell 2; have d3 := HP.out.cell 3; have d4 := HP.out.cell 4; simp only [List.getElem?_toArray, List.getElem?_cons_zero, List.getElem?_cons_succ] at d0 d1 d2 d3 d4; clear hb5)
      | fail)
    refine bodyPost_ret (line_ret rfl rfl (HP.out.put5 _ _ _ _ _)) rfl ?_
    exact take_done H5.out HBW.out HWS.out hlt0 HF.out
  | true =>
    rw [hm] at KM
    have HF := Lib.hid (HTK.out.trans (congrArg (Prod.mk (Lin.mk k xn xv xs xf)) (show rb.endM = rb.fail 2 by unfold Rd.endM; rw [hm]; rfl)))
    clear hm HTK
    go_wp2_with (first
      | (go_at_call 61; refine KM.out.mono ?_; rintro e w5 ⟨rfl, hb5⟩; have H5 := Lib.hid (H4.out.stay hb5); clear hb5)
      | (go_at_call 58; refine (Fails_calls (H5.out.rd.choose_spec) 2).mono ?_; rintro e w6 ⟨rfl, hp6⟩; have H6 := Lib.hid (H5.out.step hp6); obtain ⟨c0, c1, c2, c3, c4⟩ := H6.out.cells; have HP := Lib.hid (HB0.out.only H6.out.only (by have := HGX.out; omega)); have f0 := HP.out.free 0; have f1 := HP.out.free 1; have f2 := HP.out.free 2; have f3 := HP.out.free 3; have f4 := HP.out.free 4; have d0 := HP.out.cell 0; have d1 := HP.out.cell 1; have d2 := HP.out.cell 2; have d3 := HP.out.cell 3; have d4 := HP.out.cell 4; simp only [List.getElem?_toArray, List.getElem?_cons_zero, List.getElem?_cons_succ] at d0 d1 d2 d3 d4; clear hp6)
      | fail)
    refine bodyPost_ret (line_ret rfl rfl (HP.out.put5 _ _ _ _ _)) rfl ?_
    exact take_done H6.out HBW.out HWS.out hlt0 HF.out
end
end Go.Proofs.YtmdnmiiggkfnfaaDoor
