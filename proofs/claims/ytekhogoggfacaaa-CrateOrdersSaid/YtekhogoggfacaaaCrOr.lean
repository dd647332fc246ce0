/- Walk of CrateOrders. (Written by gen_or.py.) -/
import Derived.Test.YtekhogoggfacaaaCrAp
import Derived.Test.YtekhogoggfacaaaCrMu
import Derived.Test.YtekhogoggfacaaaCrTl
import Derived.Test.YtekhogoggfacaaaInv
import Derived.Deep.DeepCutAuto
set_option linter.unusedVariables false
namespace Go.Proofs.Ytekhogoggfacaaa
open Go.RowKit

def zTh : Array Value := #[.int .i64 0, .int .i64 0, .string .empty, .bool false]
def cTh (x : Th) : Array Value := #[.int .i64 x.k, .int .i64 x.n, .string x.s, .bool x.b]
/-- A box of the call's own. -/
def BoxAt (B : Nat) (v : Value) (cs : Array Value) (w : World) : Prop := ∃ g, v = .pointer (some ⟨g, 0, none⟩) ∧ B ≤ g ∧ Blk w g cs 31 (0, 0)
theorem BoxAt.stay {B : Nat} {v : Value} {cs : Array Value} {w w1 : World} (h : BoxAt B v cs w) (hb : Below w.heap.size w w1) : BoxAt B v cs w1 := by
  obtain ⟨g, h1, h2, h3⟩ := h
  exact ⟨g, h1, h2, h3.below hb h3.lt⟩
theorem BoxAt.far {B g : Nat} {v : Value} {cs : Array Value} {w : World} (h : BoxAt B v cs w) (hn : v ≠ .pointer (some ⟨g, 0, none⟩)) (i : Nat) (u : Value) : BoxAt B v cs (w.setCell ⟨g, i, none⟩ u) := by
  obtain ⟨k, rfl, h2, h3⟩ := h
  exact ⟨k, rfl, h2, h3.far (fun e => hn (by rw [show k = g from e])) u⟩
/-- The four stores. -/
def put4 (w : World) (g : Nat) (x : Th) : World := (((w.setCell ⟨g, 0, none⟩ (.int .i64 x.k)).setCell ⟨g, 1, none⟩ (.int .i64 x.n)).setCell ⟨g, 2, none⟩ (.string x.s)).setCell ⟨g, 3, none⟩ (.bool x.b)
theorem box_put {w : World} {g : Nat} (hb : Blk w g zTh 31 (0, 0)) (x : Th) : Blk (put4 w g x) g (cTh x) 31 (0, 0) := (((hb.put 0 _).put 1 _).put 2 _).put 3 _
theorem BoxAt.put4 {B g : Nat} {v : Value} {cs : Array Value} {w : World} (h : BoxAt B v cs w) (hn : v ≠ .pointer (some ⟨g, 0, none⟩)) (x : Th) : BoxAt B v cs (put4 w g x) := (((h.far hn 0 _).far hn 1 _).far hn 2 _).far hn 3 _
theorem below_put4 {B g : Nat} {a w : World} (h : Below B a w) (hg : B ≤ g) (x : Th) : Below B a (put4 w g x) := (((h.setCell hg _).setCell hg _).setCell hg _).setCell hg _
theorem upn {L : Nat → Bool} {i j : Nat} (h : up L i j = true) (hn : j ≠ i) : L j = true := by rwa [up_other L hn] at h
theorem upf {L : Nat → Bool} {i j : Nat} (h : up L i j = false) (hn : j ≠ i) : L j = false := by rwa [up_other L hn] at h
theorem upt {L : Nat → Bool} {i j : Nat} (h : L j = true) : up L i j = true := by
  unfold up
  split
  · rfl
  · exact h
structure OrI (w0 : World) (s t : Th) (L : Nat → Bool) (v5 v6 v19 v20 v21 v22 : Value) (w : World) : Prop where
  hb : Below w0.heap.size w0 w
  f0 : L 0 = true → v19 = s.val
  f1 : L 1 = true → v20 = (plainT s).val
  f2 : L 2 = true → v21 = t.val
  f3 : L 3 = true → v22 = (plainT t).val
  f4 : L 4 = true → L 6 = false → BoxAt w0.heap.size v5 zTh w
  f5 : L 5 = true → L 7 = false → BoxAt w0.heap.size v6 zTh w
  f6 : L 6 = true → L 4 = true ∧ BoxAt w0.heap.size v5 (cTh (plainT s)) w
  f7 : L 7 = true → L 5 = true ∧ BoxAt w0.heap.size v6 (cTh (plainT t)) w
  ne : L 4 = true → L 5 = true → v5 ≠ v6
section
variable {w0 w : World} {s t : Th} {L : Nat → Bool} {v5 v6 v19 v20 v21 v22 : Value} (h : OrI w0 s t L v5 v6 v19 v20 v21 v22 w)
include h
theorem OrI.d6 (hi : L 4 = false) : L 6 = false := by
  cases h8 : L 6 with
  | false => rfl
  | true => have := (h.f6 h8).1; rw [hi] at this; cases this
theorem OrI.d7 (hi : L 5 = false) : L 7 = false := by
  cases h8 : L 7 with
  | false => rfl
  | true => have := (h.f7 h8).1; rw [hi] at this; cases this
theorem OrI.b5 (h4 : L 4 = true) : ∃ cs, BoxAt w0.heap.size v5 cs w := by
  cases h8 : L 6 with
  | false => exact ⟨_, h.f4 h4 h8⟩
  | true => exact ⟨_, (h.f6 h8).2⟩
theorem OrI.b6 (h4 : L 5 = true) : ∃ cs, BoxAt w0.heap.size v6 cs w := by
  cases h8 : L 7 with
  | false => exact ⟨_, h.f5 h4 h8⟩
  | true => exact ⟨_, (h.f7 h8).2⟩
theorem OrI.s0 : OrI w0 s t (up L 0) v5 v6 s.val v20 v21 v22 w :=
  ⟨h.hb, fun _ => rfl, fun e => h.f1 (upn e (by decide)), fun e => h.f2 (upn e (by decide)), fun e => h.f3 (upn e (by decide)), fun e k => h.f4 (upn e (by decide)) (upf k (by decide)), fun e k => h.f5 (upn e (by decide)) (upf k (by decide)),
    fun e => ⟨upt (h.f6 (upn e (by decide))).1, (h.f6 (upn e (by decide))).2⟩, fun e => ⟨upt (h.f7 (upn e (by decide))).1, (h.f7 (upn e (by decide))).2⟩, fun e k => h.ne (upn e (by decide)) (upn k (by decide))⟩
theorem OrI.s2 : OrI w0 s t (up L 2) v5 v6 v19 v20 t.val v22 w :=
  ⟨h.hb, fun e => h.f0 (upn e (by decide)), fun e => h.f1 (upn e (by decide)), fun _ => rfl, fun e => h.f3 (upn e (by decide)), fun e k => h.f4 (upn e (by decide)) (upf k (by decide)), fun e k => h.f5 (upn e (by decide)) (upf k (by decide)),
    fun e => ⟨upt (h.f6 (upn e (by decide))).1, (h.f6 (upn e (by decide))).2⟩, fun e => ⟨upt (h.f7 (upn e (by decide))).1, (h.f7 (upn e (by decide))).2⟩, fun e k => h.ne (upn e (by decide)) (upn k (by decide))⟩
theorem OrI.s1 {w1 : World} (hb : Below w.heap.size w w1) : OrI w0 s t (up L 1) v5 v6 v19 (plainT s).val v21 v22 w1 :=
  ⟨below_more h.hb hb, fun e => h.f0 (upn e (by decide)), fun _ => rfl, fun e => h.f2 (upn e (by decide)), fun e => h.f3 (upn e (by decide)), fun e k => (h.f4 (upn e (by decide)) (upf k (by decide))).stay hb, fun e k => (h.f5 (upn e (by decide)) (upf k (by decide))).stay hb,
    fun e => ⟨upt (h.f6 (upn e (by decide))).1, (h.f6 (upn e (by decide))).2.stay hb⟩, fun e => ⟨upt (h.f7 (upn e (by decide))).1, (h.f7 (upn e (by decide))).2.stay hb⟩, fun e k => h.ne (upn e (by decide)) (upn k (by decide))⟩
theorem OrI.s3 {w1 : World} (hb : Below w.heap.size w w1) : OrI w0 s t (up L 3) v5 v6 v19 v20 v21 (plainT t).val w1 :=
  ⟨below_more h.hb hb, fun e => h.f0 (upn e (by decide)), fun e => h.f1 (upn e (by decide)), fun e => h.f2 (upn e (by decide)), fun _ => rfl, fun e k => (h.f4 (upn e (by decide)) (upf k (by decide))).stay hb, fun e k => (h.f5 (upn e (by decide)) (upf k (by decide))).stay hb,
    fun e => ⟨upt (h.f6 (upn e (by decide))).1, (h.f6 (upn e (by decide))).2.stay hb⟩, fun e => ⟨upt (h.f7 (upn e (by decide))).1, (h.f7 (upn e (by decide))).2.stay hb⟩, fun e k => h.ne (upn e (by decide)) (upn k (by decide))⟩
theorem OrI.s4 (hn : L 4 = false) : OrI w0 s t (up L 4) (.pointer (some ⟨w.heap.size, 0, none⟩)) v6 v19 v20 v21 v22 (w.alloc (.cells zTh 31)) := by
  have hb := below_new w (.cells zTh 31)
  have h6 := h.d6 hn
  refine ⟨below_more h.hb hb, fun e => h.f0 (upn e (by decide)), fun e => h.f1 (upn e (by decide)), fun e => h.f2 (upn e (by decide)), fun e => h.f3 (upn e (by decide)), fun e k => ⟨_, rfl, h.hb.size, Blk.new _ _ _ _⟩, fun e k => (h.f5 (upn e (by decide)) (upf k (by decide))).stay hb,
    fun e => ?_, fun e => ⟨upt (h.f7 (upn e (by decide))).1, (h.f7 (upn e (by decide))).2.stay hb⟩, fun e k => ?_⟩
  · have := upn e (by decide); rw [h6] at this; cases this
  · obtain ⟨cs, g, rfl, _, hg⟩ := h.b6 (upn k (by decide))
    intro e
    have := hg.lt
    injection e with e; injection e with e; injection e with e
    omega
theorem OrI.s5 (hn : L 5 = false) : OrI w0 s t (up L 5) v5 (.pointer (some ⟨w.heap.size, 0, none⟩)) v19 v20 v21 v22 (w.alloc (.cells zTh 31)) := by
  have hb := below_new w (.cells zTh 31)
  have h6 := h.d7 hn
  refine ⟨below_more h.hb hb, fun e => h.f0 (upn e (by decide)), fun e => h.f1 (upn e (by decide)), fun e => h.f2 (upn e (by decide)), fun e => h.f3 (upn e (by decide)), fun e k => (h.f4 (upn e (by decide)) (upf k (by decide))).stay hb, fun e k => ⟨_, rfl, h.hb.size, Blk.new _ _ _ _⟩,
    fun e => ⟨upt (h.f6 (upn e (by decide))).1, (h.f6 (upn e (by decide))).2.stay hb⟩, fun e => ?_, fun e k => ?_⟩
  · have := upn e (by decide); rw [h6] at this; cases this
  · obtain ⟨cs, g, rfl, _, hg⟩ := h.b5 (upn e (by decide))
    intro e
    have := hg.lt
    injection e with e; injection e with e; injection e with e
    omega
theorem OrI.s6 {g : Nat} (h4 : L 4 = true) (hg : v5 = .pointer (some ⟨g, 0, none⟩)) (hB : w0.heap.size ≤ g) (hb : Blk w g zTh 31 (0, 0)) : OrI w0 s t (up L 6) v5 v6 v19 v20 v21 v22 (put4 w g (plainT s)) := by
  have hn : L 5 = true → v6 ≠ .pointer (some ⟨g, 0, none⟩) := fun h5 => by rw [← hg]; exact (h.ne h4 h5).symm
  refine ⟨below_put4 h.hb hB _, fun e => h.f0 (upn e (by decide)), fun e => h.f1 (upn e (by decide)), fun e => h.f2 (upn e (by decide)), fun e => h.f3 (upn e (by decide)), (fun e k => by rw [up_same] at k; cases k),
    fun e k => (h.f5 (upn e (by decide)) (upf k (by decide))).put4 (hn (upn e (by decide))) _, fun e => ⟨upt h4, g, hg, hB, box_put hb _⟩,
    fun e => ⟨upt (h.f7 (upn e (by decide))).1, (h.f7 (upn e (by decide))).2.put4 (hn (h.f7 (upn e (by decide))).1) _⟩, fun e k => h.ne (upn e (by decide)) (upn k (by decide))⟩
theorem OrI.s7 {g : Nat} (h5 : L 5 = true) (hg : v6 = .pointer (some ⟨g, 0, none⟩)) (hB : w0.heap.size ≤ g) (hb : Blk w g zTh 31 (0, 0)) : OrI w0 s t (up L 7) v5 v6 v19 v20 v21 v22 (put4 w g (plainT t)) := by
  have hn : L 4 = true → v5 ≠ .pointer (some ⟨g, 0, none⟩) := fun h4 => by rw [← hg]; exact h.ne h4 h5
  refine ⟨below_put4 h.hb hB _, fun e => h.f0 (upn e (by decide)), fun e => h.f1 (upn e (by decide)), fun e => h.f2 (upn e (by decide)), fun e => h.f3 (upn e (by decide)),
    fun e k => (h.f4 (upn e (by decide)) (upf k (by decide))).put4 (hn (upn e (by decide))) _, (fun e k => by rw [up_same] at k; cases k),
    fun e => ⟨upt (h.f6 (upn e (by decide))).1, (h.f6 (upn e (by decide))).2.put4 (hn (h.f6 (upn e (by decide))).1) _⟩, fun e => ⟨upt h5, g, hg, hB, box_put hb _⟩, fun e k => h.ne (upn e (by decide)) (upn k (by decide))⟩
end
theorem two_its {x y : Th} (hx : plainT x = x) (hy : plainT y = y) : decide ((madeT [x, y]).map itOf = (madeT [y, x]).map itOf) = decide (x = y) := by
  rw [madeT_of_le _ (by simp), madeT_of_le _ (by simp)]
  rw [Bool.eq_iff_iff, decide_eq_true_iff, decide_eq_true_iff]
  simp only [List.map_cons, List.map_nil, hx, hy, List.cons.injEq, and_true]
  constructor
  · rintro ⟨h, _⟩
    exact plain_inj hx hy h
  · rintro rfl
    exact ⟨rfl, rfl⟩
set_option maxHeartbeats 8000000 in
theorem orders_calls (s t : Th) (w : World) :
    Calls Try.prog 9 #[.agg #[.int .i64 s.k, .int .i64 s.n, .string s.s, .bool s.b], .agg #[.int .i64 t.k, .int .i64 t.n, .string t.s, .bool t.b]] w fun e w' => e = .returned (.bool true) ∧ Below w.heap.size w w' := by
  by_cases hT : (300 : Int) < wrap64 (s.s.size + t.s.size)
  · go_enter Try.func9, Try.ntmps9
    go_wp2_with fail
    go_ret
    exact ⟨rfl, (below_new w _).alloc (by simp) _⟩
  go_enter Try.func9, Try.ntmps9
  go_upto_region 1 with fail
  go_cut [18] (fun s18 wx => s18 = .bool false ∧ Blk wx w.heap.size #[.int .i64 s.k, .int .i64 s.n, .string s.s, .bool s.b] 31 (0, 0) ∧ Blk wx (w.heap.size + 1) #[.int .i64 t.k, .int .i64 t.n, .string t.s, .bool t.b] 31 (0, 0) ∧ Below w.heap.size w wx)
  case first =>
    go_wp2_with fail
    go_meet
    exact ⟨rfl, (Blk.new w _ _ _).alloc _, Blk.at_ (by simp) _ _ _, (below_new w _).alloc (by simp) _⟩
  case rest =>
    obtain ⟨rfl, hz, hu, hb⟩ := hcut
    have HB := Lib.hid hb
    clear hb hT
    go_upto_region 3 with fail
    go_cut [5, 6] (fun s5 s6 wx => BoxAt w.heap.size s5 (cTh (plainT s)) wx ∧ BoxAt w.heap.size s6 (cTh (plainT t)) wx ∧ Below w.heap.size w wx)
    case first =>
      have hsz := HB.out.size
      generalize hq : w.heap.size + 1 = q at *
      generalize hp : w.heap.size = p at *
      have HX := Lib.hid hsz
      clear hq hsz
      refine wp_region_inv (by kernel_rfl) (by kernel_rfl) (fun L a w' => ∃ v5 v6 v19 v20 v21 v22, a = ⟨#[.agg #[.int .i64 s.k, .int .i64 s.n, .string s.s, .bool s.b], .agg #[.int .i64 t.k, .int .i64 t.n, .string t.s, .bool t.b], .pointer (some ⟨p, 0, none⟩), .pointer (some ⟨q, 0, none⟩), .bool false, v5, v6, undef, undef, undef, undef, u11, u12, u13, u14, u15, u16, u17, .bool false, v19, v20, v21, v22, u23, u24, u25, u26, u27, u28, u29, u30, u31, u32, u33, u34, u35, u36, u37, u38, u39, u40, u41, u42, u43, u44, u45, u46, u47, u48, u49, u50, u51, u52], []⟩ ∧ OrI wc s t L v5 v6 v19 v20 v21 v22 w') ?_ ?_ ?_
      · refine ⟨_, _, _, _, _, _, rfl, below_drawn (Below.refl _ wc) 1, ?_, ?_, ?_, ?_, ?_, ?_, ?_, ?_, ?_⟩
        all_goals (intro h; exact absurd h (by decide))
      · rintro L a w' hL ⟨v5, v6, v19, v20, v21, v22, rfl, h⟩
        have h5 := (h.f6 (hL 6 (by decide))).2
        have h6 := (h.f7 (hL 7 (by decide))).2
        have hb := h.hb
        clear h hL
        go_wp2_with fail
        go_meet
        obtain ⟨k5, e5, b5, c5⟩ := h5
        obtain ⟨k6, e6, b6, c6⟩ := h6
        exact ⟨⟨k5, e5, Nat.le_trans HX.out b5, c5⟩, ⟨k6, e6, Nat.le_trans HX.out b6, c6⟩, by have hx := HB.out; rw [← hp] at hx ⊢; exact below_more hx hb⟩
      · refine Steps.cons rfl (fun L a w' hn hd hI K hK => ?_) ?_
        · obtain ⟨v5, v6, v19, v20, v21, v22, rfl, h⟩ := hI
          have H := Lib.hid h.s0
          have b := hz.below h.hb hz.lt
          have c0 := b.cell 0
          have c1 := b.cell 1
          have c2 := b.cell 2
          have c3 := b.cell 3
          simp only [List.getElem?_toArray, List.getElem?_cons_zero, List.getElem?_cons_succ] at c0 c1 c2 c3
          clear h hd hz hu b
          unfold Th.val at H
          go_simp
          exact hK _ _ ⟨_, _, _, _, _, _, rfl, H.out⟩
        refine Steps.cons rfl (fun L a w' hn hd hI K hK => ?_) ?_
        · obtain ⟨v5, v6, v19, v20, v21, v22, rfl, h⟩ := hI
          obtain rfl := h.f0 (hd 0 (by decide))
          have H := Lib.hid h
          clear h hd hz hu
          unfold Th.val at *
          go_simp
          refine (plain_calls s w').mono ?_
          rintro e w4 ⟨rfl, hb4⟩
          exact hK _ _ ⟨_, _, _, _, _, _, rfl, H.out.s1 hb4⟩
        refine Steps.cons rfl (fun L a w' hn hd hI K hK => ?_) ?_
        · obtain ⟨v5, v6, v19, v20, v21, v22, rfl, h⟩ := hI
          have H := Lib.hid h.s2
          have b := hu.below h.hb hu.lt
          have c0 := b.cell 0
          have c1 := b.cell 1
          have c2 := b.cell 2
          have c3 := b.cell 3
          simp only [List.getElem?_toArray, List.getElem?_cons_zero, List.getElem?_cons_succ] at c0 c1 c2 c3
          clear h hd hz hu b
          unfold Th.val at H
          go_simp
          exact hK _ _ ⟨_, _, _, _, _, _, rfl, H.out⟩
        refine Steps.cons rfl (fun L a w' hn hd hI K hK => ?_) ?_
        · obtain ⟨v5, v6, v19, v20, v21, v22, rfl, h⟩ := hI
          obtain rfl := h.f2 (hd 2 (by decide))
          have H := Lib.hid h
          clear h hd hz hu
          unfold Th.val at *
          go_simp
          refine (plain_calls t w').mono ?_
          rintro e w4 ⟨rfl, hb4⟩
          exact hK _ _ ⟨_, _, _, _, _, _, rfl, H.out.s3 hb4⟩
        refine Steps.cons rfl (fun L a w' hn hd hI K hK => ?_) ?_
        · obtain ⟨v5, v6, v19, v20, v21, v22, rfl, h⟩ := hI
          go_simp
          exact hK _ _ ⟨_, _, _, _, _, _, rfl, h.s4 hn⟩
        refine Steps.cons rfl (fun L a w' hn hd hI K hK => ?_) ?_
        · obtain ⟨v5, v6, v19, v20, v21, v22, rfl, h⟩ := hI
          go_simp
          exact hK _ _ ⟨_, _, _, _, _, _, rfl, h.s5 hn⟩
        refine Steps.cons rfl (fun L a w' hn hd hI K hK => ?_) ?_
        · obtain ⟨v5, v6, v19, v20, v21, v22, rfl, h⟩ := hI
          obtain rfl := h.f1 (hd 1 (by decide))
          obtain ⟨g, rfl, hB, hb⟩ := h.f4 (hd 4 (by decide)) hn
          have H := Lib.hid (h.s6 (hd 4 (by decide)) rfl hB hb)
          unfold zTh at hb
          have c0 := hb.cell 0
          have c1 := hb.cell 1
          have c2 := hb.cell 2
          have c3 := hb.cell 3
          have f0 := hb.free 0
          have f1 := hb.free 1
          have f2 := hb.free 2
          have f3 := hb.free 3
          simp only [List.getElem?_toArray, List.getElem?_cons_zero, List.getElem?_cons_succ] at c0 c1 c2 c3
          clear h hd hb hz hu
          unfold Th.val at *
          generalize plainT s = x at *
          go_simp
          exact hK _ _ ⟨_, _, _, _, _, _, rfl, H.out⟩
        refine Steps.cons rfl (fun L a w' hn hd hI K hK => ?_) Steps.nil
        · obtain ⟨v5, v6, v19, v20, v21, v22, rfl, h⟩ := hI
          obtain rfl := h.f3 (hd 3 (by decide))
          obtain ⟨g, rfl, hB, hb⟩ := h.f5 (hd 5 (by decide)) hn
          have H := Lib.hid (h.s7 (hd 5 (by decide)) rfl hB hb)
          unfold zTh at hb
          have c0 := hb.cell 0
          have c1 := hb.cell 1
          have c2 := hb.cell 2
          have c3 := hb.cell 3
          have f0 := hb.free 0
          have f1 := hb.free 1
          have f2 := hb.free 2
          have f3 := hb.free 3
          simp only [List.getElem?_toArray, List.getElem?_cons_zero, List.getElem?_cons_succ] at c0 c1 c2 c3
          clear h hd hb hz hu
          unfold Th.val at *
          generalize plainT t = x at *
          go_simp
          exact hK _ _ ⟨_, _, _, _, _, _, rfl, H.out⟩
    case rest =>
      obtain ⟨⟨g5, rfl, hB5, h5⟩, ⟨g6, rfl, hB6, h6⟩, hb⟩ := hcut
      have HB := Lib.hid hb
      have px := plain_idem s
      have py := plain_idem t
      unfold Plain at px py
      generalize plainT s = x at *
      generalize plainT t = y at *
      have HF := Lib.hid (two_its px py)
      have hq := run_eql_of (eqv_th x y) (by decide)
      clear px py hz hu hb hB5 hB6
      generalize decide (x = y) = r at *
      have lx : ∀ W : World, Rf flTh (W.alloc (.cells #[.int .i64 x.k, .int .i64 x.n, .string x.s, .bool x.b, .int .i64 y.k, .int .i64 y.n, .string y.s, .bool y.b] 31)) (some ⟨W.heap.size, 0, none⟩) 2 [x, y] := fun W => lit_reads flTh [x, y] (Blk.new W _ _ _) rfl (by simp)
      have ly : ∀ W : World, Rf flTh (W.alloc (.cells #[.int .i64 y.k, .int .i64 y.n, .string y.s, .bool y.b, .int .i64 x.k, .int .i64 x.n, .string x.s, .bool x.b] 31)) (some ⟨W.heap.size, 0, none⟩) 2 [y, x] := fun W => lit_reads flTh [y, x] (Blk.new W _ _ _) rfl (by simp)
      have LX := Lib.hid lx
      have LY := Lib.hid ly
      have C5 := Lib.hid (fun (w1 : World) (hb : Below wc.heap.size wc w1) => fun i => (h5.below hb h5.lt).cell i)
      have C6 := Lib.hid (fun (w1 : World) (hb : Below wc.heap.size wc w1) => fun i => (h6.below hb h6.lt).cell i)
      unfold cTh at C5 C6 h5 h6
      clear lx ly
      have a0 := h5.cell 0
      have a1 := h5.cell 1
      have a2 := h5.cell 2
      have a3 := h5.cell 3
      have b0 := h6.cell 0
      have b1 := h6.cell 1
      have b2 := h6.cell 2
      have b3 := h6.cell 3
      simp only [List.getElem?_toArray, List.getElem?_cons_zero, List.getElem?_cons_succ] at a0 a1 a2 a3 b0 b1 b2 b3
      have N5 := Lib.hid h5.lt
      clear h5 h6
      go_wp2_with (first
        | (go_at_call 13; refine (made_calls _ 2 2 [x, y] _ (LX.out _)).mono ?_; rintro e w2 ⟨ba, va, ba', va', rfl, hc, hr, hb2⟩; clear hr; have HG := Lib.hid (below_more (below_new wc _) hb2); clear hb2; have HC := Lib.hid hc; clear hc; have a0 := cell_stay HG.out a0; have a1 := cell_stay HG.out a1; have a2 := cell_stay HG.out a2; have a3 := cell_stay HG.out a3; have b0 := cell_stay HG.out b0; have b1 := cell_stay HG.out b1; have b2 := cell_stay HG.out b2; have b3 := cell_stay HG.out b3)
        | fail)
      refine (made_calls _ 2 2 [y, x] _ (LY.out _)).mono ?_
      rintro e w3 ⟨bb, vb, bb', vb', rfl, hd, hr, hb3⟩
      clear hr
      have hg3 := below_more (below_new w2 _) hb3
      have HG := Lib.hid (below_more HG.out hg3)
      have HC := Lib.hid (HC.out.stay hg3)
      have HD := Lib.hid hd
      have a0 := later_cell (cell_stay hg3 a0)
      have a1 := later_cell (cell_stay hg3 a1)
      have a2 := later_cell (cell_stay hg3 a2)
      have a3 := later_cell (cell_stay hg3 a3)
      have b0 := later_cell (cell_stay hg3 b0)
      have b1 := later_cell (cell_stay hg3 b1)
      have b2 := later_cell (cell_stay hg3 b2)
      have b3 := later_cell (cell_stay hg3 b3)
      have S0 := Lib.hid (fun q : Later w3 => by
        have := Same_calls q.w1 _ _ _ _ (HC.out.stay q.hb).cz (HD.out.stay q.hb).cz
        rw [HF.out] at this
        exact this)
      clear hb3 hd hg3
      cases r with
      | true =>
        go_upto_region 8 with fail
        refine wp_region_later (by kernel_rfl) (by kernel_rfl) ?_
        repeat (go_big_quiet_step (first
          | (go_at_call 23; rename_i q; exact later_call q (S0.out q))
          | (go_at_call 16; rename_i q; exact later_call q (known_calls q.w1))
          | fail))
        refine wpQuiet_nil ?_
        intro q
        go_wp2_with fail
        go_ret
        exact ⟨rfl, below_more (below_more HB.out HG.out) q.hb⟩
      | false =>
        go_upto_region 8 with fail
        refine wp_region_later (by kernel_rfl) (by kernel_rfl) ?_
        repeat (go_big_quiet_step (first
          | (go_at_call 23; rename_i q; exact later_call q (S0.out q))
          | (go_at_call 16; rename_i q; exact later_call q (known_calls q.w1))
          | fail))
        refine wpQuiet_nil ?_
        intro q
        go_wp2_with fail
        go_ret
        exact ⟨rfl, below_more (below_more HB.out HG.out) q.hb⟩
end Go.Proofs.Ytekhogoggfacaaa
