/- Texts put together for a claim. -/
import Derived.Test.YtmdggodkkkihhaaDoorQ22JudgeLocks
import Derived.Test.YtmdggodkkkihhaaDoorQ20JudgeLocks
import Derived.Test.YtmdggodkkkihhaaDoorQ27JudgeLocks
import Derived.Test.YtmdggodkkkihhaaDoorQ23JudgeLocks
import Derived.Deep.DeepCutAuto
import Derived.Deep.RegionLaw
import Derived.Deep.RegionHeld3
import Derived.Test.YtmdggodkkkihhaaDoorQ24JudgeLocks
import Derived.Test.YtmdggodkkkihhaaDoorQ25JudgeLocks
/- Walk of JudgeLess. -/
set_option linter.unusedVariables false
set_option linter.unusedSimpArgs false
namespace Go.Proofs.YtmdggodkkkihhaaDoor
open Go.RowKit

theorem NmOk.more {L : Lay} {a b : Nat} (h : NmOk L a) (hab : a ≤ b) : NmOk L b :=
  ⟨fun x hx => Nat.le_trans (h.secs x hx) hab, fun x hx => Nat.le_trans (h.pts x hx) hab, fun x hx => Nat.le_trans (h.sigs x hx) hab, fun x hx => Nat.le_trans (h.rtes x hx) hab⟩
theorem info_bool1 : (Tryd.prog.info? 4).map (fun i => (i.zero, i.size, i.bytes)) = some (some (.bool false), 1, 1) := by kernel_rfl
/-- A box with two rows of the call's own. -/
structure XB (w : World) (B g : Nat) (v1 v2 : Value) (ds : List Int) (ps : List Bool) : Prop where
  blk : Blk w g #[v1, v2] 32 (0, 0)
  o1 : Ow flI w B 3 v1 ds
  o2 : Ow flT w B 4 v2 ps
  lt : g < B
  le : B ≤ w.heap.size
theorem XB.alloc {w : World} {B g : Nat} {v1 v2 : Value} {ds : List Int} {ps : List Bool} (h : XB w B g v1 v2 ds ps) (o : Obj) : XB (w.alloc o) B g v1 v2 ds ps :=
  ⟨h.blk.alloc o, h.o1.alloc o, h.o2.alloc o, h.lt, by simp; have := h.le; omega⟩
theorem XB.stay {w w1 : World} {B g : Nat} {v1 v2 : Value} {ds : List Int} {ps : List Bool} (h : XB w B g v1 v2 ds ps) (hb : Below w.heap.size w w1) : XB w1 B g v1 v2 ds ps :=
  ⟨h.blk.below hb h.blk.lt, h.o1.stay hb, h.o2.stay hb, h.lt, Nat.le_trans h.le hb.size⟩
theorem XB.drew {w : World} {B g : Nat} {v1 v2 : Value} {ds : List Int} {ps : List Bool} (h : XB w B g v1 v2 ds ps) : XB w.drew B g v1 v2 ds ps := ⟨h.blk, h.o1, h.o2, h.lt, h.le⟩
theorem XB.ne1 {w : World} {B g : Nat} {v1 v2 : Value} {ds : List Int} {ps : List Bool} (h : XB w B g v1 v2 ds ps) (k : Nat) (hk : v1.ownBlock = some k) : k ≠ g := by
  have := h.o1.base_ k hk
  have := h.lt
  omega
theorem XB.ne2 {w : World} {B g : Nat} {v1 v2 : Value} {ds : List Int} {ps : List Bool} (h : XB w B g v1 v2 ds ps) (k : Nat) (hk : v2.ownBlock = some k) : k ≠ g := by
  have := h.o2.base_ k hk
  have := h.lt
  omega
theorem XB.ne12 {w : World} {B g : Nat} {v1 v2 : Value} {ds : List Int} {ps : List Bool} (h : XB w B g v1 v2 ds ps) : v2.ownBlock = none ∨ v2.ownBlock ≠ v1.ownBlock := by
  cases h2 : v2.ownBlock with
  | none => exact .inl rfl
  | some k =>
    right
    intro e
    exact own_not_own h.o2 h.o1 (by decide) k h2 e.symm
theorem XB.ne21 {w : World} {B g : Nat} {v1 v2 : Value} {ds : List Int} {ps : List Bool} (h : XB w B g v1 v2 ds ps) : v1.ownBlock = none ∨ v1.ownBlock ≠ v2.ownBlock := by
  cases h1 : v1.ownBlock with
  | none => exact .inl rfl
  | some k =>
    right
    intro e
    exact own_not_own h.o1 h.o2 (by decide) k h1 e.symm
theorem XB.blk1 {w w1 : World} {B g : Nat} {v1 v2 : Value} {ds : List Int} {ps : List Bool} (h : XB w B g v1 v2 ds ps) (hg : w.grownBy w1 v1.ownBlock) : Blk w1 g #[v1, v2] 32 (0, 0) :=
  h.blk.only (Only.of_grown hg) (fun e => h.ne1 g e rfl)
theorem XB.blk2 {w w1 : World} {B g : Nat} {v1 v2 : Value} {ds : List Int} {ps : List Bool} (h : XB w B g v1 v2 ds ps) (hg : w.grownBy w1 v2.ownBlock) : Blk w1 g #[v1, v2] 32 (0, 0) :=
  h.blk.only (Only.of_grown hg) (fun e => h.ne2 g e rfl)
theorem XB.push1 {w w1 : World} {B g : Nat} {v1 v2 v : Value} {ds es : List Int} {ps : List Bool} (h : XB w B g v1 v2 ds ps) (hg : w.grownBy w1 v1.ownBlock) (hown : Ow flI w1 B 3 v es) : XB (w1.setCell ⟨g, 0, none⟩ v) B g v v2 es ps := by
  have hle : B ≤ w1.heap.size := Nat.le_trans h.le hg.size
  refine ⟨(h.blk1 hg).put 0 v, hown.only (Only.put _ _) (fun k hk e => ?_), (h.o2.kept hg h.ne12).only (Only.put _ _) (fun k hk e => h.ne2 k hk e), h.lt, by rw [size_put]; exact hle⟩
  have h1 := hown.base_ k hk
  have h2 := h.lt
  have h3 : k = g := e
  omega
theorem XB.push2 {w w1 : World} {B g : Nat} {v1 v2 v : Value} {ds : List Int} {ps qs : List Bool} (h : XB w B g v1 v2 ds ps) (hg : w.grownBy w1 v2.ownBlock) (hown : Ow flT w1 B 4 v qs) : XB (w1.setCell ⟨g, 1, none⟩ v) B g v1 v ds qs := by
  have hle : B ≤ w1.heap.size := Nat.le_trans h.le hg.size
  refine ⟨(h.blk2 hg).put 1 v, (h.o1.kept hg h.ne21).only (Only.put _ _) (fun k hk e => h.ne1 k hk e), hown.only (Only.put _ _) (fun k hk e => ?_), h.lt, by rw [size_put]; exact hle⟩
  have h1 := hown.base_ k hk
  have h2 := h.lt
  have h3 : k = g := e
  omega
/-- The first so many: each as it was, or nowhere. -/
def LessD (ds es : List Int) : Prop := ∀ j, j < es.length → es.getD j 0 = 0 ∨ es.getD j 0 = ds.getD j 0
theorem LessD.snoc {ds es : List Int} {v x : Int} (h : LessD ds es) (hv : ds[es.length]? = some v) (hx : x = 0 ∨ x = v) : LessD ds (es ++ [x]) := by
  intro j hj
  rw [List.length_append, List.length_singleton] at hj
  rcases Nat.lt_or_ge j es.length with h1 | h1
  · have := h j h1
    rw [List.getD_eq_getElem?_getD, List.getElem?_append_left h1, ← List.getD_eq_getElem?_getD]
    exact this
  · obtain rfl : j = es.length := by omega
    rw [List.getD_eq_getElem?_getD, List.getElem?_append_right (Nat.le_refl _), Nat.sub_self, List.getD_eq_getElem?_getD, hv]
    exact hx
theorem leB_snoc : ∀ {s t : List Bool} {a b : Bool}, LeB s t → (a = true → b = true) → LeB (s ++ [a]) (t ++ [b])
  | [], [], a, b, _, h => ⟨h, trivial⟩
  | [], _ :: _, _, _, h, _ => h.elim
  | _ :: _, [], _, _, h, _ => h.elim
  | x :: s, y :: t, a, b, h, hab => ⟨h.1, leB_snoc h.2 hab⟩
theorem leB_at : ∀ {s t : List Bool}, LeB s t → ∀ i, s.getD i false = true → t.getD i false = true
  | [], [], _, i, h => by simp at h
  | [], _ :: _, h, _, _ => h.elim
  | _ :: _, [], h, _, _ => h.elim
  | x :: s, y :: t, h, 0, hi => h.1 (by simpa using hi)
  | x :: s, y :: t, h, i + 1, hi => by
    have := leB_at h.2 i (by simpa using hi)
    simpa using this
theorem leb_take {ps qs : List Bool} {j : Nat} {y z : Bool} (hy : ps[j]? = some y) (h : LeB qs (ps.take j)) (hz : z = true → y = true) : LeB (qs ++ [z]) (ps.take (j + 1)) := by
  rw [List.take_add_one, hy]
  exact leB_snoc h hz
theorem less_atmost {O : Ou} {es : List Int} {qs : List Bool} (hl : es.length = O.drive.length) (hd : LessD O.drive es) (hp : LeB qs O.proceed) : atmostM ⟨es, qs⟩ O = true := by
  rw [atmost_iff]
  refine ⟨hl, leB_len hp, fun i _ => ?_, fun i hi => ?_⟩
  · unfold pBad
    cases h : qs.getD i false with
    | false => simp
    | true => rw [leB_at hp i h]; rfl
  · unfold rBad
    rcases hd i hi with h | h
    · simp only [h]; rfl
    · simp only [h]; simp
theorem less_safe {L : Lay} {I : Inn} {O : Ou} {es : List Int} {qs : List Bool} (hl : es.length = O.drive.length) (hd : LessD O.drive es) (hp : LeB qs O.proceed) (h : safeM L I O = true) : safeM L I ⟨es, qs⟩ = true :=
  safe_less (X := ⟨es, qs⟩) hl (fun j => by
    rcases Nat.lt_or_ge j es.length with h1 | h1
    · exact hd j h1
    · left
      show es.getD j 0 = 0
      rw [List.getD_eq_getElem?_getD, List.getElem?_eq_none h1]; rfl) hp h
theorem XB.outs {w : World} {B g : Nat} {v1 v2 : Value} {ds : List Int} {ps : List Bool} (h : XB w B g v1 v2 ds ps) (h1 : ds.length ≤ 1000000) (h2 : ps.length ≤ 1000000) : ∃ G H c d, v1 = .slice G ds.length c ∧ v2 = .slice H ps.length d ∧ OuV w ⟨ds, ps⟩ G H ds.length c ps.length d := by
  obtain ⟨G, c, rfl, k1⟩ := sl_ow h.o1 (by decide) (by omega)
  obtain ⟨H, d, rfl, k2⟩ := sl_ow h.o2 (by decide) (by omega)
  exact ⟨G, H, c, d, rfl, rfl, k1, k2⟩
theorem xb_own1 {w : World} {B g k : Nat} {v1 v2 : Value} {ds : List Int} {ps : List Bool} (hk : ds.length = k) (h : XB w B g v1 v2 ds ps) : w.ownsRow B 3 1 v1 k (ds.flatMap flI.enc) := by
  subst hk
  exact h.o1
theorem xb_own2 {w : World} {B g k : Nat} {v1 v2 : Value} {ds : List Int} {ps : List Bool} (hk : ps.length = k) (h : XB w B g v1 v2 ds ps) : w.ownsRow B 4 1 v2 k (ps.flatMap flT.enc) := by
  subst hk
  exact h.o2
theorem xb_snoc {w : World} {base k : Nat} {e : TypeId} {v : Value} {ds : List Int} {x : Int} (hk : ds.length = k) (h : w.ownsRow base e 1 v (k + 1) (ds.flatMap flI.enc ++ flI.enc x)) : Ow flI w base e v (ds ++ [x]) := by
  subst hk
  exact Ow.snoc h
theorem xb_snocT {w : World} {base k : Nat} {e : TypeId} {v : Value} {ds : List Bool} {x : Bool} (hk : ds.length = k) (h : w.ownsRow base e 1 v (k + 1) (ds.flatMap flT.enc ++ flT.enc x)) : Ow flT w base e v (ds ++ [x]) := by
  subst hk
  exact Ow.snoc h
section
variable {L : Lay} {A1 A2 A3 A4 : Option Addr} {n1 c1 n2 c2 n3 c3 n4 c4 : Nat} {I : Inn} {C D : Option Addr} {n c m d : Nat} {O : Ou} {E F : Option Addr} {p pc q qc : Nat}
set_option maxRecDepth 20000 in
set_option maxHeartbeats 8000000 in
theorem judgeLess_calls (w : World) (hT : Tabs w) (hL : LayV w L A1 A2 A3 A4 n1 c1 n2 c2 n3 c3 n4 c4) (hN : NmOk L 140737488351232) (hI : InV w I C D n c m d) (hO : OuV w O E F p pc q qc) (less : Int) :
    Calls Tryd.prog 5 #[.agg #[.slice A1 n1 c1, .slice A2 n2 c2, .slice A3 n3 c3, .slice A4 n4 c4], .agg #[.slice C n c, .slice D m d], .agg #[.slice E p pc, .slice F q qc], .int .i64 less] w fun e w' => e = .returned (.bool true) ∧ Below w.heap.size w w' := by
  have hbw : Below w.heap.size w (((w.alloc (.cells #[.slice A1 n1 c1, .slice A2 n2 c2, .slice A3 n3 c3, .slice A4 n4 c4] 26)).alloc (.cells #[.slice C n c, .slice D m d] 30)).alloc (.cells #[.slice E p pc, .slice F q qc] 32)) :=
    ((below_new w _).alloc (by simp) _).alloc (by simp; omega) _
  have hB1 := (((Blk.new w #[.slice A1 n1 c1, .slice A2 n2 c2, .slice A3 n3 c3, .slice A4 n4 c4] 26 (0, 0)).alloc (.cells #[.slice C n c, .slice D m d] 30)).alloc (.cells #[.slice E p pc, .slice F q qc] 32))
  have hB2 := ((Blk.at_ (w := w.alloc (.cells #[.slice A1 n1 c1, .slice A2 n2 c2, .slice A3 n3 c3, .slice A4 n4 c4] 26)) (g := w.heap.size + 1) (by simp) #[.slice C n c, .slice D m d] 30 (0, 0))).alloc (.cells #[.slice E p pc, .slice F q qc] 32)
  have hB3 := Blk.at_ (w := (w.alloc (.cells #[.slice A1 n1 c1, .slice A2 n2 c2, .slice A3 n3 c3, .slice A4 n4 c4] 26)).alloc (.cells #[.slice C n c, .slice D m d] 30)) (g := w.heap.size + 1 + 1) (by simp) #[.slice E p pc, .slice F q qc] 32 (0, 0)
  have l0 := hB1.cell 0
  have l1 := hB1.cell 1
  have l2 := hB1.cell 2
  have l3 := hB1.cell 3
  have i0 := hB2.cell 0
  have i1 := hB2.cell 1
  have o0 := hB3.cell 0
  have o1 := hB3.cell 1
  simp only [List.getElem?_toArray, List.getElem?_cons_zero, List.getElem?_cons_succ] at l0 l1 l2 l3 i0 i1 o0 o1
  have HT := Lib.hid (hT.stay hbw)
  have HL := Lib.hid (hL.stay hbw)
  have HI := Lib.hid (hI.stay hbw)
  have HO := Lib.hid (hO.stay hbw)
  have HN := Lib.hid hN
  have HBW := Lib.hid hbw
  have hp9 := Nat.le_trans hO.drive.le hO.drive.cap
  have hq9 := Nat.le_trans hO.proceed.le hO.proceed.cap
  have HLEN := Lib.hid (And.intro hO.drive.len hO.proceed.len)
  clear hT hL hN hI hO hB1 hB2 hB3 hbw
  go_enter Tryd.func5, Tryd.ntmps5
  go_wp2_with fail
  generalize hgn : w.heap.size = gn at *
  have HGN := Lib.hid hgn
  clear hgn
  generalize (((w.alloc (.cells #[.slice A1 n1 c1, .slice A2 n2 c2, .slice A3 n3 c3, .slice A4 n4 c4] 26)).alloc (.cells #[.slice C n c, .slice D m d] 30)).alloc (.cells #[.slice E p pc, .slice F q qc] 32)) = W0 at *
  have KEEP := Lib.hid (fun (W : World) (hb : Below W0.heap.size W0 W) => (⟨cell_stay hb l0, cell_stay hb l1, cell_stay hb l2, cell_stay hb l3, cell_stay hb i0, cell_stay hb i1, cell_stay hb o0, cell_stay hb o1⟩ :
    W.cell? ⟨gn, 0, none⟩ = some (.slice A1 n1 c1) ∧ W.cell? ⟨gn, 1, none⟩ = some (.slice A2 n2 c2) ∧ W.cell? ⟨gn, 2, none⟩ = some (.slice A3 n3 c3) ∧ W.cell? ⟨gn, 3, none⟩ = some (.slice A4 n4 c4) ∧
    W.cell? ⟨gn + 1, 0, none⟩ = some (.slice C n c) ∧ W.cell? ⟨gn + 1, 1, none⟩ = some (.slice D m d) ∧ W.cell? ⟨gn + 1 + 1, 0, none⟩ = some (.slice E p pc) ∧ W.cell? ⟨gn + 1 + 1, 1, none⟩ = some (.slice F q qc)))
  refine (size_calls _ L _ _ _ _ _ _ _ _ _ _ _ _ HL.out HN.out).mono ?_
  rintro e w2 ⟨sz, rfl, hsz, hb2⟩
  have HB2 := Lib.hid hb2
  have HSZ := Lib.hid hsz
  replace l0 := cell_stay hb2 l0
  replace l1 := cell_stay hb2 l1
  replace l2 := cell_stay hb2 l2
  replace l3 := cell_stay hb2 l3
  replace i0 := cell_stay hb2 i0
  replace i1 := cell_stay hb2 i1
  replace o0 := cell_stay hb2 o0
  replace o1 := cell_stay hb2 o1
  clear hsz hb2
  by_cases hlt : sz < 3000
  case neg =>
    go_wp2_with fail
    go_ret
    exact ⟨rfl, below_more (by rw [HGN.out]; exact HBW.out) HB2.out⟩
  case pos =>
  have HOKS := Lib.hid (HSZ.out hlt)
  go_wp2_with fail
  refine (wide_calls _ _ _ _ _ _ _ _ _ _ _ _ _ _ _ _).mono ?_
  rintro e w3 ⟨rfl, hb3⟩
  have HB3 := Lib.hid (below_more HB2.out hb3)
  replace l0 := cell_stay hb3 l0
  replace l1 := cell_stay hb3 l1
  replace l2 := cell_stay hb3 l2
  replace l3 := cell_stay hb3 l3
  replace i0 := cell_stay hb3 i0
  replace i1 := cell_stay hb3 i1
  replace o0 := cell_stay hb3 o0
  replace o1 := cell_stay hb3 o1
  clear hb3
  generalize hwd : wideM n m p q 0 = wd
  have HWD := Lib.hid hwd
  clear hwd
  cases wd with
  | true =>
    go_wp2_with fail
    go_ret
    exact ⟨rfl, below_more (by rw [HGN.out]; exact HBW.out) HB3.out⟩
  | false =>
  go_wp2_with fail
  refine (RefIs_calls _ (HT.out.stay HB3.out) (HL.out.stay HB3.out) (HOKS.out.nm.more (by omega))).mono ?_
  rintro e w4 ⟨rfl, hb4⟩
  have HB4 := Lib.hid (below_more HB3.out hb4)
  replace l0 := cell_stay hb4 l0
  replace l1 := cell_stay hb4 l1
  replace l2 := cell_stay hb4 l2
  replace l3 := cell_stay hb4 l3
  replace i0 := cell_stay hb4 i0
  replace i1 := cell_stay hb4 i1
  replace o0 := cell_stay hb4 o0
  replace o1 := cell_stay hb4 o1
  clear hb4
  generalize his : isM L = is
  have HIS := Lib.hid his
  clear his
  cases is with
  | false =>
    go_wp2_with fail
    go_ret
    exact ⟨rfl, below_more (by rw [HGN.out]; exact HBW.out) HB4.out⟩
  | true =>
  have HLO := Lib.hid (is_ok HIS.out).lay
  have HSG := Lib.hid (is_ok HIS.out).sz
  go_wp2_with fail
  refine (RSafe_calls _ (HL.out.stay HB4.out) (HI.out.stay HB4.out) (HO.out.stay HB4.out) HLO.out).mono ?_
  rintro e w5 ⟨rfl, hb5⟩
  have HB5 := Lib.hid (below_more HB4.out hb5)
  replace l0 := cell_stay hb5 l0
  replace l1 := cell_stay hb5 l1
  replace l2 := cell_stay hb5 l2
  replace l3 := cell_stay hb5 l3
  replace i0 := cell_stay hb5 i0
  replace i1 := cell_stay hb5 i1
  replace o0 := cell_stay hb5 o0
  replace o1 := cell_stay hb5 o1
  clear hb5
  generalize hrs : rsafeM L I O = rs
  have HRS := Lib.hid hrs
  clear hrs
  cases rs with
  | false =>
    go_wp2_with fail
    go_ret
    exact ⟨rfl, below_more (by rw [HGN.out]; exact HBW.out) HB5.out⟩
  | true =>
  have HSF : Hid (safeM L I O = true) := Lib.hid (by have := HRS.out; unfold rsafeM at this; simp only [Bool.and_eq_true] at this; exact this.2)
  have hsm : p ≤ 50 ∧ q ≤ 50 := by
    have := HWD.out
    unfold wideM at this
    simp only [Bool.or_eq_false_iff, decide_eq_false_iff_not] at this
    omega
  obtain ⟨hp50, hq50⟩ := hsm
  have HB5G := Lib.hid (below_more (by rw [HGN.out]; exact HBW.out) HB5.out)
  clear l0 l1 l2 l3 i0 i1 o0 o1
  go_wp2_with fail
  have hx0 : XB (w5.alloc (.cells #[.slice none 0 0, .slice none 0 0] 32)) (w5.heap.size + 1) w5.heap.size (.slice none 0 0) (.slice none 0 0) [] [] := ⟨Blk.new _ _ _ _, Ow.nil_ _ _ _ _, Ow.nil_ _ _ _ _, by omega, by simp⟩
  have HX0 := Lib.hid hx0
  have HB6 := Lib.hid (below_more HB5.out (below_new w5 (.cells #[.slice none 0 0, .slice none 0 0] 32)))
  have hgx := HB5.out.size
  clear hx0
  generalize (w5.alloc (.cells #[.slice none 0 0, .slice none 0 0] 32)) = w6 at *
  generalize w5.heap.size = gx at *
  obtain ⟨i0', hi0, hz0, hz1, hz2⟩ := info_parts info_int
  obtain ⟨j0', hj0, hy0, hy1, hy2⟩ := info_parts info_bool1
  go_loopw [10] (fun i wr => ∃ k : Nat, k ≤ p ∧ i = .int .i64 k ∧ Hid (∃ v es, XB wr (gx + 1) gx v (.slice none 0 0) es [] ∧ es.length = k ∧ LessD O.drive es ∧ Below W0.heap.size W0 wr)) (fun i _ => p - (intOf i).toNat)
  case atStart => exact ⟨0, by omega, rfl, Lib.hid ⟨_, _, HX0.out, rfl, fun j hj => by simp at hj, HB6.out⟩⟩
  case round =>
    obtain ⟨k, hk, rfl, hr⟩ := hrel
    obtain ⟨v, es, hx, hel, hld, hbr⟩ := hr.out
    obtain ⟨l0, l1, l2, l3, i0, i1, o0, o1⟩ := KEEP.out _ hbr
    have HX := Lib.hid hx
    have HEL := Lib.hid hel
    have HLD := Lib.hid hld
    have HBR := Lib.hid hbr
    have h' := hx.o1
    unfold Ow at h'
    rw [hel] at h'
    obtain ⟨Av, cv, rfl⟩ := row_form h'
    have bx0 := hx.blk.cell 0
    have bx1 := hx.blk.cell 1
    have bf0 := hx.blk.free 0
    simp only [List.getElem?_toArray, List.getElem?_cons_zero, List.getElem?_cons_succ] at bx0 bx1
    clear hr hx hel hld hbr h'
    by_cases hlt : k < p
    · obtain ⟨be, oe, dv, rfl, hd, cd⟩ := HO.out.drive.int hlt
      have cd := cell_stay HBR.out cd
      have HD := Lib.hid hd
      clear hd
      go_upto_if 51 with fail
      go_cut [11] (fun s wx => ∃ x : Int, s = .int .i64 x ∧ (x = 0 ∨ x = dv) ∧ wx = wr)
      case first =>
        go_wp2_with fail
        all_goals go_meet
        · exact ⟨_, rfl, .inl rfl, rfl⟩
        · exact ⟨_, rfl, .inr rfl, rfl⟩
      case rest =>
        obtain ⟨x, rfl, hx, rfl⟩ := hcut
        have HXX := Lib.hid hx
        clear hx
        have HROOM := Lib.hid (show k ≤ 50 by omega)
        go_wp2_with (at_builtin; refine wpList_append_any _ rfl (.tmp 53) (.tmp 55) _ rfl (gx + 1) 3 i0' _ 1 8 Tryd.underlying28 hi0 hz0 hz1 hz2 rfl (by omega) _ k (es.flatMap flI.enc) rfl (xb_own1 HEL.out (HX.out.alloc _)) (wc.heap.size + 1) (some ⟨wc.heap.size, 0, none⟩) 1 1 (flI.enc x) rfl (box_reads flI wc _ _ x rfl) (flI.one _) (by simp only [maxLen]; omega) (by omega) (by have := HX.out.le; simp; omega) ?_; intro v1 w1 hown1 hg1 hat1; obtain ⟨A1', c1', rfl⟩ := row_form hown1; have bx0 := (HX.out.alloc (.cells #[.int .i64 x] 3)).blk1 hg1 |>.cell 0; have bf0 := (HX.out.alloc (.cells #[.int .i64 x] 3)).blk1 hg1 |>.free 0; have HP1 := Lib.hid ((HX.out.alloc (.cells #[.int .i64 x] 3)).push1 hg1 (xb_snoc HEL.out hown1)); have HB1 := Lib.hid (((HBR.out.alloc HBR.out.size (.cells #[.int .i64 x] 3)).grown hg1 (by have := HBR.out.size; simp; omega) (fun g hg => by have := HX.out.o1.base_ g hg; omega)).setCell (p := ⟨gx, 0, none⟩) hgx (.slice A1' (k + 1) c1')); clear hown1 hg1 hat1)
        go_roundw
        case rel => exact ⟨k + 1, by omega, by go_num, Lib.hid ⟨_, _, HP1.out, by rw [List.length_append, HEL.out]; rfl, HLD.out.snoc (by rw [HEL.out]; exact HD.out) HXX.out, HB1.out⟩⟩
        case measure => simp [intOf]; omega
    · obtain rfl : k = p := by omega
      clear hlt bx0 bx1 bf0
      go_wp2_with fail
      generalize hw7 : wr = w7 at *
      clear hw7 l0 l1 l2 l3 i0 i1 o0 o1
      go_loopw [12] (fun i wr => ∃ j : Nat, j ≤ q ∧ i = .int .i64 j ∧ Hid (∃ v qs, XB wr (gx + 1) gx (.slice Av k cv) v es qs ∧ qs.length = j ∧ LeB qs (O.proceed.take j) ∧ Below W0.heap.size W0 wr)) (fun i _ => q - (intOf i).toNat)
      case atStart => exact ⟨0, by omega, rfl, Lib.hid ⟨_, _, HX.out, rfl, trivial, HBR.out⟩⟩
      case round =>
        obtain ⟨j, hj, rfl, hr⟩ := hrel
        obtain ⟨v, qs, hx, hql, hle, hbr⟩ := hr.out
        obtain ⟨l0, l1, l2, l3, i0, i1, o0, o1⟩ := KEEP.out _ hbr
        have HX := Lib.hid hx
        have HQL := Lib.hid hql
        have HLE := Lib.hid hle
        have HBR := Lib.hid hbr
        have h' := hx.o2
        unfold Ow at h'
        rw [hql] at h'
        obtain ⟨Bv, dv, rfl⟩ := row_form h'
        have bx0 := hx.blk.cell 0
        have bx1 := hx.blk.cell 1
        have bf1 := hx.blk.free 1
        simp only [List.getElem?_toArray, List.getElem?_cons_zero, List.getElem?_cons_succ] at bx0 bx1
        clear hr hx hql hle hbr h'
        by_cases hlt : j < q
        · obtain ⟨bo, oo, y, rfl, hy, cy⟩ := HO.out.proceed.tru hlt
          have HY := Lib.hid hy
          have KEEPS := Lib.hid (fun (W : World) (hb : Below W0.heap.size W0 W) => And.intro (KEEP.out W hb).2.2.2.2.2.2.2 (cell_stay hb cy))
          have HBR1 := Lib.hid (below_drawn HBR.out 1)
          have bxa : ∀ z : Bool, (wr.alloc (.cells #[.bool z] 4)).cell? ⟨gx, 1, none⟩ = some (.slice Bv j dv) := fun z => cell_stay (below_new wr _) bx1
          clear cy
          have hj50 : j ≤ 50 := by omega
          have hw8 : IntKind.i64.wrap ((j : Int) + 8) = (j : Int) + 8 := by rw [IntKind.wrap_i64]; omega
          clear hy
          cases y with
          | false =>
            go_wp2_with fail
            refine wp_region_held_drew (S := (fun W => W.cell? ⟨gn + 1 + 1, 1, none⟩ = some (.slice (some ⟨bo, oo, none⟩) q qc) ∧ W.cell? ⟨bo, oo + j, none⟩ = some (.bool false))) (by kernel_rfl) ?_ (fun hHeld => ?_)
            · exact KEEPS.out _ HBR1.out
            refine wpAnyH_take (i := 0) (oi := { dst := some 65, op := Op.fieldAddr 32 (Operand.tmp 9) 1, type := 0, pos := "law.go:116", after := #[], guard := none }) (v := ?_) rfl (by kernel_rfl) (by kernel_rfl) (by kernel_rfl) (fun _ _ _ h => h) (Or.inl ⟨by rfl, ?_⟩) (by assumption) ?_
            rotate_left
            · intro w hSw; (try dsimp only at hSw); go_simp; (try (with_reducible rfl))
            (try simp only [Act.put, List.setIfInBounds_toArray, List.set_cons_zero, List.set_cons_succ])
            refine wpAnyH_take (i := 2) (oi := { dst := some 67, op := Op.fieldAddr 32 (Operand.tmp 6) 1, type := 0, pos := "law.go:116", after := #[], guard := none }) (v := ?_) rfl (by kernel_rfl) (by kernel_rfl) (by kernel_rfl) (fun _ _ _ h => h) (Or.inl ⟨by rfl, ?_⟩) (by assumption) ?_
            rotate_left
            · intro w hSw; (try dsimp only at hSw); go_simp; (try (with_reducible rfl))
            (try simp only [Act.put, List.setIfInBounds_toArray, List.set_cons_zero, List.set_cons_succ])
            refine wpAnyH_take (i := 3) (oi := { dst := some 68, op := Op.load 27 (Operand.tmp 67), type := 27, pos := "law.go:116", after := #[{ on := 2, ground := Ground.data }], guard := none }) (v := ?_) rfl (by kernel_rfl) (by kernel_rfl) (by kernel_rfl) (fun _ _ _ h => h) (Or.inl ⟨by rfl, ?_⟩) (by assumption) ?_
            rotate_left
            · intro w hSw; (try dsimp only at hSw); go_simp; (try (with_reducible rfl))
            (try simp only [Act.put, List.setIfInBounds_toArray, List.set_cons_zero, List.set_cons_succ])
            refine wpAnyH_take (i := 4) (oi := { dst := some 69, op := Op.move (Operand.tmp 12), type := 3, pos := "law.go:116", after := #[], guard := none }) (v := ?_) rfl (by kernel_rfl) (by kernel_rfl) (by kernel_rfl) (fun _ _ _ h => h) (Or.inl ⟨by rfl, ?_⟩) (by assumption) ?_
            rotate_left
            · intro w hSw; (try dsimp only at hSw); go_simp; (try (with_reducible rfl))
            (try simp only [Act.put, List.setIfInBounds_toArray, List.set_cons_zero, List.set_cons_succ])
            refine wpAnyH_take (i := 5) (oi := { dst := some 70, op := Op.indexAddr 27 (Operand.tmp 68) (Operand.tmp 69), type := 0, pos := "law.go:116", after := #[{ on := 3, ground := Ground.data }, { on := 4, ground := Ground.data }], guard := none }) (v := ?_) rfl (by kernel_rfl) (by kernel_rfl) (by kernel_rfl) (fun _ _ _ h => h) (Or.inl ⟨by rfl, ?_⟩) (by assumption) ?_
            rotate_left
            · intro w hSw; (try dsimp only at hSw); go_simp; (try (with_reducible rfl))
            (try simp only [Act.put, List.setIfInBounds_toArray, List.set_cons_zero, List.set_cons_succ])
            refine wpAnyH_take (i := 6) (oi := { dst := some 71, op := Op.load 4 (Operand.tmp 70), type := 4, pos := "law.go:116", after := #[{ on := 5, ground := Ground.data }], guard := none }) (v := ?_) rfl (by kernel_rfl) (by kernel_rfl) (by kernel_rfl) (fun _ _ _ h => h) (Or.inl ⟨by rfl, ?_⟩) (by assumption) ?_
            rotate_left
            · intro w hSw; (try dsimp only at hSw); go_simp; (try (with_reducible rfl))
            (try simp only [Act.put, List.setIfInBounds_toArray, List.set_cons_zero, List.set_cons_succ])
            refine wpAnyH_take (i := 7) (oi := { dst := some 72, op := Op.move (Operand.tmp 71), type := 4, pos := "law.go:116", after := #[{ on := 6, ground := Ground.data }], guard := none }) (v := ?_) rfl (by kernel_rfl) (by kernel_rfl) (by kernel_rfl) (fun _ _ _ h => h) (Or.inl ⟨by rfl, ?_⟩) (by assumption) ?_
            rotate_left
            · intro w hSw; (try dsimp only at hSw); go_simp; (try (with_reducible rfl))
            (try simp only [Act.put, List.setIfInBounds_toArray, List.set_cons_zero, List.set_cons_succ])
            refine wpAnyH_take (i := 8) (oi := { dst := some 73, op := Op.move (Operand.tmp 3), type := 3, pos := "law.go:116", after := #[{ on := 7, ground := Ground.guard }], guard := some (7, true) }) (v := undef) rfl (by kernel_rfl) (by kernel_rfl) (by kernel_rfl) (fun _ _ _ h => h) (Or.inr ⟨by rfl, rfl⟩) (by assumption) ?_
            (try simp only [Act.put, List.setIfInBounds_toArray, List.set_cons_zero, List.set_cons_succ])
            refine wpAnyH_take (i := 9) (oi := { dst := some 74, op := Op.move (Operand.tmp 12), type := 3, pos := "law.go:116", after := #[{ on := 7, ground := Ground.guard }], guard := some (7, true) }) (v := undef) rfl (by kernel_rfl) (by kernel_rfl) (by kernel_rfl) (fun _ _ _ h => h) (Or.inr ⟨by rfl, rfl⟩) (by assumption) ?_
            (try simp only [Act.put, List.setIfInBounds_toArray, List.set_cons_zero, List.set_cons_succ])
            refine wpAnyH_take (i := 10) (oi := { dst := some 75, op := Op.binOp BinOp.add 3 (Operand.tmp 74) (Operand.const (Value.int IntKind.i64 8)) 3, type := 3, pos := "law.go:116", after := #[{ on := 9, ground := Ground.data }, { on := 7, ground := Ground.guard }], guard := some (7, true) }) (v := undef) rfl (by kernel_rfl) (by kernel_rfl) (by kernel_rfl) (fun _ _ _ h => h) (Or.inr ⟨by rfl, rfl⟩) (by assumption) ?_
            (try simp only [Act.put, List.setIfInBounds_toArray, List.set_cons_zero, List.set_cons_succ])
            refine wpAnyH_take (i := 11) (oi := { dst := some 76, op := Op.convert 3 56 (Operand.tmp 75), type := 56, pos := "law.go:116", after := #[{ on := 10, ground := Ground.data }, { on := 7, ground := Ground.guard }], guard := some (7, true) }) (v := undef) rfl (by kernel_rfl) (by kernel_rfl) (by kernel_rfl) (fun _ _ _ h => h) (Or.inr ⟨by rfl, rfl⟩) (by assumption) ?_
            (try simp only [Act.put, List.setIfInBounds_toArray, List.set_cons_zero, List.set_cons_succ])
            refine wpAnyH_take (i := 12) (oi := { dst := some 77, op := Op.binOp BinOp.shr 3 (Operand.tmp 73) (Operand.tmp 76) 56, type := 3, pos := "law.go:116", after := #[{ on := 8, ground := Ground.data }, { on := 11, ground := Ground.data }, { on := 7, ground := Ground.guard }], guard := some (7, true) }) (v := undef) rfl (by kernel_rfl) (by kernel_rfl) (by kernel_rfl) (fun _ _ _ h => h) (Or.inr ⟨by rfl, rfl⟩) (by assumption) ?_
            (try simp only [Act.put, List.setIfInBounds_toArray, List.set_cons_zero, List.set_cons_succ])
            refine wpAnyH_take (i := 13) (oi := { dst := some 78, op := Op.binOp BinOp.and 3 (Operand.tmp 77) (Operand.const (Value.int IntKind.i64 1)) 3, type := 3, pos := "law.go:116", after := #[{ on := 12, ground := Ground.data }, { on := 7, ground := Ground.guard }], guard := some (7, true) }) (v := undef) rfl (by kernel_rfl) (by kernel_rfl) (by kernel_rfl) (fun _ _ _ h => h) (Or.inr ⟨by rfl, rfl⟩) (by assumption) ?_
            (try simp only [Act.put, List.setIfInBounds_toArray, List.set_cons_zero, List.set_cons_succ])
            refine wpAnyH_take (i := 14) (oi := { dst := some 79, op := Op.binOp BinOp.eql 3 (Operand.tmp 78) (Operand.const (Value.int IntKind.i64 0)) 3, type := 4, pos := "law.go:116", after := #[{ on := 13, ground := Ground.data }, { on := 7, ground := Ground.guard }], guard := some (7, true) }) (v := undef) rfl (by kernel_rfl) (by kernel_rfl) (by kernel_rfl) (fun _ _ _ h => h) (Or.inr ⟨by rfl, rfl⟩) (by assumption) ?_
            (try simp only [Act.put, List.setIfInBounds_toArray, List.set_cons_zero, List.set_cons_succ])
            refine wpAnyH_take (i := 15) (oi := { dst := some 80, op := Op.pick (Operand.tmp 72) (Operand.tmp 79) (Operand.const (Value.bool false)), type := 4, pos := "law.go:116", after := #[{ on := 7, ground := Ground.data }, { on := 14, ground := Ground.data }], guard := none }) (v := ?_) rfl (by kernel_rfl) (by kernel_rfl) (by kernel_rfl) (fun _ _ _ h => h) (Or.inl ⟨by rfl, ?_⟩) (by assumption) ?_
            rotate_left
            · intro w hSw; (try dsimp only at hSw); go_simp; (try (with_reducible rfl))
            (try simp only [Act.put, List.setIfInBounds_toArray, List.set_cons_zero, List.set_cons_succ])
            refine wpAnyH_ready (rs := [1, 16]) (by kernel_rfl) (by simp) ?_
            refine AllReadyH.cons (o := { dst := some 66, op := Op.load 27 (Operand.tmp 65), type := 27, pos := "law.go:116", after := #[{ on := 0, ground := Ground.data }], guard := none }) rfl (fun K hK => ?_) ?_
            ·
              go_simp
              refine hK.out _ _ (by (first | exact KEEPS.out _ HB1.out | exact KEEPS.out _ HBA.out | exact KEEPS.out _ HBR1.out | exact KEEPS.out _ (HBR1.out.alloc HBR1.out.size _))) (fun hHeld => ?_)
              clear hK K
              (try simp only [Act.put, List.setIfInBounds_toArray, List.set_cons_zero, List.set_cons_succ])
              refine wpAnyH_ready (rs := [16]) (by kernel_rfl) (by simp) ?_
              refine AllReadyH.cons (o := { dst := some 81, op := Op.buildSlice 27 1 #[(0, Operand.tmp 80)], type := 27, pos := "law.go:116", after := #[{ on := 15, ground := Ground.data }], guard := none }) rfl (fun K hK => ?_) ?_
              ·
                go_simp
                refine hK.out _ _ (by (first | exact KEEPS.out _ HB1.out | exact KEEPS.out _ HBA.out | exact KEEPS.out _ HBR1.out | exact KEEPS.out _ (HBR1.out.alloc HBR1.out.size _))) (fun hHeld => ?_)
                clear hK K
                (try simp only [Act.put, List.setIfInBounds_toArray, List.set_cons_zero, List.set_cons_succ])
                refine wpAnyH_ready (rs := [17]) (by kernel_rfl) (by simp) ?_
                refine AllReadyH.cons (o := { dst := some 82, op := Op.call { callee := Callee.builtin Builtin.append, args := #[Operand.tmp 66, Operand.tmp 81], argTypes := #[27, 27] }, type := 27, pos := "law.go:116", after := #[{ on := 1, ground := Ground.data }, { on := 16, ground := Ground.data }, { on := 7, ground := Ground.chain }], guard := none }) rfl (fun K hK => ?_) ?_
                ·
                  (refine step_append_any _ (by rfl) (.tmp 66) (.tmp 81) _ (by rfl) (gx + 1) 4 j0' _ 1 1 Tryd.underlying27 hj0 hy0 hy1 hy2 rfl (by omega) _ j (qs.flatMap flT.enc) (by rfl) (xb_own2 HQL.out ((HX.out.alloc _).drew)) (wr.heap.size + 1) _ 1 1 (flT.enc _) (by rfl) (box_reads flT wr #[.bool _] 4 _ rfl).drew (flT.one _) (by simp only [maxLen]; omega) (by omega) (by have := HX.out.le; simp; omega) ?_; intro v1 w1 hown1 hg1 hat1; obtain ⟨A1', c1', rfl⟩ := row_form hown1; have bx1 := ((HX.out.alloc (.cells #[.bool _] 4)).drew).blk2 hg1 |>.cell 1; have bf1 := ((HX.out.alloc (.cells #[.bool _] 4)).drew).blk2 hg1 |>.free 1; have HP1 := Lib.hid ((HX.out.alloc (.cells #[.bool _] 4)).drew.push2 hg1 (xb_snocT HQL.out hown1)); have HBA := Lib.hid ((below_drawn (HBR.out.alloc HBR.out.size (.cells #[.bool _] 4)) 1).grown hg1 (by have := HBR.out.size; simp; omega) (fun g hg => by have := HX.out.o2.base_ g hg; omega)); have HB1 := Lib.hid (((below_drawn (HBR.out.alloc HBR.out.size (.cells #[.bool _] 4)) 1).grown hg1 (by have := HBR.out.size; simp; omega) (fun g hg => by have := HX.out.o2.base_ g hg; omega)).setCell (p := ⟨gx, 1, none⟩) hgx (.slice A1' (j + 1) c1')); clear hown1 hg1 hat1)
                  refine hK.out _ _ (by (first | exact KEEPS.out _ HB1.out | exact KEEPS.out _ HBA.out | exact KEEPS.out _ HBR1.out | exact KEEPS.out _ (HBR1.out.alloc HBR1.out.size _))) (fun hHeld => ?_)
                  clear hK K
                  (try simp only [Act.put, List.setIfInBounds_toArray, List.set_cons_zero, List.set_cons_succ])
                  refine wpAnyH_take (i := 18) (oi := { dst := some 83, op := Op.fieldAddr 32 (Operand.tmp 9) 1, type := 0, pos := "law.go:116", after := #[{ on := 0, ground := Ground.phase }, { on := 1, ground := Ground.phase }, { on := 2, ground := Ground.phase }, { on := 3, ground := Ground.phase }, { on := 4, ground := Ground.phase }, { on := 5, ground := Ground.phase }, { on := 6, ground := Ground.phase }, { on := 7, ground := Ground.phase }, { on := 8, ground := Ground.phase }, { on := 9, ground := Ground.phase }, { on := 10, ground := Ground.phase }, { on := 11, ground := Ground.phase }, { on := 12, ground := Ground.phase }, { on := 13, ground := Ground.phase }, { on := 14, ground := Ground.phase }, { on := 15, ground := Ground.phase }, { on := 16, ground := Ground.phase }, { on := 17, ground := Ground.phase }], guard := none }) (v := ?_) rfl (by kernel_rfl) (by kernel_rfl) (by kernel_rfl) (fun _ _ _ h => h) (Or.inl ⟨by rfl, ?_⟩) (by assumption) ?_
                  rotate_left
                  · intro w hSw; (try dsimp only at hSw); go_simp; (try (with_reducible rfl))
                  (try simp only [Act.put, List.setIfInBounds_toArray, List.set_cons_zero, List.set_cons_succ])
                  refine wpAnyH_ready (rs := [19]) (by kernel_rfl) (by simp) ?_
                  refine AllReadyH.cons (o := { dst := none, op := Op.store 27 (Operand.tmp 83) (Operand.tmp 82), type := 0, pos := "law.go:116", after := #[{ on := 18, ground := Ground.data }, { on := 17, ground := Ground.data }, { on := 17, ground := Ground.chain }, { on := 0, ground := Ground.phase }, { on := 1, ground := Ground.phase }, { on := 2, ground := Ground.phase }, { on := 3, ground := Ground.phase }, { on := 4, ground := Ground.phase }, { on := 5, ground := Ground.phase }, { on := 6, ground := Ground.phase }, { on := 7, ground := Ground.phase }, { on := 8, ground := Ground.phase }, { on := 9, ground := Ground.phase }, { on := 10, ground := Ground.phase }, { on := 11, ground := Ground.phase }, { on := 12, ground := Ground.phase }, { on := 13, ground := Ground.phase }, { on := 14, ground := Ground.phase }, { on := 15, ground := Ground.phase }, { on := 16, ground := Ground.phase }, { on := 17, ground := Ground.phase }], guard := none }) rfl (fun K hK => ?_) ?_
                  ·
                    go_simp
                    refine hK.out _ _ (by (first | exact KEEPS.out _ HB1.out | exact KEEPS.out _ HBA.out | exact KEEPS.out _ HBR1.out | exact KEEPS.out _ (HBR1.out.alloc HBR1.out.size _))) (fun hHeld => ?_)
                    clear hK K
                    (try simp only [Act.put, List.setIfInBounds_toArray, List.set_cons_zero, List.set_cons_succ])
                    refine wpAnyH_done (by kernel_rfl) ?_ _
                    go_wp2_with fail
                    go_roundw
                    case rel => exact ⟨j + 1, by omega, by go_num, Lib.hid ⟨_, _, HP1.out, by rw [List.length_append, HQL.out]; rfl, leb_take HY.out HLE.out (by simp), HB1.out⟩⟩
                    case measure => simp [intOf]; omega
                  exact AllReadyH.nil
                exact AllReadyH.nil
              exact AllReadyH.nil
            refine AllReadyH.cons (o := { dst := some 81, op := Op.buildSlice 27 1 #[(0, Operand.tmp 80)], type := 27, pos := "law.go:116", after := #[{ on := 15, ground := Ground.data }], guard := none }) rfl (fun K hK => ?_) ?_
            ·
              go_simp
              refine hK.out _ _ (by (first | exact KEEPS.out _ HB1.out | exact KEEPS.out _ HBA.out | exact KEEPS.out _ HBR1.out | exact KEEPS.out _ (HBR1.out.alloc HBR1.out.size _))) (fun hHeld => ?_)
              clear hK K
              (try simp only [Act.put, List.setIfInBounds_toArray, List.set_cons_zero, List.set_cons_succ])
              refine wpAnyH_ready (rs := [1]) (by kernel_rfl) (by simp) ?_
              refine AllReadyH.cons (o := { dst := some 66, op := Op.load 27 (Operand.tmp 65), type := 27, pos := "law.go:116", after := #[{ on := 0, ground := Ground.data }], guard := none }) rfl (fun K hK => ?_) ?_
              ·
                go_simp
                refine hK.out _ _ (by (first | exact KEEPS.out _ HB1.out | exact KEEPS.out _ HBA.out | exact KEEPS.out _ HBR1.out | exact KEEPS.out _ (HBR1.out.alloc HBR1.out.size _))) (fun hHeld => ?_)
                clear hK K
                (try simp only [Act.put, List.setIfInBounds_toArray, List.set_cons_zero, List.set_cons_succ])
                refine wpAnyH_ready (rs := [17]) (by kernel_rfl) (by simp) ?_
                refine AllReadyH.cons (o := { dst := some 82, op := Op.call { callee := Callee.builtin Builtin.append, args := #[Operand.tmp 66, Operand.tmp 81], argTypes := #[27, 27] }, type := 27, pos := "law.go:116", after := #[{ on := 1, ground := Ground.data }, { on := 16, ground := Ground.data }, { on := 7, ground := Ground.chain }], guard := none }) rfl (fun K hK => ?_) ?_
                ·
                  (refine step_append_any _ (by rfl) (.tmp 66) (.tmp 81) _ (by rfl) (gx + 1) 4 j0' _ 1 1 Tryd.underlying27 hj0 hy0 hy1 hy2 rfl (by omega) _ j (qs.flatMap flT.enc) (by rfl) (xb_own2 HQL.out ((HX.out.alloc _).drew)) (wr.heap.size + 1) _ 1 1 (flT.enc _) (by rfl) (box_reads flT wr #[.bool _] 4 _ rfl).drew (flT.one _) (by simp only [maxLen]; omega) (by omega) (by have := HX.out.le; simp; omega) ?_; intro v1 w1 hown1 hg1 hat1; obtain ⟨A1', c1', rfl⟩ := row_form hown1; have bx1 := ((HX.out.alloc (.cells #[.bool _] 4)).drew).blk2 hg1 |>.cell 1; have bf1 := ((HX.out.alloc (.cells #[.bool _] 4)).drew).blk2 hg1 |>.free 1; have HP1 := Lib.hid ((HX.out.alloc (.cells #[.bool _] 4)).drew.push2 hg1 (xb_snocT HQL.out hown1)); have HBA := Lib.hid ((below_drawn (HBR.out.alloc HBR.out.size (.cells #[.bool _] 4)) 1).grown hg1 (by have := HBR.out.size; simp; omega) (fun g hg => by have := HX.out.o2.base_ g hg; omega)); have HB1 := Lib.hid (((below_drawn (HBR.out.alloc HBR.out.size (.cells #[.bool _] 4)) 1).grown hg1 (by have := HBR.out.size; simp; omega) (fun g hg => by have := HX.out.o2.base_ g hg; omega)).setCell (p := ⟨gx, 1, none⟩) hgx (.slice A1' (j + 1) c1')); clear hown1 hg1 hat1)
                  refine hK.out _ _ (by (first | exact KEEPS.out _ HB1.out | exact KEEPS.out _ HBA.out | exact KEEPS.out _ HBR1.out | exact KEEPS.out _ (HBR1.out.alloc HBR1.out.size _))) (fun hHeld => ?_)
                  clear hK K
                  (try simp only [Act.put, List.setIfInBounds_toArray, List.set_cons_zero, List.set_cons_succ])
                  refine wpAnyH_take (i := 18) (oi := { dst := some 83, op := Op.fieldAddr 32 (Operand.tmp 9) 1, type := 0, pos := "law.go:116", after := #[{ on := 0, ground := Ground.phase }, { on := 1, ground := Ground.phase }, { on := 2, ground := Ground.phase }, { on := 3, ground := Ground.phase }, { on := 4, ground := Ground.phase }, { on := 5, ground := Ground.phase }, { on := 6, ground := Ground.phase }, { on := 7, ground := Ground.phase }, { on := 8, ground := Ground.phase }, { on := 9, ground := Ground.phase }, { on := 10, ground := Ground.phase }, { on := 11, ground := Ground.phase }, { on := 12, ground := Ground.phase }, { on := 13, ground := Ground.phase }, { on := 14, ground := Ground.phase }, { on := 15, ground := Ground.phase }, { on := 16, ground := Ground.phase }, { on := 17, ground := Ground.phase }], guard := none }) (v := ?_) rfl (by kernel_rfl) (by kernel_rfl) (by kernel_rfl) (fun _ _ _ h => h) (Or.inl ⟨by rfl, ?_⟩) (by assumption) ?_
                  rotate_left
                  · intro w hSw; (try dsimp only at hSw); go_simp; (try (with_reducible rfl))
                  (try simp only [Act.put, List.setIfInBounds_toArray, List.set_cons_zero, List.set_cons_succ])
                  refine wpAnyH_ready (rs := [19]) (by kernel_rfl) (by simp) ?_
                  refine AllReadyH.cons (o := { dst := none, op := Op.store 27 (Operand.tmp 83) (Operand.tmp 82), type := 0, pos := "law.go:116", after := #[{ on := 18, ground := Ground.data }, { on := 17, ground := Ground.data }, { on := 17, ground := Ground.chain }, { on := 0, ground := Ground.phase }, { on := 1, ground := Ground.phase }, { on := 2, ground := Ground.phase }, { on := 3, ground := Ground.phase }, { on := 4, ground := Ground.phase }, { on := 5, ground := Ground.phase }, { on := 6, ground := Ground.phase }, { on := 7, ground := Ground.phase }, { on := 8, ground := Ground.phase }, { on := 9, ground := Ground.phase }, { on := 10, ground := Ground.phase }, { on := 11, ground := Ground.phase }, { on := 12, ground := Ground.phase }, { on := 13, ground := Ground.phase }, { on := 14, ground := Ground.phase }, { on := 15, ground := Ground.phase }, { on := 16, ground := Ground.phase }, { on := 17, ground := Ground.phase }], guard := none }) rfl (fun K hK => ?_) ?_
                  ·
                    go_simp
                    refine hK.out _ _ (by (first | exact KEEPS.out _ HB1.out | exact KEEPS.out _ HBA.out | exact KEEPS.out _ HBR1.out | exact KEEPS.out _ (HBR1.out.alloc HBR1.out.size _))) (fun hHeld => ?_)
                    clear hK K
                    (try simp only [Act.put, List.setIfInBounds_toArray, List.set_cons_zero, List.set_cons_succ])
                    refine wpAnyH_done (by kernel_rfl) ?_ _
                    go_wp2_with fail
                    go_roundw
                    case rel => exact ⟨j + 1, by omega, by go_num, Lib.hid ⟨_, _, HP1.out, by rw [List.length_append, HQL.out]; rfl, leb_take HY.out HLE.out (by simp), HB1.out⟩⟩
                    case measure => simp [intOf]; omega
                  exact AllReadyH.nil
                exact AllReadyH.nil
              exact AllReadyH.nil
            exact AllReadyH.nil
          | true =>
            go_wp2_with fail
            refine wp_region_held_drew (S := (fun W => W.cell? ⟨gn + 1 + 1, 1, none⟩ = some (.slice (some ⟨bo, oo, none⟩) q qc) ∧ W.cell? ⟨bo, oo + j, none⟩ = some (.bool true))) (by kernel_rfl) ?_ (fun hHeld => ?_)
            · exact KEEPS.out _ HBR1.out
            refine wpAnyH_take (i := 0) (oi := { dst := some 65, op := Op.fieldAddr 32 (Operand.tmp 9) 1, type := 0, pos := "law.go:116", after := #[], guard := none }) (v := ?_) rfl (by kernel_rfl) (by kernel_rfl) (by kernel_rfl) (fun _ _ _ h => h) (Or.inl ⟨by rfl, ?_⟩) (by assumption) ?_
            rotate_left
            · intro w hSw; (try dsimp only at hSw); go_simp; (try (with_reducible rfl))
            (try simp only [Act.put, List.setIfInBounds_toArray, List.set_cons_zero, List.set_cons_succ])
            refine wpAnyH_take (i := 2) (oi := { dst := some 67, op := Op.fieldAddr 32 (Operand.tmp 6) 1, type := 0, pos := "law.go:116", after := #[], guard := none }) (v := ?_) rfl (by kernel_rfl) (by kernel_rfl) (by kernel_rfl) (fun _ _ _ h => h) (Or.inl ⟨by rfl, ?_⟩) (by assumption) ?_
            rotate_left
            · intro w hSw; (try dsimp only at hSw); go_simp; (try (with_reducible rfl))
            (try simp only [Act.put, List.setIfInBounds_toArray, List.set_cons_zero, List.set_cons_succ])
            refine wpAnyH_take (i := 3) (oi := { dst := some 68, op := Op.load 27 (Operand.tmp 67), type := 27, pos := "law.go:116", after := #[{ on := 2, ground := Ground.data }], guard := none }) (v := ?_) rfl (by kernel_rfl) (by kernel_rfl) (by kernel_rfl) (fun _ _ _ h => h) (Or.inl ⟨by rfl, ?_⟩) (by assumption) ?_
            rotate_left
            · intro w hSw; (try dsimp only at hSw); go_simp; (try (with_reducible rfl))
            (try simp only [Act.put, List.setIfInBounds_toArray, List.set_cons_zero, List.set_cons_succ])
            refine wpAnyH_take (i := 4) (oi := { dst := some 69, op := Op.move (Operand.tmp 12), type := 3, pos := "law.go:116", after := #[], guard := none }) (v := ?_) rfl (by kernel_rfl) (by kernel_rfl) (by kernel_rfl) (fun _ _ _ h => h) (Or.inl ⟨by rfl, ?_⟩) (by assumption) ?_
            rotate_left
            · intro w hSw; (try dsimp only at hSw); go_simp; (try (with_reducible rfl))
            (try simp only [Act.put, List.setIfInBounds_toArray, List.set_cons_zero, List.set_cons_succ])
            refine wpAnyH_take (i := 5) (oi := { dst := some 70, op := Op.indexAddr 27 (Operand.tmp 68) (Operand.tmp 69), type := 0, pos := "law.go:116", after := #[{ on := 3, ground := Ground.data }, { on := 4, ground := Ground.data }], guard := none }) (v := ?_) rfl (by kernel_rfl) (by kernel_rfl) (by kernel_rfl) (fun _ _ _ h => h) (Or.inl ⟨by rfl, ?_⟩) (by assumption) ?_
            rotate_left
            · intro w hSw; (try dsimp only at hSw); go_simp; (try (with_reducible rfl))
            (try simp only [Act.put, List.setIfInBounds_toArray, List.set_cons_zero, List.set_cons_succ])
            refine wpAnyH_take (i := 6) (oi := { dst := some 71, op := Op.load 4 (Operand.tmp 70), type := 4, pos := "law.go:116", after := #[{ on := 5, ground := Ground.data }], guard := none }) (v := ?_) rfl (by kernel_rfl) (by kernel_rfl) (by kernel_rfl) (fun _ _ _ h => h) (Or.inl ⟨by rfl, ?_⟩) (by assumption) ?_
            rotate_left
            · intro w hSw; (try dsimp only at hSw); go_simp; (try (with_reducible rfl))
            (try simp only [Act.put, List.setIfInBounds_toArray, List.set_cons_zero, List.set_cons_succ])
            refine wpAnyH_take (i := 7) (oi := { dst := some 72, op := Op.move (Operand.tmp 71), type := 4, pos := "law.go:116", after := #[{ on := 6, ground := Ground.data }], guard := none }) (v := ?_) rfl (by kernel_rfl) (by kernel_rfl) (by kernel_rfl) (fun _ _ _ h => h) (Or.inl ⟨by rfl, ?_⟩) (by assumption) ?_
            rotate_left
            · intro w hSw; (try dsimp only at hSw); go_simp; (try (with_reducible rfl))
            (try simp only [Act.put, List.setIfInBounds_toArray, List.set_cons_zero, List.set_cons_succ])
            refine wpAnyH_take (i := 8) (oi := { dst := some 73, op := Op.move (Operand.tmp 3), type := 3, pos := "law.go:116", after := #[{ on := 7, ground := Ground.guard }], guard := some (7, true) }) (v := ?_) rfl (by kernel_rfl) (by kernel_rfl) (by kernel_rfl) (fun _ _ _ h => h) (Or.inl ⟨by rfl, ?_⟩) (by assumption) ?_
            rotate_left
            · intro w hSw; (try dsimp only at hSw); go_simp; (try (with_reducible rfl))
            (try simp only [Act.put, List.setIfInBounds_toArray, List.set_cons_zero, List.set_cons_succ])
            refine wpAnyH_take (i := 9) (oi := { dst := some 74, op := Op.move (Operand.tmp 12), type := 3, pos := "law.go:116", after := #[{ on := 7, ground := Ground.guard }], guard := some (7, true) }) (v := ?_) rfl (by kernel_rfl) (by kernel_rfl) (by kernel_rfl) (fun _ _ _ h => h) (Or.inl ⟨by rfl, ?_⟩) (by assumption) ?_
            rotate_left
            · intro w hSw; (try dsimp only at hSw); go_simp; (try (with_reducible rfl))
            (try simp only [Act.put, List.setIfInBounds_toArray, List.set_cons_zero, List.set_cons_succ])
            refine wpAnyH_take (i := 10) (oi := { dst := some 75, op := Op.binOp BinOp.add 3 (Operand.tmp 74) (Operand.const (Value.int IntKind.i64 8)) 3, type := 3, pos := "law.go:116", after := #[{ on := 9, ground := Ground.data }, { on := 7, ground := Ground.guard }], guard := some (7, true) }) (v := ?_) rfl (by kernel_rfl) (by kernel_rfl) (by kernel_rfl) (fun _ _ _ h => h) (Or.inl ⟨by rfl, ?_⟩) (by assumption) ?_
            rotate_left
            · intro w hSw; (try dsimp only at hSw); go_simp; (try (with_reducible rfl))
            (try simp only [Act.put, List.setIfInBounds_toArray, List.set_cons_zero, List.set_cons_succ])
            refine wpAnyH_take (i := 11) (oi := { dst := some 76, op := Op.convert 3 56 (Operand.tmp 75), type := 56, pos := "law.go:116", after := #[{ on := 10, ground := Ground.data }, { on := 7, ground := Ground.guard }], guard := some (7, true) }) (v := ?_) rfl (by kernel_rfl) (by kernel_rfl) (by kernel_rfl) (fun _ _ _ h => h) (Or.inl ⟨by rfl, ?_⟩) (by assumption) ?_
            rotate_left
            · intro w hSw; (try dsimp only at hSw); go_simp; (try (with_reducible rfl))
            (try simp only [Act.put, List.setIfInBounds_toArray, List.set_cons_zero, List.set_cons_succ])
            refine wpAnyH_take (i := 12) (oi := { dst := some 77, op := Op.binOp BinOp.shr 3 (Operand.tmp 73) (Operand.tmp 76) 56, type := 3, pos := "law.go:116", after := #[{ on := 8, ground := Ground.data }, { on := 11, ground := Ground.data }, { on := 7, ground := Ground.guard }], guard := some (7, true) }) (v := ?_) rfl (by kernel_rfl) (by kernel_rfl) (by kernel_rfl) (fun _ _ _ h => h) (Or.inl ⟨by rfl, ?_⟩) (by assumption) ?_
            rotate_left
            · intro w hSw; (try dsimp only at hSw); go_simp; (try (with_reducible rfl))
            (try simp only [Act.put, List.setIfInBounds_toArray, List.set_cons_zero, List.set_cons_succ])
            refine wpAnyH_take (i := 13) (oi := { dst := some 78, op := Op.binOp BinOp.and 3 (Operand.tmp 77) (Operand.const (Value.int IntKind.i64 1)) 3, type := 3, pos := "law.go:116", after := #[{ on := 12, ground := Ground.data }, { on := 7, ground := Ground.guard }], guard := some (7, true) }) (v := ?_) rfl (by kernel_rfl) (by kernel_rfl) (by kernel_rfl) (fun _ _ _ h => h) (Or.inl ⟨by rfl, ?_⟩) (by assumption) ?_
            rotate_left
            · intro w hSw; (try dsimp only at hSw); go_simp; (try (with_reducible rfl))
            (try simp only [Act.put, List.setIfInBounds_toArray, List.set_cons_zero, List.set_cons_succ])
            refine wpAnyH_take (i := 14) (oi := { dst := some 79, op := Op.binOp BinOp.eql 3 (Operand.tmp 78) (Operand.const (Value.int IntKind.i64 0)) 3, type := 4, pos := "law.go:116", after := #[{ on := 13, ground := Ground.data }, { on := 7, ground := Ground.guard }], guard := some (7, true) }) (v := ?_) rfl (by kernel_rfl) (by kernel_rfl) (by kernel_rfl) (fun _ _ _ h => h) (Or.inl ⟨by rfl, ?_⟩) (by assumption) ?_
            rotate_left
            · intro w hSw; (try dsimp only at hSw); go_simp; (try (with_reducible rfl))
            (try simp only [Act.put, List.setIfInBounds_toArray, List.set_cons_zero, List.set_cons_succ])
            refine wpAnyH_take (i := 15) (oi := { dst := some 80, op := Op.pick (Operand.tmp 72) (Operand.tmp 79) (Operand.const (Value.bool false)), type := 4, pos := "law.go:116", after := #[{ on := 7, ground := Ground.data }, { on := 14, ground := Ground.data }], guard := none }) (v := ?_) rfl (by kernel_rfl) (by kernel_rfl) (by kernel_rfl) (fun _ _ _ h => h) (Or.inl ⟨by rfl, ?_⟩) (by assumption) ?_
            rotate_left
            · intro w hSw; (try dsimp only at hSw); go_simp; (try (with_reducible rfl))
            (try simp only [Act.put, List.setIfInBounds_toArray, List.set_cons_zero, List.set_cons_succ])
            refine wpAnyH_ready (rs := [1, 16]) (by kernel_rfl) (by simp) ?_
            refine AllReadyH.cons (o := { dst := some 66, op := Op.load 27 (Operand.tmp 65), type := 27, pos := "law.go:116", after := #[{ on := 0, ground := Ground.data }], guard := none }) rfl (fun K hK => ?_) ?_
            ·
              go_simp
              refine hK.out _ _ (by (first | exact KEEPS.out _ HB1.out | exact KEEPS.out _ HBA.out | exact KEEPS.out _ HBR1.out | exact KEEPS.out _ (HBR1.out.alloc HBR1.out.size _))) (fun hHeld => ?_)
              clear hK K
              (try simp only [Act.put, List.setIfInBounds_toArray, List.set_cons_zero, List.set_cons_succ])
              refine wpAnyH_ready (rs := [16]) (by kernel_rfl) (by simp) ?_
              refine AllReadyH.cons (o := { dst := some 81, op := Op.buildSlice 27 1 #[(0, Operand.tmp 80)], type := 27, pos := "law.go:116", after := #[{ on := 15, ground := Ground.data }], guard := none }) rfl (fun K hK => ?_) ?_
              ·
                go_simp
                refine hK.out _ _ (by (first | exact KEEPS.out _ HB1.out | exact KEEPS.out _ HBA.out | exact KEEPS.out _ HBR1.out | exact KEEPS.out _ (HBR1.out.alloc HBR1.out.size _))) (fun hHeld => ?_)
                clear hK K
                (try simp only [Act.put, List.setIfInBounds_toArray, List.set_cons_zero, List.set_cons_succ])
                refine wpAnyH_ready (rs := [17]) (by kernel_rfl) (by simp) ?_
                refine AllReadyH.cons (o := { dst := some 82, op := Op.call { callee := Callee.builtin Builtin.append, args := #[Operand.tmp 66, Operand.tmp 81], argTypes := #[27, 27] }, type := 27, pos := "law.go:116", after := #[{ on := 1, ground := Ground.data }, { on := 16, ground := Ground.data }, { on := 7, ground := Ground.chain }], guard := none }) rfl (fun K hK => ?_) ?_
                ·
                  (refine step_append_any _ (by rfl) (.tmp 66) (.tmp 81) _ (by rfl) (gx + 1) 4 j0' _ 1 1 Tryd.underlying27 hj0 hy0 hy1 hy2 rfl (by omega) _ j (qs.flatMap flT.enc) (by rfl) (xb_own2 HQL.out ((HX.out.alloc _).drew)) (wr.heap.size + 1) _ 1 1 (flT.enc _) (by rfl) (box_reads flT wr #[.bool _] 4 _ rfl).drew (flT.one _) (by simp only [maxLen]; omega) (by omega) (by have := HX.out.le; simp; omega) ?_; intro v1 w1 hown1 hg1 hat1; obtain ⟨A1', c1', rfl⟩ := row_form hown1; have bx1 := ((HX.out.alloc (.cells #[.bool _] 4)).drew).blk2 hg1 |>.cell 1; have bf1 := ((HX.out.alloc (.cells #[.bool _] 4)).drew).blk2 hg1 |>.free 1; have HP1 := Lib.hid ((HX.out.alloc (.cells #[.bool _] 4)).drew.push2 hg1 (xb_snocT HQL.out hown1)); have HBA := Lib.hid ((below_drawn (HBR.out.alloc HBR.out.size (.cells #[.bool _] 4)) 1).grown hg1 (by have := HBR.out.size; simp; omega) (fun g hg => by have := HX.out.o2.base_ g hg; omega)); have HB1 := Lib.hid (((below_drawn (HBR.out.alloc HBR.out.size (.cells #[.bool _] 4)) 1).grown hg1 (by have := HBR.out.size; simp; omega) (fun g hg => by have := HX.out.o2.base_ g hg; omega)).setCell (p := ⟨gx, 1, none⟩) hgx (.slice A1' (j + 1) c1')); clear hown1 hg1 hat1)
                  refine hK.out _ _ (by (first | exact KEEPS.out _ HB1.out | exact KEEPS.out _ HBA.out | exact KEEPS.out _ HBR1.out | exact KEEPS.out _ (HBR1.out.alloc HBR1.out.size _))) (fun hHeld => ?_)
                  clear hK K
                  (try simp only [Act.put, List.setIfInBounds_toArray, List.set_cons_zero, List.set_cons_succ])
                  refine wpAnyH_take (i := 18) (oi := { dst := some 83, op := Op.fieldAddr 32 (Operand.tmp 9) 1, type := 0, pos := "law.go:116", after := #[{ on := 0, ground := Ground.phase }, { on := 1, ground := Ground.phase }, { on := 2, ground := Ground.phase }, { on := 3, ground := Ground.phase }, { on := 4, ground := Ground.phase }, { on := 5, ground := Ground.phase }, { on := 6, ground := Ground.phase }, { on := 7, ground := Ground.phase }, { on := 8, ground := Ground.phase }, { on := 9, ground := Ground.phase }, { on := 10, ground := Ground.phase }, { on := 11, ground := Ground.phase }, { on := 12, ground := Ground.phase }, { on := 13, ground := Ground.phase }, { on := 14, ground := Ground.phase }, { on := 15, ground := Ground.phase }, { on := 16, ground := Ground.phase }, { on := 17, ground := Ground.phase }], guard := none }) (v := ?_) rfl (by kernel_rfl) (by kernel_rfl) (by kernel_rfl) (fun _ _ _ h => h) (Or.inl ⟨by rfl, ?_⟩) (by assumption) ?_
                  rotate_left
                  · intro w hSw; (try dsimp only at hSw); go_simp; (try (with_reducible rfl))
                  (try simp only [Act.put, List.setIfInBounds_toArray, List.set_cons_zero, List.set_cons_succ])
                  refine wpAnyH_ready (rs := [19]) (by kernel_rfl) (by simp) ?_
                  refine AllReadyH.cons (o := { dst := none, op := Op.store 27 (Operand.tmp 83) (Operand.tmp 82), type := 0, pos := "law.go:116", after := #[{ on := 18, ground := Ground.data }, { on := 17, ground := Ground.data }, { on := 17, ground := Ground.chain }, { on := 0, ground := Ground.phase }, { on := 1, ground := Ground.phase }, { on := 2, ground := Ground.phase }, { on := 3, ground := Ground.phase }, { on := 4, ground := Ground.phase }, { on := 5, ground := Ground.phase }, { on := 6, ground := Ground.phase }, { on := 7, ground := Ground.phase }, { on := 8, ground := Ground.phase }, { on := 9, ground := Ground.phase }, { on := 10, ground := Ground.phase }, { on := 11, ground := Ground.phase }, { on := 12, ground := Ground.phase }, { on := 13, ground := Ground.phase }, { on := 14, ground := Ground.phase }, { on := 15, ground := Ground.phase }, { on := 16, ground := Ground.phase }, { on := 17, ground := Ground.phase }], guard := none }) rfl (fun K hK => ?_) ?_
                  ·
                    go_simp
                    refine hK.out _ _ (by (first | exact KEEPS.out _ HB1.out | exact KEEPS.out _ HBA.out | exact KEEPS.out _ HBR1.out | exact KEEPS.out _ (HBR1.out.alloc HBR1.out.size _))) (fun hHeld => ?_)
                    clear hK K
                    (try simp only [Act.put, List.setIfInBounds_toArray, List.set_cons_zero, List.set_cons_succ])
                    refine wpAnyH_done (by kernel_rfl) ?_ _
                    go_wp2_with fail
                    go_roundw
                    case rel => exact ⟨j + 1, by omega, by go_num, Lib.hid ⟨_, _, HP1.out, by rw [List.length_append, HQL.out]; rfl, leb_take HY.out HLE.out (by simp), HB1.out⟩⟩
                    case measure => simp [intOf]; omega
                  exact AllReadyH.nil
                exact AllReadyH.nil
              exact AllReadyH.nil
            refine AllReadyH.cons (o := { dst := some 81, op := Op.buildSlice 27 1 #[(0, Operand.tmp 80)], type := 27, pos := "law.go:116", after := #[{ on := 15, ground := Ground.data }], guard := none }) rfl (fun K hK => ?_) ?_
            ·
              go_simp
              refine hK.out _ _ (by (first | exact KEEPS.out _ HB1.out | exact KEEPS.out _ HBA.out | exact KEEPS.out _ HBR1.out | exact KEEPS.out _ (HBR1.out.alloc HBR1.out.size _))) (fun hHeld => ?_)
              clear hK K
              (try simp only [Act.put, List.setIfInBounds_toArray, List.set_cons_zero, List.set_cons_succ])
              refine wpAnyH_ready (rs := [1]) (by kernel_rfl) (by simp) ?_
              refine AllReadyH.cons (o := { dst := some 66, op := Op.load 27 (Operand.tmp 65), type := 27, pos := "law.go:116", after := #[{ on := 0, ground := Ground.data }], guard := none }) rfl (fun K hK => ?_) ?_
              ·
                go_simp
                refine hK.out _ _ (by (first | exact KEEPS.out _ HB1.out | exact KEEPS.out _ HBA.out | exact KEEPS.out _ HBR1.out | exact KEEPS.out _ (HBR1.out.alloc HBR1.out.size _))) (fun hHeld => ?_)
                clear hK K
                (try simp only [Act.put, List.setIfInBounds_toArray, List.set_cons_zero, List.set_cons_succ])
                refine wpAnyH_ready (rs := [17]) (by kernel_rfl) (by simp) ?_
                refine AllReadyH.cons (o := { dst := some 82, op := Op.call { callee := Callee.builtin Builtin.append, args := #[Operand.tmp 66, Operand.tmp 81], argTypes := #[27, 27] }, type := 27, pos := "law.go:116", after := #[{ on := 1, ground := Ground.data }, { on := 16, ground := Ground.data }, { on := 7, ground := Ground.chain }], guard := none }) rfl (fun K hK => ?_) ?_
                ·
                  (refine step_append_any _ (by rfl) (.tmp 66) (.tmp 81) _ (by rfl) (gx + 1) 4 j0' _ 1 1 Tryd.underlying27 hj0 hy0 hy1 hy2 rfl (by omega) _ j (qs.flatMap flT.enc) (by rfl) (xb_own2 HQL.out ((HX.out.alloc _).drew)) (wr.heap.size + 1) _ 1 1 (flT.enc _) (by rfl) (box_reads flT wr #[.bool _] 4 _ rfl).drew (flT.one _) (by simp only [maxLen]; omega) (by omega) (by have := HX.out.le; simp; omega) ?_; intro v1 w1 hown1 hg1 hat1; obtain ⟨A1', c1', rfl⟩ := row_form hown1; have bx1 := ((HX.out.alloc (.cells #[.bool _] 4)).drew).blk2 hg1 |>.cell 1; have bf1 := ((HX.out.alloc (.cells #[.bool _] 4)).drew).blk2 hg1 |>.free 1; have HP1 := Lib.hid ((HX.out.alloc (.cells #[.bool _] 4)).drew.push2 hg1 (xb_snocT HQL.out hown1)); have HBA := Lib.hid ((below_drawn (HBR.out.alloc HBR.out.size (.cells #[.bool _] 4)) 1).grown hg1 (by have := HBR.out.size; simp; omega) (fun g hg => by have := HX.out.o2.base_ g hg; omega)); have HB1 := Lib.hid (((below_drawn (HBR.out.alloc HBR.out.size (.cells #[.bool _] 4)) 1).grown hg1 (by have := HBR.out.size; simp; omega) (fun g hg => by have := HX.out.o2.base_ g hg; omega)).setCell (p := ⟨gx, 1, none⟩) hgx (.slice A1' (j + 1) c1')); clear hown1 hg1 hat1)
                  refine hK.out _ _ (by (first | exact KEEPS.out _ HB1.out | exact KEEPS.out _ HBA.out | exact KEEPS.out _ HBR1.out | exact KEEPS.out _ (HBR1.out.alloc HBR1.out.size _))) (fun hHeld => ?_)
                  clear hK K
                  (try simp only [Act.put, List.setIfInBounds_toArray, List.set_cons_zero, List.set_cons_succ])
                  refine wpAnyH_take (i := 18) (oi := { dst := some 83, op := Op.fieldAddr 32 (Operand.tmp 9) 1, type := 0, pos := "law.go:116", after := #[{ on := 0, ground := Ground.phase }, { on := 1, ground := Ground.phase }, { on := 2, ground := Ground.phase }, { on := 3, ground := Ground.phase }, { on := 4, ground := Ground.phase }, { on := 5, ground := Ground.phase }, { on := 6, ground := Ground.phase }, { on := 7, ground := Ground.phase }, { on := 8, ground := Ground.phase }, { on := 9, ground := Ground.phase }, { on := 10, ground := Ground.phase }, { on := 11, ground := Ground.phase }, { on := 12, ground := Ground.phase }, { on := 13, ground := Ground.phase }, { on := 14, ground := Ground.phase }, { on := 15, ground := Ground.phase }, { on := 16, ground := Ground.phase }, { on := 17, ground := Ground.phase }], guard := none }) (v := ?_) rfl (by kernel_rfl) (by kernel_rfl) (by kernel_rfl) (fun _ _ _ h => h) (Or.inl ⟨by rfl, ?_⟩) (by assumption) ?_
                  rotate_left
                  · intro w hSw; (try dsimp only at hSw); go_simp; (try (with_reducible rfl))
                  (try simp only [Act.put, List.setIfInBounds_toArray, List.set_cons_zero, List.set_cons_succ])
                  refine wpAnyH_ready (rs := [19]) (by kernel_rfl) (by simp) ?_
                  refine AllReadyH.cons (o := { dst := none, op := Op.store 27 (Operand.tmp 83) (Operand.tmp 82), type := 0, pos := "law.go:116", after := #[{ on := 18, ground := Ground.data }, { on := 17, ground := Ground.data }, { on := 17, ground := Ground.chain }, { on := 0, ground := Ground.phase }, { on := 1, ground := Ground.phase }, { on := 2, ground := Ground.phase }, { on := 3, ground := Ground.phase }, { on := 4, ground := Ground.phase }, { on := 5, ground := Ground.phase }, { on := 6, ground := Ground.phase }, { on := 7, ground := Ground.phase }, { on := 8, ground := Ground.phase }, { on := 9, ground := Ground.phase }, { on := 10, ground := Ground.phase }, { on := 11, ground := Ground.phase }, { on := 12, ground := Ground.phase }, { on := 13, ground := Ground.phase }, { on := 14, ground := Ground.phase }, { on := 15, ground := Ground.phase }, { on := 16, ground := Ground.phase }, { on := 17, ground := Ground.phase }], guard := none }) rfl (fun K hK => ?_) ?_
                  ·
                    go_simp
                    refine hK.out _ _ (by (first | exact KEEPS.out _ HB1.out | exact KEEPS.out _ HBA.out | exact KEEPS.out _ HBR1.out | exact KEEPS.out _ (HBR1.out.alloc HBR1.out.size _))) (fun hHeld => ?_)
                    clear hK K
                    (try simp only [Act.put, List.setIfInBounds_toArray, List.set_cons_zero, List.set_cons_succ])
                    refine wpAnyH_done (by kernel_rfl) ?_ _
                    go_wp2_with fail
                    go_roundw
                    case rel => exact ⟨j + 1, by omega, by go_num, Lib.hid ⟨_, _, HP1.out, by rw [List.length_append, HQL.out]; rfl, leb_take HY.out HLE.out (by simp), HB1.out⟩⟩
                    case measure => simp [intOf]; omega
                  exact AllReadyH.nil
                exact AllReadyH.nil
              exact AllReadyH.nil
            exact AllReadyH.nil
        · obtain rfl : j = q := by omega
          obtain ⟨G, H, cg, ch, e1, e2, hX⟩ := HX.out.outs (by rw [HEL.out]; omega) (by rw [HQL.out]; omega)
          rw [HEL.out] at e1 hX
          rw [HQL.out] at e2 hX
          injection e1 with e11 _ e13
          injection e2 with e21 _ e23
          subst e11 e13 e21 e23
          have hle : LeB qs O.proceed := by
            have := HLE.out
            rwa [List.take_of_length_le (by rw [HLEN.out.2]; exact Nat.le_refl _)] at this
          have KA := (Atmost_calls wr hX (HO.out.stay HBR.out))
          rw [less_atmost (by rw [HEL.out, HLEN.out.1]) HLD.out hle] at KA
          have KS := fun (W : World) (hb : Below wr.heap.size wr W) => Safe_calls W (HL.out.stay (below_more HBR.out hb)) (HI.out.stay (below_more HBR.out hb)) (hX.stay hb) HLO.out
          rw [less_safe (by rw [HEL.out, HLEN.out.1]) HLD.out hle HSF.out] at KS
          have HKA := Lib.hid KA
          have HKS := Lib.hid KS
          have KEEP2 := Lib.hid (fun (W : World) (hb : Below wr.heap.size wr W) => And.intro (KEEP.out W (below_more HBR.out hb)) (And.intro (cell_stay hb bx0) (cell_stay hb bx1)))
          have HBE := Lib.hid (below_more (by rw [HGN.out]; exact HBW.out) HBR.out)
          clear hlt KA KS hle hX bf1
          go_wp2_with (first
            | (go_at_call 19; refine HKA.out.mono ?_; rintro e w8 ⟨rfl, hb8⟩; have HB8 := Lib.hid hb8; obtain ⟨⟨l0, l1, l2, l3, i0, i1, o0, o1⟩, bx0, bx1⟩ := KEEP2.out _ hb8; clear hb8)
            | (go_at_call 11; refine (HKS.out w8 HB8.out).mono ?_; rintro e w9 ⟨rfl, hb9⟩; have HB9 := Lib.hid (below_more HB8.out hb9); clear hb9)
            | (go_at_call 15; refine (known_calls w9).mono ?_; rintro e w10 ⟨rfl, hb10⟩)
            | fail)
          go_ret
          exact ⟨rfl, below_more HBE.out (below_more HB9.out hb10)⟩
end
end Go.Proofs.YtmdggodkkkihhaaDoor

/- The plain law: what a lock tells the field may be, and its routes stand behind it. -/
set_option linter.unusedVariables false
set_option linter.unusedSimpArgs false
namespace Go.Proofs.YtmdggodkkkihhaaDoor
open Go.RowKit

theorem conflict_comm (r s : Nat) (x y : Rte) : conflictM r s x y = conflictM s r y x := by
  have a1 : decide ((r : Int) = s) = decide ((s : Int) = r) := by by_cases h : (r : Int) = s <;> simp [h, eq_comm]
  have a2 : decide (x.frm = y.frm) = decide (y.frm = x.frm) := by by_cases h : x.frm = y.frm <;> simp [h, eq_comm]
  have a3 : (x.path.any fun a => y.path.any fun z => decide (a = z)) = (y.path.any fun a => x.path.any fun z => decide (a = z)) := by
    rw [Bool.eq_iff_iff]
    simp only [List.any_eq_true, decide_eq_true_eq]
    constructor
    · rintro ⟨a, ha, z, hz, rfl⟩; exact ⟨a, hz, a, ha, rfl⟩
    · rintro ⟨a, ha, z, hz, rfl⟩; exact ⟨a, hz, a, ha, rfl⟩
  have a4 : ((x.points ++ x.flank).any fun n => (y.points ++ y.flank).any fun m => decide ((⟨n.p, !n.r⟩ : Need) = m)) = ((y.points ++ y.flank).any fun n => (x.points ++ x.flank).any fun m => decide ((⟨n.p, !n.r⟩ : Need) = m)) := by
    rw [Bool.eq_iff_iff]
    simp only [List.any_eq_true, decide_eq_true_eq]
    constructor
    · rintro ⟨a, ha, z, hz, rfl⟩; exact ⟨_, hz, a, ha, by simp⟩
    · rintro ⟨a, ha, z, hz, rfl⟩; exact ⟨_, hz, a, ha, by simp⟩
  unfold conflictM
  rw [a1, a2, a3, a4]
/-- No two that exclude one another are both not idle. -/
def NoClash (L : Lay) (rs : List Rs) : Prop := ∀ (i k : Nat) (x y : Rte) (r z : Rs), i ≠ k → L.rtes[i]? = some x → L.rtes[k]? = some y → rs[i]? = some r → rs[k]? = some z → r.m ≠ 0 → z.m ≠ 0 → conflictM i k x y = false
theorem step_idle {I : Inn} {x : Rte} {y : Rs} (h : y.m = 0) : (stepM I x y).m = 0 := by
  unfold stepM
  rw [if_neg (by omega), if_neg (by omega), if_neg (by omega), if_neg (by omega)]
  exact h
theorem next_none {L : Lay} {I : Inn} {rs : List Rs} (h : NoClash L rs) : NoClash L (nextM L I rs) := by
  intro i k x y r z hik hx hy hr hz hrm hzm
  have hl : ∀ {j : Nat} {v : Rs}, (nextM L I rs)[j]? = some v → j < rs.length := fun {j v} hv => by
    have := (List.getElem?_eq_some_iff.1 hv).1
    unfold nextM at this
    rw [steps_len] at this
    exact this
  obtain ⟨r', hr'⟩ : ∃ v, rs[i]? = some v := ⟨_, List.getElem?_eq_getElem (hl hr)⟩
  obtain ⟨z', hz'⟩ : ∃ v, rs[k]? = some v := ⟨_, List.getElem?_eq_getElem (hl hz)⟩
  rw [next_at hx hr'] at hr
  rw [next_at hy hz'] at hz
  cases hr
  cases hz
  exact h i k x y r' z' hik hx hy hr' hz' (fun e => hrm (step_idle e)) (fun e => hzm (step_idle e))
theorem set_cases {rs : List Rs} {r i : Nat} {v w : Rs} (h : (rs.set r v)[i]? = some w) : (i = r ∧ w = v) ∨ (i ≠ r ∧ rs[i]? = some w) := by
  by_cases hir : i = r
  · subst hir
    have hl := (List.getElem?_eq_some_iff.1 h).1
    rw [List.length_set] at hl
    rw [List.getElem?_set_self hl] at h
    exact .inl ⟨rfl, (Option.some.inj h).symm⟩
  · rw [List.getElem?_set_ne (fun e => hir e.symm)] at h
    exact .inr ⟨hir, h⟩
theorem call_none {L : Lay} {I : Inn} {rs : List Rs} {r : Nat} (hl : rs.length = L.rtes.length) (h : NoClash L rs) : NoClash L (callM L I rs r).1 := by
  unfold callM
  split
  · exact h
  · split
    · exact h
    · rename_i hany
      split
      · exact h
      · split
        · exact h
        · have hno : ∀ i, i < rs.length → clash L rs r i = false := fun i hi => by
            cases hc : clash L rs r i with
            | false => rfl
            | true => exact absurd (range_any_at hi hc) hany
          have key : ∀ (k : Nat) (x y : Rte) (z : Rs), k ≠ r → L.rtes[r]? = some x → L.rtes[k]? = some y → rs[k]? = some z → z.m ≠ 0 → conflictM r k x y = false := by
            intro k x y z hk hx hy hz hzm
            have := hno k (List.getElem?_eq_some_iff.1 hz).1
            unfold clash at this
            rw [hx, hy, hz] at this
            simp only [Bool.and_eq_false_iff, Bool.not_eq_false', beq_iff_eq] at this
            rcases this with e | e
            · exact absurd e hzm
            · exact e
          intro i k x y a z hik hx hy ha hz ham hzm
          rcases set_cases ha with ⟨rfl, rfl⟩ | ⟨hi, ha'⟩
          · rcases set_cases hz with ⟨rfl, rfl⟩ | ⟨hk, hz⟩
            · exact absurd rfl hik
            · exact key k x y z hk hx hy hz hzm
          · clear ha
            rcases set_cases hz with ⟨rfl, rfl⟩ | ⟨hk, hz'⟩
            · rw [conflict_comm]
              exact key i y x a hi hy hx ha' ham
            · exact h i k x y a z hik hx hy ha' hz' ham hzm
theorem call_ones {L : Lay} {I : Inn} {rs : List Rs} {r : Nat} (h : OnesOk L rs) : OnesOk L (callM L I rs r).1 := by
  unfold callM
  split
  · exact h
  · split
    · exact h
    · split
      · exact h
      · split
        · exact h
        · intro i x v hx hv
          rcases set_cases hv with ⟨rfl, rfl⟩ | ⟨hi, hv⟩
          · rfl
          · exact h i x v hx hv
theorem state_some {rs : List Rs} {r : Nat} (h : (stateAt rs r).m ≠ 0) : ∃ y, rs[r]? = some y ∧ stateAt rs r = y := by
  unfold stateAt at *
  cases hy : rs[r]? with
  | none => rw [hy] at h; exact absurd rfl h
  | some y => exact ⟨y, rfl, rfl⟩
theorem command_none {L : Lay} {I : Inn} {rs : List Rs} {kind route : Int} (hl : rs.length = L.rtes.length) (h : NoClash L rs) : NoClash L (commandM L I rs kind route).1 := by
  have keep : ∀ (r : Nat) (v : Rs), (stateAt rs r).m ≠ 0 → NoClash L (rs.set r v) := by
    intro r v hs i k x y a z hik hx hy ha hz ham hzm
    obtain ⟨u, hu, _⟩ := state_some hs
    have hum : u.m ≠ 0 := by
      unfold stateAt at hs
      rw [hu] at hs
      exact hs
    rcases set_cases ha with ⟨rfl, rfl⟩ | ⟨hi, ha'⟩
    · rcases set_cases hz with ⟨rfl, rfl⟩ | ⟨hk, hz⟩
      · exact absurd rfl hik
      · exact h i k x y u z hik hx hy hu hz hum hzm
    · clear ha
      rcases set_cases hz with ⟨rfl, rfl⟩ | ⟨hk, hz'⟩
      · exact h i k x y a u hik hx hy ha' hu ham hum
      · exact h i k x y a z hik hx hy ha' hz' ham hzm
  unfold commandM
  split
  · exact h
  · split
    · exact h
    · split
      · exact call_none hl h
      · split
        · rename_i h1
          exact keep _ _ (by omega)
        · split
          · rename_i h2
            exact keep _ _ (by omega)
          · exact h
theorem command_ones {L : Lay} {I : Inn} {rs : List Rs} {kind route : Int} (h : OnesOk L rs) : OnesOk L (commandM L I rs kind route).1 := by
  have keep : ∀ (r : Nat) (v : Rs), (∀ n, 1 ≤ n → oneM v n = true) → (∀ n, oneM v n = true) → OnesOk L (rs.set r v) := by
    intro r v _ hv i x a hx ha
    rcases set_cases ha with ⟨rfl, rfl⟩ | ⟨hi, ha⟩
    · exact hv _
    · exact h i x a hx ha
  unfold commandM
  split
  · exact h
  · split
    · exact h
    · split
      · exact call_ones h
      · split
        · exact keep _ _ (fun _ _ => rfl) (fun _ => rfl)
        · split
          · exact keep _ _ (fun _ _ => rfl) (fun _ => rfl)
          · exact h
theorem command_len {L : Lay} {I : Inn} {rs : List Rs} {kind route : Int} : (commandM L I rs kind route).1.length = rs.length := by
  unfold commandM
  split
  · rfl
  · split
    · rfl
    · split
      · unfold callM
        split
        · rfl
        · split
          · rfl
          · split
            · rfl
            · split
              · rfl
              · exact List.length_set ..
      · split
        · exact List.length_set ..
        · split
          · exact List.length_set ..
          · rfl
theorem next_len {L : Lay} {I : Inn} {rs : List Rs} : (nextM L I rs).length = rs.length := steps_len _
/-- Who drives a point. -/
def Driver (L : Lay) (I : Inn) (rs : List Rs) (p : Nat) (d : Int) : Prop := ∃ (i : Nat) (x : Rte) (r : Rs) (n : Need), L.rtes[i]? = some x ∧ rs[i]? = some r ∧ r.m = 1 ∧ n ∈ x.points ++ x.flank ∧ n.p.toNat = p ∧ drives L I rs i n = true ∧ d = posM n
theorem set_getD {dr : List Int} {j p : Nat} {v : Int} : (dr.set j v).getD p 0 = if p = j ∧ j < dr.length then v else dr.getD p 0 := by
  rw [List.getD_eq_getElem?_getD, List.getD_eq_getElem?_getD, List.getElem?_set]
  by_cases h : j = p
  · subst h
    by_cases hl : j < dr.length
    · rw [if_pos rfl, if_pos hl, if_pos ⟨rfl, hl⟩]; rfl
    · rw [if_pos rfl, if_neg hl, if_neg (fun h => hl h.2), List.getElem?_eq_none (by omega)]
  · rw [if_neg h, if_neg (fun h' => h h'.1.symm)]
theorem driveAll_from {L : Lay} {I : Inn} {rs : List Rs} {i : Nat} {x : Rte} {r : Rs} (hx : L.rtes[i]? = some x) (hr : rs[i]? = some r) (hm : r.m = 1) : ∀ (ns : List Need) (dr : List Int), (∀ n ∈ ns, n ∈ x.points ++ x.flank) →
    ∀ p, (driveAll L I rs i dr ns).getD p 0 = dr.getD p 0 ∨ Driver L I rs p ((driveAll L I rs i dr ns).getD p 0)
  | [], _, _, p => .inl rfl
  | n :: ns, dr, hn, p => by
    have ih := driveAll_from (I := I) hx hr hm ns (driveOne L I rs i dr n) (fun a ha => hn a (List.mem_cons_of_mem _ ha)) p
    have e : driveAll L I rs i dr (n :: ns) = driveAll L I rs i (driveOne L I rs i dr n) ns := rfl
    rw [e]
    rcases ih with ih | ih
    · unfold driveOne at ih ⊢
      split at ih
      · rename_i hd
        rw [if_pos hd]
        rw [set_getD] at ih
        by_cases hp : p = n.p.toNat ∧ n.p.toNat < dr.length
        · rw [if_pos hp] at ih
          right
          rw [ih]
          exact ⟨i, x, r, n, hx, hr, hm, hn n (List.mem_cons_self ..), hp.1.symm, hd, rfl⟩
        · rw [if_neg hp] at ih
          exact .inl ih
      · rename_i hd
        rw [if_neg hd]
        exact .inl ih
    · exact .inr ih
theorem out_drive {L : Lay} {I : Inn} {rs : List Rs} : ∀ (k p : Nat), (outTo L I rs k).drive.getD p 0 = 0 ∨ Driver L I rs p ((outTo L I rs k).drive.getD p 0)
  | 0, p => by
    left
    show (List.replicate _ (0 : Int)).getD p 0 = 0
    rw [List.getD_eq_getElem?_getD, List.getElem?_replicate]
    split <;> rfl
  | k + 1, p => by
    have ih := out_drive (L := L) (I := I) (rs := rs) k p
    show (driveOf L I rs k (outTo L I rs k).drive).getD p 0 = 0 ∨ Driver L I rs p ((driveOf L I rs k (outTo L I rs k).drive).getD p 0)
    unfold driveOf
    split
    · rename_i x r hx hr
      split
      · rename_i hm
        rcases driveAll_from hx hr hm (x.points ++ x.flank) (outTo L I rs k).drive (fun _ h => h) p with h | h
        · rw [h]; exact ih
        · exact .inr h
      · exact ih
    · exact ih
/-- Who lets a signal proceed. -/
def Goer (L : Lay) (I : Inn) (rs : List Rs) (s : Nat) : Prop := ∃ (i : Nat) (x : Rte) (r : Rs), L.rtes[i]? = some x ∧ rs[i]? = some r ∧ r.m = 2 ∧ x.frm.toNat = s ∧ clearM I x = true
theorem out_goes {L : Lay} {I : Inn} {rs : List Rs} : ∀ (k s : Nat), (outTo L I rs k).proceed.getD s false = true → Goer L I rs s
  | 0, s => by
    intro h
    have : (List.replicate L.sigs.length false).getD s false = true := h
    rw [List.getD_eq_getElem?_getD, List.getElem?_replicate] at this
    split at this <;> cases this
  | k + 1, s => by
    have ih := out_goes (L := L) (I := I) (rs := rs) k s
    show (goesOf L I rs k (outTo L I rs k).proceed).getD s false = true → _
    unfold goesOf
    split
    · rename_i x r hx hr
      split
      · rename_i hm
        intro h
        rw [List.getD_eq_getElem?_getD, List.getElem?_set] at h
        by_cases he : x.frm.toNat = s
        · exact ⟨k, x, r, hx, hr, hm.1, he, by rw [clear_parts, hm.2.1, hm.2.2]; rfl⟩
        · rw [if_neg he] at h
          exact ih (by rw [List.getD_eq_getElem?_getD]; exact h)
      · exact ih
    · exact ih
end Go.Proofs.YtmdggodkkkihhaaDoor

/- The plain law: what a lock tells the field is safe, and held. -/
set_option linter.unusedVariables false
set_option linter.unusedSimpArgs false
namespace Go.Proofs.YtmdggodkkkihhaaDoor
open Go.RowKit

theorem conflictI_of {L : Lay} {i k : Nat} {x y : Rte} (hx : L.rtes[i]? = some x) (hy : L.rtes[k]? = some y) : conflictI L (i : Int) (k : Int) = conflictM i k x y := by
  unfold conflictI
  rw [Int.toNat_natCast, Int.toNat_natCast, hx, hy]
/-- A way that was chosen: a locked route, from a signal ahead of s. -/
def Chosen (L : Lay) (rs : List Rs) (s : Nat) (q : Int) : Prop := ∃ (i : Nat) (x : Rte) (r : Rs), q = i ∧ L.rtes[i]? = some x ∧ rs[i]? = some r ∧ r.m = 2 ∧ 0 ≤ x.frm ∧ x.frm < s
theorem lock_ways {L : Lay} {I : Inn} {rs : List Rs} (hfr : ∀ x ∈ L.rtes, 0 ≤ x.frm) (hn : NoClash L rs) (pr : List Bool) (hg : ∀ s, pr.getD s false = true → Goer L I rs s) :
    ∀ (t : List Bool) (s : Nat) (ch : List Int), pr.drop s = t → (∀ q ∈ ch, Chosen L rs s q) → waysM L I s t ch = true
  | [], s, ch, _, _ => by simp [waysM]
  | b :: t, s, ch, hd, hc => by
    have hlt : s < pr.length := by
      have := congrArg List.length hd
      rw [List.length_drop, List.length_cons] at this
      omega
    have hbt : pr[s]? = some b ∧ pr.drop (s + 1) = t := by
      rw [List.drop_eq_getElem_cons hlt] at hd
      injection hd with h1 h2
      exact ⟨by rw [List.getElem?_eq_getElem hlt, h1], h2⟩
    have hc' : ∀ q ∈ ch, Chosen L rs (s + 1) q := by
      intro q hq
      obtain ⟨i, x, r, e, hx, hr, hm, h0, h1⟩ := hc q hq
      exact ⟨i, x, r, e, hx, hr, hm, h0, by omega⟩
    rw [waysM]
    cases b with
    | false =>
      rw [if_neg (by decide)]
      exact lock_ways hfr hn pr hg t (s + 1) ch hbt.2 hc'
    | true =>
      rw [if_pos rfl]
      obtain ⟨i, x, r, hx, hr, hm, hf, hcl⟩ := hg s (by rw [List.getD_eq_getElem?_getD, hbt.1]; rfl)
      have hf0 := hfr x (List.mem_of_getElem? hx)
      have hf' : x.frm = (s : Int) := by omega
      refine List.any_eq_true.2 ⟨(i : Int), entryTo_has hx hf' (List.getElem?_eq_some_iff.1 hx).1, ?_⟩
      have h1 : (ch.any fun q => conflictI L (i : Int) q) = false := by
        rw [List.any_eq_false]
        intro q hq
        obtain ⟨k, y, z, rfl, hy, hz, hzm, k0, k1⟩ := hc q hq
        rw [conflictI_of hx hy, hn i k x y r z (fun e => by subst e; rw [hx] at hy; cases hy; omega) hx hy hr hz (by omega) (by omega)]
        decide
      have h2 : clearI L I (i : Int) = true := by
        unfold clearI
        rw [Int.toNat_natCast, hx]
        exact hcl
      have h3 : waysM L I (s + 1) t (ch ++ [(i : Int)]) = true := by
        refine lock_ways hfr hn pr hg t (s + 1) _ hbt.2 (fun q hq => ?_)
        rcases List.mem_append.1 hq with hq | hq
        · exact hc' q hq
        · rw [List.mem_singleton.1 hq]
          exact ⟨i, x, r, rfl, hx, hr, hm, hf0, by omega⟩
      rw [h1, h2, h3]
      rfl
theorem lock_safe {L : Lay} {I : Inn} {rs : List Rs} (hfr : ∀ x ∈ L.rtes, 0 ≤ x.frm) (hmay : mayInM L I = true) (hn : NoClash L rs) (k : Nat) : safeM L I (outTo L I rs k) = true := by
  obtain ⟨e1, e2⟩ : I.occ.length = L.secs.length ∧ I.lies.length = L.pts.length := by
    unfold mayInM at hmay
    simp only [Bool.and_eq_true, decide_eq_true_eq] at hmay
    exact ⟨hmay.1.2, hmay.2⟩
  obtain ⟨l1, l2⟩ := out_len (L := L) (I := I) (rs := rs) k
  have hw := lock_ways (I := I) hfr hn (outTo L I rs k).proceed (fun s h => out_goes k s h) _ 0 [] rfl (fun q hq => by cases hq)
  rw [List.drop_zero] at hw
  unfold safeM
  rw [decide_eq_true e1, decide_eq_true e2, decide_eq_true l1, decide_eq_true l2, hw]
  simp only [Bool.true_and, Bool.and_true, Bool.not_eq_true']
  refine range_any_no (fun p hp => ?_)
  unfold dBad
  rcases out_drive (L := L) (I := I) (rs := rs) k p with h | h
  · rw [h]; rfl
  · obtain ⟨i, x, r, n, hx, hr, hm, hnn, hnp, hdv, hd⟩ := h
    unfold drives at hdv
    simp only [Bool.and_eq_true, Bool.not_eq_true'] at hdv
    have hsec : (L.pts[p]?.map Pt.sec).getD 0 = secOf L n.p := by unfold secOf; rw [hnp]
    rw [hsec, hdv.1.2]
    simp
theorem holder_at {L : Lay} {rs : List Rs} {sec : Int} {i : Nat} (hi : i < rs.length) (h : holdsAt L rs sec i = true) : ∃ j : Nat, holderM L rs sec = j ∧ holdsAt L rs sec j = true := by
  unfold holderM
  cases hf : (List.range rs.length).find? (holdsAt L rs sec) with
  | none =>
    have := List.find?_eq_none.1 hf i (List.mem_range.2 hi)
    rw [h] at this
    exact absurd rfl this
  | some j => exact ⟨j, rfl, List.find?_some hf⟩
theorem holds_in {x : Rte} {r : Rs} {sec : Int} (h : holdsM x r sec = true) : sec ∈ x.path ∧ r.m ≠ 0 := by
  unfold holdsM at h
  split at h
  · rename_i hm
    obtain ⟨a, ha, e⟩ := List.any_eq_true.1 h
    simp only [decide_eq_true_eq] at e
    subst e
    exact ⟨ha, by omega⟩
  · split at h
    · rename_i hm
      obtain ⟨a, ha, e⟩ := List.any_eq_true.1 h
      simp only [decide_eq_true_eq] at e
      subst e
      exact ⟨List.mem_of_mem_drop ha, by omega⟩
    · cases h
theorem conflict_path {i k : Nat} {x y : Rte} {sec : Int} (h1 : sec ∈ x.path) (h2 : sec ∈ y.path) : conflictM i k x y = true := by
  unfold conflictM
  rw [List.any_eq_true.2 ⟨sec, h1, List.any_eq_true.2 ⟨sec, h2, by simp⟩⟩]
  simp
theorem conflict_need {i k : Nat} {x y : Rte} {a b : Need} (h1 : a ∈ x.points ++ x.flank) (h2 : b ∈ y.points ++ y.flank) (hp : a.p = b.p) (hr : a.r ≠ b.r) : conflictM i k x y = true := by
  unfold conflictM
  rw [List.any_eq_true.2 ⟨a, h1, List.any_eq_true.2 ⟨b, h2, by
    obtain ⟨bp, br⟩ := b
    obtain ⟨ap, ar⟩ := a
    simp only at hp hr
    subst hp
    simp only [decide_eq_true_eq, Need.mk.injEq, true_and]
    cases ar <;> cases br <;> simp_all⟩⟩]
  simp
theorem pos_ne {a b : Need} (h : posM a ≠ posM b) : a.r ≠ b.r := by
  intro e
  unfold posM at h
  rw [e] at h
  exact h rfl
theorem need_has {ns : List Need} {p : Int} (h : needM ns p ≠ 0) : ∃ n ∈ ns, n.p = p ∧ needM ns p = posM n := by
  unfold needM at h ⊢
  cases hf : ns.find? (fun n => decide (n.p = p)) with
  | none => rw [hf] at h; exact absurd rfl h
  | some n =>
    have := List.find?_some hf
    simp only [decide_eq_true_eq] at this
    exact ⟨n, List.mem_of_find?_eq_some hf, this, rfl⟩
theorem lock_held {L : Lay} {I : Inn} {rs : List Rs} (hok : IsOk L) (hfr : ∀ x ∈ L.rtes, 0 ≤ x.frm) (hmay : mayInM L I = true) (hl : rs.length = L.rtes.length) (hn : NoClash L rs) (k : Nat) : heldM L I (outTo L I rs k) rs = true := by
  have hs := lock_safe hfr hmay hn k
  obtain ⟨l1, l2⟩ := out_len (L := L) (I := I) (rs := rs) k
  unfold heldM
  rw [decide_eq_true hl, hs]
  simp only [Bool.true_and, Bool.and_eq_true, Bool.not_eq_true']
  refine ⟨range_any_no (fun s hs' => ?_), range_any_no (fun p hp => ?_)⟩
  · cases hpr : (outTo L I rs k).proceed.getD s false with
    | false => rfl
    | true =>
      obtain ⟨i, x, r, hx, hr, hm, hf, hcl⟩ := out_goes k s hpr
      have hf0 := hfr x (List.mem_of_getElem? hx)
      have : lockedM L rs s = true := by
        unfold lockedM
        refine List.any_eq_true.2 ⟨(i : Int), entryTo_has hx (show x.frm = (s : Int) by omega) (List.getElem?_eq_some_iff.1 hx).1, ?_⟩
        rw [Int.toNat_natCast, hr]
        simp [hm]
      rw [this]
      rfl
  · unfold hBads
    rcases out_drive (L := L) (I := I) (rs := rs) k p with h | h
    · rw [h]; rfl
    · obtain ⟨j, y, z, n, hy, hz, hzm, hnn, hnp, hdv, hd⟩ := h
      have hnp' : n.p = (p : Int) := by
        have := (hok.lay.need y (List.mem_of_getElem? hy) n hnn).1
        omega
      have hsec : ∀ v, L.pts[p]? = some v → v.sec = secOf L n.p := fun v hv => by unfold secOf; rw [hnp, hv]; rfl
      have hall : (List.range rs.length).any (hBad L (outTo L I rs k) rs p) = false := by
        refine range_any_no (fun i hi => ?_)
        obtain ⟨r, hr⟩ : ∃ r, rs[i]? = some r := ⟨_, List.getElem?_eq_getElem hi⟩
        obtain ⟨x, hx⟩ : ∃ x, L.rtes[i]? = some x := ⟨_, List.getElem?_eq_getElem (by omega)⟩
        obtain ⟨v, hv⟩ : ∃ v, L.pts[p]? = some v := ⟨_, List.getElem?_eq_getElem (by omega)⟩
        have hox := route_once (hok.rts x (List.mem_of_getElem? hx))
        have hoy := route_once (hok.rts y (List.mem_of_getElem? hy))
        have hd0 : (outTo L I rs k).drive.getD p 0 ≠ 0 := by rw [hd]; rcases pos_two n with e | e <;> rw [e] <;> decide
        unfold hBad
        rw [hx, hr, hv]
        show barsM x r p v.sec _ = false
        rw [bars_eq hox hd0, hd, hsec v hv]
        by_cases hnd : needM (x.points ++ x.flank) (p : Int) = posM n
        · rw [hnd]; simp
        · have hij : i ≠ j := by
            intro e
            subst e
            rw [hx] at hy
            cases hy
            rw [← hnp', need_in hox hnn] at hnd
            exact hnd rfl
          have hno : r.m ≠ 0 → conflictM i j x y = false := fun h0 => hn i j x y r z hij hx hy hr hz h0 (by omega)
          have q1 : (((r.m == 2) || (r.m == 3) || (r.m == 4)) && (needM (x.points ++ x.flank) (p : Int) != 0)) = false := by
            cases hst : ((r.m == 2) || (r.m == 3) || (r.m == 4)) with
            | false => rfl
            | true =>
              have hr0 : r.m ≠ 0 := by
                intro e
                rw [e] at hst
                cases hst
              cases hz0 : (needM (x.points ++ x.flank) (p : Int) != 0) with
              | false => rfl
              | true =>
                exfalso
                obtain ⟨a, ha, hap, hae⟩ := need_has (by simpa using hz0 : needM (x.points ++ x.flank) (p : Int) ≠ 0)
                have hc := conflict_need (i := i) (k := j) ha hnn (by rw [hap, hnp']) (pos_ne (by rw [← hae]; exact hnd))
                rw [hno hr0] at hc
                cases hc
          have q2 : holdsM x r (secOf L n.p) = false := by
            cases hh : holdsM x r (secOf L n.p) with
            | false => rfl
            | true =>
              exfalso
              have hat : holdsAt L rs (secOf L n.p) i = true := by unfold holdsAt; rw [hx, hr]; exact hh
              obtain ⟨h, he, hhat⟩ := holder_at hi hat
              unfold drives at hdv
              simp only [Bool.and_eq_true, Bool.or_eq_true, decide_eq_true_eq] at hdv
              have hhj : h = j := by
                rcases hdv.2 with e | e
                · rw [he] at e; omega
                · rw [he] at e; omega
              subst hhj
              unfold holdsAt at hhat
              rw [hy, hz] at hhat
              obtain ⟨m1, m2⟩ := holds_in hh
              obtain ⟨m3, _⟩ := holds_in hhat
              have hc := conflict_path (i := i) (k := h) m1 m3
              rw [hno m2] at hc
              cases hc
          rw [q1, q2]
          rfl
      rw [hall]
      simp
theorem lock_atmost {O : Ou} {a b : Nat} (h1 : O.drive.length = a) (h2 : O.proceed.length = b) : atmostM ⟨List.replicate a 0, List.replicate b false⟩ O = true := by
  have z1 : ∀ i, (List.replicate a (0 : Int)).getD i 0 = 0 := fun i => by
    rw [List.getD_eq_getElem?_getD, List.getElem?_replicate]
    split <;> rfl
  have z2 : ∀ i, (List.replicate b false).getD i false = false := fun i => by
    rw [List.getD_eq_getElem?_getD, List.getElem?_replicate]
    split <;> rfl
  rw [atmost_iff]
  refine ⟨by simp [h1], by simp [h2], fun i _ => ?_, fun i _ => ?_⟩
  · unfold pBad
    rw [z2]
    rfl
  · unfold rBad
    rw [z1]
    rfl
end Go.Proofs.YtmdggodkkkihhaaDoor
