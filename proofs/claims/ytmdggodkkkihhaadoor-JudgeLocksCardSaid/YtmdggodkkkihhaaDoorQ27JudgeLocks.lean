/- Texts put together for a claim. -/
import Derived.Test.YtmdggodkkkihhaaDoorQ26JudgeLocks
import Derived.Test.YtmdggodkkkihhaaDoorInv
set_option linter.unusedVariables false
set_option linter.unusedSimpArgs false
namespace Go.Proofs.YtmdggodkkkihhaaDoor
open Go.RowKit
theorem oneL_ok : LayOk oneL := by
  refine ⟨by decide, by decide, ?_, ?_, ?_, ?_⟩
  · intro x hx a ha
    obtain rfl : x = oneR := by simpa [oneL] using hx
    obtain rfl : a = 0 := by simpa [oneR] using ha
    decide
  · intro x hx a ha
    obtain rfl : x = oneR := by simpa [oneL] using hx
    obtain rfl : a = ⟨0, false⟩ := by simpa [oneR] using ha
    decide
  · intro x hx
    obtain rfl : x = oneR := by simpa [oneL] using hx
    decide
  · intro x hx
    obtain rfl : x = ⟨bt [112], 0⟩ := by simpa [oneL] using hx
    decide
theorem known_safe : safeM oneL ⟨[false, false], [1]⟩ ⟨[0], [false, false]⟩ = true := by decide
theorem known_held : heldM oneL ⟨[false, false], [1]⟩ ⟨[0], [false, false]⟩ [⟨0, 0, 0, false⟩] = true := by decide
theorem known_atmost : atmostM ⟨[0], [false, false]⟩ ⟨[0], [false, false]⟩ = true := by decide
theorem mk_rs1 (w : World) : (Instr.makeSlice 33 (.int .i64 1) (.int .i64 1)).run Tryd.prog w = .ok (.slice (some ⟨w.heap.size, 0, none⟩) 1 1) (w.alloc (.cells #[.int .i64 0, .int .i64 0, .int .i64 0, .bool false] 69)) := by kernel_rfl
/-- A slice of the call's own, and what lies there. -/
def RowAt (B : Nat) (v : Value) (n : Nat) (cs : Array Value) (t : TypeId) (w : World) : Prop := ∃ g, v = .slice (some ⟨g, 0, none⟩) n n ∧ B ≤ g ∧ Blk w g cs t (0, 0)
/-- A box of the call's own. -/
def BoxAt (B : Nat) (v : Value) (cs : Array Value) (t : TypeId) (w : World) : Prop := ∃ g, v = .pointer (some ⟨g, 0, none⟩) ∧ B ≤ g ∧ Blk w g cs t (0, 0)
theorem RowAt.alloc {B n : Nat} {v : Value} {cs : Array Value} {t : TypeId} {w : World} (h : RowAt B v n cs t w) (o : Obj) : RowAt B v n cs t (w.alloc o) := by
  obtain ⟨g, h1, h2, h3⟩ := h
  exact ⟨g, h1, h2, h3.alloc o⟩
theorem BoxAt.alloc {B : Nat} {v : Value} {cs : Array Value} {t : TypeId} {w : World} (h : BoxAt B v cs t w) (o : Obj) : BoxAt B v cs t (w.alloc o) := by
  obtain ⟨g, h1, h2, h3⟩ := h
  exact ⟨g, h1, h2, h3.alloc o⟩
theorem blk_ne {w : World} {g k : Nat} {cs ds : Array Value} {t u : TypeId} {fr fs : Nat × Nat} (h : Blk w g cs t fr) (h' : Blk w k ds u fs) (hn : t ≠ u) : g ≠ k := by
  rintro rfl
  unfold Blk at h h'
  rw [h] at h'
  injection h' with h'
  injection h' with _ h'
  exact hn h'
/-- What was there is there but for the blocks of one type. -/
def Off (u : TypeId) (w w' : World) : Prop := ∀ g cs t fr, Blk w g cs t fr → t ≠ u → Blk w' g cs t fr
theorem off_set {w : World} {k : Nat} {ds : Array Value} {u : TypeId} {fs : Nat × Nat} (h : Blk w k ds u fs) (i : Nat) (v : Value) : Off u w (w.setCell ⟨k, i, none⟩ v) := fun g cs t fr hb hn => hb.far (blk_ne hb h hn) v
theorem Off.trans {u : TypeId} {w w1 w2 : World} (h : Off u w w1) (k : Off u w1 w2) : Off u w w2 := fun g cs t fr hb hn => k g cs t fr (h g cs t fr hb hn) hn
theorem RowAt.off {B n : Nat} {v : Value} {cs : Array Value} {t u : TypeId} {w w' : World} (h : RowAt B v n cs t w) (ho : Off u w w') (hn : t ≠ u) : RowAt B v n cs t w' := by
  obtain ⟨g, h1, h2, h3⟩ := h
  exact ⟨g, h1, h2, ho _ _ _ _ h3 hn⟩
theorem BoxAt.off {B : Nat} {v : Value} {cs : Array Value} {t u : TypeId} {w w' : World} (h : BoxAt B v cs t w) (ho : Off u w w') (hn : t ≠ u) : BoxAt B v cs t w' := by
  obtain ⟨g, h1, h2, h3⟩ := h
  exact ⟨g, h1, h2, ho _ _ _ _ h3 hn⟩
/-- Two rows as one value. -/
def TwoAt (B : Nat) (v : Value) (n : Nat) (cs : Array Value) (t : TypeId) (m : Nat) (ds : Array Value) (u : TypeId) (w : World) : Prop := ∃ x y, v = .agg #[x, y] ∧ RowAt B x n cs t w ∧ RowAt B y m ds u w
theorem TwoAt.alloc {B n m : Nat} {v : Value} {cs ds : Array Value} {t u : TypeId} {w : World} (h : TwoAt B v n cs t m ds u w) (o : Obj) : TwoAt B v n cs t m ds u (w.alloc o) := by
  obtain ⟨x, y, h1, h2, h3⟩ := h
  exact ⟨x, y, h1, h2.alloc o, h3.alloc o⟩
theorem TwoAt.off {B n m : Nat} {v : Value} {cs ds : Array Value} {t u r : TypeId} {w w' : World} (h : TwoAt B v n cs t m ds u w) (ho : Off r w w') (h1 : t ≠ r) (h2 : u ≠ r) : TwoAt B v n cs t m ds u w' := by
  obtain ⟨x, y, e, k1, k2⟩ := h
  exact ⟨x, y, e, k1.off ho h1, k2.off ho h2⟩
/-- A box that holds two rows. -/
def PutAt (B : Nat) (v : Value) (T : TypeId) (n : Nat) (cs : Array Value) (t : TypeId) (m : Nat) (ds : Array Value) (u : TypeId) (w : World) : Prop := ∃ x y, BoxAt B v #[x, y] T w ∧ RowAt B x n cs t w ∧ RowAt B y m ds u w
theorem PutAt.alloc {B n m : Nat} {v : Value} {cs ds : Array Value} {T t u : TypeId} {w : World} (h : PutAt B v T n cs t m ds u w) (o : Obj) : PutAt B v T n cs t m ds u (w.alloc o) := by
  obtain ⟨x, y, h1, h2, h3⟩ := h
  exact ⟨x, y, h1.alloc o, h2.alloc o, h3.alloc o⟩
theorem PutAt.off {B n m : Nat} {v : Value} {cs ds : Array Value} {T t u r : TypeId} {w w' : World} (h : PutAt B v T n cs t m ds u w) (ho : Off r w w') (h0 : T ≠ r) (h1 : t ≠ r) (h2 : u ≠ r) : PutAt B v T n cs t m ds u w' := by
  obtain ⟨x, y, k0, k1, k2⟩ := h
  exact ⟨x, y, k0.off ho h0, k1.off ho h1, k2.off ho h2⟩
structure KnI (w0 : World) (L : Nat → Bool) (v1 v2 v4 v5 v6 v7 v8 v9 : Value) (w : World) : Prop where
  hb : Below w0.heap.size w0 w
  f0 : L 0 = true → RowAt w0.heap.size v4 2 #[.bool false, .bool false] 4 w
  f1 : L 1 = true → RowAt w0.heap.size v5 1 #[.int .i64 1] 3 w
  f2 : L 2 = true → TwoAt w0.heap.size v6 2 #[.bool false, .bool false] 4 1 #[.int .i64 1] 3 w
  f3 : L 3 = true → RowAt w0.heap.size v7 1 #[.int .i64 0] 3 w
  f4 : L 4 = true → RowAt w0.heap.size v8 2 #[.bool false, .bool false] 4 w
  f5 : L 5 = true → TwoAt w0.heap.size v9 1 #[.int .i64 0] 3 2 #[.bool false, .bool false] 4 w
  f6 : L 6 = true → L 8 = false → BoxAt w0.heap.size v1 #[.slice none 0 0, .slice none 0 0] 30 w
  f7 : L 7 = true → L 9 = false → BoxAt w0.heap.size v2 #[.slice none 0 0, .slice none 0 0] 32 w
  f8 : L 8 = true → L 6 = true ∧ PutAt w0.heap.size v1 30 2 #[.bool false, .bool false] 4 1 #[.int .i64 1] 3 w
  f9 : L 9 = true → L 7 = true ∧ PutAt w0.heap.size v2 32 1 #[.int .i64 0] 3 2 #[.bool false, .bool false] 4 w
theorem upn {L : Nat → Bool} {i j : Nat} (h : up L i j = true) (hn : j ≠ i) : L j = true := by rwa [up_other L hn] at h
theorem upf {L : Nat → Bool} {i j : Nat} (h : up L i j = false) (hn : j ≠ i) : L j = false := by rwa [up_other L hn] at h
theorem upt {L : Nat → Bool} {i j : Nat} (h : L j = true) : up L i j = true := by
  unfold up
  split
  · rfl
  · exact h
theorem mk_bool2 (w : World) : (Instr.makeSlice 27 (.int .i64 2) (.int .i64 2)).run Tryd.prog w = .ok (.slice (some ⟨w.heap.size, 0, none⟩) 2 2) (w.alloc (.cells #[.bool false, .bool false] 4)) := by kernel_rfl
theorem mk_int1 (w : World) : (Instr.makeSlice 28 (.int .i64 1) (.int .i64 1)).run Tryd.prog w = .ok (.slice (some ⟨w.heap.size, 0, none⟩) 1 1) (w.alloc (.cells #[.int .i64 0] 3)) := by kernel_rfl
section
variable {w0 w : World} {L : Nat → Bool} {v1 v2 v4 v5 v6 v7 v8 v9 : Value} (h : KnI w0 L v1 v2 v4 v5 v6 v7 v8 v9 w)
include h
theorem KnI.d8 (i : Nat) (hi : L 6 = false) : L 8 = false := by
  cases h8 : L 8 with
  | false => rfl
  | true => have := (h.f8 h8).1; rw [hi] at this; cases this
theorem KnI.d9 (i : Nat) (hi : L 7 = false) : L 9 = false := by
  cases h8 : L 9 with
  | false => rfl
  | true => have := (h.f9 h8).1; rw [hi] at this; cases this
theorem KnI.size : w0.heap.size ≤ w.heap.size := h.hb.size
theorem KnI.s0 : KnI w0 (up L 0) v1 v2 (.slice (some ⟨w.heap.size, 0, none⟩) 2 2) v5 v6 v7 v8 v9 (w.alloc (.cells #[.bool false, .bool false] 4)) := by
  refine ⟨h.hb.alloc h.size _, fun _ => ⟨_, rfl, h.size, Blk.new _ _ _ _⟩, fun e => (h.f1 (upn e (by decide))).alloc _, fun e => (h.f2 (upn e (by decide))).alloc _, fun e => (h.f3 (upn e (by decide))).alloc _, fun e => (h.f4 (upn e (by decide))).alloc _, fun e => (h.f5 (upn e (by decide))).alloc _, fun e k => (h.f6 (upn e (by decide)) (upf k (by decide))).alloc _, fun e k => (h.f7 (upn e (by decide)) (upf k (by decide))).alloc _, fun e => ⟨upt (h.f8 (upn e (by decide))).1, (h.f8 (upn e (by decide))).2.alloc _⟩, fun e => ⟨upt (h.f9 (upn e (by decide))).1, (h.f9 (upn e (by decide))).2.alloc _⟩⟩
theorem KnI.s1 : KnI w0 (up L 1) v1 v2 v4 (.slice (some ⟨w.heap.size, 0, none⟩) 1 1) v6 v7 v8 v9 (w.alloc (.cells #[.int .i64 1] 3)) := by
  refine ⟨h.hb.alloc h.size _, fun e => (h.f0 (upn e (by decide))).alloc _, fun _ => ⟨_, rfl, h.size, Blk.new _ _ _ _⟩, fun e => (h.f2 (upn e (by decide))).alloc _, fun e => (h.f3 (upn e (by decide))).alloc _, fun e => (h.f4 (upn e (by decide))).alloc _, fun e => (h.f5 (upn e (by decide))).alloc _, fun e k => (h.f6 (upn e (by decide)) (upf k (by decide))).alloc _, fun e k => (h.f7 (upn e (by decide)) (upf k (by decide))).alloc _, fun e => ⟨upt (h.f8 (upn e (by decide))).1, (h.f8 (upn e (by decide))).2.alloc _⟩, fun e => ⟨upt (h.f9 (upn e (by decide))).1, (h.f9 (upn e (by decide))).2.alloc _⟩⟩
theorem KnI.s2 (h0 : L 0 = true) (h1 : L 1 = true) : KnI w0 (up L 2) v1 v2 v4 v5 (.agg #[v4, v5]) v7 v8 v9 w := by
  refine ⟨h.hb, fun e => (h.f0 (upn e (by decide))), fun e => (h.f1 (upn e (by decide))), fun _ => ⟨_, _, rfl, h.f0 h0, h.f1 h1⟩, fun e => (h.f3 (upn e (by decide))), fun e => (h.f4 (upn e (by decide))), fun e => (h.f5 (upn e (by decide))), fun e k => (h.f6 (upn e (by decide)) (upf k (by decide))), fun e k => (h.f7 (upn e (by decide)) (upf k (by decide))), fun e => ⟨upt (h.f8 (upn e (by decide))).1, (h.f8 (upn e (by decide))).2⟩, fun e => ⟨upt (h.f9 (upn e (by decide))).1, (h.f9 (upn e (by decide))).2⟩⟩
theorem KnI.s3 : KnI w0 (up L 3) v1 v2 v4 v5 v6 (.slice (some ⟨w.heap.size, 0, none⟩) 1 1) v8 v9 (w.alloc (.cells #[.int .i64 0] 3)) := by
  refine ⟨h.hb.alloc h.size _, fun e => (h.f0 (upn e (by decide))).alloc _, fun e => (h.f1 (upn e (by decide))).alloc _, fun e => (h.f2 (upn e (by decide))).alloc _, fun _ => ⟨_, rfl, h.size, Blk.new _ _ _ _⟩, fun e => (h.f4 (upn e (by decide))).alloc _, fun e => (h.f5 (upn e (by decide))).alloc _, fun e k => (h.f6 (upn e (by decide)) (upf k (by decide))).alloc _, fun e k => (h.f7 (upn e (by decide)) (upf k (by decide))).alloc _, fun e => ⟨upt (h.f8 (upn e (by decide))).1, (h.f8 (upn e (by decide))).2.alloc _⟩, fun e => ⟨upt (h.f9 (upn e (by decide))).1, (h.f9 (upn e (by decide))).2.alloc _⟩⟩
theorem KnI.s4 : KnI w0 (up L 4) v1 v2 v4 v5 v6 v7 (.slice (some ⟨w.heap.size, 0, none⟩) 2 2) v9 (w.alloc (.cells #[.bool false, .bool false] 4)) := by
  refine ⟨h.hb.alloc h.size _, fun e => (h.f0 (upn e (by decide))).alloc _, fun e => (h.f1 (upn e (by decide))).alloc _, fun e => (h.f2 (upn e (by decide))).alloc _, fun e => (h.f3 (upn e (by decide))).alloc _, fun _ => ⟨_, rfl, h.size, Blk.new _ _ _ _⟩, fun e => (h.f5 (upn e (by decide))).alloc _, fun e k => (h.f6 (upn e (by decide)) (upf k (by decide))).alloc _, fun e k => (h.f7 (upn e (by decide)) (upf k (by decide))).alloc _, fun e => ⟨upt (h.f8 (upn e (by decide))).1, (h.f8 (upn e (by decide))).2.alloc _⟩, fun e => ⟨upt (h.f9 (upn e (by decide))).1, (h.f9 (upn e (by decide))).2.alloc _⟩⟩
theorem KnI.s5 (h3 : L 3 = true) (h4 : L 4 = true) : KnI w0 (up L 5) v1 v2 v4 v5 v6 v7 v8 (.agg #[v7, v8]) w := by
  refine ⟨h.hb, fun e => (h.f0 (upn e (by decide))), fun e => (h.f1 (upn e (by decide))), fun e => (h.f2 (upn e (by decide))), fun e => (h.f3 (upn e (by decide))), fun e => (h.f4 (upn e (by decide))), fun _ => ⟨_, _, rfl, h.f3 h3, h.f4 h4⟩, fun e k => (h.f6 (upn e (by decide)) (upf k (by decide))), fun e k => (h.f7 (upn e (by decide)) (upf k (by decide))), fun e => ⟨upt (h.f8 (upn e (by decide))).1, (h.f8 (upn e (by decide))).2⟩, fun e => ⟨upt (h.f9 (upn e (by decide))).1, (h.f9 (upn e (by decide))).2⟩⟩
theorem KnI.s6 (hn : L 6 = false) : KnI w0 (up L 6) (.pointer (some ⟨w.heap.size, 0, none⟩)) v2 v4 v5 v6 v7 v8 v9 (w.alloc (.cells #[.slice none 0 0, .slice none 0 0] 30)) := by
  have h8 := h.d8 0 hn
  refine ⟨h.hb.alloc h.size _, fun e => (h.f0 (upn e (by decide))).alloc _, fun e => (h.f1 (upn e (by decide))).alloc _, fun e => (h.f2 (upn e (by decide))).alloc _, fun e => (h.f3 (upn e (by decide))).alloc _, fun e => (h.f4 (upn e (by decide))).alloc _, fun e => (h.f5 (upn e (by decide))).alloc _, fun _ _ => ⟨_, rfl, h.size, Blk.new _ _ _ _⟩, fun e k => (h.f7 (upn e (by decide)) (upf k (by decide))).alloc _, fun e => absurd ((upn e (by decide)).symm.trans h8) (by decide), fun e => ⟨upt (h.f9 (upn e (by decide))).1, (h.f9 (upn e (by decide))).2.alloc _⟩⟩
theorem KnI.s7 (hn : L 7 = false) : KnI w0 (up L 7) v1 (.pointer (some ⟨w.heap.size, 0, none⟩)) v4 v5 v6 v7 v8 v9 (w.alloc (.cells #[.slice none 0 0, .slice none 0 0] 32)) := by
  have h8 := h.d9 0 hn
  refine ⟨h.hb.alloc h.size _, fun e => (h.f0 (upn e (by decide))).alloc _, fun e => (h.f1 (upn e (by decide))).alloc _, fun e => (h.f2 (upn e (by decide))).alloc _, fun e => (h.f3 (upn e (by decide))).alloc _, fun e => (h.f4 (upn e (by decide))).alloc _, fun e => (h.f5 (upn e (by decide))).alloc _, fun e k => (h.f6 (upn e (by decide)) (upf k (by decide))).alloc _, fun _ _ => ⟨_, rfl, h.size, Blk.new _ _ _ _⟩, fun e => ⟨upt (h.f8 (upn e (by decide))).1, (h.f8 (upn e (by decide))).2.alloc _⟩, fun e => absurd ((upn e (by decide)).symm.trans h8) (by decide)⟩
theorem KnI.s8 {g : Nat} {x y : Value} (h6 : L 6 = true) (hg : v1 = .pointer (some ⟨g, 0, none⟩)) (hB : w0.heap.size ≤ g) (hb : Blk w g #[.slice none 0 0, .slice none 0 0] 30 (0, 0))
    (hx : RowAt w0.heap.size x 2 #[.bool false, .bool false] 4 w) (hy : RowAt w0.heap.size y 1 #[.int .i64 1] 3 w) : KnI w0 (up L 8) v1 v2 v4 v5 v6 v7 v8 v9 ((w.setCell ⟨g, 0, none⟩ x).setCell ⟨g, 1, none⟩ y) := by
  have b1 := hb.put 0 x
  have b2 := b1.put 1 y
  have ho := (off_set hb 0 x).trans (off_set b1 1 y)
  refine ⟨(h.hb.setCell hB _).setCell hB _, fun e => (h.f0 (upn e (by decide))).off ho (by decide), fun e => (h.f1 (upn e (by decide))).off ho (by decide), fun e => (h.f2 (upn e (by decide))).off ho (by decide) (by decide), fun e => (h.f3 (upn e (by decide))).off ho (by decide), fun e => (h.f4 (upn e (by decide))).off ho (by decide), fun e => (h.f5 (upn e (by decide))).off ho (by decide) (by decide), fun _ k => absurd k (by rw [up_same]; decide), fun e k => (h.f7 (upn e (by decide)) (upf k (by decide))).off ho (by decide), fun _ => ⟨upt h6, x, y, ⟨g, hg, hB, b2⟩, hx.off ho (by decide), hy.off ho (by decide)⟩, fun e => ⟨upt (h.f9 (upn e (by decide))).1, (h.f9 (upn e (by decide))).2.off ho (by decide) (by decide) (by decide)⟩⟩
theorem KnI.s9 {g : Nat} {x y : Value} (h7 : L 7 = true) (hg : v2 = .pointer (some ⟨g, 0, none⟩)) (hB : w0.heap.size ≤ g) (hb : Blk w g #[.slice none 0 0, .slice none 0 0] 32 (0, 0))
    (hx : RowAt w0.heap.size x 1 #[.int .i64 0] 3 w) (hy : RowAt w0.heap.size y 2 #[.bool false, .bool false] 4 w) : KnI w0 (up L 9) v1 v2 v4 v5 v6 v7 v8 v9 ((w.setCell ⟨g, 0, none⟩ x).setCell ⟨g, 1, none⟩ y) := by
  have b1 := hb.put 0 x
  have b2 := b1.put 1 y
  have ho := (off_set hb 0 x).trans (off_set b1 1 y)
  refine ⟨(h.hb.setCell hB _).setCell hB _, fun e => (h.f0 (upn e (by decide))).off ho (by decide), fun e => (h.f1 (upn e (by decide))).off ho (by decide), fun e => (h.f2 (upn e (by decide))).off ho (by decide) (by decide), fun e => (h.f3 (upn e (by decide))).off ho (by decide), fun e => (h.f4 (upn e (by decide))).off ho (by decide), fun e => (h.f5 (upn e (by decide))).off ho (by decide) (by decide), fun e k => (h.f6 (upn e (by decide)) (upf k (by decide))).off ho (by decide), fun _ k => absurd k (by rw [up_same]; decide), fun e => ⟨upt (h.f8 (upn e (by decide))).1, (h.f8 (upn e (by decide))).2.off ho (by decide) (by decide) (by decide)⟩, fun _ => ⟨upt h7, x, y, ⟨g, hg, hB, b2⟩, hx.off ho (by decide), hy.off ho (by decide)⟩⟩
end
set_option maxRecDepth 20000 in
set_option maxHeartbeats 2000000 in
theorem known_calls (w : World) : Calls Tryd.prog 15 #[] w fun e w' => e = .returned (.bool true) ∧ Below w.heap.size w w' := by
  go_enter Tryd.func15, Tryd.ntmps15
  go_upto_region 1 with fail
  refine wp_region_inv (by kernel_rfl) (by kernel_rfl) (fun L a w' => ∃ v1 v2 v4 v5 v6 v7 v8 v9, a = ⟨#[.bool false, v1, v2, undef, v4, v5, v6, v7, v8, v9, undef, undef, undef, undef, undef, undef, undef, undef, undef, undef, undef, undef, undef, undef, undef, undef, undef], []⟩ ∧ KnI w L v1 v2 v4 v5 v6 v7 v8 v9 w') ?_ ?_ ?_
  · refine ⟨_, _, _, _, _, _, _, _, rfl, below_drawn (Below.refl _ w) 1, ?_, ?_, ?_, ?_, ?_, ?_, ?_, ?_, ?_, ?_⟩
    all_goals (intro h; exact absurd h (by decide))
  · rintro L a w' hL ⟨v1, v2, v4, v5, v6, v7, v8, v9, rfl, h⟩
    have HB0 := Lib.hid h.hb
    have hk := mk_rs1
    obtain ⟨_, x, y, ⟨g1, rfl, _, hb1⟩, ⟨gx, rfl, _, hbx⟩, ⟨gy, rfl, _, hby⟩⟩ := h.f8 (hL 8 (by decide))
    obtain ⟨_, x, z, ⟨g2, rfl, _, hb2⟩, ⟨gz, rfl, _, hbz⟩, ⟨gu, rfl, _, hbu⟩⟩ := h.f9 (hL 9 (by decide))
    clear h hL
    have i0 := hb1.cell 0
    have i1 := hb1.cell 1
    have o0 := hb2.cell 0
    have o1 := hb2.cell 1
    simp only [List.getElem?_toArray, List.getElem?_cons_zero, List.getElem?_cons_succ] at i0 i1 o0 o1
    have HI : Hid (InV w' ⟨[false, false], [1]⟩ (some ⟨gx, 0, none⟩) (some ⟨gy, 0, none⟩) 2 2 1 1) := Lib.hid ⟨sl_lit flT _ 2 rfl hbx rfl (by omega), sl_lit flI _ 1 rfl hby rfl (by omega)⟩
    have HO : Hid (OuV w' ⟨[0], [false, false]⟩ (some ⟨gz, 0, none⟩) (some ⟨gu, 0, none⟩) 1 1 2 2) := Lib.hid ⟨sl_lit flI _ 1 rfl hbz rfl (by omega), sl_lit flT _ 2 rfl hbu rfl (by omega)⟩
    clear hb1 hbx hby hb2 hbz hbu
    have hn := below_new w' (.cells #[.int .i64 0, .int .i64 0, .int .i64 0, .bool false] 69)
    have HR : Hid (Sl flR (w'.alloc (.cells #[.int .i64 0, .int .i64 0, .int .i64 0, .bool false] 69)) (some ⟨w'.heap.size, 0, none⟩) 1 1 [⟨0, 0, 0, false⟩]) := Lib.hid (sl_lit flR _ 1 rfl (Blk.new w' _ _ _) rfl (by omega))
    have HI := Lib.hid (HI.out.stay hn)
    have HO := Lib.hid (HO.out.stay hn)
    have HN := Lib.hid (below_more HB0.out hn)
    have i0 := cell_stay hn i0
    have i1 := cell_stay hn i1
    have o0 := cell_stay hn o0
    have o1 := cell_stay hn o1
    go_wp2_with fail
    generalize hgr : w'.heap.size = gr at *
    clear hgr hn
    generalize (w'.alloc (.cells #[.int .i64 0, .int .i64 0, .int .i64 0, .bool false] 69)) = W0 at *
    have KEEP := Lib.hid (fun (w1 : World) (hb : Below W0.heap.size W0 w1) => (⟨cell_stay hb i0, cell_stay hb i1, cell_stay hb o0, cell_stay hb o1⟩ :
      w1.cell? ⟨g1, 0, none⟩ = some (.slice (some ⟨gx, 0, none⟩) 2 2) ∧ w1.cell? ⟨g1, 1, none⟩ = some (.slice (some ⟨gy, 0, none⟩) 1 1) ∧ w1.cell? ⟨g2, 0, none⟩ = some (.slice (some ⟨gz, 0, none⟩) 1 1) ∧ w1.cell? ⟨g2, 1, none⟩ = some (.slice (some ⟨gu, 0, none⟩) 2 2)))
    have HD := Lib.hid (below_drawn (Below.refl W0.heap.size W0) 1)
    clear hk
    go_region_held3 (fun w1 => w1.cell? ⟨g1, 0, none⟩ = some (.slice (some ⟨gx, 0, none⟩) 2 2) ∧ w1.cell? ⟨g1, 1, none⟩ = some (.slice (some ⟨gy, 0, none⟩) 1 1) ∧ w1.cell? ⟨g2, 0, none⟩ = some (.slice (some ⟨gz, 0, none⟩) 1 1) ∧ w1.cell? ⟨g2, 1, none⟩ = some (.slice (some ⟨gu, 0, none⟩) 2 2))
      (first | exact KEEP.out _ HD.out | exact KEEP.out _ HB8.out | exact KEEP.out _ HB7.out | exact KEEP.out _ HB6.out | exact KEEP.out _ HB5.out | exact KEEP.out _ HB4.out)
      (first
        | (go_at_call 31; have hq := HB5.out; refine (one_calls _).mono ?_; rintro e w6 ⟨D1, D2, D3, D4, rfl, hl6, hb6⟩; have HL6 := Lib.hid hl6; have HB6 := Lib.hid (below_more HB5.out hb6); clear hb6 hl6 hq)
        | (go_at_call 31; refine (one_calls _).mono ?_; rintro e w4 ⟨B1, B2, B3, B4, rfl, hl4, hb4⟩; have HL4 := Lib.hid hl4; have HB4 := Lib.hid (below_more HD.out hb4); clear hb4 hl4)
        | (go_at_call 11; refine (Safe_calls w4 HL4.out (HI.out.stay HB4.out) (HO.out.stay HB4.out) oneL_ok).mono ?_; rw [known_safe]; rintro e w5 ⟨rfl, hb5⟩; have HB5 := Lib.hid (below_more HB4.out hb5); clear hb5)
        | (go_at_call 13; refine (Held_calls w6 HL6.out (HI.out.stay HB6.out) (HO.out.stay HB6.out) (HR.out.stay HB6.out) oneL_ok).mono ?_; rw [known_held]; rintro e w7 ⟨rfl, hb7⟩; have HB7 := Lib.hid (below_more HB6.out hb7); clear hb7)
        | (go_at_call 19; refine (Atmost_calls w7 (HO.out.stay HB7.out) (HO.out.stay HB7.out)).mono ?_; rw [known_atmost]; rintro e w8 ⟨rfl, hb8⟩; have HB8 := Lib.hid (below_more HB7.out hb8); clear hb8)
        | fail)
    go_wp2_with fail
    go_ret
    exact ⟨rfl, below_more HN.out HB8.out⟩
  · have hk1 := mk_bool2
    have hk2 := mk_int1
    refine Steps.cons rfl (fun L a w' hn hd hI K hK => ?_) ?_
    · obtain ⟨v1, v2, v4, v5, v6, v7, v8, v9, rfl, h⟩ := hI
      go_simp
      refine hK _ _ ⟨_, _, _, _, _, _, _, _, rfl, h.s0⟩
    refine Steps.cons rfl (fun L a w' hn hd hI K hK => ?_) ?_
    · obtain ⟨v1, v2, v4, v5, v6, v7, v8, v9, rfl, h⟩ := hI
      go_simp
      refine hK _ _ ⟨_, _, _, _, _, _, _, _, rfl, h.s1⟩
    refine Steps.cons rfl (fun L a w' hn hd hI K hK => ?_) ?_
    · obtain ⟨v1, v2, v4, v5, v6, v7, v8, v9, rfl, h⟩ := hI
      have h0 := h.f0 (hd 0 (by decide))
      have h1 := h.f1 (hd 1 (by decide))
      have H := Lib.hid (h.s2 (hd 0 (by decide)) (hd 1 (by decide)))
      clear h hd
      obtain ⟨g0, rfl, _, _⟩ := h0
      obtain ⟨g1, rfl, _, _⟩ := h1
      go_simp
      refine hK _ _ ⟨_, _, _, _, _, _, _, _, rfl, H.out⟩
    refine Steps.cons rfl (fun L a w' hn hd hI K hK => ?_) ?_
    · obtain ⟨v1, v2, v4, v5, v6, v7, v8, v9, rfl, h⟩ := hI
      go_simp
      refine hK _ _ ⟨_, _, _, _, _, _, _, _, rfl, h.s3⟩
    refine Steps.cons rfl (fun L a w' hn hd hI K hK => ?_) ?_
    · obtain ⟨v1, v2, v4, v5, v6, v7, v8, v9, rfl, h⟩ := hI
      go_simp
      refine hK _ _ ⟨_, _, _, _, _, _, _, _, rfl, h.s4⟩
    refine Steps.cons rfl (fun L a w' hn hd hI K hK => ?_) ?_
    · obtain ⟨v1, v2, v4, v5, v6, v7, v8, v9, rfl, h⟩ := hI
      have h0 := h.f3 (hd 3 (by decide))
      have h1 := h.f4 (hd 4 (by decide))
      have H := Lib.hid (h.s5 (hd 3 (by decide)) (hd 4 (by decide)))
      clear h hd
      obtain ⟨g0, rfl, _, _⟩ := h0
      obtain ⟨g1, rfl, _, _⟩ := h1
      go_simp
      refine hK _ _ ⟨_, _, _, _, _, _, _, _, rfl, H.out⟩
    refine Steps.cons rfl (fun L a w' hn hd hI K hK => ?_) ?_
    · obtain ⟨v1, v2, v4, v5, v6, v7, v8, v9, rfl, h⟩ := hI
      go_simp
      refine hK _ _ ⟨_, _, _, _, _, _, _, _, rfl, h.s6 hn⟩
    refine Steps.cons rfl (fun L a w' hn hd hI K hK => ?_) ?_
    · obtain ⟨v1, v2, v4, v5, v6, v7, v8, v9, rfl, h⟩ := hI
      go_simp
      refine hK _ _ ⟨_, _, _, _, _, _, _, _, rfl, h.s7 hn⟩
    refine Steps.cons rfl (fun L a w' hn hd hI K hK => ?_) ?_
    · obtain ⟨v1, v2, v4, v5, v6, v7, v8, v9, rfl, h⟩ := hI
      obtain ⟨x, y, rfl, hx, hy⟩ := h.f2 (hd 2 (by decide))
      obtain ⟨g, rfl, hB, hb⟩ := h.f6 (hd 6 (by decide)) hn
      have H := Lib.hid (h.s8 (hd 6 (by decide)) rfl hB hb hx hy)
      have c0 := hb.cell 0
      have c1 := hb.cell 1
      have f0 := hb.free 0
      have f1 := hb.free 1
      simp only [List.getElem?_toArray, List.getElem?_cons_zero, List.getElem?_cons_succ] at c0 c1
      clear h hd hb
      obtain ⟨g0, rfl, _, _⟩ := hx
      obtain ⟨g1, rfl, _, _⟩ := hy
      go_simp
      refine hK _ _ ⟨_, _, _, _, _, _, _, _, rfl, H.out⟩
    refine Steps.cons rfl (fun L a w' hn hd hI K hK => ?_) Steps.nil
    · obtain ⟨v1, v2, v4, v5, v6, v7, v8, v9, rfl, h⟩ := hI
      obtain ⟨x, y, rfl, hx, hy⟩ := h.f5 (hd 5 (by decide))
      obtain ⟨g, rfl, hB, hb⟩ := h.f7 (hd 7 (by decide)) hn
      have H := Lib.hid (h.s9 (hd 7 (by decide)) rfl hB hb hx hy)
      have c0 := hb.cell 0
      have c1 := hb.cell 1
      have f0 := hb.free 0
      have f1 := hb.free 1
      simp only [List.getElem?_toArray, List.getElem?_cons_zero, List.getElem?_cons_succ] at c0 c1
      clear h hd hb
      obtain ⟨g0, rfl, _, _⟩ := hx
      obtain ⟨g1, rfl, _, _⟩ := hy
      go_simp
      refine hK _ _ ⟨_, _, _, _, _, _, _, _, rfl, H.out⟩
end Go.Proofs.YtmdggodkkkihhaaDoor

/- Walk of JudgeAtmost (written by gen_atmost.py). -/
set_option linter.unusedVariables false
set_option linter.unusedSimpArgs false
namespace Go.Proofs.YtmdggodkkkihhaaDoor
open Go.RowKit

theorem atmost_iff (a b : Ou) : atmostM a b = true ↔ a.drive.length = b.drive.length ∧ a.proceed.length = b.proceed.length ∧ (∀ i, i < a.proceed.length → pBad a b i = false) ∧ ∀ i, i < a.drive.length → rBad a b i = false := by
  unfold atmostM
  simp only [Bool.and_eq_true, decide_eq_true_eq, Bool.not_eq_true', List.any_eq_false, List.mem_range, Bool.not_eq_true, and_assoc]
theorem same_iff (a b : Ou) : sameM a b = true ↔ a.drive.length = b.drive.length ∧ a.proceed.length = b.proceed.length ∧ (∀ i, i < a.proceed.length → qBad a b i = false) ∧ ∀ i, i < a.drive.length → sBad a b i = false := by
  unfold sameM
  simp only [Bool.and_eq_true, decide_eq_true_eq, Bool.not_eq_true', List.any_eq_false, List.mem_range, Bool.not_eq_true, and_assoc]
theorem atmost_refl (a : Ou) : atmostM a a = true := by
  rw [atmost_iff]
  refine ⟨rfl, rfl, fun i _ => ?_, fun i _ => ?_⟩
  · unfold pBad; cases a.proceed.getD i false <;> rfl
  · unfold rBad; simp
theorem atmost_trans {a b c : Ou} (h : atmostM a b = true) (k : atmostM b c = true) : atmostM a c = true := by
  rw [atmost_iff] at *
  obtain ⟨h1, h2, h3, h4⟩ := h
  obtain ⟨k1, k2, k3, k4⟩ := k
  refine ⟨h1.trans k1, h2.trans k2, fun i hi => ?_, fun i hi => ?_⟩
  · have p1 := h3 i hi
    have p2 := k3 i (by omega)
    unfold pBad at *
    revert p1 p2
    cases a.proceed.getD i false <;> cases b.proceed.getD i false <;> cases c.proceed.getD i false <;> simp
  · have p1 := h4 i hi
    have p2 := k4 i (by omega)
    unfold rBad at *
    simp only [Bool.and_eq_false_iff, decide_eq_false_iff_not, Decidable.not_not] at *
    rcases p1 with p1 | p1
    · exact .inl p1
    · rcases p2 with p2 | p2
      · left; rw [p1]; exact p2
      · right; rw [p1]; exact p2
theorem atmost_both (a b : Ou) : (atmostM a b && atmostM b a) = sameM a b := by
  rw [Bool.eq_iff_iff, Bool.and_eq_true, atmost_iff, atmost_iff, same_iff]
  constructor
  · rintro ⟨⟨h1, h2, h3, h4⟩, ⟨_, _, k3, k4⟩⟩
    refine ⟨h1, h2, fun i hi => ?_, fun i hi => ?_⟩
    · have p1 := h3 i hi
      have p2 := k3 i (by omega)
      unfold pBad qBad at *
      revert p1 p2
      cases a.proceed.getD i false <;> cases b.proceed.getD i false <;> simp
    · have p1 := h4 i hi
      have p2 := k4 i (by omega)
      unfold rBad sBad at *
      simp only [Bool.and_eq_false_iff, decide_eq_false_iff_not, Decidable.not_not] at *
      rcases p1 with p1 | p1
      · rcases p2 with p2 | p2
        · rw [p1, p2]
        · exact p2.symm
      · exact p1
  · rintro ⟨h1, h2, h3, h4⟩
    refine ⟨⟨h1, h2, fun i hi => ?_, fun i hi => ?_⟩, ⟨h1.symm, h2.symm, fun i hi => ?_, fun i hi => ?_⟩⟩
    · have p1 := h3 i hi
      unfold pBad qBad at *
      revert p1
      cases a.proceed.getD i false <;> cases b.proceed.getD i false <;> simp
    · have p1 := h4 i hi
      unfold rBad sBad at *
      simp only [decide_eq_false_iff_not, Decidable.not_not] at p1
      rw [p1]; simp
    · have p1 := h3 i (by omega)
      unfold pBad qBad at *
      revert p1
      cases a.proceed.getD i false <;> cases b.proceed.getD i false <;> simp
    · have p1 := h4 i (by omega)
      unfold rBad sBad at *
      simp only [decide_eq_false_iff_not, Decidable.not_not] at p1
      rw [p1]; simp
/-- Is it more than is looked at? -/
def wideM (n m p q k : Nat) : Bool := decide (50 < n) || decide (50 < m) || decide (50 < p) || decide (50 < q) || decide (50 < k)
set_option maxRecDepth 20000 in
set_option maxHeartbeats 4000000 in
theorem wide_calls (w : World) (A B C D E : Option Addr) (n c m d p pc q qc k kc : Nat) :
    Calls Tryd.prog 7 #[.agg #[.slice A n c, .slice B m d], .agg #[.slice C p pc, .slice D q qc], .slice E k kc] w fun e w' => e = .returned (.bool (wideM n m p q k)) ∧ Below w.heap.size w w' := by
  have hb : Below w.heap.size w ((w.alloc (.cells #[.slice A n c, .slice B m d] 30)).alloc (.cells #[.slice C p pc, .slice D q qc] 32)) := (below_new w _).alloc (by simp) _
  have g1 : decide ((50 : Int) < n) = decide (50 < n) := by simp; omega
  have g2 : decide ((50 : Int) < m) = decide (50 < m) := by simp; omega
  have g3 : decide ((50 : Int) < p) = decide (50 < p) := by simp; omega
  have g4 : decide ((50 : Int) < q) = decide (50 < q) := by simp; omega
  have g5 : decide ((50 : Int) < k) = decide (50 < k) := by simp; omega
  have HF : Hid (wideM n m p q k = (decide ((50 : Int) < n) || decide ((50 : Int) < m) || decide ((50 : Int) < p) || decide ((50 : Int) < q) || decide ((50 : Int) < k))) := Lib.hid (by unfold wideM; rw [g1, g2, g3, g4, g5])
  clear g1 g2 g3 g4 g5
  by_cases h1 : (50 : Int) < n
  · go_enter Tryd.func7, Tryd.ntmps7
    go_wp2_with fail
    go_ret
    exact ⟨ret_bool (by rw [HF.out]; simp [h1]), hb⟩
  by_cases h2 : (50 : Int) < m
  · go_enter Tryd.func7, Tryd.ntmps7
    go_wp2_with fail
    go_ret
    exact ⟨ret_bool (by rw [HF.out]; simp [h2]), hb⟩
  by_cases h3 : (50 : Int) < p
  · go_enter Tryd.func7, Tryd.ntmps7
    go_wp2_with fail
    go_ret
    exact ⟨ret_bool (by rw [HF.out]; simp [h3]), hb⟩
  by_cases h4 : (50 : Int) < q
  · go_enter Tryd.func7, Tryd.ntmps7
    go_wp2_with fail
    go_ret
    exact ⟨ret_bool (by rw [HF.out]; simp [h4]), hb⟩
  by_cases h5 : (50 : Int) < k
  · go_enter Tryd.func7, Tryd.ntmps7
    go_wp2_with fail
    go_ret
    exact ⟨ret_bool (by rw [HF.out]; simp [h5]), hb⟩
  · go_enter Tryd.func7, Tryd.ntmps7
    go_wp2_with fail
    go_ret
    exact ⟨ret_bool (by rw [HF.out]; simp [h1, h2, h3, h4, h5]), hb⟩
set_option maxRecDepth 100000 in
theorem opens_ou : Opens Tryd.prog 32 kOu :=
  opens_iso _ (fun a => ⟨a.1, a.2.1⟩) (fun _ => rfl) (opens_struct Tryd.underlying32 (by kernel_rfl)
    (opensF_cons rfl (opens_slice Tryd.underlying28 (by kernel_rfl) (by decide) (of_decide_eq_true (by kernel_rfl)) (opens_int Tryd.underlying3 (by kernel_rfl)))
      (opensF_cons rfl (opens_slice Tryd.underlying27 (by kernel_rfl) (by decide) (of_decide_eq_true (by kernel_rfl)) (opens_bool Tryd.underlying4 (by kernel_rfl))) opensF_nil)))
end Go.Proofs.YtmdggodkkkihhaaDoor
