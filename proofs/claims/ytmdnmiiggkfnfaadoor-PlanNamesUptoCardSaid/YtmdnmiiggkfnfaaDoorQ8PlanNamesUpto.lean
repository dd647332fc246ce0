/- Texts put together for a claim. -/
import Derived.Test.YtmdnmiiggkfnfaaDoorKinds
import Derived.Test.YtmdnmiiggkfnfaaDoorWords
/- Rows of things without pointers: read, owned, appended to, stored into. Plain lemmas over any program. -/
set_option linter.unusedVariables false
set_option linter.unusedSimpArgs false
namespace Go.Proofs.YtmdnmiiggkfnfaaDoor
open Go.RowKit

/-- A flat thing: its cells. -/
structure Fl (α : Type) where
  sz : Nat
  enc : α → List Value
  len : ∀ a, (enc a).length = sz
  one : ∀ a, ∀ u ∈ enc a, u.oneCell' = true
def flI : Fl Int := ⟨1, fun n => [.int .i64 n], fun _ => rfl, fun _ u hu => by rw [List.mem_singleton.1 hu]; rfl⟩
def flB : Fl Nat := ⟨1, fun n => [.int .u8 (n : Int)], fun _ => rfl, fun _ u hu => by rw [List.mem_singleton.1 hu]; rfl⟩
def flT : Fl Bool := ⟨1, fun n => [.bool n], fun _ => rfl, fun _ u hu => by rw [List.mem_singleton.1 hu]; rfl⟩
def flS : Fl ByteArray := ⟨1, fun n => [.string n], fun _ => rfl, fun _ u hu => by rw [List.mem_singleton.1 hu]; rfl⟩

variable {α : Type} {f : Fl α} {w w1 : World} {A : Option Addr} {n base c : Nat} {e : TypeId} {v : Value} {xs : List α}
def Rf (f : Fl α) (w : World) (A : Option Addr) (n : Nat) (xs : List α) : Prop :=
  xs.length = n ∧ n ≤ 9223372036854775807 ∧ (0 < n → ∃ b off, A = some ⟨b, off, none⟩ ∧ ∀ j x, xs[j]? = some x → ∀ i v, (f.enc x)[i]? = some v → w.cell? ⟨b, off + j * f.sz + i, none⟩ = some v)
theorem Rf.stay (h : Rf f w A n xs) (hb : Below w.heap.size w w1) : Rf f w1 A n xs := by
  obtain ⟨h1, h2, h3⟩ := h
  refine ⟨h1, h2, fun hn => ?_⟩
  obtain ⟨b, off, e, hc⟩ := h3 hn
  exact ⟨b, off, e, fun j x hx i v hv => cell_stay hb (hc j x hx i v hv)⟩
theorem Rf.nil_ (f : Fl α) (w : World) (A : Option Addr) : Rf f w A 0 [] := ⟨rfl, by omega, fun h => absurd h (by omega)⟩
theorem Rf.drew (h : Rf f w A n xs) : Rf f w.drew A n xs := h
theorem Rf.drewN (h : Rf f w A n xs) (k : Nat) : Rf f (w.drewN k) A n xs := h
/-- The address, and an element's cells, where there is one. -/
theorem Rf.at_ (h : Rf f w A n xs) {j : Nat} (hj : j < n) : ∃ b off x, A = some ⟨b, off, none⟩ ∧ xs[j]? = some x ∧ ∀ i v, (f.enc x)[i]? = some v → w.cell? ⟨b, off + j * f.sz + i, none⟩ = some v := by
  obtain ⟨h1, _, h3⟩ := h
  obtain ⟨b, off, e, hc⟩ := h3 (by omega)
  have hx : xs[j]? = some (xs[j]'(by omega)) := List.getElem?_eq_getElem _
  exact ⟨b, off, _, e, hx, hc j _ hx⟩
theorem Rf.of_rds {k : Kd α} (hk : ∀ w x cs, k.K w x cs → cs = f.enc x) (hs : k.sz = f.sz) (h : RdS k w A n xs) : Rf f w A n xs := by
  obtain ⟨h1, h2, h3⟩ := h
  refine ⟨h1, by omega, fun hn => ?_⟩
  obtain ⟨b, off, e, hc⟩ := h3 hn
  refine ⟨b, off, e, fun j x hx i v hv => ?_⟩
  obtain ⟨cs, hK, hcell⟩ := hc j x hx
  rw [← hs]
  exact hcell i v (by rw [hk _ _ _ hK]; exact hv)
theorem Rf.take (h : Rf f w A n xs) {k : Nat} (hk : k ≤ n) : Rf f w A k (xs.take k) := by
  obtain ⟨h1, h2, h3⟩ := h
  refine ⟨by simp; omega, by omega, fun hn => ?_⟩
  obtain ⟨b, off, e, hc⟩ := h3 (by omega)
  refine ⟨b, off, e, fun j x hx i v hv => hc j x ?_ i v hv⟩
  rw [List.getElem?_take] at hx
  split at hx
  · exact hx
  · cases hx
theorem rds_len {k : Kd α} (h : RdS k w A n xs) : n ≤ 140737488351232 := h.2.1
theorem flat_get (f : Fl α) : ∀ (xs : List α) (j i : Nat), i < f.sz → (xs.flatMap f.enc)[j * f.sz + i]? = (xs[j]?).bind fun x => (f.enc x)[i]?
  | [], j, i, _ => by simp
  | x :: r, 0, i, hi => by
    rw [List.flatMap_cons, Nat.zero_mul, Nat.zero_add, List.getElem?_append_left (by rw [f.len]; exact hi)]
    simp
  | x :: r, j + 1, i, hi => by
    have e : (j + 1) * f.sz + i = f.sz + (j * f.sz + i) := by rw [Nat.add_mul]; omega
    rw [List.flatMap_cons, List.getElem?_append_right (by rw [f.len, e]; omega), f.len, e, Nat.add_sub_cancel_left, flat_get f r j i hi]
    simp
theorem flat_length (f : Fl α) : ∀ xs : List α, (xs.flatMap f.enc).length = xs.length * f.sz
  | [] => by simp
  | x :: r => by rw [List.flatMap_cons, List.length_append, f.len, flat_length f r, List.length_cons, Nat.add_mul]; omega
theorem flat_one (f : Fl α) (xs : List α) : ∀ u ∈ xs.flatMap f.enc, u.oneCell' = true := by
  intro u hu
  obtain ⟨x, _, hx⟩ := List.mem_flatMap.1 hu
  exact f.one x u hx
/-- What reads as things reads as their cells. -/
theorem Rf.reads (h : Rf f w A n xs) (hs : 0 < f.sz) : Reads w w.heap.size f.sz A n (xs.flatMap f.enc) := by
  obtain ⟨h1, h2, h3⟩ := h
  refine ⟨by rw [flat_length, h1], fun hn => ?_⟩
  obtain ⟨b, off, rfl, hc⟩ := h3 hn
  have key : ∀ j u, (xs.flatMap f.enc)[j]? = some u → w.cell? ⟨b, off + j, none⟩ = some u := by
    intro j u hu
    have hd : j = (j / f.sz) * f.sz + j % f.sz := by rw [Nat.mul_comm]; exact (Nat.div_add_mod j f.sz).symm
    rw [hd, flat_get f xs _ _ (Nat.mod_lt _ hs), Option.bind_eq_some_iff] at hu
    obtain ⟨x, hx, hv⟩ := hu
    have := hc _ x hx _ u hv
    rw [Nat.add_assoc, ← hd] at this
    exact this
  have hl : 0 < (xs.flatMap f.enc).length := by rw [flat_length, h1]; exact Nat.mul_pos hn hs
  refine ⟨⟨b, off, none⟩, rfl, cell_lt (key 0 _ (List.getElem?_eq_getElem hl)), fun j u hu => ?_⟩
  rw [add_off _ b off rfl]
  exact key j u hu

/-- A row of the call's own. -/
def Ow (f : Fl α) (w : World) (base : Nat) (e : TypeId) (v : Value) (xs : List α) : Prop := w.ownsRow base e f.sz v xs.length (xs.flatMap f.enc)
theorem Ow.nil_ (f : Fl α) (w : World) (base : Nat) (e : TypeId) : Ow f w base e (.slice none 0 0) [] := World.ownsRow_nil w base e f.sz
theorem Ow.alloc (h : Ow f w base e v xs) (o : Obj) : Ow f (w.alloc o) base e v xs := World.ownsRow.alloc h o
theorem Ow.drew (h : Ow f w base e v xs) : Ow f w.drew base e v xs := h
theorem Ow.drewN (h : Ow f w base e v xs) (k : Nat) : Ow f (w.drewN k) base e v xs := h
theorem Ow.base_ (h : Ow f w base e v xs) (k : Nat) (hk : v.ownBlock = some k) : base ≤ k := (World.ownsRow.lt h k hk).1
theorem Ow.kept {row : Option Nat} (h : Ow f w base e v xs) (hg : w.grownBy w1 row) (hne : v.ownBlock = none ∨ v.ownBlock ≠ row) : Ow f w1 base e v xs := World.ownsRow.kept h hg hne
theorem Ow.stay (h : Ow f w base e v xs) (hb : Below w.heap.size w w1) : Ow f w1 base e v xs :=
  h.kept (row := none) ⟨hb.os, hb.tape, hb.output, hb.size, fun i hi _ => hb.block i hi⟩ (by cases v.ownBlock <;> simp)
theorem Ow.lower {base' : Nat} (h : Ow f w base e v xs) (hb : base' ≤ base) : Ow f w base' e v xs := by
  obtain ⟨h1, h2⟩ := h
  refine ⟨h1, ?_⟩
  rcases h2 with h2 | ⟨g, cap, cur, hv, hg, r⟩
  · exact .inl h2
  · exact .inr ⟨g, cap, cur, hv, Nat.le_trans hb hg, r⟩
theorem Ow.room (h : Ow f w base e v xs) (_hs : 0 < f.sz) : xs.length ≤ 9223372036854775807 := by
  rcases h.2 with ⟨_, h0⟩ | ⟨g, cap, cur, _, _, _, h1, h2, _⟩
  · omega
  · simp only [maxLen] at h2; omega
/-- Owned is read. -/
theorem Ow.read (h : Ow f w base e v xs) (hs : 0 < f.sz) : ∃ A c, v = .slice A xs.length c ∧ Rf f w A xs.length xs := by
  have hr := Ow.room h hs
  rcases h.2 with ⟨rfl, h0⟩ | ⟨g, cap, cur, rfl, _⟩
  · have hx : xs = [] := List.eq_nil_of_length_eq_zero h0
    subst hx
    exact ⟨none, 0, rfl, Rf.nil_ _ _ _⟩
  · refine ⟨_, cap, rfl, rfl, hr, fun hn => ⟨g, 0, rfl, fun j x hx i u hu => ?_⟩⟩
    have hi : i < f.sz := by
      rw [← f.len x]
      rcases Nat.lt_or_ge i (f.enc x).length with h' | h'
      · exact h'
      · rw [List.getElem?_eq_none h'] at hu; cases hu
    have hc := World.ownsRow.cells h (g := g) rfl (j * f.sz + i) u (by rw [flat_get f xs j i hi, hx]; exact hu)
    rw [add_off _ g 0 rfl] at hc
    rw [Nat.add_assoc]
    exact hc
theorem Ow.free {g cap : Nat} (h : Ow f w base e (.slice (some ⟨g, 0, none⟩) xs.length cap) xs) (j : Nat) : w.frozen? ⟨g, j, none⟩ = false := World.ownsRow.frozenAt h j
/-- Where it lies, if it has an element. -/
theorem Ow.form (h : Ow f w base e v xs) (hn : 0 < xs.length) : ∃ g cap, v = .slice (some ⟨g, 0, none⟩) xs.length cap ∧ base ≤ g ∧ g < w.heap.size := World.ownsRow.form h hn
theorem Ow.cell1 {g cap : Nat} (h : Ow f w base e (.slice (some ⟨g, 0, none⟩) xs.length cap) xs) {j i : Nat} {x : α} {u : Value} (hx : xs[j]? = some x) (hi : i < f.sz) (hu : (f.enc x)[i]? = some u) : w.cell? ⟨g, j * f.sz + i, none⟩ = some u := by
  have hc := World.ownsRow.cells h (g := g) rfl (j * f.sz + i) u (by rw [flat_get f xs j i hi, hx]; exact hu)
  rw [add_off _ g 0 rfl] at hc
  simpa using hc
theorem flat_set1 (f : Fl α) (hs : f.sz = 1) (xs : List α) (j : Nat) (x : α) (u : Value) (hu : f.enc x = [u]) : (xs.flatMap f.enc).set j u = (xs.set j x).flatMap f.enc := by
  induction xs generalizing j with
  | nil => simp
  | cons y r ih =>
    obtain ⟨q, hq⟩ : ∃ q, f.enc y = [q] := by
      have := f.len y
      rw [hs] at this
      exact List.length_eq_one_iff.1 this
    cases j with
    | zero => simp [hq, hu]
    | succ j =>
      simp only [List.flatMap_cons, hq, List.cons_append, List.nil_append, List.set_cons_succ, ih]
/-- A store of a one-cell thing. -/
theorem Ow.put1 {g cap : Nat} (h : Ow f w base e (.slice (some ⟨g, 0, none⟩) xs.length cap) xs) (hs : f.sz = 1) (j : Nat) (x : α) (u : Value) (hu : f.enc x = [u]) :
    Ow f (w.setCell ⟨g, j, none⟩ u) base e (.slice (some ⟨g, 0, none⟩) xs.length cap) (xs.set j x) ∧ w.grownBy (w.setCell ⟨g, j, none⟩ u) (some g) := by
  have := World.ownsRow.stored h j u
  rw [flat_set1 f hs xs j x u hu] at this
  unfold Ow
  rw [List.length_set]
  exact this
theorem Ow.far {g cap : Nat} (h : Ow f w base e (.slice (some ⟨g, 0, none⟩) xs.length cap) xs) {p : Addr} (hp : g ≠ p.block) (u : Value) : Ow f (w.setCell p u) base e (.slice (some ⟨g, 0, none⟩) xs.length cap) xs := by
  obtain ⟨h1, h2⟩ := h
  refine ⟨h1, ?_⟩
  rcases h2 with h2 | ⟨g', cap', cur, hv, hg, hh, r⟩
  · exact .inl h2
  · have e : g = g' := by injection hv with hv; injection hv with hv; injection hv
    subst e
    exact .inr ⟨g, cap', cur, hv, hg, by rw [Below.heap_setCell _ _ _ _ hp]; exact hh, r⟩
/-- A literal, a make. -/
theorem Ow.lit (w : World) (base : Nat) (e : TypeId) (cs : Array Value) (hb : base ≤ w.heap.size) (hn : xs.length ≤ 9223372036854775807) (hc : cs.toList = xs.flatMap f.enc) :
    Ow f (w.alloc (.cells cs e)) base e (.slice (some ⟨w.heap.size, 0, none⟩) xs.length xs.length) xs := by
  have h := World.ownsRow_lit (base := base) (e := e) (size := f.sz) w cs xs.length hb (by simpa [maxLen] using hn) (by rw [← Array.length_toList, hc, flat_length])
  unfold Ow
  rw [← hc]
  exact h
/-- A literal is read. -/
theorem lit_reads (f : Fl α) {g : Nat} {cs : Array Value} {t : TypeId} {fr : Nat × Nat} (xs : List α) (hb : Blk w g cs t fr) (hc : cs.toList = xs.flatMap f.enc) (hn : xs.length ≤ 9223372036854775807) : Rf f w (some ⟨g, 0, none⟩) xs.length xs := by
  refine ⟨rfl, hn, fun _ => ⟨g, 0, rfl, fun j x hx i u hu => ?_⟩⟩
  have hi : i < f.sz := by
    rw [← f.len x]
    rcases Nat.lt_or_ge i (f.enc x).length with h' | h'
    · exact h'
    · rw [List.getElem?_eq_none h'] at hu; cases hu
  rw [hb.cell, ← Array.getElem?_toList, hc, Nat.zero_add, flat_get f xs j i hi, hx]
  exact hu
/-- The box of an append's one element. -/
theorem box_reads (f : Fl α) (W : World) (cs : Array Value) (t : TypeId) (x : α) (h : cs.toList = f.enc x) : Reads (W.alloc (.cells cs t)) (W.heap.size + 1) f.sz (some ⟨W.heap.size, 0, none⟩) 1 (f.enc x) := by
  refine ⟨by rw [f.len]; omega, fun _ => ⟨_, rfl, by simp, fun j u hu => ?_⟩⟩
  rw [add_off _ W.heap.size 0 rfl, Nat.zero_add, (Blk.new W cs t (0, 0)).cell j, ← Array.getElem?_toList, h]
  exact hu
theorem Ow.snoc {x : α} (h : w.ownsRow base e f.sz v (xs.length + 1) (xs.flatMap f.enc ++ f.enc x)) : Ow f w base e v (xs ++ [x]) := by
  unfold Ow
  simpa using h
theorem Ow.join {ys : List α} {m : Nat} (hm : ys.length = m) (h : w.ownsRow base e f.sz v (xs.length + m) (xs.flatMap f.enc ++ ys.flatMap f.enc)) : Ow f w base e v (xs ++ ys) := by
  unfold Ow
  subst hm
  simpa using h
theorem take_eq_step {α : Type} {xs ys : List α} {k : Nat} {x y : α} (hx : xs[k]? = some x) (hy : ys[k]? = some y) (h : xs.take k = ys.take k) (e : x = y) : xs.take (k + 1) = ys.take (k + 1) := by
  rw [List.take_add_one, List.take_add_one, h, hx, hy, e]
theorem ne_of_at {α : Type} {xs ys : List α} {k : Nat} {x y : α} (hx : xs[k]? = some x) (hy : ys[k]? = some y) (e : x ≠ y) : xs ≠ ys := by
  rintro rfl
  rw [hx] at hy
  exact e (Option.some.inj hy)
/-- A row is a slice. -/
theorem row_form {w : World} {base n sz : Nat} {e : TypeId} {v : Value} {ws : List Value} (h : w.ownsRow base e sz v n ws) : ∃ A c, v = .slice A n c := by
  rcases h.2 with ⟨rfl, h0⟩ | ⟨g, cap, cur, rfl, _⟩
  · subst h0; exact ⟨_, _, rfl⟩
  · exact ⟨_, _, rfl⟩
end Go.Proofs.YtmdnmiiggkfnfaaDoor

/- Only some old blocks have turned. -/
set_option linter.unusedVariables false
set_option linter.unusedSimpArgs false
namespace Go.Proofs.YtmdnmiiggkfnfaaDoor
open Go.RowKit

structure Only (S : Nat → Prop) (w w' : World) : Prop where
  os : w'.os = w.os
  tape : w'.tape = w.tape
  output : w'.output = w.output
  size : w.heap.size ≤ w'.heap.size
  block : ∀ k, k < w.heap.size → ¬ S k → w'.heap[k]? = w.heap[k]?
theorem Only.refl (S : Nat → Prop) (w : World) : Only S w w := ⟨rfl, rfl, rfl, Nat.le_refl _, fun _ _ _ => rfl⟩
theorem Only.of_below {S : Nat → Prop} {w w' : World} (h : Below w.heap.size w w') : Only S w w' := ⟨h.os, h.tape, h.output, h.size, fun k hk _ => h.block k hk⟩
theorem Only.of_grown {w w' : World} {r : Option Nat} (h : w.grownBy w' r) : Only (fun k => r = some k) w w' := ⟨h.os, h.tape, h.output, h.size, fun k hk hn => h.block k hk (fun e => hn e.symm)⟩
theorem Only.put {w : World} (p : Addr) (u : Value) : Only (fun k => k = p.block) w (w.setCell p u) := ⟨rfl, rfl, rfl, by simp [World.setCell], fun k hk hn => Below.heap_setCell _ _ _ _ hn⟩
/-- One behind the other. -/
theorem Only.trans {S T U : Nat → Prop} {w w1 w2 : World} (h : Only S w w1) (k : Only T w1 w2) (hS : ∀ q, q < w.heap.size → S q → U q) (hT : ∀ q, q < w.heap.size → T q → U q) : Only U w w2 :=
  ⟨k.os.trans h.os, k.tape.trans h.tape, k.output.trans h.output, Nat.le_trans h.size k.size, fun q hq hn => (k.block q (Nat.lt_of_lt_of_le hq h.size) (fun ht => hn (hT q hq ht))).trans (h.block q hq (fun hs => hn (hS q hq hs)))⟩
theorem Only.more {S T : Nat → Prop} {w w1 : World} (h : Only S w w1) (hS : ∀ q, q < w.heap.size → S q → T q) : Only T w w1 := ⟨h.os, h.tape, h.output, h.size, fun q hq hn => h.block q hq (fun hs => hn (hS q hq hs))⟩
/-- What is turned lies from B on. -/
theorem Only.below {S : Nat → Prop} {w w1 : World} {B : Nat} (h : Only S w w1) (hB : B ≤ w.heap.size) (hS : ∀ q, q < w.heap.size → S q → B ≤ q) : Below B w w1 :=
  ⟨h.os, h.tape, h.output, h.size, fun q hq => h.block q (by omega) (fun hs => by have := hS q (by omega) hs; omega)⟩
theorem Blk.only {S : Nat → Prop} {w w1 : World} {g : Nat} {cs : Array Value} {t : TypeId} {fr : Nat × Nat} (h : Blk w g cs t fr) (ho : Only S w w1) (hn : ¬ S g) : Blk w1 g cs t fr := (ho.block g h.lt hn).trans h
theorem Ow.only {α : Type} {f : Fl α} {S : Nat → Prop} {w w1 : World} {base : Nat} {e : TypeId} {v : Value} {xs : List α} (h : Ow f w base e v xs) (ho : Only S w w1) (hn : ∀ k, v.ownBlock = some k → ¬ S k) : Ow f w1 base e v xs := by
  obtain ⟨h1, h2⟩ := h
  refine ⟨h1, ?_⟩
  rcases h2 with h2 | ⟨g, cap, cur, hv, hg, hh, r⟩
  · exact .inl h2
  · refine .inr ⟨g, cap, cur, hv, hg, ?_, r⟩
    rw [ho.block g (Array.getElem?_eq_some_iff.1 hh).1 (hn g (by rw [hv]; rfl))]
    exact hh
/-- A row and a block of another type are not one. -/
theorem own_not_blk {α : Type} {f : Fl α} {w : World} {base : Nat} {e : TypeId} {v : Value} {xs : List α} {g : Nat} {cs : Array Value} {t : TypeId} {fr : Nat × Nat} (h : Ow f w base e v xs) (hb : Blk w g cs t fr) (hne : e ≠ t) : v.ownBlock ≠ some g := by
  rcases h.2 with ⟨rfl, _⟩ | ⟨g', cap, cur, rfl, _, hh, _⟩
  · simp [Value.ownBlock]
  · intro he
    have e2 : g' = g := by simpa [Value.ownBlock] using he
    subst e2
    unfold Blk at hb
    rw [hh] at hb
    injection hb with hb
    injection hb with _ ht
    exact hne ht
theorem own_not_own {α β : Type} {f : Fl α} {f' : Fl β} {w : World} {base base' : Nat} {e e' : TypeId} {v v' : Value} {xs : List α} {ys : List β} (h : Ow f w base e v xs) (h' : Ow f' w base' e' v' ys) (hne : e ≠ e') (k : Nat) (hk : v.ownBlock = some k) : v'.ownBlock ≠ some k := by
  rcases h.2 with ⟨rfl, _⟩ | ⟨g, cap, cur, rfl, _, hh, _⟩
  · simp [Value.ownBlock] at hk
  · have e1 : g = k := by simpa [Value.ownBlock] using hk
    subst e1
    exact own_not_blk h' (t := e) hh (Ne.symm hne)
theorem blk_not_blk {w : World} {g g' : Nat} {cs cs' : Array Value} {t t' : TypeId} {fr fr' : Nat × Nat} (h : Blk w g cs t fr) (h' : Blk w g' cs' t' fr') (hne : t ≠ t') : g ≠ g' := by
  rintro rfl
  unfold Blk at h h'
  rw [h] at h'
  injection h' with h'
  injection h' with _ ht
  exact hne ht
theorem Ow.lt_ {α : Type} {f : Fl α} {w : World} {base : Nat} {e : TypeId} {v : Value} {xs : List α} (h : Ow f w base e v xs) (k : Nat) (hk : v.ownBlock = some k) : k < w.heap.size := (World.ownsRow.lt h k hk).2
end Go.Proofs.YtmdnmiiggkfnfaaDoor
