/- Only some old blocks have turned. -/
import Derived.Test.YtmdnmiiggkfnfaaDoorFlats
set_option linter.unusedVariables false
set_option linter.unusedSimpArgs false
namespace Go.Proofs.YtmdnmiiggkfnfaaDoor
open Go.RowKit

structure Only (S : Nat → Prop) (w w' : World) : Prop where
  os : w'.os = w.os
  tape : w'.tape = w.tape
  output : w'.output = w.output
  size : w.heap.size ≤ w'.heap.size
  block : ∀ k, k < w.heap.size → ¬ S k → w'.heap[k]? = w.heap[k]?
theorem Only.refl (S : Nat → Prop) (w : World) : Only S w w := ⟨rfl, rfl, rfl, Nat.le_refl _, fun _ _ _ => rfl⟩
theorem Only.of_below {S : Nat → Prop} {w w' : World} (h : Below w.heap.size w w') : Only S w w' := ⟨h.os, h.tape, h.output, h.size, fun k hk _ => h.block k hk⟩
theorem Only.of_grown {w w' : World} {r : Option Nat} (h : w.grownBy w' r) : Only (fun k => r = some k) w w' := ⟨h.os, h.tape, h.output, h.size, fun k hk hn => h.block k hk (fun e => hn e.symm)⟩
theorem Only.put {w : World} (p : Addr) (u : Value) : Only (fun k => k = p.block) w (w.setCell p u) := ⟨rfl, rfl, rfl, by simp [World.setCell], fun k hk hn => Below.heap_setCell _ _ _ _ hn⟩
/-- One behind the other. -/
theorem Only.trans {S T U : Nat → Prop} {w w1 w2 : World} (h : Only S w w1) (k : Only T w1 w2) (hS : ∀ q, q < w.heap.size → S q → U q) (hT : ∀ q, q < w.heap.size → T q → U q) : Only U w w2 :=
  ⟨k.os.trans h.os, k.tape.trans h.tape, k.output.trans h.output, Nat.le_trans h.size k.size, fun q hq hn => (k.block q (Nat.lt_of_lt_of_le hq h.size) (fun ht => hn (hT q hq ht))).trans (h.block q hq (fun hs => hn (hS q hq hs)))⟩
theorem Only.more {S T : Nat → Prop} {w w1 : World} (h : Only S w w1) (hS : ∀ q, q < w.heap.size → S q → T q) : Only T w w1 := ⟨h.os, h.tape, h.output, h.size, fun q hq hn => h.block q hq (fun hs => hn (hS q hq hs))⟩
/-- What is turned lies from B on. -/
theorem Only.below {S : Nat → Prop} {w w1 : World} {B : Nat} (h : Only S w w1) (hB : B ≤ w.heap.size) (hS : ∀ q, q < w.heap.size → S q → B ≤ q) : Below B w w1 :=
  ⟨h.os, h.tape, h.output, h.size, fun q hq => h.block q (by omega) (fun hs => by have := hS q (by omega) hs; omega)⟩
theorem Blk.only {S : Nat → Prop} {w w1 : World} {g : Nat} {cs : Array Value} {t : TypeId} {fr : Nat × Nat} (h : Blk w g cs t fr) (ho : Only S w w1) (hn : ¬ S g) : Blk w1 g cs t fr := (ho.block g h.lt hn).trans h
theorem Ow.only {α : Type} {f : Fl α} {S : Nat → Prop} {w w1 : World} {base : Nat} {e : TypeId} {v : Value} {xs : List α} (h : Ow f w base e v xs) (ho : Only S w w1) (hn : ∀ k, v.ownBlock = some k → ¬ S k) : Ow f w1 base e v xs := by
  obtain ⟨h1, h2⟩ := h
  refine ⟨h1, ?_⟩
  rcases h2 with h2 | ⟨g, cap, cur, hv, hg, hh, r⟩
  · exact .inl h2
  · refine .inr ⟨g, cap, cur, hv, hg, ?_, r⟩
    rw [ho.block g (Array.getElem?_eq_some_iff.1 hh).1 (hn g (by rw [hv]; rfl))]
    exact hh
/-- A row and a block of another type are not one. -/
theorem own_not_blk {α : Type} {f : Fl α} {w : World} {base : Nat} {e : TypeId} {v : Value} {xs : List α} {g : Nat} {cs : Array Value} {t : TypeId} {fr : Nat × Nat} (h : Ow f w base e v xs) (hb : Blk w g cs t fr) (hne : e ≠ t) : v.ownBlock ≠ some g := by
  rcases h.2 with ⟨rfl, _⟩ | ⟨g', cap, cur, rfl, _, hh, _⟩
  · simp [Value.ownBlock]
  · intro he
    have e2 : g' = g := by simpa [Value.ownBlock] using he
    subst e2
    unfold Blk at hb
    rw [hh] at hb
    injection hb with hb
    injection hb with _ ht
    exact hne ht
theorem own_not_own {α β : Type} {f : Fl α} {f' : Fl β} {w : World} {base base' : Nat} {e e' : TypeId} {v v' : Value} {xs : List α} {ys : List β} (h : Ow f w base e v xs) (h' : Ow f' w base' e' v' ys) (hne : e ≠ e') (k : Nat) (hk : v.ownBlock = some k) : v'.ownBlock ≠ some k := by
  rcases h.2 with ⟨rfl, _⟩ | ⟨g, cap, cur, rfl, _, hh, _⟩
  · simp [Value.ownBlock] at hk
  · have e1 : g = k := by simpa [Value.ownBlock] using hk
    subst e1
    exact own_not_blk h' (t := e) hh (Ne.symm hne)
theorem blk_not_blk {w : World} {g g' : Nat} {cs cs' : Array Value} {t t' : TypeId} {fr fr' : Nat × Nat} (h : Blk w g cs t fr) (h' : Blk w g' cs' t' fr') (hne : t ≠ t') : g ≠ g' := by
  rintro rfl
  unfold Blk at h h'
  rw [h] at h'
  injection h' with h'
  injection h' with _ ht
  exact hne ht
theorem Ow.lt_ {α : Type} {f : Fl α} {w : World} {base : Nat} {e : TypeId} {v : Value} {xs : List α} (h : Ow f w base e v xs) (k : Nat) (hk : v.ownBlock = some k) : k < w.heap.size := (World.ownsRow.lt h k hk).2
end Go.Proofs.YtmdnmiiggkfnfaaDoor
