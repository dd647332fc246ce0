/- A crate and the document's, side by side: what an Add to either leaves. -/
import Derived.Test.YtodccdfpoocolaaCrIt
set_option linter.unusedVariables false
namespace Go.Proofs.Ytodccdfpoocolaa
open Go.RowKit

theorem boxNew_calls (w : World) : Calls Try.prog 13 #[] w fun e w' => ∃ b, e = .returned (.pointer (some ⟨b, 0, none⟩)) ∧ Cr w' w.heap.size b (.slice none 0 0) [] ∧ Below w.heap.size w w' :=
  (New_calls w).mono fun e w' ⟨he, hw⟩ => ⟨_, he, by subst hw; exact Cr.new w _ (Nat.le_refl _), by subst hw; exact below_new w _⟩
theorem rcNew (w : World) (B : Nat) (hB : B ≤ w.heap.size) : Rc (w.alloc (.cells #[.slice none 0 0] 72)) B w.heap.size (.slice none 0 0) [] := ⟨Blk.new _ _ _ _, Ow.nil_ _ _ _ _, hB⟩
def addTo {α : Type} (xs : List α) (x : α) : List α := if xs.length < 100 then xs ++ [x] else xs
theorem addTo_fit {α : Type} {xs : List α} (x : α) (h : xs.length < 100) : addTo xs x = xs ++ [x] := if_pos h
theorem Bx.val_eq {α : Type} {f : Fl α} {te tc : TypeId} {w : World} {B b : Nat} {v u : Value} {xs ys : List α} (h : Bx f te tc w B b v xs) (k : Bx f te tc w B b u ys) : u = v := by
  have e1 := h.blk
  have e2 := k.blk
  unfold Blk at e1 e2
  rw [e1] at e2
  injection e2 with e2
  injection e2 with e2 _
  injection e2 with e2
  injection e2 with e2
  exact e2.symm
structure Pr (W0 : World) (b b' : Nat) (its : List It) (ts : List Th) (w : World) : Prop where
  cr : ∃ v, Cr w W0.heap.size b v its
  rc : ∃ v, Rc w W0.heap.size b' v ts
  below : Below W0.heap.size W0 w
section
variable {W0 w w' : World} {b b' : Nat} {x : Th} {its : List It} {ts : List Th}
theorem Pr.stay (h : Pr W0 b b' its ts w) (hb : Below w.heap.size w w') : Pr W0 b b' its ts w' := by
  obtain ⟨⟨v, h1⟩, ⟨v', h2⟩, h5⟩ := h
  exact ⟨⟨v, h1.stay hb⟩, ⟨v', h2.stay hb⟩, h5.trans (hb.mono h5.size)⟩
theorem Pr.cz (h : Pr W0 b b' its ts w) : Cz w (some ⟨b, 0, none⟩) its := by
  obtain ⟨⟨v, h1⟩, _, _⟩ := h
  exact h1.cz
theorem Pr.put (h : Pr W0 b b' its ts w) {y : It} {e : Ending} (hp : ∀ v, Cr w W0.heap.size b v its → AddPost w W0.heap.size b v its y e w') : e = .returned (.bool (decide (its.length < 100))) ∧ Pr W0 b b' (addTo its y) ts w' := by
  have hJ := h
  obtain ⟨⟨v, h1⟩, ⟨v', h2⟩, h5⟩ := h
  rcases hp v h1 with ⟨hl, rfl, hb⟩ | ⟨hl, rfl, v1, hc, ho, _⟩
  · refine ⟨by rw [decide_eq_false (by omega)], ?_⟩
    rw [show addTo its y = its from if_neg (by omega)]
    exact hJ.stay hb
  · refine ⟨by rw [decide_eq_true hl], ?_⟩
    rw [addTo_fit _ hl]
    have e1 : b' ≠ b := (blk_not_blk h2.blk h1.blk (by decide))
    refine ⟨⟨v1, hc⟩, ⟨v', h2.only ho ?_ ?_⟩, h5.trans (ho.below h5.size (fun q hq hs => (h1.foot q hs).1))⟩
    · rintro (e | e)
      · exact e1 e
      · exact own_not_blk h1.own h2.blk (by decide) e
    · rintro k hk (e | e)
      · subst e; exact own_not_blk h2.own h1.blk (by decide) hk
      · exact own_not_own h1.own h2.own (by decide) k e hk
/-- What an Add to the program's leaves. -/
abbrev PutPost (W0 : World) (b b' : Nat) (its : List It) (ts : List Th) (y : It) (e : Ending) (w' : World) : Prop := e = .returned (.bool (decide (its.length < 100))) ∧ Pr W0 b b' (addTo its y) ts w'
theorem Pr.int (h : Pr W0 b b' its ts w) (n : Int) : Calls Try.prog 24 #[.pointer (some ⟨b, 0, none⟩), .int .i64 n] w (PutPost W0 b b' its ts (.num n)) := by
  obtain ⟨v, h1⟩ := h.cr
  refine (AddInt_calls n w W0.heap.size b v its h1 h.below.size).mono fun e w' hp => ?_
  obtain ⟨⟨_, _⟩, ⟨v', h2⟩, h5⟩ := h
  exact Pr.put (w := w) ⟨⟨v, h1⟩, ⟨v', h2⟩, h5⟩ (fun u hu => by obtain rfl : u = v := h1.val_eq hu; exact hp)
theorem Pr.txt (h : Pr W0 b b' its ts w) (s : ByteArray) : Calls Try.prog 14 #[.pointer (some ⟨b, 0, none⟩), .string s] w (PutPost W0 b b' its ts (.txt s)) := by
  obtain ⟨v, h1⟩ := h.cr
  refine (AddText_calls s w W0.heap.size b v its h1 h.below.size).mono fun e w' hp => ?_
  obtain ⟨⟨_, _⟩, ⟨v', h2⟩, h5⟩ := h
  exact Pr.put (w := w) ⟨⟨v, h1⟩, ⟨v', h2⟩, h5⟩ (fun u hu => by obtain rfl : u = v := h1.val_eq hu; exact hp)
theorem Pr.tru (h : Pr W0 b b' its ts w) (s : Bool) : Calls Try.prog 32 #[.pointer (some ⟨b, 0, none⟩), .bool s] w (PutPost W0 b b' its ts (.tru s)) := by
  obtain ⟨v, h1⟩ := h.cr
  refine (AddBool_calls s w W0.heap.size b v its h1 h.below.size).mono fun e w' hp => ?_
  obtain ⟨⟨_, _⟩, ⟨v', h2⟩, h5⟩ := h
  exact Pr.put (w := w) ⟨⟨v, h1⟩, ⟨v', h2⟩, h5⟩ (fun u hu => by obtain rfl : u = v := h1.val_eq hu; exact hp)
theorem Pr.thing (h : Pr W0 b b' its ts w) (x : Th) : Calls Try.prog 33 #[.pointer (some ⟨b', 0, none⟩), .agg #[.int .i64 x.k, .int .i64 x.n, .string x.s, .bool x.b]] w fun e w' => e = .returned (.bool (decide (ts.length < 100))) ∧ Pr W0 b b' its (addTo ts x) w' := by
  have hJ := h
  obtain ⟨⟨v, h1⟩, ⟨v', h2⟩, h5⟩ := h
  refine (RefAdd_calls x w W0.heap.size b' v' ts h2 h5.size).mono ?_
  rintro e w1 (⟨hl, rfl, hb⟩ | ⟨hl, rfl, v1, hc, ho, hat⟩)
  · refine ⟨by rw [decide_eq_false (by omega)], ?_⟩
    rw [show addTo ts x = ts from if_neg (by omega)]
    exact hJ.stay hb
  · refine ⟨by rw [decide_eq_true hl], ?_⟩
    rw [addTo_fit _ hl]
    have e1 : b ≠ b' := (blk_not_blk h1.blk h2.blk (by decide))
    refine ⟨⟨v, h1.only ho ?_ ?_⟩, ⟨v1, hc⟩, h5.trans (ho.below h5.size (fun q hq hs => (h2.foot q hs).1))⟩
    · rintro (e | e)
      · exact e1 e
      · exact own_not_blk h2.own h1.blk (by decide) e
    · rintro k hk (e | e)
      · subst e; exact own_not_blk h1.own h2.blk (by decide) hk
      · exact own_not_own h2.own h1.own (by decide) k e hk
end
end Go.Proofs.Ytodccdfpoocolaa
