/- Texts put together for a claim. -/
import Derived.Test.YtmdggodkkkihhaaDoorQ13JudgeLocks
import Derived.Test.YtmdggodkkkihhaaDoorRows
import Derived.Outline
import Derived.Deep.LoopGhost
import Derived.BigRegion
import Derived.Deep.DeepCutAuto
/- Contracts of slices' functions at whole numbers and at Needs: IndexFunc, ContainsFunc, Index, Contains. -/
set_option linter.unusedVariables false
set_option linter.unusedSimpArgs false
namespace Go.Proofs.YtmdggodkkkihhaaDoor
open Go.RowKit

/-- A predicate that may make memory of its own, on a row's elements. -/
def PredOn {α : Type} (enc : α → Value) (xs : List α) (g : Nat) (lb : Array Value) (p : α → Bool) (w : World) : Prop :=
  ∀ (W : World) (x : α), x ∈ xs → Below w.heap.size w W → Calls Tryd.prog g (#[enc x] ++ lb) W fun e w' => e = .returned (.bool (p x)) ∧ Below w.heap.size w w'
/-- The place of the first that is, or -1. -/
def idxF {α : Type} (p : α → Bool) : List α → Int
  | [] => -1
  | x :: t => if p x then 0 else if idxF p t < 0 then -1 else idxF p t + 1
theorem idxF_neg {α : Type} (p : α → Bool) : ∀ xs : List α, -1 ≤ idxF p xs ∧ (idxF p xs < 0 ↔ xs.any p = false)
  | [] => by simp [idxF]
  | x :: t => by
    have ih := idxF_neg p t
    rw [idxF]
    by_cases h : p x = true
    · simp [h]
    · rw [if_neg h]
      by_cases h2 : idxF p t < 0
      · rw [if_pos h2]
        have := ih.2.1 h2
        simp [h, this]
      · rw [if_neg h2]
        have h3 : ¬ t.any p = false := fun e => h2 (ih.2.2 e)
        refine ⟨by omega, ⟨fun h4 => by omega, fun h4 => ?_⟩⟩
        rw [List.any_cons] at h4
        simp only [Bool.or_eq_false_iff] at h4
        exact absurd h4.2 h3
theorem idxF_le {α : Type} (p : α → Bool) : ∀ xs : List α, idxF p xs < xs.length
  | [] => by simp [idxF]
  | x :: t => by
    have ih := idxF_le p t
    rw [idxF, List.length_cons]
    split
    · omega
    · split <;> omega
theorem idxF_at {α : Type} {p : α → Bool} : ∀ {xs : List α} {k : Nat} {x : α}, xs[k]? = some x → p x = true → (∀ j y, j < k → xs[j]? = some y → p y = false) → idxF p xs = k
  | [], k, x, h, _, _ => by simp at h
  | y :: t, 0, x, h, hp, _ => by
    simp only [List.getElem?_cons_zero, Option.some.injEq] at h
    subst h
    rw [idxF, if_pos hp]
    rfl
  | y :: t, k + 1, x, h, hp, hn => by
    have h0 := hn 0 y (by omega) rfl
    have ih := idxF_at (xs := t) (k := k) (x := x) (by simpa using h) hp (fun j z hj hz => hn (j + 1) z (by omega) (by simpa using hz))
    rw [idxF, if_neg (by rw [h0]; decide), ih, if_neg (by omega)]
    omega
theorem idxF_none {α : Type} {p : α → Bool} {xs : List α} (h : ∀ j y, j < xs.length → xs[j]? = some y → p y = false) : idxF p xs = -1 := by
  have h1 := idxF_neg p xs
  have h2 : xs.any p = false := by
    rw [List.any_eq_false]
    intro x hx
    obtain ⟨j, hj⟩ := List.mem_iff_getElem?.1 hx
    rw [h j x (List.getElem?_eq_some_iff.1 hj).1 hj]
    decide
  have := h1.2.2 h2
  omega
theorem none_step {α : Type} {p : α → Bool} {xs : List α} {k : Nat} {x : α} (h : ∀ j y, j < k → xs[j]? = some y → p y = false) (hx : xs[k]? = some x) (hp : p x = false) : ∀ j y, j < k + 1 → xs[j]? = some y → p y = false := by
  intro j y hj hy
  rcases Nat.lt_or_ge j k with h' | h'
  · exact h j y h' hy
  · obtain rfl : j = k := by omega
    rw [hx] at hy
    injection hy with hy
    rw [← hy]
    exact hp

set_option maxRecDepth 20000 in
set_option maxHeartbeats 2000000 in
theorem IFI_calls (w : World) (A : Option Addr) (n c : Nat) (xs : List Int) (hA : Sl flI w A n c xs) (g : Nat) (lb : Array Value) (eg : ∀ args w, (callFunc g args).run Tryd.prog w = .ok (.enter g args) w) (p : Int → Bool) (hp : PredOn (fun x => .int .i64 x) xs g lb p w) :
    Calls Tryd.prog 59 #[.slice A n c, .func (.func g) #[] lb] w fun e w' => e = .returned (.int .i64 (idxF p xs)) ∧ Below w.heap.size w w' := by
  have HL := Lib.hid hA.len
  have HA := Lib.hid hA
  have HP := Lib.hid hp
  have hn := hA.rf.2.1
  clear hA hp
  go_enter Tryd.func59, Tryd.ntmps59
  go_wp2_with fail
  go_loopw [8] (fun i wr => ∃ k : Nat, k ≤ n ∧ i = .int .i64 k ∧ Hid (Below w.heap.size w wr ∧ ∀ j y, j < k → xs[j]? = some y → p y = false)) (fun i _ => n - (intOf i).toNat)
  case atStart => exact ⟨0, by omega, rfl, Lib.hid ⟨Below.refl _ _, fun j y hj => absurd hj (by omega)⟩⟩
  case round =>
    obtain ⟨k, hk, rfl, hr⟩ := hrel
    by_cases hlt : k < n
    · obtain ⟨b, off, x, rfl, hx, c0⟩ := HA.out.int hlt
      have c0 := cell_stay hr.out.1 c0
      have HX := Lib.hid hx
      have hcall := Lib.hid (HP.out wr x (List.mem_of_getElem? hx) hr.out.1)
      clear hx
      cases hq : p x with
      | true =>
        rw [hq] at hcall
        have HF := Lib.hid (idxF_at HX.out hq hr.out.2)
        clear hq
        go_wp2_with fail
        refine hcall.out.mono ?_
        rintro e w' ⟨rfl, hb'⟩
        go_wp2_with fail
        go_ret
        exact ⟨ret_int (by rw [HF.out]), hb'⟩
      | false =>
        rw [hq] at hcall
        have HN := Lib.hid (none_step hr.out.2 HX.out hq)
        clear hq
        go_wp2_with fail
        refine hcall.out.mono ?_
        rintro e w' ⟨rfl, hb'⟩
        go_wp2_with fail
        go_roundw
        case rel => exact ⟨k + 1, by omega, by go_num, Lib.hid ⟨hb', HN.out⟩⟩
        case measure => simp [intOf]; omega
    · obtain rfl : n = k := by omega
      have HF := Lib.hid (idxF_none (fun j y hj hy => hr.out.2 j y (by have := HL.out; omega) hy))
      clear hlt
      go_wp2_with fail
      go_ret
      exact ⟨ret_int (by rw [HF.out]), hr.out.1⟩
theorem any_idxI (p : Int → Bool) (xs : List Int) : decide (0 ≤ idxF p xs) = xs.any p := by
  have h := idxF_neg p xs
  rw [Bool.eq_iff_iff, decide_eq_true_eq]
  constructor
  · intro h1
    cases h2 : xs.any p with
    | true => rfl
    | false => have := h.2.2 h2; omega
  · intro h1
    rcases Int.lt_or_le (idxF p xs) 0 with h2 | h2
    · rw [h.2.1 h2] at h1; cases h1
    · exact h2
theorem CFI_calls (w : World) (A : Option Addr) (n c : Nat) (xs : List Int) (hA : Sl flI w A n c xs) (g : Nat) (lb : Array Value) (eg : ∀ args w, (callFunc g args).run Tryd.prog w = .ok (.enter g args) w) (p : Int → Bool) (hp : PredOn (fun x => .int .i64 x) xs g lb p w) :
    Calls Tryd.prog 44 #[.slice A n c, .func (.func g) #[] lb] w fun e w' => e = .returned (.bool (xs.any p)) ∧ Below w.heap.size w w' := by
  have K := Lib.hid (IFI_calls w A n c xs hA g lb eg p hp)
  have HF := Lib.hid (any_idxI p xs)
  clear hA hp eg
  generalize idxF p xs = z at *
  go_enter Tryd.func44, Tryd.ntmps44
  go_wp2_with fail
  refine K.out.mono ?_
  rintro e w1 ⟨rfl, hb⟩
  go_wp2_with fail
  go_ret
  exact ⟨ret_bool (by rw [← HF.out]), hb⟩
set_option maxRecDepth 20000 in
set_option maxHeartbeats 2000000 in
theorem IFN_calls (w : World) (A : Option Addr) (n c : Nat) (xs : List Need) (hA : Sl flN w A n c xs) (g : Nat) (lb : Array Value) (eg : ∀ args w, (callFunc g args).run Tryd.prog w = .ok (.enter g args) w) (p : Need → Bool) (hp : PredOn (fun x => .agg #[.int .i64 x.p, .bool x.r]) xs g lb p w) :
    Calls Tryd.prog 67 #[.slice A n c, .func (.func g) #[] lb] w fun e w' => e = .returned (.int .i64 (idxF p xs)) ∧ Below w.heap.size w w' := by
  have HL := Lib.hid hA.len
  have HA := Lib.hid hA
  have HP := Lib.hid hp
  have hn := hA.rf.2.1
  clear hA hp
  go_enter Tryd.func67, Tryd.ntmps67
  go_wp2_with fail
  go_loopw [8] (fun i wr => ∃ k : Nat, k ≤ n ∧ i = .int .i64 k ∧ Hid (Below w.heap.size w wr ∧ ∀ j y, j < k → xs[j]? = some y → p y = false)) (fun i _ => n - (intOf i).toNat)
  case atStart => exact ⟨0, by omega, rfl, Lib.hid ⟨Below.refl _ _, fun j y hj => absurd hj (by omega)⟩⟩
  case round =>
    obtain ⟨k, hk, rfl, hr⟩ := hrel
    by_cases hlt : k < n
    · obtain ⟨b, off, x, rfl, hx, c0, c1⟩ := HA.out.need hlt
      have c0 := cell_stay hr.out.1 c0
      have c1 := cell_stay hr.out.1 c1
      have HX := Lib.hid hx
      have hcall := Lib.hid (HP.out wr x (List.mem_of_getElem? hx) hr.out.1)
      clear hx
      cases hq : p x with
      | true =>
        rw [hq] at hcall
        have HF := Lib.hid (idxF_at HX.out hq hr.out.2)
        clear hq
        go_wp2_with fail
        refine hcall.out.mono ?_
        rintro e w' ⟨rfl, hb'⟩
        go_wp2_with fail
        go_ret
        exact ⟨ret_int (by rw [HF.out]), hb'⟩
      | false =>
        rw [hq] at hcall
        have HN := Lib.hid (none_step hr.out.2 HX.out hq)
        clear hq
        go_wp2_with fail
        refine hcall.out.mono ?_
        rintro e w' ⟨rfl, hb'⟩
        go_wp2_with fail
        go_roundw
        case rel => exact ⟨k + 1, by omega, by go_num, Lib.hid ⟨hb', HN.out⟩⟩
        case measure => simp [intOf]; omega
    · obtain rfl : n = k := by omega
      have HF := Lib.hid (idxF_none (fun j y hj hy => hr.out.2 j y (by have := HL.out; omega) hy))
      clear hlt
      go_wp2_with fail
      go_ret
      exact ⟨ret_int (by rw [HF.out]), hr.out.1⟩
theorem any_idxN (p : Need → Bool) (xs : List Need) : decide (0 ≤ idxF p xs) = xs.any p := by
  have h := idxF_neg p xs
  rw [Bool.eq_iff_iff, decide_eq_true_eq]
  constructor
  · intro h1
    cases h2 : xs.any p with
    | true => rfl
    | false => have := h.2.2 h2; omega
  · intro h1
    rcases Int.lt_or_le (idxF p xs) 0 with h2 | h2
    · rw [h.2.1 h2] at h1; cases h1
    · exact h2
theorem CFN_calls (w : World) (A : Option Addr) (n c : Nat) (xs : List Need) (hA : Sl flN w A n c xs) (g : Nat) (lb : Array Value) (eg : ∀ args w, (callFunc g args).run Tryd.prog w = .ok (.enter g args) w) (p : Need → Bool) (hp : PredOn (fun x => .agg #[.int .i64 x.p, .bool x.r]) xs g lb p w) :
    Calls Tryd.prog 53 #[.slice A n c, .func (.func g) #[] lb] w fun e w' => e = .returned (.bool (xs.any p)) ∧ Below w.heap.size w w' := by
  have K := Lib.hid (IFN_calls w A n c xs hA g lb eg p hp)
  have HF := Lib.hid (any_idxN p xs)
  clear hA hp eg
  generalize idxF p xs = z at *
  go_enter Tryd.func53, Tryd.ntmps53
  go_wp2_with fail
  refine K.out.mono ?_
  rintro e w1 ⟨rfl, hb⟩
  go_wp2_with fail
  go_ret
  exact ⟨ret_bool (by rw [← HF.out]), hb⟩
end Go.Proofs.YtmdggodkkkihhaaDoor

/- Contracts of slices.Index and slices.Contains at whole numbers and at Needs. -/
set_option linter.unusedVariables false
set_option linter.unusedSimpArgs false
namespace Go.Proofs.YtmdggodkkkihhaaDoor
open Go.RowKit

theorem any_idx {α : Type} (p : α → Bool) (xs : List α) : decide (0 ≤ idxF p xs) = xs.any p := by
  have h := idxF_neg p xs
  rw [Bool.eq_iff_iff, decide_eq_true_eq]
  constructor
  · intro h1
    cases h2 : xs.any p with
    | true => rfl
    | false => have := h.2.2 h2; omega
  · intro h1
    rcases Int.lt_or_le (idxF p xs) 0 with h2 | h2
    · rw [h.2.1 h2] at h1; cases h1
    · exact h2
set_option maxRecDepth 20000 in
set_option maxHeartbeats 2000000 in
theorem IXI_calls (w : World) (A : Option Addr) (n c : Nat) (xs : List Int) (hA : Sl flI w A n c xs) (v : Int) :
    Calls Tryd.prog 70 #[.slice A n c, .int .i64 v] w fun e w' => e = .returned (.int .i64 (idxF (fun x => decide (v = x)) xs)) ∧ Below w.heap.size w w' := by
  have HL := Lib.hid hA.len
  have HA := Lib.hid hA
  have hn := hA.rf.2.1
  clear hA
  go_enter Tryd.func70, Tryd.ntmps70
  go_wp2_with fail
  go_loopw [8] (fun i wr => ∃ k : Nat, k ≤ n ∧ i = .int .i64 k ∧ Hid (Below w.heap.size w wr ∧ ∀ j y, j < k → xs[j]? = some y → decide (v = y) = false)) (fun i _ => n - (intOf i).toNat)
  case atStart => exact ⟨0, by omega, rfl, Lib.hid ⟨Below.refl _ _, fun j y hj => absurd hj (by omega)⟩⟩
  case round =>
    obtain ⟨k, hk, rfl, hr⟩ := hrel
    by_cases hlt : k < n
    · obtain ⟨b, off, x, rfl, hx, c0⟩ := HA.out.int hlt
      have c0 := cell_stay hr.out.1 c0
      have HX := Lib.hid hx
      clear hx
      by_cases hq : v = x
      · have HF := Lib.hid (idxF_at (p := fun x => decide (v = x)) HX.out (decide_eq_true hq) hr.out.2)
        subst hq
        go_wp2_with fail
        go_ret
        exact ⟨ret_int (by rw [HF.out]), hr.out.1⟩
      · have HN := Lib.hid (none_step (p := fun x => decide (v = x)) hr.out.2 HX.out (decide_eq_false hq))
        have hq1 : decide (v = x) = false := decide_eq_false hq
        go_wp2_with fail
        go_roundw
        case rel => exact ⟨k + 1, by omega, by go_num, Lib.hid ⟨hr.out.1, HN.out⟩⟩
        case measure => simp [intOf]; omega
    · obtain rfl : n = k := by omega
      have HF := Lib.hid (idxF_none (p := fun x => decide (v = x)) (fun j y hj hy => hr.out.2 j y (by have := HL.out; omega) hy))
      clear hlt
      go_wp2_with fail
      go_ret
      exact ⟨ret_int (by rw [HF.out]), hr.out.1⟩
theorem CTI_calls (w : World) (A : Option Addr) (n c : Nat) (xs : List Int) (hA : Sl flI w A n c xs) (v : Int) :
    Calls Tryd.prog 61 #[.slice A n c, .int .i64 v] w fun e w' => e = .returned (.bool (xs.any fun x => decide (v = x))) ∧ Below w.heap.size w w' := by
  have K := Lib.hid (IXI_calls w A n c xs hA v)
  have HF := Lib.hid (any_idx (fun x => decide (v = x)) xs)
  clear hA
  generalize idxF (fun x => decide (v = x)) xs = z at *
  go_enter Tryd.func61, Tryd.ntmps61
  go_wp2_with (refine K.out.mono ?_; rintro e w1 ⟨rfl, hb⟩)
  go_ret
  exact ⟨ret_bool (by rw [← HF.out]), hb⟩
end Go.Proofs.YtmdggodkkkihhaaDoor
