/- The plain laws: what is turned, cut short, or has more behind it is no telegram. -/
import Derived.Test.YtodccdfpoocolaaWrRt
import Derived.Test.YtodccdfpoocolaaSumTurn
set_option linter.unusedVariables false
namespace Go.Proofs.Ytodccdfpoocolaa
open Go.RowKit Go.Lib

theorem Rf.takeB {w : World} {A : Option Addr} {n : Nat} {xs : List Nat} (h : Rf flB w A n xs) {k : Nat} (hk : k ≤ n) : Rf flB w A k (xs.take k) := by
  obtain ⟨h1, h2, h3⟩ := h
  refine ⟨by rw [List.length_take]; omega, by omega, fun hp => ?_⟩
  obtain ⟨b, off, e, hc⟩ := h3 (by omega)
  exact ⟨b, off, e, fun j x hx i v hv => hc j x (by rw [List.getElem?_take] at hx; split at hx; exact hx; cases hx) i v hv⟩
theorem headB_inj {a b : List Nat} (ha : a.length ≤ 4000) (hb : b.length ≤ 4000) (h : headB a = headB b) : crcAll [a] = crcAll [b] ∧ a.length = b.length := by
  unfold headB at h
  have h1 := List.append_inj h (by rw [bigB_len, bigB_len])
  have e1 := congrArg numB h1.1
  have e2 := congrArg numB h1.2
  rw [numB_bigB (by have := crcAll_u32 [a]; show _ < 4294967296; omega), numB_bigB (by have := crcAll_u32 [b]; show _ < 4294967296; omega)] at e1
  rw [numB_bigB (by show _ < 65536; omega), numB_bigB (by show _ < 65536; omega)] at e2
  exact ⟨e1, e2⟩
theorem head_take {its : List It} {bs : List Nat} (h : packB its = some bs) : bs.take 6 = headB (bodyB its) ∧ bs.drop 6 = bodyB its ∧ (bodyB its).length ≤ 4000 := by
  obtain ⟨_, h2, rfl⟩ := packB_ok h
  refine ⟨?_, ?_, h2⟩
  · rw [List.take_append_of_le_length (by rw [headB_len]; omega), List.take_of_length_le (by rw [headB_len]; omega)]
  · rw [List.drop_append_of_le_length (by rw [headB_len]; omega), List.drop_of_length_le (by rw [headB_len]; omega), List.nil_append]
/-- Two telegrams with one head are of one length. -/
theorem one_head {its its' : List It} {xs ys : List Nat} (h : packB its = some xs) (h' : packB its' = some ys) (e : xs.take 6 = ys.take 6) : xs.length = ys.length := by
  obtain ⟨h1, h2, h3⟩ := head_take h
  obtain ⟨g1, g2, g3⟩ := head_take h'
  rw [h1, g1] at e
  have hl := (headB_inj h3 g3 e).2
  have e1 := congrArg List.length h2
  have e2 := congrArg List.length g2
  rw [List.length_drop] at e1 e2
  have k1 := congrArg List.length h1
  have k2 := congrArg List.length g1
  rw [List.length_take, headB_len] at k1 k2
  omega
theorem short_none {its : List It} {bs : List Nat} (h : packB its = some bs) {k : Nat} (hk : k < bs.length) : unpackP (bs.take k) = none := by
  cases hu : unpackP (bs.take k) with
  | none => rfl
  | some its' =>
    exfalso
    have h6 : ¬ k ≤ 6 := fun h6 => by
      rw [unpackP_short (by rw [List.length_take]; omega)] at hu
      cases hu
    have hp := unpack_some hu
    have := one_head h hp (by rw [List.take_take, Nat.min_eq_left (by omega)])
    rw [List.length_take] at this
    omega
theorem more_none {its : List It} {bs more : List Nat} (h : packB its = some bs) (hm : 0 < more.length) : unpackP (bs ++ more) = none := by
  cases hu : unpackP (bs ++ more) with
  | none => rfl
  | some its' =>
    exfalso
    have hp := unpack_some hu
    have hl : 6 ≤ bs.length := by
      have k1 := congrArg List.length (head_take h).1
      rw [List.length_take, headB_len] at k1
      omega
    have := one_head h hp (by rw [List.take_append_of_le_length hl])
    rw [List.length_append] at this
    omega
theorem turned_none {its : List It} {bs : List Nat} (h : packB its = some bs) {k y : Nat} (hk : k < bs.length) (hy : y < 256) (hne : y ≠ bs.getD k 0) : unpackP (bs.set k y) = none := by
  cases hu : unpackP (bs.set k y) with
  | none => rfl
  | some its' =>
    exfalso
    have hp := unpack_some hu
    have hb := pack_byte h
    obtain ⟨h1, h2, h3⟩ := head_take h
    obtain ⟨g1, g2, g3⟩ := head_take hp
    have hgd : bs.getD k 0 = bs[k] := by rw [List.getD_eq_getElem?_getD, List.getElem?_eq_getElem hk]; rfl
    by_cases h6 : k < 6
    · have e2 : bodyB its' = bodyB its := by rw [← g2, ← h2, List.drop_set_of_lt h6]
      have e1 : (bs.set k y).take 6 = bs.take 6 := by rw [g1, h1, e2]
      have := congrArg (fun l => l[k]?) e1
      simp only [List.getElem?_take, if_pos h6, List.getElem?_set_self hk, List.getElem?_eq_getElem hk, Option.some.injEq] at this
      exact hne (by rw [hgd, this])
    · have e1 : (bs.set k y).take 6 = bs.take 6 := by rw [List.take_set_of_le (by omega)]
      rw [g1, h1] at e1
      have hc := (headB_inj g3 h3 e1).1
      have e2 : bodyB its' = (bodyB its).set (k - 6) y := by
        rw [← g2, ← h2, List.drop_set, if_neg (by omega)]
      rw [e2] at hc
      have hl : k - 6 < (bodyB its).length := by rw [← h2, List.length_drop]; omega
      have hg : (bodyB its).getD (k - 6) 0 = bs.getD k 0 := by
        rw [← h2, List.getD_eq_getElem?_getD, List.getD_eq_getElem?_getD, List.getElem?_drop, show 6 + (k - 6) = k by omega]
      exact crcAll_set (bodyB its) (k - 6) y (bodyB_byte its) hl hy (by rw [hg]; exact hne) hc
end Go.Proofs.Ytodccdfpoocolaa
