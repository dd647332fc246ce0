/- The plain law: what was packed is unpacked, and nothing else. -/
import Derived.Test.YtodccdfpoocolaaWrUnp
set_option linter.unusedVariables false
namespace Go.Proofs.Ytodccdfpoocolaa
open Go.RowKit Go.Lib

theorem pow256 (k : Nat) : 2 ^ (8 * k) = 256 ^ k := by rw [Nat.pow_mul]
theorem numB_big (z m : Nat) : ∀ k, k ≤ m → numB (bigTo z m k) = z / 256 ^ (m - k) % 256 ^ k
  | 0, _ => by simp [bigTo, numB, Nat.mod_one]
  | k + 1, hk => by
    have ih := numB_big z m k (by omega)
    rw [bigTo_succ, numB_snoc, ih]
    unfold byteAt
    rw [pow256, show m - 1 - k = m - (k + 1) by omega, show m - k = (m - (k + 1)) + 1 by omega, Nat.pow_succ, ← Nat.div_div_eq_div_mul]
    generalize z / 256 ^ (m - (k + 1)) = y
    rw [Nat.pow_succ, Nat.mul_comm (256 ^ k) 256, Nat.mod_mul]
    omega
theorem numB_bigB {z m : Nat} (h : z < 256 ^ m) : numB (bigB z m) = z := by
  unfold bigB
  rw [numB_big z m m (Nat.le_refl _), Nat.sub_self, Nat.pow_zero, Nat.div_one, Nat.mod_eq_of_lt h]
theorem bigB_len (z m : Nat) : (bigB z m).length = m := bigTo_len z m m
theorem strOfB_strB (s : ByteArray) : strOfB (strB s) = s := by
  apply ByteArray.ext
  apply Array.toList_inj.1
  unfold strOfB
  rw [strOfNums_data]
  unfold strB
  rw [List.map_map, List.map_map]
  conv => rhs; rw [← List.map_id s.data.toList]
  refine List.map_congr_left fun b _ => ?_
  simp
/-- A thing that a telegram can bear. -/
def Good : It → Prop
  | .num n => -9223372036854775808 ≤ n ∧ n < 9223372036854775808
  | .txt s => s.size ≤ 200
  | .tru _ => True
theorem takeI_thing (x : It) (r : List Nat) (h : Good x) : takeI (thingB x ++ r) = some (x, r) := by
  cases x with
  | num n =>
    have hl : 8 ≤ (bigB (u64 n) 8 ++ r).length := by rw [List.length_append, bigB_len]; omega
    have e : thingB (.num n) ++ r = 1 :: (bigB (u64 n) 8 ++ r) := rfl
    rw [e, takeI_1 hl, List.take_append_of_le_length (by rw [bigB_len]; omega), List.drop_append_of_le_length (by rw [bigB_len]; omega)]
    rw [List.take_of_length_le (by rw [bigB_len]; omega), List.drop_of_length_le (by rw [bigB_len]; omega), List.nil_append]
    rw [numB_bigB (u64_lt n)]
    have h1 : wrap64 ((u64 n : Nat) : Int) = n := by
      unfold wrap64
      rw [u64_int]
      obtain ⟨h3, h4⟩ := h
      omega
    rw [h1]
  | txt s =>
    have hs : s.size ≤ 200 := h
    have e : thingB (.txt s) ++ r = 2 :: (s.size % 256) :: (strB s ++ r) := rfl
    have hm : s.size % 256 = s.size := Nat.mod_eq_of_lt (by omega)
    rw [e, hm, takeI_2 (by rw [List.length_append, strB_len]; omega), List.take_append_of_le_length (by rw [strB_len]; omega), List.drop_append_of_le_length (by rw [strB_len]; omega)]
    rw [List.take_of_length_le (by rw [strB_len]; omega), List.drop_of_length_le (by rw [strB_len]; omega), List.nil_append, strOfB_strB]
  | tru b =>
    cases b <;> rfl
theorem parse_items : ∀ (its acc : List It) (r : List Nat), acc.length + its.length ≤ 100 → (∀ x ∈ its, Good x) → parse its.length acc (its.flatMap thingB ++ r) = some (acc ++ its)
  | [], acc, r, _, _ => by simp [parse]
  | x :: t, acc, r, hl, hg => by
    rw [List.length_cons, List.flatMap_cons, List.append_assoc]
    rw [List.length_cons] at hl
    rw [parse_step (takeI_thing x _ (hg x List.mem_cons_self)) (by omega)]
    rw [parse_items t (acc ++ [x]) r (by rw [List.length_append]; simp; omega) (fun y hy => hg y (List.mem_cons_of_mem _ hy))]
    simp
theorem packB_ok {its : List It} {bs : List Nat} (h : packB its = some bs) : its.all okB = true ∧ (bodyB its).length ≤ 4000 ∧ bs = headB (bodyB its) ++ bodyB its := by
  unfold packB at h
  split at h
  · rename_i hc
    injection h with h
    exact ⟨hc.1, hc.2, h.symm⟩
  · cases h
theorem headB_len (body : List Nat) : (headB body).length = 6 := by simp [headB, bigB_len]
/-- What was packed is unpacked as it was. -/
theorem unpack_pack {its : List It} {bs : List Nat} (h : packB its = some bs) (hl : its.length ≤ 100) (hg : ∀ x ∈ its, Good x) : unpackP bs = some its := by
  obtain ⟨h1, h2, h3⟩ := packB_ok h
  have hb : bodyB its = (its.length % 256) :: its.flatMap thingB := rfl
  have hm : its.length % 256 = its.length := Nat.mod_eq_of_lt (by omega)
  have hlen : ¬ bs.length ≤ 6 := by rw [h3, List.length_append, headB_len, hb, List.length_cons]; omega
  have hget : bs.getD 6 0 = its.length := by
    rw [h3, List.getD_eq_getElem?_getD, List.getElem?_append_right (by rw [headB_len]; omega), headB_len, hb, hm]
    rfl
  have hdrop : bs.drop 7 = its.flatMap thingB ++ [] := by
    rw [h3, show 7 = (headB (bodyB its)).length + 1 by rw [headB_len], List.drop_append, hb]
    simp
  rw [unpackP_long hlen, hget, hdrop, parse_items its [] [] (by simp; omega) hg]
  exact if_pos h
theorem unpack_some {its : List It} {bs : List Nat} (h : unpackP bs = some its) : packB its = some bs := by
  unfold unpackP at h
  split at h
  · cases h
  · split at h
    · cases h
    · split at h
      · rename_i hp
        injection h with h
        subst h
        exact hp
      · cases h
/-- Owned is read; the capacity. -/
theorem Ow.readc {α : Type} {f : Fl α} {w : World} {base : Nat} {e : TypeId} {v : Value} {xs : List α} (h : Ow f w base e v xs) (hs : 0 < f.sz) : ∃ A c, v = .slice A xs.length c ∧ Rf f w A xs.length xs ∧ xs.length ≤ c ∧ c ≤ 9223372036854775807 := by
  obtain ⟨A, c, e, hR⟩ := h.read hs
  refine ⟨A, c, e, hR, ?_⟩
  subst e
  rcases h.2 with ⟨e, h0⟩ | ⟨g, cap, cur, e, _, _, h1, h2, _⟩
  · injection e with _ e1 e2; omega
  · injection e with _ _ e2; simp only [maxLen] at h2; omega
theorem pack_byte {its : List It} {bs : List Nat} (h : packB its = some bs) : ∀ x ∈ bs, x < 256 := by
  obtain ⟨_, _, rfl⟩ := packB_ok h
  intro y hy
  rcases List.mem_append.1 hy with h | h
  · rcases List.mem_append.1 h with h | h
    · exact bigB_byte _ _ _ h
    · exact bigB_byte _ _ _ h
  · exact bodyB_byte _ _ h
theorem owB_form {w : World} {base : Nat} {A : Option Addr} {n c : Nat} {xs : List Nat} (h : Ow flB w base 5 (.slice A n c) xs) (hl : xs.length = n) (hn : 0 < n) : ∃ g, A = some ⟨g, 0, none⟩ ∧ base ≤ g ∧ g < w.heap.size := by
  have hlt := World.ownsRow.lt h
  rcases h.2 with ⟨e, h0⟩ | ⟨g, cap, cur, e, hb, _⟩
  · injection e with _ e1 _; omega
  · injection e with e1 _ _
    subst e1
    exact ⟨g, rfl, (hlt g rfl).1, (hlt g rfl).2⟩
theorem packB_some {its : List It} (h1 : its.all okB = true) (h2 : (bodyB its).length ≤ 4000) : packB its = some (headB (bodyB its) ++ bodyB its) := if_pos ⟨h1, h2⟩
end Go.Proofs.Ytodccdfpoocolaa
