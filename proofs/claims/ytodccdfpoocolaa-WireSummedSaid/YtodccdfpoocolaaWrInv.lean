/- The plain law of the document's Unpack. -/
import Derived.Test.YtodccdfpoocolaaWrPl
import Derived.Test.YtodccdfpoocolaaWrRPk
set_option linter.unusedVariables false
namespace Go.Proofs.Ytodccdfpoocolaa
open Go.RowKit Go.Lib

/-- Bytes of a number that bytes are. -/
theorem big_numB : ∀ (l : List Nat), (∀ x ∈ l, x < 256) → bigB (numB l) l.length = l := by
  intro l hl
  have key : ∀ k, k ≤ l.length → bigTo (numB l) l.length k = l.take k := by
    intro k
    induction k with
    | zero => intro _; simp [bigTo]
    | succ k ih =>
      intro hk
      rw [bigTo_succ, ih (by omega)]
      have hg : l[k]? = some l[k] := List.getElem?_eq_getElem (by omega)
      rw [List.take_add_one, hg]
      congr 1
      show [byteAt (numB l) l.length k] = [l[k]]
      congr 1
      unfold byteAt
      rw [pow256]
      -- numB l = numB (l.take (k+1)) * 256^(rest) + numB (l.drop (k+1))
      have split : ∀ (a b : List Nat), numB (a ++ b) = numB a * 256 ^ b.length + numB b := by
        intro a b
        induction b generalizing a with
        | nil => simp [numB]
        | cons x b ih =>
          have e1 : a ++ x :: b = (a ++ [x]) ++ b := by simp
          have e2 : x :: b = [x] ++ b := rfl
          have e3 : numB [x] = x := by simp [numB]
          have e4 : (256 : Nat) ^ (x :: b).length = 256 * 256 ^ b.length := by rw [List.length_cons, Nat.pow_succ, Nat.mul_comm]
          rw [e1, ih (a ++ [x]), numB_snoc, e4, e2, ih [x], e3, Nat.add_mul, Nat.mul_assoc, Nat.add_assoc]
      have e := split (l.take (k + 1)) (l.drop (k + 1))
      rw [List.take_append_drop] at e
      have hlt : numB (l.drop (k + 1)) < 256 ^ (l.drop (k + 1)).length := by
        have := numB_lt (xs := l.drop (k + 1)) (fun x hx => hl x (List.mem_of_mem_drop hx)) (l.drop (k + 1)).length
        rwa [List.take_length] at this
      have hdl : (l.drop (k + 1)).length = l.length - 1 - k := by rw [List.length_drop]; omega
      rw [hdl] at e hlt
      rw [e, Nat.add_comm, Nat.add_mul_div_right _ _ (Nat.pos_of_ne_zero (by simp)), Nat.div_eq_of_lt hlt, Nat.zero_add, numB_take hg]
      have := hl l[k] (List.getElem_mem _)
      omega
  have := key l.length (Nat.le_refl _)
  rw [List.take_length] at this
  exact this
theorem strB_strOfB {l : List Nat} (hl : ∀ x ∈ l, x < 256) : strB (strOfB l) = l := by
  have e := strOfB_strB (strOfB l)
  have hb : ∀ x ∈ strB (strOfB l), x < 256 := strB_byte _
  exact strOfB_inj hb hl e
theorem u64_wrap64 {z : Nat} (h : z < 18446744073709551616) : u64 (wrap64 (z : Int)) = z := by
  unfold u64 wrap64
  omega
/-- The document's taking. -/
def takeR : List Nat → Option (Th × Nat)
  | [] => none
  | k :: r =>
    if k = 1 then if 8 ≤ r.length then some (⟨1, wrap64 (numB (r.take 8) : Nat), .empty, false⟩, 9) else none
    else if k = 2 then match r with
      | [] => none
      | n :: r' => if n ≤ 200 ∧ n ≤ r'.length then some (⟨2, 0, strOfB (r'.take n), false⟩, 2 + n) else none
    else if k = 3 then match r with
      | [] => none
      | v :: r' => if v ≤ 1 then some (⟨3, 0, .empty, (v : Int) == 1⟩, 2) else none
    else none
theorem takeR_inv {bs : List Nat} {t : Th} {k : Nat} (hb : ∀ x ∈ bs, x < 256) (h : takeR bs = some (t, k)) : bs = thingB (itOf t) ++ bs.drop k ∧ Good (itOf t) ∧ k ≤ bs.length ∧ 2 ≤ k ∧ Plt [t] ∧ (t.k = 1 ∨ t.k = 2 ∨ t.k = 3) := by
  unfold takeR at h
  split at h
  · cases h
  · rename_i a r
    have hr : ∀ x ∈ r, x < 256 := fun x hx => hb x (List.mem_cons_of_mem _ hx)
    split at h
    · split at h
      · rename_i h1 h8
        injection h with h
        injection h with h2 h3
        subst h1 h2 h3
        have hl8 : (r.take 8).length = 8 := by rw [List.length_take]; omega
        have hr8 : ∀ x ∈ r.take 8, x < 256 := fun x hx => hr x (List.mem_of_mem_take hx)
        have hz : numB (r.take 8) < 18446744073709551616 := by
          have := numB_lt hr8 8
          rw [List.take_take, Nat.min_self] at this
          exact this
        refine ⟨?_, ?_, by rw [List.length_cons]; omega, by omega, ?_, .inl rfl⟩
        · show 1 :: r = 1 :: (bigB (u64 (wrap64 (numB (r.take 8) : Nat))) 8) ++ r.drop 8
          rw [u64_wrap64 hz]
          have e := big_numB (r.take 8) hr8
          rw [hl8] at e
          rw [e, List.cons_append, List.take_append_drop]
        · show -9223372036854775808 ≤ wrap64 (numB (r.take 8) : Nat) ∧ wrap64 (numB (r.take 8) : Nat) < 9223372036854775808
          unfold wrap64
          omega
        · intro t ht; rw [List.mem_singleton.1 ht]; rfl
      · cases h
    · split at h
      · split at h
        · cases h
        · rename_i h2 _ n r'
          split at h
          · rename_i hc
            injection h with h
            injection h with h3 h4
            subst h2 h3 h4
            have hr' : ∀ x ∈ r'.take n, x < 256 := fun x hx => hr x (List.mem_cons_of_mem _ (List.mem_of_mem_take hx))
            have hsz : (strOfB (r'.take n)).size = n := by unfold strOfB; rw [strOfNums_size, List.length_map, List.length_take]; omega
            refine ⟨?_, ?_, by simp only [List.length_cons]; omega, by omega, ?_, .inr (.inl rfl)⟩
            · show 2 :: n :: r' = 2 :: ((strOfB (r'.take n)).size % 256) :: strB (strOfB (r'.take n)) ++ (2 :: n :: r').drop (2 + n)
              rw [hsz, Nat.mod_eq_of_lt (by omega), strB_strOfB hr', Nat.add_comm 2 n]
              show 2 :: n :: r' = 2 :: n :: (r'.take n ++ r'.drop n)
              rw [List.take_append_drop]
            · show (strOfB (r'.take n)).size ≤ 200
              omega
            · intro t ht; rw [List.mem_singleton.1 ht]; rfl
          · cases h
      · split at h
        · split at h
          · cases h
          · rename_i h3 _ v r'
            split at h
            · rename_i hv
              injection h with h
              injection h with h4 h5
              subst h3 h4 h5
              refine ⟨?_, trivial, by simp only [List.length_cons]; omega, by omega, ?_, .inr (.inr rfl)⟩
              · show 3 :: v :: r' = [3, boolN ((v : Int) == 1)] ++ r'
                have : boolN ((v : Int) == 1) = v := by
                  rcases Nat.le_one_iff_eq_zero_or_eq_one.1 hv with rfl | rfl <;> rfl
                rw [this]
                rfl
              · intro t ht; rw [List.mem_singleton.1 ht]; rfl
            · cases h
        · cases h
def thOf : It → Th
  | .num n => ⟨1, n, .empty, false⟩
  | .txt s => ⟨2, 0, s, false⟩
  | .tru b => ⟨3, 0, .empty, b⟩
theorem itOf_thOf (x : It) : itOf (thOf x) = x := by cases x <;> rfl
theorem takeR_thing (x : It) (r : List Nat) (h : Good x) : takeR (thingB x ++ r) = some (thOf x, (thingB x).length) := by
  cases x with
  | num n =>
    have hl : 8 ≤ (bigB (u64 n) 8 ++ r).length := by rw [List.length_append, bigB_len]; omega
    have e : thingB (.num n) ++ r = 1 :: (bigB (u64 n) 8 ++ r) := rfl
    have hn : wrap64 ((u64 n : Nat) : Int) = n := by
      unfold wrap64
      rw [u64_int]
      obtain ⟨h3, h4⟩ := h
      omega
    have ht : (bigB (u64 n) 8 ++ r).take 8 = bigB (u64 n) 8 := by
      rw [List.take_append_of_le_length (by rw [bigB_len]; omega), List.take_of_length_le (by rw [bigB_len]; omega)]
    rw [e]
    have : takeR (1 :: (bigB (u64 n) 8 ++ r)) = some (⟨1, wrap64 (numB ((bigB (u64 n) 8 ++ r).take 8) : Nat), .empty, false⟩, 9) := by
      rw [takeR.eq_def]
      simp only [if_true, if_pos hl]
    rw [this, ht, numB_bigB (u64_lt n), hn]
    simp only [thOf, thingB, List.length_cons, bigB_len]
  | txt s =>
    have hs : s.size ≤ 200 := h
    have hm : s.size % 256 = s.size := Nat.mod_eq_of_lt (by omega)
    have e : thingB (.txt s) ++ r = 2 :: s.size :: (strB s ++ r) := by show 2 :: (s.size % 256) :: (strB s ++ r) = _; rw [hm]
    have ht : (strB s ++ r).take s.size = strB s := by
      rw [List.take_append_of_le_length (by rw [strB_len]; omega), List.take_of_length_le (by rw [strB_len]; omega)]
    have hl : s.size ≤ 200 ∧ s.size ≤ (strB s ++ r).length := ⟨hs, by rw [List.length_append, strB_len]; omega⟩
    have : takeR (2 :: s.size :: (strB s ++ r)) = some (⟨2, 0, strOfB ((strB s ++ r).take s.size), false⟩, 2 + s.size) := by
      rw [takeR.eq_def]
      simp [hl]
      rw [strB_len]
      omega
    rw [e, this, ht, strOfB_strB]
    simp only [thOf, thingB, List.length_cons, strB_len]
    rw [show 2 + s.size = s.size + 1 + 1 by omega]
  | tru b => cases b <;> rfl
def parseR : Nat → List Th → List Nat → Option (List Th × List Nat)
  | 0, acc, bs => some (acc, bs)
  | n + 1, acc, bs => match takeR bs with
    | none => none
    | some (t, k) => if acc.length < 100 then parseR n (acc ++ [t]) (bs.drop k) else none
theorem parseR_items : ∀ (its : List It) (acc : List Th) (r : List Nat), acc.length + its.length ≤ 100 → (∀ x ∈ its, Good x) → parseR its.length acc (its.flatMap thingB ++ r) = some (acc ++ its.map thOf, r)
  | [], acc, r, _, _ => by simp [parseR]
  | x :: t, acc, r, hl, hg => by
    rw [List.length_cons] at hl
    rw [List.length_cons, List.flatMap_cons, List.append_assoc, parseR, takeR_thing x _ (hg x List.mem_cons_self)]
    dsimp only
    rw [if_pos (by omega), List.drop_left, parseR_items t (acc ++ [thOf x]) r (by rw [List.length_append]; simp; omega) (fun y hy => hg y (List.mem_cons_of_mem _ hy))]
    simp
theorem parseR_inv : ∀ (n : Nat) (acc ts : List Th) (bs r : List Nat), (∀ x ∈ bs, x < 256) → acc.length ≤ 100 → (∀ t ∈ acc, Good (itOf t) ∧ Plt [t]) → parseR n acc bs = some (ts, r) →
    ∃ us, ts = acc ++ us ∧ us.length = n ∧ ts.length ≤ 100 ∧ bs = (us.map itOf).flatMap thingB ++ r ∧ (∀ t ∈ ts, Good (itOf t) ∧ Plt [t])
  | 0, acc, ts, bs, r, _, ha, hg, h => by
    rw [parseR] at h
    injection h with h
    injection h with h1 h2
    subst h1 h2
    exact ⟨[], by simp, rfl, ha, by simp, hg⟩
  | n + 1, acc, ts, bs, r, hb, ha, hg, h => by
    rw [parseR] at h
    split at h
    · cases h
    · rename_i t k ht
      split at h
      · rename_i hl
        obtain ⟨i1, i2, i3, i4, i5, i6⟩ := takeR_inv hb ht
        obtain ⟨us, j1, j2, j3, j4, j5⟩ := parseR_inv n (acc ++ [t]) ts (bs.drop k) r (fun x hx => hb x (List.mem_of_mem_drop hx)) (by rw [List.length_append]; simp; omega) (fun y hy => by
          rcases List.mem_append.1 hy with h | h
          · exact hg y h
          · rw [List.mem_singleton.1 h]; exact ⟨i2, i5⟩) h
        refine ⟨t :: us, by rw [j1]; simp, by rw [List.length_cons, j2], j3, ?_, j5⟩
        rw [List.map_cons, List.flatMap_cons, List.append_assoc, ← j4]
        exact i1
      · cases h
def refU (bs : List Nat) : Option (List Th) :=
  if bs.length < 7 ∨ 4000 < bs.length - 6 then none
  else if numB (bs.take 4) ≠ crcAll [bs.drop 6] ∨ numB ((bs.drop 4).take 2) ≠ (bs.drop 6).length then none
  else match parseR (bs.getD 6 0) [] (bs.drop 7) with
    | none => none
    | some (ts, r) => if r.length = 0 then some ts else none
theorem refU_inv {bs : List Nat} {ts : List Th} (hb : ∀ x ∈ bs, x < 256) (h : refU bs = some ts) : packB (ts.map itOf) = some bs ∧ ts.length ≤ 100 ∧ ∀ t ∈ ts, Good (itOf t) ∧ Plt [t] := by
  unfold refU at h
  split at h
  · cases h
  · rename_i h7
    split at h
    · cases h
    · rename_i hs
      split at h
      · cases h
      · rename_i ts' r hp
        split at h
        · rename_i hr
          injection h with h
          subst h
          have hr0 : r = [] := List.eq_nil_of_length_eq_zero hr
          subst hr0
          obtain ⟨us, j1, j2, j3, j4, j5⟩ := parseR_inv _ _ _ _ _ (fun x hx => hb x (List.mem_of_mem_drop hx)) (by simp) (by simp) hp
          rw [List.nil_append] at j1
          subst j1
          rw [List.append_nil] at j4
          have hd : bs.drop 6 = bs.getD 6 0 :: bs.drop 7 := by
            rw [List.drop_eq_getElem_cons (by omega), List.getD_eq_getElem?_getD, List.getElem?_eq_getElem (by omega)]
            rfl
          have hbody : bodyB (ts'.map itOf) = bs.drop 6 := by
            unfold bodyB
            rw [List.length_map, j2, Nat.mod_eq_of_lt (by rw [← j2]; omega), ← j4, hd]
          have hs1 : numB (bs.take 4) = crcAll [bs.drop 6] := by
            by_cases e : numB (bs.take 4) = crcAll [bs.drop 6]
            · exact e
            · exact absurd (.inl e) hs
          have hs2 : numB ((bs.drop 4).take 2) = (bs.drop 6).length := by
            by_cases e : numB ((bs.drop 4).take 2) = (bs.drop 6).length
            · exact e
            · exact absurd (.inr e) hs
          have e1 := big_numB (bs.take 4) (fun x hx => hb x (List.mem_of_mem_take hx))
          rw [show (bs.take 4).length = 4 by rw [List.length_take]; omega, hs1] at e1
          have e2 := big_numB ((bs.drop 4).take 2) (fun x hx => hb x (List.mem_of_mem_drop (List.mem_of_mem_take hx)))
          rw [show ((bs.drop 4).take 2).length = 2 by rw [List.length_take, List.length_drop]; omega, hs2] at e2
          refine ⟨?_, j3, j5⟩
          have hok : (ts'.map itOf).all okB = true := by
            rw [List.all_eq_true]
            intro y hy
            obtain ⟨t, ht, rfl⟩ := List.mem_map.1 hy
            have hg := (j5 t ht).1
            cases hi : itOf t with
            | num n => rfl
            | tru b => rfl
            | txt s =>
              rw [hi] at hg
              have : s.size ≤ 200 := hg
              simp only [okB, decide_eq_true_eq]
              omega
          rw [packB_some hok (by rw [hbody, List.length_drop]; omega), hbody]
          congr 1
          unfold headB
          rw [e1, e2]
          have e3 : bs.take 4 ++ (bs.drop 4).take 2 = bs.take 6 := by
            have := List.take_add (l := bs) (i := 4) (j := 2)
            exact this.symm
          rw [e3, List.take_append_drop]
        · cases h
/-- A number within reach. -/
def Rng : It → Prop
  | .num n => -9223372036854775808 ≤ n ∧ n < 9223372036854775808
  | _ => True
theorem takeI_rng {bs r : List Nat} {x : It} (h : takeI bs = some (x, r)) : Rng x := by
  cases x with
  | txt s => trivial
  | tru b => trivial
  | num n =>
    unfold takeI at h
    split at h
    · cases h
    · split at h
      · split at h
        · injection h with h; injection h with h1 _
          injection h1 with h1
          subst h1
          show -9223372036854775808 ≤ wrap64 _ ∧ wrap64 _ < 9223372036854775808
          unfold wrap64
          omega
        · cases h
      · split at h
        · split at h
          · cases h
          · split at h
            · injection h with h; injection h with h1 _; cases h1
            · cases h
        · split at h
          · split at h
            · cases h
            · injection h with h; injection h with h1 _; cases h1
          · cases h
theorem parse_rng : ∀ (n : Nat) (acc its : List It) (bs : List Nat), acc.length ≤ 100 → (∀ x ∈ acc, Rng x) → parse n acc bs = some its → its.length ≤ 100 ∧ ∀ x ∈ its, Rng x
  | 0, acc, its, bs, ha, hg, h => by
    rw [parse] at h
    injection h with h
    subst h
    exact ⟨ha, hg⟩
  | n + 1, acc, its, bs, ha, hg, h => by
    rw [parse] at h
    split at h
    · rename_i hl
      split at h
      · cases h
      · rename_i x r ht
        exact parse_rng n (acc ++ [x]) its r (by rw [List.length_append]; simp; omega) (fun y hy => by
          rcases List.mem_append.1 hy with h | h
          · exact hg y h
          · rw [List.mem_singleton.1 h]; exact takeI_rng ht) h
    · cases h
theorem unpack_good {bs : List Nat} {its : List It} (h : unpackP bs = some its) : its.length ≤ 100 ∧ ∀ x ∈ its, Good x := by
  have hp := unpack_some h
  have hok := (packB_ok hp).1
  rw [List.all_eq_true] at hok
  unfold unpackP at h
  split at h
  · cases h
  · split at h
    · cases h
    · rename_i its' hpa
      split at h
      · injection h with h
        subst h
        obtain ⟨h1, h2⟩ := parse_rng _ _ _ _ (by simp) (by simp) hpa
        refine ⟨h1, fun x hx => ?_⟩
        have k1 := h2 x hx
        have k2 := hok x hx
        cases x with
        | num n => exact k1
        | tru b => trivial
        | txt s =>
          simp only [okB, decide_eq_true_eq] at k2
          show s.size ≤ 200
          omega
      · cases h
/-- The document's Unpack is the program's. -/
theorem refU_eq {bs : List Nat} (hb : ∀ x ∈ bs, x < 256) : (∀ ts, refU bs = some ts → unpackP bs = some (ts.map itOf) ∧ Plt ts) ∧ (refU bs = none → unpackP bs = none) := by
  constructor
  · intro ts h
    obtain ⟨h1, h2, h3⟩ := refU_inv hb h
    refine ⟨unpack_pack h1 (by rw [List.length_map]; exact h2) (fun x hx => ?_), fun t ht => (h3 t ht).2 t (List.mem_singleton.2 rfl)⟩
    obtain ⟨t, ht, rfl⟩ := List.mem_map.1 hx
    exact (h3 t ht).1
  · intro h
    cases hu : unpackP bs with
    | none => rfl
    | some its =>
      exfalso
      obtain ⟨g1, g2⟩ := unpack_good hu
      have hp := unpack_some hu
      obtain ⟨k1, k2, k3⟩ := packB_ok hp
      obtain ⟨t1, t2, t3⟩ := head_take hp
      have hbl : (bodyB its).length = bs.length - 6 := by rw [← t2, List.length_drop]
      have hb1 : 1 ≤ (bodyB its).length := by simp [bodyB]
      unfold refU at h
      rw [if_neg (by omega)] at h
      have e4 : bs.take 4 = bigB (crcAll [bodyB its]) 4 := by
        have : bs.take 4 = (bs.take 6).take 4 := by rw [List.take_take]; rfl
        rw [this, t1]
        unfold headB
        rw [List.take_append_of_le_length (by rw [bigB_len]; omega), List.take_of_length_le (by rw [bigB_len]; omega)]
      have e2 : (bs.drop 4).take 2 = bigB (bodyB its).length 2 := by
        have : (bs.drop 4).take 2 = (bs.take 6).drop 4 := by rw [List.drop_take]
        rw [this, t1]
        unfold headB
        rw [List.drop_append_of_le_length (by rw [bigB_len]; omega), List.drop_of_length_le (by rw [bigB_len]; omega), List.nil_append]
      rw [t2, e4, e2, numB_bigB (by have := crcAll_u32 [bodyB its]; show _ < 4294967296; omega), numB_bigB (by show _ < 65536; omega), if_neg (by simp)] at h
      have hbd : bodyB its = (its.length % 256) :: its.flatMap thingB := rfl
      have hg : bs.getD 6 0 = its.length := by
        have : (bs.drop 6)[0]? = some (its.length % 256) := by rw [t2, hbd]; rfl
        rw [List.getElem?_drop] at this
        rw [List.getD_eq_getElem?_getD, this, Nat.mod_eq_of_lt (by omega)]
        rfl
      have hd : bs.drop 7 = its.flatMap thingB ++ [] := by
        have : bs.drop 7 = (bs.drop 6).drop 1 := by rw [List.drop_drop]
        rw [this, t2, hbd]
        simp
      rw [hg, hd, parseR_items its [] [] (by simp; omega) g2] at h
      simp at h
end Go.Proofs.Ytodccdfpoocolaa
