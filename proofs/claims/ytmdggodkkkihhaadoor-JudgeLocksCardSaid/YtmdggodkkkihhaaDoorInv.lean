/- A region of open order by an invariant: what holds of the slots and the world once some of its operations have come up. Plain laws over any program. -/
import Derived.Test.YtmdggodkkkihhaaDoorBase
import Derived.Orders
import Derived.RegionTactic
set_option linter.unusedVariables false
set_option linter.unusedSimpArgs false
namespace Go.Proofs.YtmdggodkkkihhaaDoor

section
variable {P : Program} {ops : Array Oper} {Q : Exit → Act → World → Prop} {md : Region.Mode}
/-- What an operation waits for. -/
def depsOf (md : Region.Mode) (o : Oper) : List Nat := (o.after.toList.filter fun e => Region.binds md e).map fun e => e.on
/-- Each waits for such alone as stand ahead of it. -/
def depsBack (md : Region.Mode) (ops : Array Oper) : Bool := (List.range ops.size).all fun i => match ops[i]? with
  | none => true
  | some o => (depsOf md o).all fun k => decide (k < i)
/-- One more has come up. -/
def up (L : Nat → Bool) (i : Nat) : Nat → Bool := fun j => if j = i then true else L j
theorem up_same (L : Nat → Bool) (i : Nat) : up L i i = true := by simp [up]
theorem up_other (L : Nat → Bool) {i j : Nat} (h : j ≠ i) : up L i j = L j := by simp [up, h]
def lst (listed : Array Bool) : Nat → Bool := fun i => listed.getD i true
theorem lst_set (listed : Array Bool) (i : Nat) : lst (listed.setIfInBounds i true) = up (lst listed) i := by
  funext j
  unfold lst up
  by_cases h : j = i
  · subst h
    rw [if_pos rfl]
    by_cases hj : j < listed.size
    · simp [Array.getD, hj]
    · simp [Array.getD, hj]
  · rw [if_neg h]
    exact getD_set_ne true (Ne.symm h)
theorem count_set : ∀ (l : List Bool) (i : Nat), l[i]? = some false → (l.set i true).count false + 1 = l.count false
  | [], i, h => by simp at h
  | b :: t, 0, h => by
    simp only [List.getElem?_cons_zero, Option.some.injEq] at h
    subst h
    simp
  | b :: t, i + 1, h => by
    have := count_set t i (by simpa using h)
    simp only [List.set_cons_succ, List.count_cons]
    omega
/-- The steps of the operations rs. -/
def Steps (P : Program) (md : Region.Mode) (ops : Array Oper) (Q : Exit → Act → World → Prop) (I : (Nat → Bool) → Act → World → Prop) (rs : List Nat) : Prop :=
  ∀ i ∈ rs, ∀ (o : Oper) (L : Nat → Bool) (a : Act) (w : World), ops[i]? = some o → L i = false → (∀ k ∈ depsOf md o, L k = true) → I L a w →
    ∀ K : Act → World → Prop, (∀ a w, I (up L i) a w → K a w) → if Region.wanted o (yielded ops a.tmps) = true then Oper.wp P o a w K Q else K (a.put o.dst undef) w
theorem Steps.nil {I : (Nat → Bool) → Act → World → Prop} : Steps P md ops Q I [] := fun _ h => by cases h
theorem Steps.cons {I : (Nat → Bool) → Act → World → Prop} {i : Nat} {o : Oper} {rs : List Nat} (ho : ops[i]? = some o)
    (h : ∀ (L : Nat → Bool) (a : Act) (w : World), L i = false → (∀ k ∈ depsOf md o, L k = true) → I L a w →
      ∀ K : Act → World → Prop, (∀ a w, I (up L i) a w → K a w) → if Region.wanted o (yielded ops a.tmps) = true then Oper.wp P o a w K Q else K (a.put o.dst undef) w)
    (hs : Steps P md ops Q I rs) : Steps P md ops Q I (i :: rs) := fun j hj => by
  rcases List.mem_cons.1 hj with rfl | hj
  · intro o' L a w ho' hn hd hI K hK
    obtain rfl : o = o' := by rw [ho] at ho'; exact Option.some.inj ho'
    exact h L a w hn hd hI K hK
  · exact hs j hj
theorem wpAny_inv {I : (Nat → Bool) → Act → World → Prop} (hd : depsBack md ops = true) (done : ∀ L a w, (∀ i, i < ops.size → L i = true) → I L a w → Q .normal a w)
    (step : Steps P md ops Q I (List.range ops.size)) : ∀ (fuel : Nat) (listed : Array Bool) (a : Act) (w : World), listed.size = ops.size → listed.toList.count false ≤ fuel → I (lst listed) a w → wpAny P md ops Q fuel listed a w := by
  have all : ∀ listed : Array Bool, listed.size = ops.size → Region.ready md ops listed = [] → ∀ i, i < ops.size → lst listed i = true := by
    intro listed hs hr i
    induction i using Nat.strongRecOn with
    | ind i ih =>
      intro hi
      cases hl : lst listed i with
      | true => rfl
      | false =>
        exfalso
        have hm : i ∈ Region.ready md ops listed := by
          rw [mem_ready]
          refine ⟨hl, ops[i], Array.getElem?_eq_getElem hi, fun e he hb => ?_⟩
          have h1 : e.on ∈ depsOf md ops[i] := by
            unfold depsOf
            exact List.mem_map.2 ⟨e, List.mem_filter.2 ⟨he.val, hb⟩, rfl⟩
          have h2 : e.on < i := by
            unfold depsBack at hd
            rw [List.all_eq_true] at hd
            have h3 := hd i (List.mem_range.2 hi)
            rw [Array.getElem?_eq_getElem hi] at h3
            rw [List.all_eq_true] at h3
            exact of_decide_eq_true (h3 _ h1)
          have h3 := ih e.on h2 (by omega)
          unfold lst at h3
          have h4 : e.on < listed.size := by omega
          simp [Array.getD, h4] at h3 ⊢
          exact h3
        rw [hr] at hm
        cases hm
  have stp : ∀ (listed : Array Bool) (a : Act) (w : World) (i : Nat), listed.size = ops.size → I (lst listed) a w → i ∈ Region.ready md ops listed → ∀ K : Act → World → Prop, (∀ a w, I (up (lst listed) i) a w → K a w) → wpOp P ops Q i K a w := by
    intro listed a w i hs hI hi K hK
    obtain ⟨h1, o, ho, h2⟩ := mem_ready.1 hi
    have hlt : i < ops.size := (Array.getElem?_eq_some_iff.1 ho).1
    refine wpOp_step ho (fun K' hK' => ?_)
    refine step i (List.mem_range.2 hlt) o (lst listed) a w ho h1 (fun k hk => ?_) hI K' (fun a w h => hK' a w (hK a w h))
    unfold depsOf at hk
    obtain ⟨e, he, rfl⟩ := List.mem_map.1 hk
    obtain ⟨he1, he2⟩ := List.mem_filter.1 he
    have h3 := h2 e ⟨he1⟩ he2
    unfold lst
    by_cases h4 : e.on < listed.size
    · simp [Array.getD, h4] at h3 ⊢
      exact h3
    · simp [Array.getD, h4]
  intro fuel
  induction fuel with
  | zero =>
    intro listed a w hs hc hI
    have hr : Region.ready md ops listed = [] := by
      cases h : Region.ready md ops listed with
      | nil => rfl
      | cons i r =>
        exfalso
        have hm : i ∈ Region.ready md ops listed := by rw [h]; exact List.mem_cons_self ..
        obtain ⟨h1, o, ho, _⟩ := mem_ready.1 hm
        have hlt : i < ops.size := (Array.getElem?_eq_some_iff.1 ho).1
        have h4 : i < listed.size := by omega
        have h5 : false ∈ listed.toList := by
          simp [Array.getD, h4] at h1
          rw [← h1]
          exact Array.getElem_mem_toList ..
        have := List.count_pos_iff.2 h5
        omega
    exact ⟨hr, done _ a w (all listed hs hr) hI⟩
  | succ fuel ih =>
    intro listed a w hs hc hI
    refine ⟨fun hr => done _ a w (all listed hs hr) hI, fun i hi => ?_⟩
    refine stp listed a w i hs hI hi _ (fun a w h => ?_)
    refine ih _ a w (by simpa using hs) ?_ (by rw [lst_set]; exact h)
    obtain ⟨h1, o, ho, _⟩ := mem_ready.1 hi
    have hlt : i < ops.size := (Array.getElem?_eq_some_iff.1 ho).1
    have h4 : i < listed.size := by omega
    have h5 : listed.toList[i]? = some false := by
      simp [Array.getD, h4] at h1
      rw [List.getElem?_eq_getElem (by simpa using h4)]
      simpa using h1
    have := count_set listed.toList i h5
    rw [Array.toList_setIfInBounds]
    omega
/-- The beginning. -/
theorem wp_region_inv {id : Nat} {a : Act} {w : World} (hm : P.follows .mixedOrders = true) (hd : depsBack .any ops = true) (I : (Nat → Bool) → Act → World → Prop)
    (h0 : I (fun i => decide (ops.size ≤ i)) a w.drew) (done : ∀ L a w, (∀ i, i < ops.size → L i = true) → I L a w → Q .normal a w)
    (step : Steps P .any ops Q I (List.range ops.size)) : (Code.region id ops true).wp P Q a w := by
  refine wp_region_any hm (wpAny_inv hd done step ops.size _ a _ (by simp) (by simp) ?_)
  have e : lst (Array.replicate ops.size false) = fun i => decide (ops.size ≤ i) := by
    funext i
    unfold lst
    by_cases h : i < ops.size
    · simp [Array.getD, h]
    · simp [Array.getD, h]; omega
  rw [e]
  exact h0
end
end Go.Proofs.YtmdggodkkkihhaaDoor
