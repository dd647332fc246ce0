/- Texts put together for a claim. -/
import Derived.Test.YtmdggodkkkihhaaDoorQ18JudgeLess
import Derived.Test.YtmdggodkkkihhaaDoorQ20JudgeLess
/- What a layout that may be meets. -/
set_option linter.unusedVariables false
set_option linter.unusedSimpArgs false
namespace Go.Proofs.YtmdggodkkkihhaaDoor
open Go.RowKit

theorem any_range_false {p : Nat → Bool} {n : Nat} (h : (!((List.range n).any p)) = true) : ∀ j, j < n → p j = false := by
  intro j hj
  cases hp : p j with
  | false => rfl
  | true => rw [List.any_eq_true.2 ⟨j, List.mem_range.2 hj, hp⟩] at h; cases h
structure NeedsOk (L : Lay) (ns : List Need) : Prop where
  at_ : ∀ a ∈ ns, 0 ≤ a.p ∧ a.p < L.pts.length
  few : ns.length ≤ L.pts.length
theorem needs_ok {L : Lay} {ns : List Need} {path : List Int} {inn : Bool} (h : needsM L ns path inn = true) : NeedsOk L ns := by
  have hb := any_range_false h
  have at1 : ∀ j, j < ns.length → 0 ≤ (ns.getD j nd0).p ∧ (ns.getD j nd0).p < L.pts.length ∧ (0 < j → (ns.getD (j - 1) nd0).p < (ns.getD j nd0).p) := by
    intro j hj
    have := hb j hj
    unfold needBad at this
    simp only [Bool.or_eq_false_iff, decide_eq_false_iff_not, Bool.and_eq_false_iff] at this
    obtain ⟨⟨⟨h1, h2⟩, h3⟩, _⟩ := this
    refine ⟨by omega, by omega, fun h0 => ?_⟩
    rcases h3 with h3 | h3
    · exact absurd h0 h3
    · omega
  have low : ∀ j, j < ns.length → (j : Int) ≤ (ns.getD j nd0).p := by
    intro j
    induction j with
    | zero => intro hj; exact (at1 0 hj).1
    | succ j ih =>
      intro hj
      have h1 := ih (by omega)
      have h2 := (at1 (j + 1) hj).2.2 (by omega)
      rw [Nat.add_sub_cancel] at h2
      omega
  refine ⟨fun a ha => ?_, ?_⟩
  · obtain ⟨j, hj⟩ := List.mem_iff_getElem?.1 ha
    have hl := (List.getElem?_eq_some_iff.1 hj).1
    have e : ns.getD j nd0 = a := by rw [List.getD_eq_getElem?_getD, hj]; rfl
    have := at1 j hl
    rw [e] at this
    exact ⟨this.1, this.2.1⟩
  · rcases Nat.eq_zero_or_pos ns.length with h0 | h0
    · omega
    · have h1 := low (ns.length - 1) (by omega)
      have h2 := (at1 (ns.length - 1) (by omega)).2.1
      omega
theorem route_ok {L : Lay} {x : Rte} (h : routeM L x = true) : (∀ a ∈ x.path, 0 ≤ a ∧ a < L.secs.length) ∧ NeedsOk L x.points ∧ NeedsOk L x.flank ∧ endsOk L x = true := by
  unfold routeM at h
  simp only [Bool.and_eq_true] at h
  obtain ⟨⟨⟨⟨h1, h2⟩, _⟩, h4⟩, h5⟩ := h
  refine ⟨fun a ha => ?_, needs_ok h4, needs_ok h5, h1⟩
  obtain ⟨j, hj⟩ := List.mem_iff_getElem?.1 ha
  have hl := (List.getElem?_eq_some_iff.1 hj).1
  have e : x.path.getD j 0 = a := by rw [List.getD_eq_getElem?_getD, hj]; rfl
  have hb := any_range_false h2 j hl
  unfold pathBad at hb
  rw [e] at hb
  simp only [Bool.or_eq_false_iff, decide_eq_false_iff_not] at hb
  exact ⟨by omega, by omega⟩
structure IsOk (L : Lay) : Prop where
  sz : 1 ≤ L.secs.length ∧ L.secs.length ≤ 10 ∧ 1 ≤ L.sigs.length ∧ L.sigs.length ≤ 6 ∧ L.pts.length ≤ 5 ∧ L.rtes.length ≤ 6
  pts : ∀ x ∈ L.pts, 0 ≤ x.sec ∧ x.sec < L.secs.length
  rts : ∀ x ∈ L.rtes, routeM L x = true
  names : namesM L.secs = true ∧ namesM L.sigs = true ∧ namesM (L.pts.map Pt.name) = true ∧ namesM (L.rtes.map Rte.name) = true
theorem is_ok {L : Lay} (h : isM L = true) : IsOk L := by
  unfold isM at h
  simp only [Bool.and_eq_true] at h
  obtain ⟨⟨⟨h1, h2⟩, ⟨⟨⟨n1, n2⟩, n3⟩, n4⟩⟩, h4⟩ := h
  unfold sizesOk at h1
  simp only [Bool.and_eq_true, decide_eq_true_eq] at h1
  refine ⟨⟨h1.1.1.1.1.1, h1.1.1.1.1.2, h1.1.1.1.2, h1.1.1.2, h1.1.2, h1.2⟩, fun x hx => ?_, fun x hx => ?_, n1, n2, n3, n4⟩
  · obtain ⟨j, hj⟩ := List.mem_iff_getElem?.1 hx
    have hl := (List.getElem?_eq_some_iff.1 hj).1
    have hb := any_range_false h2 j hl
    unfold ptBad at hb
    have e : secOf L (j : Int) = x.sec := by unfold secOf; rw [Int.toNat_natCast, hj]; rfl
    rw [e] at hb
    simp only [Bool.or_eq_false_iff, decide_eq_false_iff_not] at hb
    exact ⟨by omega, by omega⟩
  · obtain ⟨j, hj⟩ := List.mem_iff_getElem?.1 hx
    have hl := (List.getElem?_eq_some_iff.1 hj).1
    have hb := any_range_false h4 j hl
    unfold rtBad at hb
    rw [hj] at hb
    simpa using hb
theorem IsOk.lay {L : Lay} (h : IsOk L) : LayOk L := by
  have e := h.sz
  refine ⟨by omega, by omega, fun x hx => (route_ok (h.rts x hx)).1, fun x hx a ha => ?_, fun x hx => ?_, h.pts⟩
  · obtain ⟨_, h2, h3, _⟩ := route_ok (h.rts x hx)
    rcases List.mem_append.1 ha with h' | h'
    · exact h2.at_ a h'
    · exact h3.at_ a h'
  · obtain ⟨_, h2, h3, _⟩ := route_ok (h.rts x hx)
    have := h2.few
    have := h3.few
    omega
end Go.Proofs.YtmdggodkkkihhaaDoor
