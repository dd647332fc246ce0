/- Texts put together for a claim. -/
import Derived.Test.YtmdggodkkkihhaaDoorQ18JudgeLocks
import Derived.Test.YtmdggodkkkihhaaDoorQ20JudgeLocks
import Derived.Test.YtmdggodkkkihhaaDoorQ22JudgeLocks
/- What a layout that may be meets. -/
set_option linter.unusedVariables false
set_option linter.unusedSimpArgs false
namespace Go.Proofs.YtmdggodkkkihhaaDoor
open Go.RowKit

theorem any_range_false {p : Nat → Bool} {n : Nat} (h : (!((List.range n).any p)) = true) : ∀ j, j < n → p j = false := by
  intro j hj
  cases hp : p j with
  | false => rfl
  | true => rw [List.any_eq_true.2 ⟨j, List.mem_range.2 hj, hp⟩] at h; cases h
structure NeedsOk (L : Lay) (ns : List Need) : Prop where
  at_ : ∀ a ∈ ns, 0 ≤ a.p ∧ a.p < L.pts.length
  few : ns.length ≤ L.pts.length
theorem needs_ok {L : Lay} {ns : List Need} {path : List Int} {inn : Bool} (h : needsM L ns path inn = true) : NeedsOk L ns := by
  have hb := any_range_false h
  have at1 : ∀ j, j < ns.length → 0 ≤ (ns.getD j nd0).p ∧ (ns.getD j nd0).p < L.pts.length ∧ (0 < j → (ns.getD (j - 1) nd0).p < (ns.getD j nd0).p) := by
    intro j hj
    have := hb j hj
    unfold needBad at this
    simp only [Bool.or_eq_false_iff, decide_eq_false_iff_not, Bool.and_eq_false_iff] at this
    obtain ⟨⟨⟨h1, h2⟩, h3⟩, _⟩ := this
    refine ⟨by omega, by omega, fun h0 => ?_⟩
    rcases h3 with h3 | h3
    · exact absurd h0 h3
    · omega
  have low : ∀ j, j < ns.length → (j : Int) ≤ (ns.getD j nd0).p := by
    intro j
    induction j with
    | zero => intro hj; exact (at1 0 hj).1
    | succ j ih =>
      intro hj
      have h1 := ih (by omega)
      have h2 := (at1 (j + 1) hj).2.2 (by omega)
      rw [Nat.add_sub_cancel] at h2
      omega
  refine ⟨fun a ha => ?_, ?_⟩
  · obtain ⟨j, hj⟩ := List.mem_iff_getElem?.1 ha
    have hl := (List.getElem?_eq_some_iff.1 hj).1
    have e : ns.getD j nd0 = a := by rw [List.getD_eq_getElem?_getD, hj]; rfl
    have := at1 j hl
    rw [e] at this
    exact ⟨this.1, this.2.1⟩
  · rcases Nat.eq_zero_or_pos ns.length with h0 | h0
    · omega
    · have h1 := low (ns.length - 1) (by omega)
      have h2 := (at1 (ns.length - 1) (by omega)).2.1
      omega
theorem route_ok {L : Lay} {x : Rte} (h : routeM L x = true) : (∀ a ∈ x.path, 0 ≤ a ∧ a < L.secs.length) ∧ NeedsOk L x.points ∧ NeedsOk L x.flank ∧ endsOk L x = true := by
  unfold routeM at h
  simp only [Bool.and_eq_true] at h
  obtain ⟨⟨⟨⟨h1, h2⟩, _⟩, h4⟩, h5⟩ := h
  refine ⟨fun a ha => ?_, needs_ok h4, needs_ok h5, h1⟩
  obtain ⟨j, hj⟩ := List.mem_iff_getElem?.1 ha
  have hl := (List.getElem?_eq_some_iff.1 hj).1
  have e : x.path.getD j 0 = a := by rw [List.getD_eq_getElem?_getD, hj]; rfl
  have hb := any_range_false h2 j hl
  unfold pathBad at hb
  rw [e] at hb
  simp only [Bool.or_eq_false_iff, decide_eq_false_iff_not] at hb
  exact ⟨by omega, by omega⟩
structure IsOk (L : Lay) : Prop where
  sz : 1 ≤ L.secs.length ∧ L.secs.length ≤ 10 ∧ 1 ≤ L.sigs.length ∧ L.sigs.length ≤ 6 ∧ L.pts.length ≤ 5 ∧ L.rtes.length ≤ 6
  pts : ∀ x ∈ L.pts, 0 ≤ x.sec ∧ x.sec < L.secs.length
  rts : ∀ x ∈ L.rtes, routeM L x = true
  names : namesM L.secs = true ∧ namesM L.sigs = true ∧ namesM (L.pts.map Pt.name) = true ∧ namesM (L.rtes.map Rte.name) = true
theorem is_ok {L : Lay} (h : isM L = true) : IsOk L := by
  unfold isM at h
  simp only [Bool.and_eq_true] at h
  obtain ⟨⟨⟨h1, h2⟩, ⟨⟨⟨n1, n2⟩, n3⟩, n4⟩⟩, h4⟩ := h
  unfold sizesOk at h1
  simp only [Bool.and_eq_true, decide_eq_true_eq] at h1
  refine ⟨⟨h1.1.1.1.1.1, h1.1.1.1.1.2, h1.1.1.1.2, h1.1.1.2, h1.1.2, h1.2⟩, fun x hx => ?_, fun x hx => ?_, n1, n2, n3, n4⟩
  · obtain ⟨j, hj⟩ := List.mem_iff_getElem?.1 hx
    have hl := (List.getElem?_eq_some_iff.1 hj).1
    have hb := any_range_false h2 j hl
    unfold ptBad at hb
    have e : secOf L (j : Int) = x.sec := by unfold secOf; rw [Int.toNat_natCast, hj]; rfl
    rw [e] at hb
    simp only [Bool.or_eq_false_iff, decide_eq_false_iff_not] at hb
    exact ⟨by omega, by omega⟩
  · obtain ⟨j, hj⟩ := List.mem_iff_getElem?.1 hx
    have hl := (List.getElem?_eq_some_iff.1 hj).1
    have hb := any_range_false h4 j hl
    unfold rtBad at hb
    rw [hj] at hb
    simpa using hb
theorem IsOk.lay {L : Lay} (h : IsOk L) : LayOk L := by
  have e := h.sz
  refine ⟨by omega, by omega, fun x hx => (route_ok (h.rts x hx)).1, fun x hx a ha => ?_, fun x hx => ?_, h.pts⟩
  · obtain ⟨_, h2, h3, _⟩ := route_ok (h.rts x hx)
    rcases List.mem_append.1 ha with h' | h'
    · exact h2.at_ a h'
    · exact h3.at_ a h'
  · obtain ⟨_, h2, h3, _⟩ := route_ok (h.rts x hx)
    have := h2.few
    have := h3.few
    omega
end Go.Proofs.YtmdggodkkkihhaaDoor

/- The plain law: the program's Held and the document's say the same. -/
set_option linter.unusedVariables false
set_option linter.unusedSimpArgs false
namespace Go.Proofs.YtmdggodkkkihhaaDoor
open Go.RowKit

/-- No point is needed twice. -/
def OncePt (ns : List Need) : Prop := ∀ a ∈ ns, ∀ b ∈ ns, a.p = b.p → a = b
theorem needs_rise {L : Lay} {ns : List Need} {path : List Int} {inn : Bool} (h : needsM L ns path inn = true) : ∀ (d i : Nat) (a b : Need), ns[i]? = some a → ns[i + d + 1]? = some b → a.p < b.p := by
  have hb := any_range_false h
  have step : ∀ (i : Nat) (a b : Need), ns[i]? = some a → ns[i + 1]? = some b → a.p < b.p := by
    intro i a b ha hbb
    have hl := (List.getElem?_eq_some_iff.1 hbb).1
    have := hb (i + 1) hl
    unfold needBad at this
    rw [List.getD_eq_getElem?_getD, List.getD_eq_getElem?_getD, Nat.add_sub_cancel, ha, hbb] at this
    simp only [Option.getD_some, Bool.or_eq_false_iff, Bool.and_eq_false_iff, decide_eq_false_iff_not] at this
    omega
  intro d
  induction d with
  | zero => exact step
  | succ d ih =>
    intro i a b ha hbb
    have hl := (List.getElem?_eq_some_iff.1 hbb).1
    obtain ⟨c, hc⟩ : ∃ c, ns[i + d + 1]? = some c := ⟨_, List.getElem?_eq_getElem (by omega)⟩
    have h1 := ih i a c ha hc
    have h2 := step (i + d + 1) c b hc hbb
    omega
theorem needs_once {L : Lay} {ns : List Need} {path : List Int} {inn : Bool} (h : needsM L ns path inn = true) : OncePt ns := by
  intro a ha b hb hp
  obtain ⟨i, hi⟩ := List.mem_iff_getElem?.1 ha
  obtain ⟨j, hj⟩ := List.mem_iff_getElem?.1 hb
  rcases Nat.lt_trichotomy i j with hij | hij | hij
  · have := needs_rise h (j - i - 1) i a b hi (by rw [show i + (j - i - 1) + 1 = j by omega]; exact hj)
    omega
  · subst hij
    rw [hi] at hj
    exact Option.some.inj hj
  · have := needs_rise h (i - j - 1) j b a hj (by rw [show j + (i - j - 1) + 1 = i by omega]; exact hi)
    omega
theorem needs_side {L : Lay} {ns : List Need} {path : List Int} {inn : Bool} (h : needsM L ns path inn = true) : ∀ a ∈ ns, inB path (secOf L a.p) = inn := by
  intro a ha
  obtain ⟨i, hi⟩ := List.mem_iff_getElem?.1 ha
  have hl := (List.getElem?_eq_some_iff.1 hi).1
  have := any_range_false h i hl
  unfold needBad at this
  rw [List.getD_eq_getElem?_getD, hi] at this
  simp only [Option.getD_some, Bool.or_eq_false_iff, bne_eq_false_iff_eq] at this
  exact this.2
theorem route_once {L : Lay} {x : Rte} (h : routeM L x = true) : OncePt (x.points ++ x.flank) := by
  unfold routeM at h
  simp only [Bool.and_eq_true] at h
  obtain ⟨⟨_, h4⟩, h5⟩ := h
  intro a ha b hb hp
  rcases List.mem_append.1 ha with ha | ha <;> rcases List.mem_append.1 hb with hb | hb
  · exact needs_once h4 a ha b hb hp
  · have h1 := needs_side h4 a ha
    have h2 := needs_side h5 b hb
    rw [hp] at h1
    rw [h1] at h2
    cases h2
  · have h1 := needs_side h5 a ha
    have h2 := needs_side h4 b hb
    rw [hp] at h1
    rw [h1] at h2
    cases h2
  · exact needs_once h5 a ha b hb hp
theorem need_in {ns : List Need} {n : Need} (h1 : OncePt ns) (hn : n ∈ ns) : needM ns n.p = posM n := by
  unfold needM
  cases hf : ns.find? (fun a => decide (a.p = n.p)) with
  | none =>
    have := List.find?_eq_none.1 hf n hn
    simp at this
  | some a =>
    have hm := List.mem_of_find?_eq_some hf
    have hp := List.find?_some hf
    simp only [decide_eq_true_eq] at hp
    rw [h1 a hm n hn hp]
theorem need_out {ns : List Need} {p : Int} (h : ∀ n ∈ ns, n.p ≠ p) : needM ns p = 0 := by
  unfold needM
  rw [List.find?_eq_none.2 (fun a ha => by simpa using h a ha)]
theorem pos_two (n : Need) : posM n = 1 ∨ posM n = 2 := by
  unfold posM
  cases n.r
  · exact .inl rfl
  · exact .inr rfl
theorem bars_eq {x : Rte} {r : Rs} {p : Nat} {sec d : Int} (h1 : OncePt (x.points ++ x.flank)) (hd : d ≠ 0) :
    barsM x r p sec d = ((((r.m == 2) || (r.m == 3) || (r.m == 4)) && (needM (x.points ++ x.flank) p != 0) && (needM (x.points ++ x.flank) p != d)) || (holdsM x r sec && (needM (x.points ++ x.flank) p != d))) := by
  unfold barsM
  have hs : standsM r = ((r.m == 2) || (r.m == 3) || (r.m == 4)) := rfl
  rw [← hs]
  by_cases he : ∃ n ∈ x.points ++ x.flank, n.p = (p : Int)
  · obtain ⟨n, hn, hp⟩ := he
    have hN : needM (x.points ++ x.flank) p = posM n := by rw [← hp]; exact need_in h1 hn
    have a1 : ((x.points ++ x.flank).any fun a => decide (a.p = (p : Int)) && decide (posM a ≠ d)) = decide (posM n ≠ d) := by
      rw [Bool.eq_iff_iff, List.any_eq_true]
      constructor
      · rintro ⟨a, ha, h⟩
        simp only [Bool.and_eq_true, decide_eq_true_eq] at h
        obtain rfl := h1 a ha n hn (by rw [h.1, hp])
        simpa using h.2
      · intro h
        exact ⟨n, hn, by simp only [hp, Bool.and_eq_true, decide_eq_true_eq]; exact ⟨trivial, by simpa using h⟩⟩
    have a2 : ((x.points ++ x.flank).any fun a => decide (a.p = (p : Int)) && decide (posM a = d)) = decide (posM n = d) := by
      rw [Bool.eq_iff_iff, List.any_eq_true]
      constructor
      · rintro ⟨a, ha, h⟩
        simp only [Bool.and_eq_true, decide_eq_true_eq] at h
        obtain rfl := h1 a ha n hn (by rw [h.1, hp])
        simpa using h.2
      · intro h
        exact ⟨n, hn, by simp only [hp, Bool.and_eq_true, decide_eq_true_eq]; exact ⟨trivial, by simpa using h⟩⟩
    rw [a1, a2, hN]
    have h0 : (posM n != 0) = true := by rcases pos_two n with e | e <;> rw [e] <;> rfl
    have hb : (posM n != d) = decide (posM n ≠ d) := by by_cases h : posM n = d <;> simp [h]
    have hc : decide (posM n = d) = !decide (posM n ≠ d) := by by_cases h : posM n = d <;> simp [h]
    rw [h0, hb, hc]
    cases standsM r <;> cases decide (posM n ≠ d) <;> cases holdsM x r sec <;> rfl
  · have he' : ∀ n ∈ x.points ++ x.flank, n.p ≠ (p : Int) := fun n hn hp => he ⟨n, hn, hp⟩
    have a1 : ∀ f : Need → Bool, ((x.points ++ x.flank).any fun a => decide (a.p = (p : Int)) && f a) = false := by
      intro f
      rw [List.any_eq_false]
      intro a ha
      simp [he' a ha]
    have hz : (needM (x.points ++ x.flank) p != 0) = false := by rw [need_out he']; rfl
    have hz2 : (needM (x.points ++ x.flank) p != d) = true := by rw [need_out he']; simpa using fun h => hd h.symm
    rw [a1 (fun a => decide (posM a ≠ d)), a1 (fun a => decide (posM a = d)), hz, hz2]
    cases standsM r <;> cases holdsM x r sec <;> rfl
theorem any_congr_range {n : Nat} {p q : Nat → Bool} (h : ∀ i, i < n → p i = q i) : (List.range n).any p = (List.range n).any q :=
  any_congr' fun i hi => h i (List.mem_range.1 hi)
theorem entryTo_has {rs : List Rte} {s : Int} {j : Nat} {x : Rte} (hx : rs[j]? = some x) (h : x.frm = s) : ∀ {k : Nat}, j < k → (j : Int) ∈ entryTo rs s k
  | 0, hk => absurd hk (by omega)
  | k + 1, hk => by
    rcases Nat.lt_or_ge j k with h1 | h1
    · have ih := entryTo_has (s := s) hx h h1
      by_cases hf : ∃ y, rs[k]? = some y ∧ y.frm = s
      · obtain ⟨y, hy, hf⟩ := hf
        rw [entryTo_yes hy hf]
        exact List.mem_append_left _ ih
      · cases hk2 : rs[k]? with
        | none => rw [entryTo, hk2]; exact ih
        | some y => rw [entryTo_no hk2 (fun e => hf ⟨y, hk2, e⟩)]; exact ih
    · obtain rfl : j = k := by omega
      rw [entryTo_yes hx h]
      simp
theorem locked_eq {L : Lay} {rs : List Rs} (s : Nat) (hl : rs.length = L.rtes.length) : lockedM L rs s = (List.range rs.length).any (lockAt L rs s) := by
  unfold lockedM
  rw [Bool.eq_iff_iff, List.any_eq_true, List.any_eq_true]
  constructor
  · rintro ⟨i, hi, hm⟩
    obtain ⟨j, x, rfl, hj, hx, hf⟩ := entryTo_mem hi
    refine ⟨j, List.mem_range.2 (by omega), ?_⟩
    obtain ⟨r, hr⟩ : ∃ r, rs[j]? = some r := ⟨_, List.getElem?_eq_getElem (by omega)⟩
    unfold lockAt
    rw [hx, hr]
    rw [Int.toNat_natCast, hr] at hm
    simp only [Option.map_some, Option.getD_some, decide_eq_true_eq] at hm
    simp [hm, hf]
  · rintro ⟨j, hj, hm⟩
    have hj' := List.mem_range.1 hj
    obtain ⟨r, hr⟩ : ∃ r, rs[j]? = some r := ⟨_, List.getElem?_eq_getElem hj'⟩
    obtain ⟨x, hx⟩ : ∃ x, L.rtes[j]? = some x := ⟨_, List.getElem?_eq_getElem (by omega)⟩
    unfold lockAt at hm
    rw [hx, hr] at hm
    simp only [Bool.and_eq_true, beq_iff_eq] at hm
    refine ⟨(j : Int), entryTo_has hx hm.2 (by omega), ?_⟩
    rw [Int.toNat_natCast, hr]
    simp [hm.1]
/-- The whole. -/
theorem held_eq {L : Lay} {I : Inn} {O : Ou} {rs : List Rs} (hok : IsOk L) (hs : safeM L I O = rsafeM L I O) : heldM L I O rs = rheldM L I O rs := by
  unfold heldM rheldM
  rw [hs]
  by_cases hl : rs.length = L.rtes.length
  case neg => rw [decide_eq_false hl]; rfl
  case pos =>
  cases hz : rsafeM L I O with
  | false => simp
  | true =>
    obtain ⟨e1, e2⟩ := rsafe_sizes hz
    congr 2
    · rw [e2]
      congr 1
      refine any_congr_range (fun s hs' => ?_)
      unfold sBad2
      rw [locked_eq s hl]
    · refine any_congr_range (fun p hp => ?_)
      unfold hBads hBads2
      have e : decide (O.drive.getD p 0 ≠ 0) = (O.drive.getD p 0 != 0) := by rw [dec_ne]; rfl
      rw [e]
      cases hd : (O.drive.getD p 0 != 0) with
      | false => rfl
      | true =>
        have hd0 : O.drive.getD p 0 ≠ 0 := by simpa using hd
        rw [Bool.true_and, Bool.true_and]
        refine any_congr_range (fun i hi => ?_)
        unfold hBad hBad2
        obtain ⟨r, hr⟩ : ∃ r, rs[i]? = some r := ⟨_, List.getElem?_eq_getElem hi⟩
        obtain ⟨x, hx⟩ : ∃ x, L.rtes[i]? = some x := ⟨_, List.getElem?_eq_getElem (by omega)⟩
        obtain ⟨y, hy⟩ : ∃ y, L.pts[p]? = some y := ⟨_, List.getElem?_eq_getElem (by omega)⟩
        rw [hr, hx, hy]
        exact bars_eq (route_once (hok.rts x (List.mem_of_getElem? hx))) hd0
end Go.Proofs.YtmdggodkkkihhaaDoor
