/- Walks of CrateTells, CrateSame. -/
import Derived.Test.YtekhogoggfacaaaCrMu
set_option linter.unusedVariables false
namespace Go.Proofs.Ytekhogoggfacaaa
open Go.RowKit

set_option maxHeartbeats 4000000 in
theorem tellsL_calls (A : Option Addr) (n c : Nat) (xs : List Th) (i : Int) (w : World) (hA : Rf flTh w A n xs) :
    Calls Try.prog 5 #[.slice A n c, .int .i64 i] w fun e w' => e = .returned (.bool true) ∧ Below w.heap.size w w' := by
  go_enter Try.func5, Try.ntmps5
  go_wp2_with fail
  refine (long_calls A n c xs w hA).mono ?_
  rintro e w1 ⟨rfl | rfl, hb1⟩
  rotate_left
  · clear hA
    go_wp2_with fail
    go_ret
    exact ⟨rfl, hb1⟩
  go_wp2_with fail
  refine (made_calls A n c xs w1 (hA.stay hb1)).mono ?_
  rintro e w2 ⟨b, v, b', v', rfl, hc, hr, hb2⟩
  have hb := below_more hb1 hb2
  have hkinds := madeT_kinds xs
  generalize hts : madeT xs = ts at *
  obtain ⟨Ar, cr, hv', hh, hroom⟩ := rc_head hr
  have hlt := cell_lt hh
  have HH := Lib.hid hh
  have HC := Lib.hid hc
  have HR := Lib.hid hr
  have HK := Lib.hid hkinds
  have L1 := fun q : Later w2 => Len_calls q.w1 _ _ (hc.cz.stay q.hb)
  simp only [List.length_map] at L1
  have L1 := Lib.hid L1
  have hl0 : (((ts.length : Nat) : Int) != (ts.length : Int)) = false := by simp
  have l1 := later_cell hh
  clear hA hb1 hb2 hh hv' hr hc hkinds
  go_wp2_with fail
  refine wp_region_later (by kernel_rfl) (by kernel_rfl) ?_
  repeat (go_big_quiet_step ((go_at_call 19; exact same_later _ (L1.out _))))
  refine wpQuiet_nil ?_
  intro q
  have hbq := q.hb
  generalize q.w1 = w3 at *
  clear q l1
  go_wp2_with fail
  have H3 := Lib.hid hbq
  have HC3 := Lib.hid (HC.out.stay hbq)
  have HR3 := Lib.hid (HR.out.stay hbq)
  have h100 : ts.length ≤ 100 := by rw [← hts, madeT_len]; omega
  clear hbq hts hl0
  go_loopw [7] (fun i wr => ∃ k : Int, -1 ≤ k ∧ k ≤ ts.length + 1 ∧ i = .int .i64 k ∧ Below w3.heap.size w3 wr) (fun i _ => ((ts.length : Int) + 2 - intOf i).toNat)
  case atStart => exact ⟨-1, by omega, by omega, rfl, Below.refl _ _⟩
  case round =>
    obtain ⟨k, hk1, hk2, rfl, hbr⟩ := hrel
    have hh := cell_stay hbr (cell_stay H3.out HH.out)
    have HBR := Lib.hid hbr
    clear hbr
    by_cases hk : k ≤ ts.length
    · go_wp2_with fail
      refine (tells_calls wr _ _ _ b' v' ts k (HC3.out.stay HBR.out).cz (HR3.out.stay HBR.out) rfl HK.out).mono ?_
      rintro e w4 ⟨rfl, hb4⟩
      go_wp2_with fail
      go_roundw
      case rel => exact ⟨k + 1, by omega, by omega, by go_num, below_more HBR.out hb4⟩
      case measure => simp [intOf]; omega
    · go_wp2_with fail
      refine (tells_calls wr _ _ _ b' v' ts i (HC3.out.stay HBR.out).cz (HR3.out.stay HBR.out) rfl HK.out).mono ?_
      rintro e w4 ⟨rfl, hb4⟩
      go_wp2_with fail
      refine (known_calls w4).mono ?_
      rintro e w5 ⟨rfl, hb5⟩
      go_wp2_with fail
      go_ret
      exact ⟨rfl, below_more (below_more (below_more (below_more hb H3.out) HBR.out) hb4) hb5⟩

/-- A Thing with its kind's field alone. -/
def Plain (t : Th) : Prop := plainT t = t
theorem plain_idem (t : Th) : Plain (plainT t) := by
  unfold Plain plainT
  by_cases h1 : t.k = 1
  · simp [h1]
  · by_cases h2 : t.k = 2 <;> simp [h1, h2]
theorem madeT_plain (xs : List Th) : ∀ t ∈ madeT xs, Plain t := by
  have key : ∀ (l acc : List Th), (∀ t ∈ acc, Plain t) → (∀ t ∈ l, Plain t) → ∀ t ∈ l.foldl addOne acc, Plain t := by
    intro l
    induction l with
    | nil => intro acc h _; exact h
    | cons a l ih =>
      intro acc h hl
      refine ih _ (fun t ht => ?_) (fun t ht => hl t (List.mem_cons_of_mem _ ht))
      unfold addOne at ht
      split at ht
      · rcases List.mem_append.1 ht with h1 | h1
        · exact h t h1
        · rw [List.mem_singleton.1 h1]; exact hl a List.mem_cons_self
      · exact h t ht
  refine key _ [] (by simp) (fun t ht => ?_)
  obtain ⟨x, _, rfl⟩ := List.mem_map.1 ht
  exact plain_idem x
theorem plain_inj {t u : Th} (ht : Plain t) (hu : Plain u) (h : itOf t = itOf u) : t = u := by
  unfold Plain plainT at ht hu
  unfold itOf at h
  rw [← ht, ← hu]
  by_cases a1 : t.k = 1 <;> by_cases b1 : u.k = 1 <;> by_cases a2 : t.k = 2 <;> by_cases b2 : u.k = 2 <;> simp_all
theorem map_inj : ∀ {ts us : List Th}, (∀ t ∈ ts, Plain t) → (∀ t ∈ us, Plain t) → ts.map itOf = us.map itOf → ts = us
  | [], [], _, _, _ => rfl
  | [], _ :: _, _, _, h => by simp at h
  | _ :: _, [], _, _, h => by simp at h
  | t :: ts, u :: us, h1, h2, h => by
    simp only [List.map_cons, List.cons.injEq] at h
    rw [plain_inj (h1 t List.mem_cons_self) (h2 u List.mem_cons_self) h.1, map_inj (fun x hx => h1 x (List.mem_cons_of_mem _ hx)) (fun x hx => h2 x (List.mem_cons_of_mem _ hx)) h.2]
theorem same_fact {ts us : List Th} (h1 : ∀ t ∈ ts, Plain t) (h2 : ∀ t ∈ us, Plain t) : decide (ts.map itOf = us.map itOf) = decide (ts = us) := by
  by_cases h : ts = us
  · subst h; simp
  · rw [decide_eq_false h, decide_eq_false (fun e => h (map_inj h1 h2 e))]
end Go.Proofs.Ytekhogoggfacaaa
