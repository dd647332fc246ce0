/- Walks of CrateMust and CrateTells. -/
import Derived.Test.YtekhogoggfacaaaCrKn
set_option linter.unusedVariables false
namespace Go.Proofs.Ytekhogoggfacaaa
open Go.RowKit

theorem madeT_kinds (xs : List Th) : ∀ t ∈ madeT xs, t.k = 1 ∨ t.k = 2 ∨ t.k = 3 := by
  have key : ∀ (l acc : List Th), (∀ t ∈ acc, t.k = 1 ∨ t.k = 2 ∨ t.k = 3) → (∀ t ∈ l, t.k = 1 ∨ t.k = 2 ∨ t.k = 3) → ∀ t ∈ l.foldl addOne acc, t.k = 1 ∨ t.k = 2 ∨ t.k = 3 := by
    intro l
    induction l with
    | nil => intro acc h _; exact h
    | cons a l ih =>
      intro acc h hl
      refine ih _ (fun t ht => ?_) (fun t ht => hl t (List.mem_cons_of_mem _ ht))
      unfold addOne at ht
      split at ht
      · rcases List.mem_append.1 ht with h1 | h1
        · exact h t h1
        · rw [List.mem_singleton.1 h1]; exact hl a List.mem_cons_self
      · exact h t ht
  refine key _ [] (by simp) (fun t ht => ?_)
  obtain ⟨x, _, rfl⟩ := List.mem_map.1 ht
  unfold plainT
  split
  · exact .inl rfl
  · split
    · exact .inr (.inl rfl)
    · exact .inr (.inr rfl)
theorem madeT_len (xs : List Th) : (madeT xs).length = min xs.length 100 := by
  have key : ∀ (l acc : List Th), acc.length ≤ 100 → (l.foldl addOne acc).length = min (acc.length + l.length) 100 := by
    intro l
    induction l with
    | nil => intro acc h; simp; omega
    | cons a l ih =>
      intro acc h
      rw [List.foldl_cons, ih _ (addOne_len _ _ h)]
      unfold addOne
      split <;> simp <;> omega
  have := key (xs.map plainT) [] (by simp)
  simpa [madeT] using this
theorem madeT_of_le (xs : List Th) (h : xs.length ≤ 100) : madeT xs = xs.map plainT := by
  have key : ∀ (l acc : List Th), acc.length + l.length ≤ 100 → l.foldl addOne acc = acc ++ l := by
    intro l
    induction l with
    | nil => intro acc h; simp
    | cons a l ih =>
      intro acc h
      simp only [List.length_cons] at h
      rw [List.foldl_cons, show addOne acc a = acc ++ [a] from if_pos (by omega), ih _ (by simp; omega)]
      simp
  have := key (xs.map plainT) [] (by simpa using h)
  simpa [madeT] using this
/-- The one field of the document's Crate: its header. -/
theorem must_fact {ts : List Th} {k : Nat} {t : Th} (hx : ts[k]? = some t) (h : t.k = 1) : lk (ts.map itOf) (k : Int) = some (.num t.n) := by
  unfold lk
  simp [hx, itOf, h]
set_option maxHeartbeats 4000000 in
theorem must_calls (A : Option Addr) (n c : Nat) (xs : List Th) (w : World) (hA : Rf flTh w A n xs) :
    Calls Try.prog 3 #[.slice A n c] w fun e w' => e = .returned (.bool true) ∧ Below w.heap.size w w' := by
  go_enter Try.func3, Try.ntmps3
  go_wp2_with fail
  refine (long_calls A n c xs w hA).mono ?_
  rintro e w1 ⟨rfl | rfl, hb1⟩
  rotate_left
  · clear hA
    go_wp2_with fail
    go_ret
    exact ⟨rfl, hb1⟩
  go_wp2_with fail
  refine (made_calls A n c xs w1 (hA.stay hb1)).mono ?_
  rintro e w2 ⟨b, v, b', v', rfl, hc, hr, hb2⟩
  have hb := below_more hb1 hb2
  generalize hts : madeT xs = ts at *
  obtain ⟨Ar, cr, hv', hh, hroom⟩ := rc_head hr
  have hlt := cell_lt hh
  have HH := Lib.hid hh
  clear hA hb1 hb2 hh hv'
  go_wp2_with fail
  go_loopw [5] (fun i wr => ∃ k : Nat, k ≤ ts.length ∧ i = .int .i64 k ∧ Below w2.heap.size w2 wr) (fun i _ => ts.length - (intOf i).toNat)
  case atStart => exact ⟨0, by omega, rfl, Below.refl _ _⟩
  case round =>
    obtain ⟨k, hk, rfl, hbr⟩ := hrel
    have hh := cell_stay hbr HH.out
    by_cases hlt : k < ts.length
    · have hx : ts[k]? = some ts[k] := List.getElem?_eq_getElem hlt
      have hR := hr.stay hbr
      have hC := hc.stay hbr
      have key := RefAt_calls wr _ b' v' ts hR k 1
      by_cases h1 : ts[k].k = 1
      · have hm := must_fact hx h1
        rw [rcAt_some hx, if_pos h1] at key
        unfold Th.val at key
        generalize ts[k] = t at *
        have HC := Lib.hid hC
        have HM := Lib.hid hm
        have HBR := Lib.hid hbr
        have hs := hbr.size
        clear hc hr hR hC hm hx hbr h1
        go_wp2_with fail
        refine key.mono ?_
        rintro e w3 ⟨rfl, hb3⟩
        clear key
        have hb3 := Lib.hid hb3
        go_wp2_with fail
        have l1 := later_cell (v := .int .i64 t.n) ((Blk.new w3 #[.int .i64 t.k, .int .i64 t.n, .string t.s, .bool t.b] 31 (0, 0)).cell 1)
        have HZ := Lib.hid ((HC.out.stay hb3.out).cz.stay (below_new w3 (.cells #[.int .i64 t.k, .int .i64 t.n, .string t.s, .bool t.b] 31)))
        have HB := Lib.hid (below_more hb3.out (below_new w3 (.cells #[.int .i64 t.k, .int .i64 t.n, .string t.s, .bool t.b] 31)))
        clear hh
        refine wp_region_later (by kernel_rfl) (by kernel_rfl) ?_
        repeat (go_big_quiet_step ((go_at_call 15; exact same_later _ (MustInt_calls _ _ _ (HZ.out.stay (Later.hb _)) _ _ HM.out))))
        refine wpQuiet_nil ?_
        intro q
        go_wp2_with fail
        go_roundw
        case rel => exact ⟨k + 1, by omega, by go_num, below_more HBR.out (below_more HB.out q.hb)⟩
        case measure => simp [intOf]; omega
      · rw [rcAt_some hx, if_neg h1] at key
        unfold Th.val at key
        dsimp only [Th.zero] at key
        have HBR := Lib.hid hbr
        have hs := hbr.size
        clear hc hr hR hC hx hbr
        go_wp2_with fail
        refine key.mono ?_
        rintro e w3 ⟨rfl, hb3⟩
        clear key
        have hb3 := Lib.hid hb3
        go_wp2_with fail
        have HB := Lib.hid (below_more hb3.out (below_new w3 (.cells #[.int .i64 0, .int .i64 0, .string .empty, .bool false] 31)))
        clear hh
        refine wp_region_later (by kernel_rfl) (by kernel_rfl) ?_
        repeat (go_big_quiet_step (fail))
        refine wpQuiet_nil ?_
        intro q
        go_wp2_with fail
        go_roundw
        case rel => exact ⟨k + 1, by omega, by go_num, below_more HBR.out (below_more HB.out q.hb)⟩
        case measure => simp [intOf]; omega
    · clear hc hr
      go_wp2_with fail
      refine (known_calls wr).mono ?_
      rintro e w3 ⟨rfl, hb3⟩
      go_wp2_with fail
      go_ret
      exact ⟨rfl, below_more (below_more hb hbr) hb3⟩
end Go.Proofs.Ytekhogoggfacaaa
