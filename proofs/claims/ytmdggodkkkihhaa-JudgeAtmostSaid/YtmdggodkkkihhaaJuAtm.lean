/- Walk of JudgeAtmost (written by gen_atmost.py). -/
import Derived.Test.YtmdggodkkkihhaaJuKn
set_option linter.unusedVariables false
namespace Go.Proofs.Ytmdggodkkkihhaa
open Go.RowKit

theorem atmost_iff (a b : Ou) : atmostM a b = true ↔ a.drive.length = b.drive.length ∧ a.proceed.length = b.proceed.length ∧ (∀ i, i < a.proceed.length → pBad a b i = false) ∧ ∀ i, i < a.drive.length → rBad a b i = false := by
  unfold atmostM
  simp only [Bool.and_eq_true, decide_eq_true_eq, Bool.not_eq_true', List.any_eq_false, List.mem_range, Bool.not_eq_true, and_assoc]
theorem same_iff (a b : Ou) : sameM a b = true ↔ a.drive.length = b.drive.length ∧ a.proceed.length = b.proceed.length ∧ (∀ i, i < a.proceed.length → qBad a b i = false) ∧ ∀ i, i < a.drive.length → sBad a b i = false := by
  unfold sameM
  simp only [Bool.and_eq_true, decide_eq_true_eq, Bool.not_eq_true', List.any_eq_false, List.mem_range, Bool.not_eq_true, and_assoc]
theorem atmost_refl (a : Ou) : atmostM a a = true := by
  rw [atmost_iff]
  refine ⟨rfl, rfl, fun i _ => ?_, fun i _ => ?_⟩
  · unfold pBad; cases a.proceed.getD i false <;> rfl
  · unfold rBad; simp
theorem atmost_trans {a b c : Ou} (h : atmostM a b = true) (k : atmostM b c = true) : atmostM a c = true := by
  rw [atmost_iff] at *
  obtain ⟨h1, h2, h3, h4⟩ := h
  obtain ⟨k1, k2, k3, k4⟩ := k
  refine ⟨h1.trans k1, h2.trans k2, fun i hi => ?_, fun i hi => ?_⟩
  · have p1 := h3 i hi
    have p2 := k3 i (by omega)
    unfold pBad at *
    revert p1 p2
    cases a.proceed.getD i false <;> cases b.proceed.getD i false <;> cases c.proceed.getD i false <;> simp
  · have p1 := h4 i hi
    have p2 := k4 i (by omega)
    unfold rBad at *
    simp only [Bool.and_eq_false_iff, decide_eq_false_iff_not, Decidable.not_not] at *
    rcases p1 with p1 | p1
    · exact .inl p1
    · rcases p2 with p2 | p2
      · left; rw [p1]; exact p2
      · right; rw [p1]; exact p2
theorem atmost_both (a b : Ou) : (atmostM a b && atmostM b a) = sameM a b := by
  rw [Bool.eq_iff_iff, Bool.and_eq_true, atmost_iff, atmost_iff, same_iff]
  constructor
  · rintro ⟨⟨h1, h2, h3, h4⟩, ⟨_, _, k3, k4⟩⟩
    refine ⟨h1, h2, fun i hi => ?_, fun i hi => ?_⟩
    · have p1 := h3 i hi
      have p2 := k3 i (by omega)
      unfold pBad qBad at *
      revert p1 p2
      cases a.proceed.getD i false <;> cases b.proceed.getD i false <;> simp
    · have p1 := h4 i hi
      have p2 := k4 i (by omega)
      unfold rBad sBad at *
      simp only [Bool.and_eq_false_iff, decide_eq_false_iff_not, Decidable.not_not] at *
      rcases p1 with p1 | p1
      · rcases p2 with p2 | p2
        · rw [p1, p2]
        · exact p2.symm
      · exact p1
  · rintro ⟨h1, h2, h3, h4⟩
    refine ⟨⟨h1, h2, fun i hi => ?_, fun i hi => ?_⟩, ⟨h1.symm, h2.symm, fun i hi => ?_, fun i hi => ?_⟩⟩
    · have p1 := h3 i hi
      unfold pBad qBad at *
      revert p1
      cases a.proceed.getD i false <;> cases b.proceed.getD i false <;> simp
    · have p1 := h4 i hi
      unfold rBad sBad at *
      simp only [decide_eq_false_iff_not, Decidable.not_not] at p1
      rw [p1]; simp
    · have p1 := h3 i (by omega)
      unfold pBad qBad at *
      revert p1
      cases a.proceed.getD i false <;> cases b.proceed.getD i false <;> simp
    · have p1 := h4 i (by omega)
      unfold rBad sBad at *
      simp only [decide_eq_false_iff_not, Decidable.not_not] at p1
      rw [p1]; simp
/-- Is it more than is looked at? -/
def wideM (n m p q k : Nat) : Bool := decide (50 < n) || decide (50 < m) || decide (50 < p) || decide (50 < q) || decide (50 < k)
set_option maxHeartbeats 4000000 in
theorem wide_calls (w : World) (A B C D E : Option Addr) (n c m d p pc q qc k kc : Nat) :
    Calls Try.prog 8 #[.agg #[.slice A n c, .slice B m d], .agg #[.slice C p pc, .slice D q qc], .slice E k kc] w fun e w' => e = .returned (.bool (wideM n m p q k)) ∧ Below w.heap.size w w' := by
  have hb : Below w.heap.size w ((w.alloc (.cells #[.slice A n c, .slice B m d] 28)).alloc (.cells #[.slice C p pc, .slice D q qc] 25)) := (below_new w _).alloc (by simp) _
  have g1 : decide ((50 : Int) < n) = decide (50 < n) := by simp; omega
  have g2 : decide ((50 : Int) < m) = decide (50 < m) := by simp; omega
  have g3 : decide ((50 : Int) < p) = decide (50 < p) := by simp; omega
  have g4 : decide ((50 : Int) < q) = decide (50 < q) := by simp; omega
  have g5 : decide ((50 : Int) < k) = decide (50 < k) := by simp; omega
  have HF : Hid (wideM n m p q k = (decide ((50 : Int) < n) || decide ((50 : Int) < m) || decide ((50 : Int) < p) || decide ((50 : Int) < q) || decide ((50 : Int) < k))) := Lib.hid (by unfold wideM; rw [g1, g2, g3, g4, g5])
  clear g1 g2 g3 g4 g5
  by_cases h1 : (50 : Int) < n
  · go_enter Try.func8, Try.ntmps8
    go_wp2_with fail
    go_ret
    exact ⟨ret_bool (by rw [HF.out]; simp [h1]), hb⟩
  by_cases h2 : (50 : Int) < m
  · go_enter Try.func8, Try.ntmps8
    go_wp2_with fail
    go_ret
    exact ⟨ret_bool (by rw [HF.out]; simp [h2]), hb⟩
  by_cases h3 : (50 : Int) < p
  · go_enter Try.func8, Try.ntmps8
    go_wp2_with fail
    go_ret
    exact ⟨ret_bool (by rw [HF.out]; simp [h3]), hb⟩
  by_cases h4 : (50 : Int) < q
  · go_enter Try.func8, Try.ntmps8
    go_wp2_with fail
    go_ret
    exact ⟨ret_bool (by rw [HF.out]; simp [h4]), hb⟩
  by_cases h5 : (50 : Int) < k
  · go_enter Try.func8, Try.ntmps8
    go_wp2_with fail
    go_ret
    exact ⟨ret_bool (by rw [HF.out]; simp [h5]), hb⟩
  · go_enter Try.func8, Try.ntmps8
    go_wp2_with fail
    go_ret
    exact ⟨ret_bool (by rw [HF.out]; simp [h1, h2, h3, h4, h5]), hb⟩
theorem opens_ou : Opens Try.prog 25 kOu :=
  opens_iso _ (fun a => ⟨a.1, a.2.1⟩) (fun _ => rfl) (opens_struct Try.underlying25 (by kernel_rfl)
    (opensF_cons rfl (opens_slice Try.underlying22 (by kernel_rfl) (by decide) (of_decide_eq_true (by kernel_rfl)) (opens_int Try.underlying3 (by kernel_rfl)))
      (opensF_cons rfl (opens_slice Try.underlying23 (by kernel_rfl) (by decide) (of_decide_eq_true (by kernel_rfl)) (opens_bool Try.underlying4 (by kernel_rfl))) opensF_nil)))
set_option maxHeartbeats 8000000 in
theorem judgeAtmost_calls (w : World) (a b c : Ou) (a1 a2 b1 b2 c1 c2 : Option Addr) (an ac am ad bn bc bm bd cn cc cm cd : Nat) (ha : OuV w a a1 a2 an ac am ad) (hb : OuV w b b1 b2 bn bc bm bd) (hc : OuV w c c1 c2 cn cc cm cd) :
    Calls Try.prog 3 #[.agg #[.slice a1 an ac, .slice a2 am ad], .agg #[.slice b1 bn bc, .slice b2 bm bd], .agg #[.slice c1 cn cc, .slice c2 cm cd]] w fun e w' => e = .returned (.bool true) ∧ Below w.heap.size w w' := by
  have hbw : Below w.heap.size w (((w.alloc (.cells #[.slice a1 an ac, .slice a2 am ad] 25)).alloc (.cells #[.slice b1 bn bc, .slice b2 bm bd] 25)).alloc (.cells #[.slice c1 cn cc, .slice c2 cm cd] 25)) := ((below_new w _).alloc (by simp) _).alloc (by simp; omega) _
  have hB1 := ((Blk.new w #[.slice a1 an ac, .slice a2 am ad] 25 (0, 0)).alloc (.cells #[.slice b1 bn bc, .slice b2 bm bd] 25)).alloc (.cells #[.slice c1 cn cc, .slice c2 cm cd] 25)
  have hB2 := (Blk.at_ (w := w.alloc (.cells #[.slice a1 an ac, .slice a2 am ad] 25)) (g := w.heap.size + 1) (by simp) #[.slice b1 bn bc, .slice b2 bm bd] 25 (0, 0)).alloc (.cells #[.slice c1 cn cc, .slice c2 cm cd] 25)
  have hB3 := Blk.at_ (w := (w.alloc (.cells #[.slice a1 an ac, .slice a2 am ad] 25)).alloc (.cells #[.slice b1 bn bc, .slice b2 bm bd] 25)) (g := w.heap.size + 1 + 1) (by simp) #[.slice c1 cn cc, .slice c2 cm cd] 25 (0, 0)
  have a0 := hB1.cell 0
  have a1' := hB1.cell 1
  have b0 := hB2.cell 0
  have b1' := hB2.cell 1
  have c0 := hB3.cell 0
  have c1' := hB3.cell 1
  simp only [List.getElem?_toArray, List.getElem?_cons_zero, List.getElem?_cons_succ] at a0 a1' b0 b1' c0 c1'
  have oa := ha.stay hbw
  have ob := hb.stay hbw
  have oc := hc.stay hbw
  have HW := Lib.hid hbw
  clear ha hb hc hB1 hB2 hB3
  go_enter Try.func3, Try.ntmps3
  go_upto_region 1 with fail
  generalize (((w.alloc (.cells #[.slice a1 an ac, .slice a2 am ad] 25)).alloc (.cells #[.slice b1 bn bc, .slice b2 bm bd] 25)).alloc (.cells #[.slice c1 cn cc, .slice c2 cm cd] 25)) = W0 at *
  generalize hgn : w.heap.size = gn at *
  have HGN := Lib.hid hgn
  clear hgn hbw
  have HB := Lib.hid (Below.refl W0.heap.size W0)
  have HT := Lib.hid (fun h k => atmost_trans (a := a) (b := b) (c := c) h k)
  have haa := atmost_refl a
  have hs := (atmost_both a b).symm
  generalize hva : wideM 0 0 an am 0 = va
  generalize hvb : wideM 0 0 bn bm 0 = vb
  generalize hvc : wideM 0 0 cn cm 0 = vc
  generalize hx : atmostM a b = x at *
  generalize hy : atmostM b a = y at *
  generalize hz : atmostM b c = z at *
  generalize hu : atmostM a c = u at *
  cases va with
  | true => 
    go_wp2_with (first
    | (go_at_call 8; refine (wide_calls _ _ _ _ _ _ _ _ _ _ _ _ _ _ _ _).mono ?_; rintro e wn ⟨rfl, hq⟩; have a0 := cell_stay hq a0; have a1' := cell_stay hq a1'; have b0 := cell_stay hq b0; have b1' := cell_stay hq b1'; have c0 := cell_stay hq c0; have c1' := cell_stay hq c1'; have oa := oa.stay hq; have ob := ob.stay hq; have oc := oc.stay hq; have HB := Lib.hid (below_more HB.out hq); clear hq)
    | (go_at_call 9; refine (Atmost_calls _ (by assumption) (by assumption)).mono ?_; rintro e wn ⟨rfl, hq⟩; have a0 := cell_stay hq a0; have a1' := cell_stay hq a1'; have b0 := cell_stay hq b0; have b1' := cell_stay hq b1'; have c0 := cell_stay hq c0; have c1' := cell_stay hq c1'; have oa := oa.stay hq; have ob := ob.stay hq; have oc := oc.stay hq; have HB := Lib.hid (below_more HB.out hq); clear hq)
    | (go_at_call 10; refine (RefAtmost_calls _ (by assumption) (by assumption)).mono ?_; rintro e wn ⟨rfl, hq⟩; have a0 := cell_stay hq a0; have a1' := cell_stay hq a1'; have b0 := cell_stay hq b0; have b1' := cell_stay hq b1'; have c0 := cell_stay hq c0; have c1' := cell_stay hq c1'; have oa := oa.stay hq; have ob := ob.stay hq; have oc := oc.stay hq; have HB := Lib.hid (below_more HB.out hq); clear hq)
    | (go_at_call 11; refine (SameOut_calls _ (by assumption) (by assumption)).mono ?_; rintro e wn ⟨rfl, hq⟩; have a0 := cell_stay hq a0; have a1' := cell_stay hq a1'; have b0 := cell_stay hq b0; have b1' := cell_stay hq b1'; have c0 := cell_stay hq c0; have c1' := cell_stay hq c1'; have oa := oa.stay hq; have ob := ob.stay hq; have oc := oc.stay hq; have HB := Lib.hid (below_more HB.out hq); clear hq)
    | (go_at_call 12; refine (known_calls _).mono ?_; rintro e wn ⟨rfl, hq⟩; have a0 := cell_stay hq a0; have a1' := cell_stay hq a1'; have b0 := cell_stay hq b0; have b1' := cell_stay hq b1'; have c0 := cell_stay hq c0; have c1' := cell_stay hq c1'; have oa := oa.stay hq; have ob := ob.stay hq; have oc := oc.stay hq; have HB := Lib.hid (below_more HB.out hq); clear hq)
    | fail)
    go_ret
    exact ⟨rfl, below_more (by rw [HGN.out]; exact HW.out) HB.out⟩
  | false =>
  cases vb with
  | true => 
    go_wp2_with (first
    | (go_at_call 8; refine (wide_calls _ _ _ _ _ _ _ _ _ _ _ _ _ _ _ _).mono ?_; rintro e wn ⟨rfl, hq⟩; have a0 := cell_stay hq a0; have a1' := cell_stay hq a1'; have b0 := cell_stay hq b0; have b1' := cell_stay hq b1'; have c0 := cell_stay hq c0; have c1' := cell_stay hq c1'; have oa := oa.stay hq; have ob := ob.stay hq; have oc := oc.stay hq; have HB := Lib.hid (below_more HB.out hq); clear hq)
    | (go_at_call 9; refine (Atmost_calls _ (by assumption) (by assumption)).mono ?_; rintro e wn ⟨rfl, hq⟩; have a0 := cell_stay hq a0; have a1' := cell_stay hq a1'; have b0 := cell_stay hq b0; have b1' := cell_stay hq b1'; have c0 := cell_stay hq c0; have c1' := cell_stay hq c1'; have oa := oa.stay hq; have ob := ob.stay hq; have oc := oc.stay hq; have HB := Lib.hid (below_more HB.out hq); clear hq)
    | (go_at_call 10; refine (RefAtmost_calls _ (by assumption) (by assumption)).mono ?_; rintro e wn ⟨rfl, hq⟩; have a0 := cell_stay hq a0; have a1' := cell_stay hq a1'; have b0 := cell_stay hq b0; have b1' := cell_stay hq b1'; have c0 := cell_stay hq c0; have c1' := cell_stay hq c1'; have oa := oa.stay hq; have ob := ob.stay hq; have oc := oc.stay hq; have HB := Lib.hid (below_more HB.out hq); clear hq)
    | (go_at_call 11; refine (SameOut_calls _ (by assumption) (by assumption)).mono ?_; rintro e wn ⟨rfl, hq⟩; have a0 := cell_stay hq a0; have a1' := cell_stay hq a1'; have b0 := cell_stay hq b0; have b1' := cell_stay hq b1'; have c0 := cell_stay hq c0; have c1' := cell_stay hq c1'; have oa := oa.stay hq; have ob := ob.stay hq; have oc := oc.stay hq; have HB := Lib.hid (below_more HB.out hq); clear hq)
    | (go_at_call 12; refine (known_calls _).mono ?_; rintro e wn ⟨rfl, hq⟩; have a0 := cell_stay hq a0; have a1' := cell_stay hq a1'; have b0 := cell_stay hq b0; have b1' := cell_stay hq b1'; have c0 := cell_stay hq c0; have c1' := cell_stay hq c1'; have oa := oa.stay hq; have ob := ob.stay hq; have oc := oc.stay hq; have HB := Lib.hid (below_more HB.out hq); clear hq)
    | fail)
    go_ret
    exact ⟨rfl, below_more (by rw [HGN.out]; exact HW.out) HB.out⟩
  | false =>
  cases vc with
  | true => 
    go_wp2_with (first
    | (go_at_call 8; refine (wide_calls _ _ _ _ _ _ _ _ _ _ _ _ _ _ _ _).mono ?_; rintro e wn ⟨rfl, hq⟩; have a0 := cell_stay hq a0; have a1' := cell_stay hq a1'; have b0 := cell_stay hq b0; have b1' := cell_stay hq b1'; have c0 := cell_stay hq c0; have c1' := cell_stay hq c1'; have oa := oa.stay hq; have ob := ob.stay hq; have oc := oc.stay hq; have HB := Lib.hid (below_more HB.out hq); clear hq)
    | (go_at_call 9; refine (Atmost_calls _ (by assumption) (by assumption)).mono ?_; rintro e wn ⟨rfl, hq⟩; have a0 := cell_stay hq a0; have a1' := cell_stay hq a1'; have b0 := cell_stay hq b0; have b1' := cell_stay hq b1'; have c0 := cell_stay hq c0; have c1' := cell_stay hq c1'; have oa := oa.stay hq; have ob := ob.stay hq; have oc := oc.stay hq; have HB := Lib.hid (below_more HB.out hq); clear hq)
    | (go_at_call 10; refine (RefAtmost_calls _ (by assumption) (by assumption)).mono ?_; rintro e wn ⟨rfl, hq⟩; have a0 := cell_stay hq a0; have a1' := cell_stay hq a1'; have b0 := cell_stay hq b0; have b1' := cell_stay hq b1'; have c0 := cell_stay hq c0; have c1' := cell_stay hq c1'; have oa := oa.stay hq; have ob := ob.stay hq; have oc := oc.stay hq; have HB := Lib.hid (below_more HB.out hq); clear hq)
    | (go_at_call 11; refine (SameOut_calls _ (by assumption) (by assumption)).mono ?_; rintro e wn ⟨rfl, hq⟩; have a0 := cell_stay hq a0; have a1' := cell_stay hq a1'; have b0 := cell_stay hq b0; have b1' := cell_stay hq b1'; have c0 := cell_stay hq c0; have c1' := cell_stay hq c1'; have oa := oa.stay hq; have ob := ob.stay hq; have oc := oc.stay hq; have HB := Lib.hid (below_more HB.out hq); clear hq)
    | (go_at_call 12; refine (known_calls _).mono ?_; rintro e wn ⟨rfl, hq⟩; have a0 := cell_stay hq a0; have a1' := cell_stay hq a1'; have b0 := cell_stay hq b0; have b1' := cell_stay hq b1'; have c0 := cell_stay hq c0; have c1' := cell_stay hq c1'; have oa := oa.stay hq; have ob := ob.stay hq; have oc := oc.stay hq; have HB := Lib.hid (below_more HB.out hq); clear hq)
    | fail)
    go_ret
    exact ⟨rfl, below_more (by rw [HGN.out]; exact HW.out) HB.out⟩
  | false =>
    cases x <;> cases y <;> cases z <;> cases u
    all_goals first
      | exact absurd (HT.out rfl rfl) (by decide)
      | skip
    all_goals
      go_upto_region 3 with (first
    | (go_at_call 8; refine (wide_calls _ _ _ _ _ _ _ _ _ _ _ _ _ _ _ _).mono ?_; rintro e wn ⟨rfl, hq⟩; have a0 := cell_stay hq a0; have a1' := cell_stay hq a1'; have b0 := cell_stay hq b0; have b1' := cell_stay hq b1'; have c0 := cell_stay hq c0; have c1' := cell_stay hq c1'; have oa := oa.stay hq; have ob := ob.stay hq; have oc := oc.stay hq; have HB := Lib.hid (below_more HB.out hq); clear hq)
    | (go_at_call 9; refine (Atmost_calls _ (by assumption) (by assumption)).mono ?_; rintro e wn ⟨rfl, hq⟩; have a0 := cell_stay hq a0; have a1' := cell_stay hq a1'; have b0 := cell_stay hq b0; have b1' := cell_stay hq b1'; have c0 := cell_stay hq c0; have c1' := cell_stay hq c1'; have oa := oa.stay hq; have ob := ob.stay hq; have oc := oc.stay hq; have HB := Lib.hid (below_more HB.out hq); clear hq)
    | (go_at_call 10; refine (RefAtmost_calls _ (by assumption) (by assumption)).mono ?_; rintro e wn ⟨rfl, hq⟩; have a0 := cell_stay hq a0; have a1' := cell_stay hq a1'; have b0 := cell_stay hq b0; have b1' := cell_stay hq b1'; have c0 := cell_stay hq c0; have c1' := cell_stay hq c1'; have oa := oa.stay hq; have ob := ob.stay hq; have oc := oc.stay hq; have HB := Lib.hid (below_more HB.out hq); clear hq)
    | (go_at_call 11; refine (SameOut_calls _ (by assumption) (by assumption)).mono ?_; rintro e wn ⟨rfl, hq⟩; have a0 := cell_stay hq a0; have a1' := cell_stay hq a1'; have b0 := cell_stay hq b0; have b1' := cell_stay hq b1'; have c0 := cell_stay hq c0; have c1' := cell_stay hq c1'; have oa := oa.stay hq; have ob := ob.stay hq; have oc := oc.stay hq; have HB := Lib.hid (below_more HB.out hq); clear hq)
    | (go_at_call 12; refine (known_calls _).mono ?_; rintro e wn ⟨rfl, hq⟩; have a0 := cell_stay hq a0; have a1' := cell_stay hq a1'; have b0 := cell_stay hq b0; have b1' := cell_stay hq b1'; have c0 := cell_stay hq c0; have c1' := cell_stay hq c1'; have oa := oa.stay hq; have ob := ob.stay hq; have oc := oc.stay hq; have HB := Lib.hid (below_more HB.out hq); clear hq)
    | fail)
      have a0 := later_cell a0
      have a1' := later_cell a1'
      have b0 := later_cell b0
      have b1' := later_cell b1'
      have c0 := later_cell c0
      have c1' := later_cell c1'
      refine wp_region_later (by kernel_rfl) (by kernel_rfl) ?_
      repeat (go_big_quiet_step (first
        | (go_at_call 9; rename_i q; have ja := oa.stay q.hb; have jb := ob.stay q.hb; exact later_call q (Atmost_calls q.w1 (by assumption) (by assumption)))
        | fail))
      refine wpQuiet_nil ?_
      intro q
      have a0 := a0 q
      have a1' := a1' q
      have b0 := b0 q
      have b1' := b1' q
      have c0 := c0 q
      have c1' := c1' q
      have oa := oa.stay q.hb
      have ob := ob.stay q.hb
      have oc := oc.stay q.hb
      have HB := Lib.hid (below_more HB.out q.hb)
      go_wp2_with (first
    | (go_at_call 8; refine (wide_calls _ _ _ _ _ _ _ _ _ _ _ _ _ _ _ _).mono ?_; rintro e wn ⟨rfl, hq⟩; have a0 := cell_stay hq a0; have a1' := cell_stay hq a1'; have b0 := cell_stay hq b0; have b1' := cell_stay hq b1'; have c0 := cell_stay hq c0; have c1' := cell_stay hq c1'; have oa := oa.stay hq; have ob := ob.stay hq; have oc := oc.stay hq; have HB := Lib.hid (below_more HB.out hq); clear hq)
    | (go_at_call 9; refine (Atmost_calls _ (by assumption) (by assumption)).mono ?_; rintro e wn ⟨rfl, hq⟩; have a0 := cell_stay hq a0; have a1' := cell_stay hq a1'; have b0 := cell_stay hq b0; have b1' := cell_stay hq b1'; have c0 := cell_stay hq c0; have c1' := cell_stay hq c1'; have oa := oa.stay hq; have ob := ob.stay hq; have oc := oc.stay hq; have HB := Lib.hid (below_more HB.out hq); clear hq)
    | (go_at_call 10; refine (RefAtmost_calls _ (by assumption) (by assumption)).mono ?_; rintro e wn ⟨rfl, hq⟩; have a0 := cell_stay hq a0; have a1' := cell_stay hq a1'; have b0 := cell_stay hq b0; have b1' := cell_stay hq b1'; have c0 := cell_stay hq c0; have c1' := cell_stay hq c1'; have oa := oa.stay hq; have ob := ob.stay hq; have oc := oc.stay hq; have HB := Lib.hid (below_more HB.out hq); clear hq)
    | (go_at_call 11; refine (SameOut_calls _ (by assumption) (by assumption)).mono ?_; rintro e wn ⟨rfl, hq⟩; have a0 := cell_stay hq a0; have a1' := cell_stay hq a1'; have b0 := cell_stay hq b0; have b1' := cell_stay hq b1'; have c0 := cell_stay hq c0; have c1' := cell_stay hq c1'; have oa := oa.stay hq; have ob := ob.stay hq; have oc := oc.stay hq; have HB := Lib.hid (below_more HB.out hq); clear hq)
    | (go_at_call 12; refine (known_calls _).mono ?_; rintro e wn ⟨rfl, hq⟩; have a0 := cell_stay hq a0; have a1' := cell_stay hq a1'; have b0 := cell_stay hq b0; have b1' := cell_stay hq b1'; have c0 := cell_stay hq c0; have c1' := cell_stay hq c1'; have oa := oa.stay hq; have ob := ob.stay hq; have oc := oc.stay hq; have HB := Lib.hid (below_more HB.out hq); clear hq)
    | fail)
      go_ret
      exact ⟨rfl, below_more (by rw [HGN.out]; exact HW.out) HB.out⟩
end Go.Proofs.Ytmdggodkkkihhaa
