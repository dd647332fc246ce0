/- Walk of FlatChains. -/
import Derived.Test.YtmaehdoejpecgaaFlatMore
import Derived.Test.YtmaehdoejpecgaaCuts
import Derived.WalkLawsBesides
set_option linter.unusedVariables false
namespace Go.Proofs.Ytmaehdoejpecgaa
open Go.ChangeShapes Go.WideShapes Go.ChangeAt Go.RowKit

set_option maxHeartbeats 2000000 in
theorem chains_calls (A B C : Option Addr) (n m l c d g : Nat) (xs ys zs : List Int) (w : World) (hA : Rf flI w A n xs) (hB : Rf flI w B m ys) (hC : Rf flI w C l zs) (hc : n ≤ c) (hd : m ≤ d) (hg : l ≤ g) :
    Calls Try.prog 6 #[.slice A n c, .slice B m d, .slice C l g] w fun e w' => e = .returned (.bool true) ∧ Below w.heap.size w w' := by
  obtain ⟨i0, hi0, hz0, hz1, hz2⟩ := info_parts info_int
  have hn0 := hA.2.1
  have hm0 := hB.2.1
  have hl0 := hC.2.1
  have HA := Lib.hid hA
  have HB := Lib.hid hB
  have HC := Lib.hid hC
  clear hA hB hC
  go_enter Try.func6, Try.ntmps6
  go_upto_region 1 with fail
  go_cut [7] (fun s7 wx => ∃ k : Nat, s7 = .int .i64 k ∧ k ≤ n ∧ k ≤ m ∧ k ≤ l ∧ wx = w)
  case first =>
    by_cases c1 : m < n
    · by_cases c2 : (l : Int) < m
      · go_wp2_with fail
        go_meet
        exact ⟨l, rfl, by omega, by omega, by omega, rfl⟩
      · go_wp2_with fail
        go_meet
        exact ⟨m, rfl, by omega, by omega, by omega, rfl⟩
    · by_cases c2 : (l : Int) < n
      · go_wp2_with fail
        go_meet
        exact ⟨l, rfl, by omega, by omega, by omega, rfl⟩
      · go_wp2_with fail
        go_meet
        exact ⟨n, rfl, by omega, by omega, by omega, rfl⟩
  case rest =>
    obtain ⟨k, rfl, k1, k2, k3, rfl⟩ := hcut
    by_cases h100 : (100 : Int) < k
    · go_wp2_with fail
      go_ret
      exact ⟨rfl, Below.refl _ _⟩
    have s1 := fun W => run_cut_to (P := Try.prog) Try.underlying22 hi0 A n c k (by omega) W
    have s2 := fun W => run_cut_to (P := Try.prog) Try.underlying22 hi0 B m d k (by omega) W
    have s3 := fun W => run_cut_to (P := Try.prog) Try.underlying22 hi0 C l g k (by omega) W
    go_wp2_with fail
    go_quiet (fail)
    clear s1 s2 s3
    obtain ⟨j0, hj0, hz0', hz1', hz2'⟩ := info_parts info_chg
    have KA := Lib.hid (HA.out.take k1)
    have KB := Lib.hid (HB.out.take k2)
    have KC := Lib.hid (HC.out.take k3)
    have lx : (xs.take k).length = k := by have := rf_n HA.out; simp; omega
    have ly : (ys.take k).length = k := by have := rf_n HB.out; simp; omega
    have lz : (zs.take k).length = k := by have := rf_n HC.out; simp; omega
    have HL := Lib.hid (And.intro lx (And.intro ly lz))
    clear HA HB HC hi0 hz0 hz1 hz2 lx ly lz
    generalize xs.take k = X at *
    generalize ys.take k = Y at *
    generalize zs.take k = Z at *
    have d1 : decide (X.length = Y.length) = true := by rw [HL.out.1, HL.out.2.1]; exact decide_eq_true rfl
    have d2 : decide (Y.length = Z.length) = true := by rw [HL.out.2.2, HL.out.2.1]; exact decide_eq_true rfl
    have D12 := Lib.hid (And.intro d1 d2)
    have hlen : (diff X Y).length ≤ 100 ∧ (diff Y Z).length ≤ 100 := by
      have e1 : diff X Y = diffTo X Y Y.length := if_pos (by rw [HL.out.1, HL.out.2.1])
      have e2 : diff Y Z = diffTo Y Z Z.length := if_pos (by rw [HL.out.2.1, HL.out.2.2])
      have := diffTo_le X Y Y.length
      have := diffTo_le Y Z Z.length
      rw [e1, e2]
      have := HL.out.2.1
      have := HL.out.2.2
      omega
    have hap : applyTo X (diff X Y ++ diff Y Z) = some Z := by
      rw [applyTo_append, apply_diff X Y (by rw [HL.out.1, HL.out.2.1]), Option.bind_some, apply_diff Y Z (by rw [HL.out.2.1, HL.out.2.2])]
    have HP := Lib.hid hap
    obtain ⟨hl1, hl2⟩ := hlen
    clear hap d1 d2
    go_wp2_with fail
    refine (Diff_calls A B k k c d X Y _ (KA.out.drewN _) (KB.out.drewN _) (by omega)).mono ?_
    rintro e w1 ⟨v1, rfl, o1, b1⟩
    obtain ⟨A1, c1, rfl, R1⟩ := o1.read (by decide)
    have Q1 := Lib.hid (And.intro R1 ((below_drawn (Below.refl wc.heap.size wc) _).trans b1))
    rw [D12.out.1]
    clear o1 R1 b1
    generalize diff X Y = D1 at *
    go_wp2_with fail
    refine (Diff_calls B C k k d g Y Z w1 (KB.out.stay Q1.out.2) (KC.out.stay Q1.out.2) (by omega)).mono ?_
    rintro e w2 ⟨v2, rfl, o2, b2⟩
    obtain ⟨A2, c2, rfl, R2⟩ := o2.read (by decide)
    have Q2 := Lib.hid (And.intro (Q1.out.1.stay b2) (And.intro R2 (below_more Q1.out.2 b2)))
    rw [D12.out.2]
    clear o2 R2 b2
    generalize diff Y Z = D2 at *
    go_wp2_with (first
      | (at_builtin; refine wpList_append_any _ rfl (.tmp 46) (.tmp 47) _ rfl wc.heap.size 27 j0 _ 2 16 Try.underlying23 hj0 hz0' hz1' hz2' rfl (by omega) (.slice (some ⟨w2.heap.size, 0, none⟩) 0 0) 0 [] rfl (Ow.empty flC w2 wc.heap.size 27 Q2.out.2.2.size) w2.heap.size A1 D1.length c1 (D1.flatMap flC.enc) rfl ((Q2.out.1.reads (by decide)).alloc (Nat.le_refl _) _) (flat_one flC D1) (by simp only [maxLen]; omega) (by omega) (by simp; have := Q2.out.2.2.size; omega) ?_; intro v3 w3 hown3 hg3 hat3; have hb3 : Below w2.heap.size w2 w3 := (below_new w2 _).grown hg3 (by simp) (fun q hq => by simp [Value.ownBlock] at hq; omega))
      | (at_builtin; refine wpList_append_any _ rfl (.tmp 48) (.tmp 49) _ rfl wc.heap.size 27 j0 _ 2 16 Try.underlying23 hj0 hz0' hz1' hz2' rfl (by omega) v3 (0 + D1.length) ([] ++ D1.flatMap flC.enc) rfl hown3 w3.heap.size A2 D2.length c2 (D2.flatMap flC.enc) rfl ((Q2.out.2.1.stay hb3).reads (by decide)) (flat_one flC D2) (by simp only [maxLen]; omega) (by omega) (by have := Q2.out.2.2.size; have := hb3.size; omega) ?_; intro v4 w4 hown4 hg4 hat4))
    have hown4' : Ow flC w4 wc.heap.size 27 v4 (D1 ++ D2) := by
      have := Ow.join (f := flC) (xs := D1) (ys := D2) (m := D2.length) rfl (by simp only [Nat.zero_add, List.nil_append] at hown4; exact hown4)
      exact this
    have hb4 : Below wc.heap.size wc w4 := (below_more Q2.out.2.2 hb3).grown hg4 (by have := Q2.out.2.2.size; have := hb3.size; omega) (fun q hq => (World.ownsRow.lt hown3 q hq).1)
    clear hown3 hown4 hg3 hg4 hat3 hat4 hb3
    obtain ⟨A4, c4, rfl, R4⟩ := hown4'.read (by decide)
    have Q4 := Lib.hid (And.intro R4 hb4)
    clear hown4' R4 hb4
    refine (Apply_calls A A4 k _ c c4 X (D1 ++ D2) w4 (KA.out.stay Q4.out.2) Q4.out.1 (by omega)).mono ?_
    rintro e w5 (⟨us, v, hz, rfl, o5, b5⟩ | ⟨hz, _, _⟩)
    · have hu : us = Z := by rw [HP.out] at hz; exact (Option.some.inj hz).symm
      subst hu
      obtain ⟨A5, c5, rfl, R5⟩ := o5.read (by decide)
      have Q5 := Lib.hid (And.intro R5 (below_more Q4.out.2 b5))
      clear hz o5 R5 b5
      go_wp2_with fail
      refine (Ints_calls A5 C _ k c5 g us us w5 Q5.out.1 (KC.out.stay Q5.out.2)).mono ?_
      rintro e w6 ⟨rfl, b6⟩
      rw [show decide (us = us) = true from decide_eq_true rfl]
      go_wp2_with fail
      refine (known_calls _).mono ?_
      rintro e w7 ⟨rfl, b7⟩
      go_wp2_with fail
      go_ret
      exact ⟨rfl, below_more (below_more Q5.out.2 b6) b7⟩
    · rw [HP.out] at hz; cases hz
end Go.Proofs.Ytmaehdoejpecgaa
