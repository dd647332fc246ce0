/- What the functions of flat compute: plain definitions, and the kinds of their data. -/
import Derived.Test.YtmaehdoejpecgaaFlats
import Derived.Test.YtmaehdoejpecgaaEqs
import Derived.Test.YtmaehdoejpecgaaRows
import Derived.BigQuiet
import Derived.Deep.QuietTactic
import Derived.BigRegion
import Derived.Deep.DeepCutAuto
import Derived.Deep.LoopGhost
import Derived.Outline
set_option linter.unusedVariables false
namespace Go.Proofs.Ytmaehdoejpecgaa
open Go.RowKit

structure Chg where
  at_ : Int
  num : Int
deriving DecidableEq
def flC : Fl Chg := ⟨2, fun c => [.int .i64 c.at_, .int .i64 c.num], fun _ => rfl, fun _ u hu => by
  rcases List.mem_cons.1 hu with rfl | hu
  · rfl
  · rw [List.mem_singleton.1 hu]; rfl⟩
def kC : Kd Chg := Kd.iso (Kd.pair (Kd.int .i64) (Kd.pair (Kd.int .i64) Kd.unit)) fun c => (c.at_, c.num, ())
theorem kC_enc (w : World) (x : Chg) (cs : List Value) (h : kC.K w x cs) : cs = flC.enc x := by
  obtain ⟨_, _, rfl, ⟨rfl, _⟩, _, _, rfl, ⟨rfl, _⟩, rfl⟩ := h
  rfl
theorem kI_enc (w : World) (x : Int) (cs : List Value) (h : (Kd.int .i64).K w x cs) : cs = flI.enc x := h.1
theorem opens_ints : Opens Try.prog 22 (Kd.slice (Kd.int .i64)) :=
  opens_slice Try.underlying22 (by kernel_rfl) (by decide) (of_decide_eq_true (by kernel_rfl)) (opens_int Try.underlying3 (by kernel_rfl))
theorem opens_chg : Opens Try.prog 27 kC :=
  opens_iso _ (fun a => ⟨a.1, a.2.1⟩) (fun _ => rfl) (opens_struct Try.underlying27 (by kernel_rfl)
    (opensF_cons rfl (opens_int Try.underlying3 (by kernel_rfl)) (opensF_cons rfl (opens_int Try.underlying3 (by kernel_rfl)) opensF_nil)))
theorem opens_chgs : Opens Try.prog 23 (Kd.slice kC) :=
  opens_slice Try.underlying23 (by kernel_rfl) (by decide) (of_decide_eq_true (by kernel_rfl)) opens_chg

theorem eqv_chg (x y : Chg) : Eqv Try.prog 2 27 (.agg #[.int .i64 x.at_, .int .i64 x.num]) (.agg #[.int .i64 y.at_, .int .i64 y.num]) (decide (x = y)) := by
  have h := eqv_struct (P := Try.prog) (t := 27) (xs := #[.int .i64 x.at_, .int .i64 x.num]) (ys := #[.int .i64 y.at_, .int .i64 y.num]) Try.underlying27 (by kernel_rfl)
    (eqf_cons (by decide) (fun _ => by kernel_rfl) (fun _ => by kernel_rfl) (eqv_int (q' := .i64) Try.underlying3 x.at_ y.at_) (eqf_cons (by decide) (fun _ => by kernel_rfl) (fun _ => by kernel_rfl) (eqv_int (q' := .i64) Try.underlying3 x.num y.num) eqf_nil))
  have e : (x.at_ == y.at_ && (x.num == y.num && true)) = decide (x = y) := by
    obtain ⟨a, b⟩ := x
    obtain ⟨c, d⟩ := y
    rw [Bool.eq_iff_iff]
    simp
  rw [e] at h
  exact h
/-- The changes at the first k places. -/
def diffTo (xs ys : List Int) : Nat → List Chg
  | 0 => []
  | k + 1 => if xs.getD k 0 = ys.getD k 0 then diffTo xs ys k else diffTo xs ys k ++ [⟨(k : Int), ys.getD k 0⟩]
def diff (xs ys : List Int) : List Chg := if xs.length = ys.length then diffTo xs ys ys.length else []
theorem diffTo_le (xs ys : List Int) : ∀ k, (diffTo xs ys k).length ≤ k
  | 0 => Nat.le_refl _
  | k + 1 => by
    have := diffTo_le xs ys k
    unfold diffTo
    split
    · omega
    · simp; omega
/-- The row behind the first k changes; none: one is not there. -/
def applyTo (xs : List Int) : List Chg → Option (List Int)
  | [] => some xs
  | c :: r => if c.at_ < 0 ∨ (xs.length : Int) ≤ c.at_ then none else applyTo (xs.set c.at_.toNat c.num) r
theorem info_int : (Try.prog.info? 3).map (fun i => (i.zero, i.size, i.bytes)) = some (some (.int .i64 0), 1, 8) := by kernel_rfl
theorem info_chg : (Try.prog.info? 27).map (fun i => (i.zero, i.size, i.bytes)) = some (some (.agg #[.int .i64 0, .int .i64 0]), 2, 16) := by kernel_rfl
end Go.Proofs.Ytmaehdoejpecgaa
