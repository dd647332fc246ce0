/- Texts put together for a claim. -/
import Derived.Test.YtmdnmiiggkfnfaaDoorQ15PlanPrints
import Derived.StillTailTactics
import Derived.Test.YtmdnmiiggkfnfaaDoorKinds
/- Contract of table.Needs. -/
set_option linter.unusedVariables false
set_option linter.unusedSimpArgs false
namespace Go.Proofs.YtmdnmiiggkfnfaaDoor
open Go.RowKit

/-- A row of the call's own is a slice that holds it. -/
theorem sl_ow {α : Type} {f : Fl α} {w : World} {base : Nat} {e : TypeId} {v : Value} {xs : List α} (h : Ow f w base e v xs) (hs : 0 < f.sz) (hn : xs.length ≤ 140737488351232) : ∃ A c, v = .slice A xs.length c ∧ Sl f w A xs.length c xs := by
  obtain ⟨A, c, rfl, hr⟩ := h.read hs
  rcases h.2 with ⟨e1, h0⟩ | ⟨g, cap, cur, e1, _, _, h1, h2, _⟩
  · injection e1 with e1 e2 e3
    subst e3
    exact ⟨A, 0, rfl, hr, by omega, by omega, hn⟩
  · injection e1 with e1 e2 e3
    subst e3
    exact ⟨A, c, rfl, hr, h1, by simp only [maxLen] at h2; omega, hn⟩
/-- What a row of Needs that is returned is. -/
def NeedsPost (w : World) (xs : List Need) (e : Ending) (w' : World) : Prop := ∃ A n c, e = .returned (.slice A n c) ∧ Sl flN w' A n c xs ∧ Below w.heap.size w w'
end Go.Proofs.YtmdnmiiggkfnfaaDoor

/- Arguments: layouts (chapter 3). -/
set_option linter.unusedVariables false
set_option linter.unusedSimpArgs false
namespace Go.Proofs.YtmdnmiiggkfnfaaDoor
open Go.RowKit

set_option maxRecDepth 100000 in
theorem opens_ints0 : Opens Tryd.prog 39 (Kd.slice (Kd.int .i64)) :=
  opens_slice Tryd.underlying39 (by kernel_rfl) (by decide) (of_decide_eq_true (by kernel_rfl)) (opens_int Tryd.underlying3 (by kernel_rfl))
set_option maxRecDepth 100000 in
theorem opens_strs0 : Opens Tryd.prog 22 (Kd.slice Kd.str) :=
  opens_slice Tryd.underlying22 (by kernel_rfl) (by decide) (of_decide_eq_true (by kernel_rfl)) (opens_str Tryd.underlying9 (by kernel_rfl))
set_option maxRecDepth 100000 in
theorem opens_need : Opens Tryd.prog 46 kNeed :=
  opens_iso _ (fun a => ⟨a.1, a.2.1⟩) (fun _ => rfl) (opens_struct Tryd.underlying46 (by kernel_rfl)
    (opensF_cons rfl (opens_int Tryd.underlying3 (by kernel_rfl)) (opensF_cons rfl (opens_bool Tryd.underlying4 (by kernel_rfl)) opensF_nil)))
set_option maxRecDepth 100000 in
theorem opens_needs : Opens Tryd.prog 42 (Kd.slice kNeed) :=
  opens_slice Tryd.underlying42 (by kernel_rfl) (by decide) (of_decide_eq_true (by kernel_rfl)) opens_need
set_option maxRecDepth 100000 in
theorem opens_pt : Opens Tryd.prog 51 kPt :=
  opens_iso _ (fun a => ⟨a.1, a.2.1⟩) (fun _ => rfl) (opens_struct Tryd.underlying51 (by kernel_rfl)
    (opensF_cons rfl (opens_str Tryd.underlying9 (by kernel_rfl)) (opensF_cons rfl (opens_int Tryd.underlying3 (by kernel_rfl)) opensF_nil)))
set_option maxRecDepth 100000 in
theorem opens_rte : Opens Tryd.prog 44 kRte :=
  opens_iso _ (fun a => ⟨a.1, a.2.1, a.2.2.1, a.2.2.2.1, a.2.2.2.2.1, a.2.2.2.2.2.1⟩) (fun _ => rfl) (opens_struct Tryd.underlying44 (by kernel_rfl)
    (opensF_cons rfl (opens_str Tryd.underlying9 (by kernel_rfl)) (opensF_cons rfl (opens_int Tryd.underlying3 (by kernel_rfl)) (opensF_cons rfl (opens_int Tryd.underlying3 (by kernel_rfl))
      (opensF_cons rfl opens_ints0 (opensF_cons rfl opens_needs (opensF_cons rfl opens_needs opensF_nil)))))))
set_option maxRecDepth 100000 in
theorem opens_lay : Opens Tryd.prog 26 kLay :=
  opens_iso _ (fun a => ⟨a.1, a.2.1, a.2.2.1, a.2.2.2.1⟩) (fun _ => rfl) (opens_struct Tryd.underlying26 (by kernel_rfl)
    (opensF_cons rfl opens_strs0 (opensF_cons rfl (opens_slice Tryd.underlying23 (by kernel_rfl) (by decide) (of_decide_eq_true (by kernel_rfl)) opens_pt)
      (opensF_cons rfl opens_strs0 (opensF_cons rfl (opens_slice Tryd.underlying24 (by kernel_rfl) (by decide) (of_decide_eq_true (by kernel_rfl)) opens_rte) opensF_nil)))))
end Go.Proofs.YtmdnmiiggkfnfaaDoor
