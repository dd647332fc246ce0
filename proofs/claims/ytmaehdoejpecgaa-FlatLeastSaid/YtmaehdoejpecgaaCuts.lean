/- xs[:k] as an equation. -/
import Derived.Test.YtmaehdoejpecgaaBase
set_option linter.unusedVariables false
namespace Go.Proofs.Ytmaehdoejpecgaa
open Go.RowKit
theorem add_zero' (a : Addr) : a.add 0 = a := by unfold Addr.add; simp
theorem run_cut_to {P : Program} {t e : TypeId} {i : TypeInfo} (ht : P.underlying t = some (.slice e)) (hi : P.info? e = some i) (A : Option Addr) (n c k : Nat) (h : k ≤ c) (W : World) :
    (Instr.slice t (.slice A n c) none (some (.int .i64 (k : Int))) none).run P W = .ok (.slice A k c) W := by
  have h0 : (0 : Int) ≤ (k : Int) := by omega
  have h1 : (k : Int) ≤ (c : Int) := by omega
  cases A <;> simp [Instr.slice, Instr.sliceBounds, run_underlying ht, sizeOf, typeInfo, hi, run_sliceBound, h0, h1, go_sem, add_zero']
end Go.Proofs.Ytmaehdoejpecgaa
