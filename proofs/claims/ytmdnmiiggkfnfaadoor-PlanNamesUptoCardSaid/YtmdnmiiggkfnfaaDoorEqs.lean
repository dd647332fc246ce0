/- '==' and '!=' on structs of plain fields. Plain lemmas over any program. -/
import Derived.Test.YtmdnmiiggkfnfaaDoorBase
import Derived.Laws.StructEq
set_option linter.unusedVariables false
set_option linter.unusedSimpArgs false
namespace Go.Proofs.YtmdnmiiggkfnfaaDoor
open Go.RowKit

/-- Two values of a type compare as r, at whatever depth from k on. -/
def Eqv (P : Program) (k : Nat) (t : TypeId) (x y : Value) (r : Bool) : Prop := ∀ (d : Nat) (w : World), k ≤ d → (Op.equalIn d t x y).run P w = .ok r w
theorem eqv_int {P : Program} {t : TypeId} {q q' : IntKind} (ht : P.underlying t = some (.int q)) (a b : Int) : Eqv P 1 t (.int q' a) (.int q' b) (a == b) := by
  intro d w hd
  obtain ⟨d, rfl⟩ : ∃ m, d = m + 1 := ⟨d - 1, by omega⟩
  simp [Op.equalIn, run_underlying ht]
theorem eqv_bool {P : Program} {t : TypeId} (ht : P.underlying t = some .bool) (a b : Bool) : Eqv P 1 t (.bool a) (.bool b) (a == b) := by
  intro d w hd
  obtain ⟨d, rfl⟩ : ∃ m, d = m + 1 := ⟨d - 1, by omega⟩
  simp [Op.equalIn, run_underlying ht]
theorem eqv_str {P : Program} {t : TypeId} (ht : P.underlying t = some .string) (a b : ByteArray) : Eqv P 1 t (.string a) (.string b) (a == b) := by
  intro d w hd
  obtain ⟨d, rfl⟩ : ∃ m, d = m + 1 := ⟨d - 1, by omega⟩
  simp [Op.equalIn, run_underlying ht]
/-- Fields compare as r. -/
def Eqf (P : Program) (k : Nat) (fs : List Field) (xs ys : Array Value) (r : Bool) : Prop := ∀ (d : Nat) (w : World), k ≤ d → (Op.eqFields d xs ys fs).run P w = .ok r w
theorem eqf_nil {P : Program} {xs ys : Array Value} : Eqf P 0 [] xs ys true := fun d w _ => by simp [Op.eqFields]
theorem eqf_cons {P : Program} {k k' : Nat} {f : Field} {fs : List Field} {xs ys : Array Value} {a b : Value} {r s : Bool} (hn : (f.name == "_") = false)
    (ha : ∀ w : World, (part f.type xs f.offset).run P w = .ok a w) (hb : ∀ w : World, (part f.type ys f.offset).run P w = .ok b w) (he : Eqv P k f.type a b r) (hr : Eqf P k' fs xs ys s) : Eqf P (max k k') (f :: fs) xs ys (r && s) := by
  intro d w hd
  have hn' : f.name ≠ "_" := by simpa using hn
  rw [Op.eqFields]
  simp only [if_pos hn', Sem.run_bind, ha, hb, he d w (by omega), Result.andThen_ok]
  cases r
  · simp
  · simpa using hr d w (by omega)
theorem eqv_struct {P : Program} {k : Nat} {t : TypeId} {fs : Array Field} {xs ys : Array Value} {r : Bool} (hu : P.underlying t = some (.struct fs)) (hp : P.stoodInHeld t = false) (h : Eqf P k fs.toList xs ys r) : Eqv P (k + 1) t (.agg xs) (.agg ys) r := by
  intro d w hd
  obtain ⟨d, rfl⟩ : ∃ m, d = m + 1 := ⟨d - 1, by omega⟩
  have hf : P.fieldsOf t = fs := by simp [Program.fieldsOf, hu]
  rw [run_equalIn_struct (P := P) w d t xs ys (by rw [hf]; exact hu) hp, hf]
  exact h d w (by omega)
theorem run_eql_of {P : Program} {k : Nat} {t : TypeId} {x y : Array Value} {r : Bool} (h : Eqv P k t (.agg x) (.agg y) r) (hk : k ≤ 9000) (w : World) : (binOp .eql t (.agg x) (.agg y)).run P w = .ok (.bool r) w := by
  have := h 10000 w (by omega)
  simp only [binOp]
  simp [Op.equal, Op.maxDepth, this]
theorem run_neq_of {P : Program} {k : Nat} {t : TypeId} {x y : Array Value} {r : Bool} (h : Eqv P k t (.agg x) (.agg y) r) (hk : k ≤ 9000) (w : World) : (binOp .neq t (.agg x) (.agg y)).run P w = .ok (.bool (!r)) w := by
  have := h 10000 w (by omega)
  simp only [binOp]
  simp [Op.equal, Op.maxDepth, this]
end Go.Proofs.YtmdnmiiggkfnfaaDoor
