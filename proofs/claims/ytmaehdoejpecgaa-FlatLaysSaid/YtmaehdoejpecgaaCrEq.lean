/- Contracts of crate's functions, more. -/
import Derived.Test.YtmaehdoejpecgaaCrAdd
set_option linter.unusedVariables false
namespace Go.Proofs.Ytmaehdoejpecgaa
open Go.RowKit

theorem asII (v : Value) (w : World) : (Instr.typeAssert (.iface 3 v) 20 3 true).run Try.prog w = .ok (.tuple #[v, .bool true]) w := by kernel_rfl
theorem asIS (v : Value) (w : World) : (Instr.typeAssert (.iface 3 v) 20 9 true).run Try.prog w = .ok (.tuple #[.string ByteArray.empty, .bool false]) w := by kernel_rfl
theorem asIB (v : Value) (w : World) : (Instr.typeAssert (.iface 3 v) 20 4 true).run Try.prog w = .ok (.tuple #[.bool false, .bool false]) w := by kernel_rfl
theorem asNI (w : World) : (Instr.typeAssert .nilIface 20 3 true).run Try.prog w = .ok (.tuple #[.int .i64 0, .bool false]) w := by kernel_rfl
theorem asSI (v : Value) (w : World) : (Instr.typeAssert (.iface 9 v) 20 3 true).run Try.prog w = .ok (.tuple #[.int .i64 0, .bool false]) w := by kernel_rfl
theorem asSS (v : Value) (w : World) : (Instr.typeAssert (.iface 9 v) 20 9 true).run Try.prog w = .ok (.tuple #[v, .bool true]) w := by kernel_rfl
theorem asSB (v : Value) (w : World) : (Instr.typeAssert (.iface 9 v) 20 4 true).run Try.prog w = .ok (.tuple #[.bool false, .bool false]) w := by kernel_rfl
theorem asNS (w : World) : (Instr.typeAssert .nilIface 20 9 true).run Try.prog w = .ok (.tuple #[.string ByteArray.empty, .bool false]) w := by kernel_rfl
theorem asBI (v : Value) (w : World) : (Instr.typeAssert (.iface 4 v) 20 3 true).run Try.prog w = .ok (.tuple #[.int .i64 0, .bool false]) w := by kernel_rfl
theorem asBS (v : Value) (w : World) : (Instr.typeAssert (.iface 4 v) 20 9 true).run Try.prog w = .ok (.tuple #[.string ByteArray.empty, .bool false]) w := by kernel_rfl
theorem asBB (v : Value) (w : World) : (Instr.typeAssert (.iface 4 v) 20 4 true).run Try.prog w = .ok (.tuple #[v, .bool true]) w := by kernel_rfl
theorem asNB (w : World) : (Instr.typeAssert .nilIface 20 4 true).run Try.prog w = .ok (.tuple #[.bool false, .bool false]) w := by kernel_rfl
theorem asMust (v : Value) (w : World) : (Instr.typeAssert (.iface 3 v) 20 3 false).run Try.prog w = .ok v w := by kernel_rfl
def numOf : Option It → Int × Bool
  | some (.num n) => (n, true)
  | _ => (0, false)
def txtOf : Option It → ByteArray × Bool
  | some (.txt n) => (n, true)
  | _ => (.empty, false)
def truOf : Option It → Bool × Bool
  | some (.tru n) => (n, true)
  | _ => (false, false)
theorem Int_calls (w : World) (p : Option Addr) (its : List It) (h : Cz w p its) (i : Int) :
    Calls Try.prog 40 #[.pointer p, .int .i64 i] w fun e w' => e = .returned (.tuple #[.int .i64 (numOf (lk its i)).1, .bool (numOf (lk its i)).2]) ∧ w = w' := by
  have key := at_calls w p its h i
  have hT := asII
  have hT2 := asSI
  have hT3 := asBI
  have hT4 := asNI
  rcases hL : lk its i with _ | (n | s | b) <;> rw [hL] at key <;> dsimp only [vOf, It.val] at key <;> clear hL h
  all_goals
    go_enter Try.func40, Try.ntmps40
    go_wp2_with fail
    refine key.mono ?_
    rintro e w1 ⟨rfl, rfl⟩
    go_wp2_with fail
    go_ret2
    exact ⟨rfl, rfl⟩
theorem Text_calls (w : World) (p : Option Addr) (its : List It) (h : Cz w p its) (i : Int) :
    Calls Try.prog 41 #[.pointer p, .int .i64 i] w fun e w' => e = .returned (.tuple #[.string (txtOf (lk its i)).1, .bool (txtOf (lk its i)).2]) ∧ w = w' := by
  have key := at_calls w p its h i
  have hT := asIS
  have hT2 := asSS
  have hT3 := asBS
  have hT4 := asNS
  rcases hL : lk its i with _ | (n | s | b) <;> rw [hL] at key <;> dsimp only [vOf, It.val] at key <;> clear hL h
  all_goals
    go_enter Try.func41, Try.ntmps41
    go_wp2_with fail
    refine key.mono ?_
    rintro e w1 ⟨rfl, rfl⟩
    go_wp2_with fail
    go_ret2
    exact ⟨rfl, rfl⟩
theorem eqIS (v u : Value) (w : World) : (Op.equal 20 (.iface 3 v) (.iface 9 u)).run Try.prog w = .ok false w := by kernel_rfl
theorem eqIB (v u : Value) (w : World) : (Op.equal 20 (.iface 3 v) (.iface 4 u)).run Try.prog w = .ok false w := by kernel_rfl
theorem eqSI (v u : Value) (w : World) : (Op.equal 20 (.iface 9 v) (.iface 3 u)).run Try.prog w = .ok false w := by kernel_rfl
theorem eqSB (v u : Value) (w : World) : (Op.equal 20 (.iface 9 v) (.iface 4 u)).run Try.prog w = .ok false w := by kernel_rfl
theorem eqBI (v u : Value) (w : World) : (Op.equal 20 (.iface 4 v) (.iface 3 u)).run Try.prog w = .ok false w := by kernel_rfl
theorem eqBS (v u : Value) (w : World) : (Op.equal 20 (.iface 4 v) (.iface 9 u)).run Try.prog w = .ok false w := by kernel_rfl
theorem eqII (a b : Int) (w : World) : (Op.equal 20 (.iface 3 (.int .i64 a)) (.iface 3 (.int .i64 b))).run Try.prog w = .ok (a == b) w := by kernel_rfl
theorem eqSS (a b : ByteArray) (w : World) : (Op.equal 20 (.iface 9 (.string a)) (.iface 9 (.string b))).run Try.prog w = .ok (a == b) w := by kernel_rfl
theorem eqBB (a b : Bool) (w : World) : (Op.equal 20 (.iface 4 (.bool a)) (.iface 4 (.bool b))).run Try.prog w = .ok (a == b) w := by kernel_rfl
theorem ba_beq (a b : ByteArray) : (a == b) = decide (a = b) := by
  obtain ⟨a⟩ := a
  obtain ⟨b⟩ := b
  show (a == b) = _
  by_cases h : a = b <;> simp [h]
/-- Two things, compared. -/
theorem run_eq_any (x y : It) (w : World) : (Op.equal 20 x.val y.val).run Try.prog w = .ok (decide (x = y)) w := by
  cases x <;> cases y <;> simp only [It.val, eqII, eqSS, eqBB, eqIS, eqIB, eqSI, eqSB, eqBI, eqBS, ba_beq] <;> simp
  all_goals rename_i a b; by_cases h : a = b <;> simp [h]
theorem run_ne_any {t t' : TypeId} {u u' : Value} (x y : It) (hx : x.val = .iface t u) (hy : y.val = .iface t' u') (w : World) : (binOp .neq 20 (.iface t u) (.iface t' u')).run Try.prog w = .ok (.bool (!decide (x = y))) w := by
  have key := run_eq_any x y w
  rw [hx, hy] at key
  simp only [binOp]
  simp [key]
theorem val_iface (x : It) : ∃ t u, x.val = .iface t u := by cases x <;> exact ⟨_, _, rfl⟩
theorem rfA_at {w : World} {A : Option Addr} {n : Nat} {xs : List It} (h : Rf flA w A n xs) {j : Nat} (hj : j < n) : ∃ b off x, A = some ⟨b, off, none⟩ ∧ xs[j]? = some x ∧ w.cell? ⟨b, off + j, none⟩ = some x.val := by
  obtain ⟨b, off, x, rfl, hx, hc⟩ := h.at_ hj
  refine ⟨b, off, x, rfl, hx, ?_⟩
  have := hc 0 _ rfl
  simpa [flA] using this
end Go.Proofs.Ytmaehdoejpecgaa
