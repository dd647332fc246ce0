/- Contracts of crate's functions, more. -/
import Derived.Test.YtekhogoggfacaaaCrAdd
set_option linter.unusedVariables false
namespace Go.Proofs.Ytekhogoggfacaaa
open Go.RowKit

theorem asII (v : Value) (w : World) : (Instr.typeAssert (.iface 3 v) 20 3 true).run Try.prog w = .ok (.tuple #[v, .bool true]) w := by kernel_rfl
theorem asIS (v : Value) (w : World) : (Instr.typeAssert (.iface 3 v) 20 9 true).run Try.prog w = .ok (.tuple #[.string ByteArray.empty, .bool false]) w := by kernel_rfl
theorem asIB (v : Value) (w : World) : (Instr.typeAssert (.iface 3 v) 20 4 true).run Try.prog w = .ok (.tuple #[.bool false, .bool false]) w := by kernel_rfl
theorem asNI (w : World) : (Instr.typeAssert .nilIface 20 3 true).run Try.prog w = .ok (.tuple #[.int .i64 0, .bool false]) w := by kernel_rfl
theorem asSI (v : Value) (w : World) : (Instr.typeAssert (.iface 9 v) 20 3 true).run Try.prog w = .ok (.tuple #[.int .i64 0, .bool false]) w := by kernel_rfl
theorem asSS (v : Value) (w : World) : (Instr.typeAssert (.iface 9 v) 20 9 true).run Try.prog w = .ok (.tuple #[v, .bool true]) w := by kernel_rfl
theorem asSB (v : Value) (w : World) : (Instr.typeAssert (.iface 9 v) 20 4 true).run Try.prog w = .ok (.tuple #[.bool false, .bool false]) w := by kernel_rfl
theorem asNS (w : World) : (Instr.typeAssert .nilIface 20 9 true).run Try.prog w = .ok (.tuple #[.string ByteArray.empty, .bool false]) w := by kernel_rfl
theorem asBI (v : Value) (w : World) : (Instr.typeAssert (.iface 4 v) 20 3 true).run Try.prog w = .ok (.tuple #[.int .i64 0, .bool false]) w := by kernel_rfl
theorem asBS (v : Value) (w : World) : (Instr.typeAssert (.iface 4 v) 20 9 true).run Try.prog w = .ok (.tuple #[.string ByteArray.empty, .bool false]) w := by kernel_rfl
theorem asBB (v : Value) (w : World) : (Instr.typeAssert (.iface 4 v) 20 4 true).run Try.prog w = .ok (.tuple #[v, .bool true]) w := by kernel_rfl
theorem asNB (w : World) : (Instr.typeAssert .nilIface 20 4 true).run Try.prog w = .ok (.tuple #[.bool false, .bool false]) w := by kernel_rfl
theorem asMust (v : Value) (w : World) : (Instr.typeAssert (.iface 3 v) 20 3 false).run Try.prog w = .ok v w := by kernel_rfl
def numOf : Option It → Int × Bool
  | some (.num n) => (n, true)
  | _ => (0, false)
def txtOf : Option It → ByteArray × Bool
  | some (.txt n) => (n, true)
  | _ => (.empty, false)
def truOf : Option It → Bool × Bool
  | some (.tru n) => (n, true)
  | _ => (false, false)
theorem Int_calls (w : World) (p : Option Addr) (its : List It) (h : Cz w p its) (i : Int) :
    Calls Try.prog 28 #[.pointer p, .int .i64 i] w fun e w' => e = .returned (.tuple #[.int .i64 (numOf (lk its i)).1, .bool (numOf (lk its i)).2]) ∧ w = w' := by
  have key := at_calls w p its h i
  have hT := asII
  have hT2 := asSI
  have hT3 := asBI
  have hT4 := asNI
  rcases hL : lk its i with _ | (n | s | b) <;> rw [hL] at key <;> dsimp only [vOf, It.val] at key <;> clear hL h
  all_goals
    go_enter Try.func28, Try.ntmps28
    go_wp2_with fail
    refine key.mono ?_
    rintro e w1 ⟨rfl, rfl⟩
    go_wp2_with fail
    go_ret2
    exact ⟨rfl, rfl⟩
theorem Text_calls (w : World) (p : Option Addr) (its : List It) (h : Cz w p its) (i : Int) :
    Calls Try.prog 29 #[.pointer p, .int .i64 i] w fun e w' => e = .returned (.tuple #[.string (txtOf (lk its i)).1, .bool (txtOf (lk its i)).2]) ∧ w = w' := by
  have key := at_calls w p its h i
  have hT := asIS
  have hT2 := asSS
  have hT3 := asBS
  have hT4 := asNS
  rcases hL : lk its i with _ | (n | s | b) <;> rw [hL] at key <;> dsimp only [vOf, It.val] at key <;> clear hL h
  all_goals
    go_enter Try.func29, Try.ntmps29
    go_wp2_with fail
    refine key.mono ?_
    rintro e w1 ⟨rfl, rfl⟩
    go_wp2_with fail
    go_ret2
    exact ⟨rfl, rfl⟩
theorem Bool_calls (w : World) (p : Option Addr) (its : List It) (h : Cz w p its) (i : Int) :
    Calls Try.prog 30 #[.pointer p, .int .i64 i] w fun e w' => e = .returned (.tuple #[.bool (truOf (lk its i)).1, .bool (truOf (lk its i)).2]) ∧ w = w' := by
  have key := at_calls w p its h i
  have hT := asIB
  have hT2 := asSB
  have hT3 := asBB
  have hT4 := asNB
  rcases hL : lk its i with _ | (n | s | b) <;> rw [hL] at key <;> dsimp only [vOf, It.val] at key <;> clear hL h
  all_goals
    go_enter Try.func30, Try.ntmps30
    go_wp2_with fail
    refine key.mono ?_
    rintro e w1 ⟨rfl, rfl⟩
    go_wp2_with fail
    go_ret2
    exact ⟨rfl, rfl⟩
theorem MustInt_calls (w : World) (p : Option Addr) (its : List It) (h : Cz w p its) (i n : Int) (hi : lk its i = some (.num n)) :
    Calls Try.prog 15 #[.pointer p, .int .i64 i] w fun e w' => e = .returned (.int .i64 n) ∧ w = w' := by
  have key := at_calls w p its h i
  have hT := asMust
  rw [hi] at key
  dsimp only [vOf, It.val] at key
  clear hi h
  go_enter Try.func15, Try.ntmps15
  go_wp2_with fail
  refine key.mono ?_
  rintro e w1 ⟨rfl, rfl⟩
  go_wp2_with fail
  go_ret
  exact ⟨rfl, rfl⟩

theorem eqIS (v u : Value) (w : World) : (Op.equal 20 (.iface 3 v) (.iface 9 u)).run Try.prog w = .ok false w := by kernel_rfl
theorem eqIB (v u : Value) (w : World) : (Op.equal 20 (.iface 3 v) (.iface 4 u)).run Try.prog w = .ok false w := by kernel_rfl
theorem eqSI (v u : Value) (w : World) : (Op.equal 20 (.iface 9 v) (.iface 3 u)).run Try.prog w = .ok false w := by kernel_rfl
theorem eqSB (v u : Value) (w : World) : (Op.equal 20 (.iface 9 v) (.iface 4 u)).run Try.prog w = .ok false w := by kernel_rfl
theorem eqBI (v u : Value) (w : World) : (Op.equal 20 (.iface 4 v) (.iface 3 u)).run Try.prog w = .ok false w := by kernel_rfl
theorem eqBS (v u : Value) (w : World) : (Op.equal 20 (.iface 4 v) (.iface 9 u)).run Try.prog w = .ok false w := by kernel_rfl
theorem eqII (a b : Int) (w : World) : (Op.equal 20 (.iface 3 (.int .i64 a)) (.iface 3 (.int .i64 b))).run Try.prog w = .ok (a == b) w := by kernel_rfl
theorem eqSS (a b : ByteArray) (w : World) : (Op.equal 20 (.iface 9 (.string a)) (.iface 9 (.string b))).run Try.prog w = .ok (a == b) w := by kernel_rfl
theorem eqBB (a b : Bool) (w : World) : (Op.equal 20 (.iface 4 (.bool a)) (.iface 4 (.bool b))).run Try.prog w = .ok (a == b) w := by kernel_rfl
theorem ba_beq (a b : ByteArray) : (a == b) = decide (a = b) := by
  obtain ⟨a⟩ := a
  obtain ⟨b⟩ := b
  show (a == b) = _
  by_cases h : a = b <;> simp [h]
/-- Two things, compared. -/
theorem run_eq_any (x y : It) (w : World) : (Op.equal 20 x.val y.val).run Try.prog w = .ok (decide (x = y)) w := by
  cases x <;> cases y <;> simp only [It.val, eqII, eqSS, eqBB, eqIS, eqIB, eqSI, eqSB, eqBI, eqBS, ba_beq] <;> simp
  all_goals rename_i a b; by_cases h : a = b <;> simp [h]
theorem run_ne_any {t t' : TypeId} {u u' : Value} (x y : It) (hx : x.val = .iface t u) (hy : y.val = .iface t' u') (w : World) : (binOp .neq 20 (.iface t u) (.iface t' u')).run Try.prog w = .ok (.bool (!decide (x = y))) w := by
  have key := run_eq_any x y w
  rw [hx, hy] at key
  simp only [binOp]
  simp [key]
theorem val_iface (x : It) : ∃ t u, x.val = .iface t u := by cases x <;> exact ⟨_, _, rfl⟩
theorem rfA_at {w : World} {A : Option Addr} {n : Nat} {xs : List It} (h : Rf flA w A n xs) {j : Nat} (hj : j < n) : ∃ b off x, A = some ⟨b, off, none⟩ ∧ xs[j]? = some x ∧ w.cell? ⟨b, off + j, none⟩ = some x.val := by
  obtain ⟨b, off, x, rfl, hx, hc⟩ := h.at_ hj
  refine ⟨b, off, x, rfl, hx, ?_⟩
  have := hc 0 _ rfl
  simpa [flA] using this
set_option maxHeartbeats 1000000 in
theorem EqualAny_calls (A B : Option Addr) (n m c d : Nat) (xs ys : List It) (w : World) (hA : Rf flA w A n xs) (hB : Rf flA w B m ys) :
    Calls Try.prog 33 #[.slice A n c, .slice B m d] w fun e w' => e = .returned (.bool (decide (xs = ys))) ∧ Below w.heap.size w w' := by
  have h1 := hA.1
  have h2 := hB.1
  have hn := hA.2.1
  have hm := hB.2.1
  by_cases hne : n = m
  · have hb : ((n : Int) != (m : Int)) = false := by simp [hne]
    have HN := Lib.hid hne
    have H1 := Lib.hid h1
    have H2 := Lib.hid h2
    clear hne h1 h2
    go_enter Try.func33, Try.ntmps33
    go_wp2_with fail
    go_loopw [13] (fun i wr => ∃ k : Nat, k ≤ n ∧ i = .int .i64 k ∧ Hid (xs.take k = ys.take k) ∧ Below w.heap.size w wr) (fun i _ => n - (intOf i).toNat)
    case atStart => exact ⟨0, by omega, rfl, Lib.hid rfl, Below.refl _ _⟩
    case round =>
      obtain ⟨k, hk, rfl, hr, hbr⟩ := hrel
      by_cases hlt : k < n
      · obtain ⟨ba, oa, x, rfl, hx, ca0⟩ := rfA_at hA hlt
        obtain ⟨bb, ob, y, rfl, hy, cb0⟩ := rfA_at hB (j := k) (by have := HN.out; omega)
        obtain ⟨tx, ux, ex⟩ := val_iface x
        obtain ⟨ty, uy, ey⟩ := val_iface y
        have hq := run_ne_any x y ex ey
        rw [ex] at ca0
        rw [ey] at cb0
        have ca := cell_keep hbr (cell_lt ca0) ca0
        have cb := cell_keep hbr (cell_lt cb0) cb0
        have HX := Lib.hid hx
        have HY := Lib.hid hy
        clear ca0 cb0 hx hy ex ey
        have hkm : (k : Int) < m := by have := HN.out; omega
        by_cases hxy : x = y
        · simp only [decide_eq_true hxy, Bool.not_true] at hq
          have HXY := Lib.hid hxy
          clear hxy
          go_wp2_with fail
          go_quiet (fail)
          go_wp2_with fail
          go_roundw
          case rel => exact ⟨k + 1, by omega, by go_num, Lib.hid (take_eq_step HX.out HY.out hr.out HXY.out), below_drawn hbr _⟩
          case measure => simp [intOf]; omega
        · simp only [decide_eq_false hxy, Bool.not_false] at hq
          have HXY := Lib.hid hxy
          clear hxy
          go_wp2_with fail
          go_quiet (fail)
          go_wp2_with fail
          go_ret
          exact ⟨by rw [decide_eq_false (ne_of_at HX.out HY.out HXY.out)]; rfl, below_drawn hbr _⟩
      · have hkn : k = n := by omega
        have hfin : xs = ys := by
          have := hr.out
          rw [hkn, List.take_of_length_le (by have := H1.out; omega), List.take_of_length_le (by have := H2.out; have := HN.out; omega)] at this
          exact this
        have HF := Lib.hid hfin
        clear hkn hfin
        go_wp2_with fail
        go_ret
        exact ⟨by rw [decide_eq_true HF.out]; rfl, hbr⟩
  · have hb : ((n : Int) != (m : Int)) = true := by simp; omega
    have hll : ¬ xs = ys := by rintro rfl; omega
    have H3 := Lib.hid hll
    clear h1 h2 hll
    go_enter Try.func33, Try.ntmps33
    go_wp2_with fail
    go_ret
    exact ⟨by rw [decide_eq_false H3.out]; rfl, Below.refl _ _⟩
theorem Same_calls (w : World) (p q : Option Addr) (xs ys : List It) (hp : Cz w p xs) (hq : Cz w q ys) :
    Calls Try.prog 23 #[.pointer p, .pointer q] w fun e w' => e = .returned (.bool (decide (xs = ys))) ∧ Below w.heap.size w w' := by
  go_enter Try.func23, Try.ntmps23
  go_wp2_with fail
  refine (all_calls w p xs hp).mono ?_
  rintro e w1 ⟨⟨A, c, rfl, hA⟩, rfl⟩
  go_wp2_with fail
  refine (all_calls w q ys hq).mono ?_
  rintro e w1 ⟨⟨B, d, rfl, hB⟩, rfl⟩
  go_wp2_with fail
  refine (EqualAny_calls A B _ _ c d xs ys w hA hB).mono ?_
  rintro e w1 ⟨rfl, hb⟩
  clear hA hB hp hq
  go_wp2_with fail
  go_ret
  exact ⟨rfl, hb⟩
end Go.Proofs.Ytekhogoggfacaaa
