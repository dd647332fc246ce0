/- Contracts: Cmp, the program's and the document's. -/
import Derived.Test.YtjjcibbokeadiaaDoorGlRWd
import Derived.Laws.IdiomStrings
import Derived.Deep.QuietTactic
import Derived.BigQuiet
set_option linter.unusedVariables false
namespace Go.Proofs.YtjjcibbokeadiaaDoor
open Go.RowKit

def cmpI (a b : Int) : Int := if a < b then -1 else if b < a then 1 else 0
def cmpR : List (Nat × Nat) → List (Nat × Nat) → Int
  | [], [] => 0
  | [], _ :: _ => -1
  | _ :: _, [] => 1
  | x :: a, y :: b => if x.1 < y.1 then -1 else if y.1 < x.1 then 1 else cmpR a b
def cmpL (a b : List Nat) : Int := cmpR (rn a) (rn b)
theorem cmpR_nil_left (b : List (Nat × Nat)) : cmpR [] b = cmpI 0 b.length := by
  cases b with
  | nil => rfl
  | cons y b =>
    show (-1 : Int) = _
    unfold cmpI
    rw [if_pos (by simp)]
theorem cmpR_nil_right (a : List (Nat × Nat)) : cmpR a [] = cmpI a.length 0 := by
  cases a with
  | nil => rfl
  | cons y b =>
    show (1 : Int) = _
    unfold cmpI
    rw [if_neg (by simp; omega), if_pos (by simp)]
theorem CmpR_calls (a b : Int) (w : World) : Calls Tryd.prog 28 #[.int .i32 a, .int .i32 b] w fun e w' => e = .returned (.int .i64 (cmpI a b)) ∧ w = w' := by
  rcases Int.lt_trichotomy a b with h | h | h
  · have HC := Lib.hid (show cmpI a b = -1 from if_pos h)
    go_enter Tryd.func28, Tryd.ntmps28
    go_wp2
    go_ret
    exact ⟨ret_int (by rw [HC.out]), rfl⟩
  · subst h
    have HC := Lib.hid (show cmpI a a = 0 by unfold cmpI; rw [if_neg (by omega), if_neg (by omega)])
    go_enter Tryd.func28, Tryd.ntmps28
    go_wp2
    go_ret
    exact ⟨ret_int (by rw [HC.out]), rfl⟩
  · have HC := Lib.hid (show cmpI a b = 1 by unfold cmpI; rw [if_neg (by omega), if_pos h])
    have h' : ¬ a < b := by omega
    go_enter Tryd.func28, Tryd.ntmps28
    go_wp2
    go_ret
    exact ⟨ret_int (by rw [HC.out]), rfl⟩
theorem CmpN_calls (a b : Int) (w : World) : Calls Tryd.prog 29 #[.int .i64 a, .int .i64 b] w fun e w' => e = .returned (.int .i64 (cmpI a b)) ∧ w = w' := by
  rcases Int.lt_trichotomy a b with h | h | h
  · have HC := Lib.hid (show cmpI a b = -1 from if_pos h)
    go_enter Tryd.func29, Tryd.ntmps29
    go_wp2
    go_ret
    exact ⟨ret_int (by rw [HC.out]), rfl⟩
  · subst h
    have HC := Lib.hid (show cmpI a a = 0 by unfold cmpI; rw [if_neg (by omega), if_neg (by omega)])
    go_enter Tryd.func29, Tryd.ntmps29
    go_wp2
    go_ret
    exact ⟨ret_int (by rw [HC.out]), rfl⟩
  · have HC := Lib.hid (show cmpI a b = 1 by unfold cmpI; rw [if_neg (by omega), if_pos h])
    have h' : ¬ a < b := by omega
    go_enter Tryd.func29, Tryd.ntmps29
    go_wp2
    go_ret
    exact ⟨ret_int (by rw [HC.out]), rfl⟩
/-- Runes as whole numbers. -/
theorem runesFrom_rn (s : ByteArray) : ∀ (b i : Nat) (acc : Array Value), s.size ≤ i + b → Conv.runesFrom s b i acc = acc ++ ((rn ((byt s).drop i)).map fun x => Value.int .i32 (x.1 : Int)).toArray
  | 0, i, acc, h => by
    have : (byt s).drop i = [] := List.drop_eq_nil_of_le (by rw [byt_len]; omega)
    rw [this, rn_nil]
    simp [Conv.runesFrom]
  | b + 1, i, acc, h => by
    unfold Conv.runesFrom
    by_cases hi : i < s.size
    · have hne : (byt s).drop i ≠ [] := fun e => by
        have := congrArg List.length e
        rw [List.length_drop, byt_len] at this
        simp at this
        omega
      have hw := dec_width hne
      rw [if_pos hi, decL_at]
      dsimp only
      rw [runesFrom_rn s b _ _ (by omega), rn_cons hne, List.drop_drop]
      simp
    · have : (byt s).drop i = [] := List.drop_eq_nil_of_le (by rw [byt_len]; omega)
      rw [if_neg hi, this, rn_nil]
      simp
def flQ : Fl (Nat × Nat) := ⟨1, fun x => [.int .i32 (x.1 : Int)], fun _ => rfl, fun _ u hu => by rw [List.mem_singleton.1 hu]; rfl⟩
theorem flQ_flat (l : List (Nat × Nat)) : l.flatMap flQ.enc = l.map fun x => Value.int .i32 (x.1 : Int) := by
  induction l with
  | nil => rfl
  | cons x l ih => rw [List.flatMap_cons, List.map_cons, ih]; rfl
/-- '[]rune(s)'. -/
theorem run_runes (w : World) (s : ByteArray) (hs : s.size ≤ 1000000) : ∃ c pad, (convert 9 24 (.string s)).run Tryd.prog w = .ok (.slice (some ⟨w.heap.size, 0, none⟩) (rn (byt s)).length c) (w.alloc (.cells (((rn (byt s)).map fun x => Value.int .i32 (x.1 : Int)).toArray ++ pad) 21)).drew := by
  have e0 : Conv.runesFrom s s.size 0 #[] = ((rn (byt s)).map fun x => Value.int .i32 (x.1 : Int)).toArray := by
    rw [runesFrom_rn s s.size 0 #[] (by omega), List.drop_zero]
    simp
  have hl : (Conv.runesFrom s s.size 0 #[]).size = (rn (byt s)).length := by rw [e0]; simp
  have hle := Nat.le_trans (rn_len (byt s)) (Nat.le_of_eq (byt_len s))
  have h := run_runes_of_string (P := Tryd.prog) w 9 24 21 s Tryd.underlying9 Tryd.underlying24 Tryd.underlying21 (by rw [hl]; omega)
  rw [hl, e0] at h
  exact ⟨_, _, h⟩
theorem rfQ_of {w : World} {g : Nat} {l : List (Nat × Nat)} {pad : Array Value} {t : TypeId} {fr : Nat × Nat} (hb : Blk w g ((l.map fun x => Value.int .i32 (x.1 : Int)).toArray ++ pad) t fr) (hl : l.length ≤ 9223372036854775807) : Rf flQ w (some ⟨g, 0, none⟩) l.length l := by
  refine ⟨rfl, hl, fun _ => ⟨g, 0, rfl, fun j x hx i v hv => ?_⟩⟩
  have hj : j < l.length := (List.getElem?_eq_some_iff.1 hx).1
  cases i with
  | succ i => simp [flQ] at hv
  | zero =>
    have hv' : v = .int .i32 (x.1 : Int) := by simpa [flQ] using hv.symm
    rw [hb.cell]
    have : (0 + j * flQ.sz + 0) = j := by simp [flQ]
    rw [this, Array.getElem?_append_left (by simpa using hj)]
    simp [hx, hv']
end Go.Proofs.YtjjcibbokeadiaaDoor
