/- Contracts of crate's functions. -/
import Derived.Test.YtekhogoggfacaaaCrDef
set_option linter.unusedVariables false
namespace Go.Proofs.Ytekhogoggfacaaa
open Go.RowKit

theorem AddInt_calls (n : Int) (w : World) (B b : Nat) (v : Value) (its : List It) (h : Cr w B b v its) (hB : B ≤ w.heap.size) :
    Calls Try.prog 25 #[.pointer (some ⟨b, 0, none⟩), .int .i64 n] w (AddPost w B b v its (.num n)) := by
  go_enter Try.func25, Try.ntmps25
  go_wp2_with fail
  refine (add_calls (.num n) w B b v its h hB).mono ?_
  rintro e w1 (⟨h1, rfl, h2⟩ | ⟨h1, rfl, h2⟩)
  · go_wp2_with fail
    go_ret
    exact .inl ⟨h1, rfl, h2⟩
  · go_wp2_with fail
    go_ret
    exact .inr ⟨h1, rfl, h2⟩
theorem AddText_calls (s : ByteArray) (w : World) (B b : Nat) (v : Value) (its : List It) (h : Cr w B b v its) (hB : B ≤ w.heap.size) :
    Calls Try.prog 26 #[.pointer (some ⟨b, 0, none⟩), .string s] w (AddPost w B b v its (.txt s)) := by
  go_enter Try.func26, Try.ntmps26
  go_wp2_with fail
  refine (add_calls (.txt s) w B b v its h hB).mono ?_
  rintro e w1 (⟨h1, rfl, h2⟩ | ⟨h1, rfl, h2⟩)
  · go_wp2_with fail
    go_ret
    exact .inl ⟨h1, rfl, h2⟩
  · go_wp2_with fail
    go_ret
    exact .inr ⟨h1, rfl, h2⟩
theorem AddBool_calls (s : Bool) (w : World) (B b : Nat) (v : Value) (its : List It) (h : Cr w B b v its) (hB : B ≤ w.heap.size) :
    Calls Try.prog 27 #[.pointer (some ⟨b, 0, none⟩), .bool s] w (AddPost w B b v its (.tru s)) := by
  go_enter Try.func27, Try.ntmps27
  go_wp2_with fail
  refine (add_calls (.tru s) w B b v its h hB).mono ?_
  rintro e w1 (⟨h1, rfl, h2⟩ | ⟨h1, rfl, h2⟩)
  · go_wp2_with fail
    go_ret
    exact .inl ⟨h1, rfl, h2⟩
  · go_wp2_with fail
    go_ret
    exact .inr ⟨h1, rfl, h2⟩

/-- A Crate, perhaps nil, as it is read. -/
def Cz (w : World) (p : Option Addr) (its : List It) : Prop := (p = none ∧ its = []) ∨ ∃ B b v, p = some ⟨b, 0, none⟩ ∧ Cr w B b v its
theorem Bx.cz {w : World} {B b : Nat} {v : Value} {its : List It} (h : Cr w B b v its) : Cz w (some ⟨b, 0, none⟩) its := .inr ⟨B, b, v, rfl, h⟩
theorem Cz.nil_ (w : World) : Cz w none [] := .inl ⟨rfl, rfl⟩
theorem Cz.stay {w w1 : World} {p : Option Addr} {its : List It} (h : Cz w p its) (hb : Below w.heap.size w w1) : Cz w1 p its := by
  rcases h with h | ⟨B, b, v, e, h⟩
  · exact .inl h
  · exact .inr ⟨B, b, v, e, h.stay hb⟩
theorem all_calls (w : World) (p : Option Addr) (its : List It) (h : Cz w p its) :
    Calls Try.prog 32 #[.pointer p] w fun e w' => (∃ A c, e = .returned (.slice A its.length c) ∧ Rf flA w A its.length its) ∧ w = w' := by
  rcases h with ⟨rfl, rfl⟩ | ⟨B, b, v, rfl, h⟩
  · go_enter Try.func32, Try.ntmps32
    go_wp2_with fail
    go_ret
    exact ⟨⟨_, _, rfl, Rf.nil_ _ _ _⟩, rfl⟩
  · have hc := h.blk.cell 0
    obtain ⟨A, c, hv, hR⟩ := h.own.read (by decide)
    subst hv
    have HR := Lib.hid hR
    simp only [List.getElem?_toArray, List.getElem?_cons_zero] at hc
    clear h hR
    go_enter Try.func32, Try.ntmps32
    go_wp2_with fail
    go_ret
    exact ⟨⟨_, _, rfl, HR.out⟩, rfl⟩
theorem Len_calls (w : World) (p : Option Addr) (its : List It) (h : Cz w p its) :
    Calls Try.prog 19 #[.pointer p] w fun e w' => e = .returned (.int .i64 its.length) ∧ w = w' := by
  go_enter Try.func19, Try.ntmps19
  go_wp2_with fail
  refine (all_calls w p its h).mono ?_
  rintro e w1 ⟨⟨A, c, rfl, hR⟩, rfl⟩
  have h2 := hR.2.1
  clear hR
  go_wp2_with fail
  go_ret
  exact ⟨rfl, rfl⟩
/-- What stands at a place. -/
def lk (its : List It) (i : Int) : Option It := if 0 ≤ i then its[i.toNat]? else none
def vOf : Option It → Value
  | none => .nilIface
  | some x => x.val
theorem at_calls (w : World) (p : Option Addr) (its : List It) (h : Cz w p its) (i : Int) :
    Calls Try.prog 31 #[.pointer p, .int .i64 i] w fun e w' => e = .returned (vOf (lk its i)) ∧ w = w' := by
  go_enter Try.func31, Try.ntmps31
  go_wp2_with fail
  refine (all_calls w p its h).mono ?_
  rintro e w1 ⟨⟨A, c, rfl, hR⟩, rfl⟩
  have h2 := hR.2.1
  by_cases h0 : i < 0
  · have hlk : lk its i = none := by simp [lk]; intro h; omega
    have HL := Lib.hid hlk
    clear hlk hR
    go_wp2_with fail
    go_ret
    exact ⟨by rw [HL.out]; rfl, rfl⟩
  by_cases h1 : (its.length : Int) ≤ i
  · have hlk : lk its i = none := by simp [lk]; intro h; omega
    have HL := Lib.hid hlk
    clear hlk hR
    go_wp2_with fail
    go_ret
    exact ⟨by rw [HL.out]; rfl, rfl⟩
  obtain ⟨k, rfl⟩ := Int.eq_ofNat_of_zero_le (show 0 ≤ i by omega)
  obtain ⟨bl, ol, x, rfl, hx, ca⟩ := hR.at_ (j := k) (by omega)
  have hlk : lk its k = some x := by simp [lk, hx]
  have HL := Lib.hid (congrArg vOf hlk)
  have hc := ca 0 x.val rfl
  have e1 : ol + k * flA.sz + 0 = ol + k := by show ol + k * 1 + 0 = _; omega
  rw [e1] at hc
  clear hlk hR hx ca e1
  have HU : Hid (vOf (lk its k) = x.val) := HL
  clear HL
  generalize x.val = u at *
  go_wp2_with fail
  go_ret
  exact ⟨congrArg Ending.returned HU.out.symm, rfl⟩
end Go.Proofs.Ytekhogoggfacaaa
