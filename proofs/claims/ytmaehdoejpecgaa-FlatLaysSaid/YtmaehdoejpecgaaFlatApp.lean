/- Walks of slices.Clone at []int, flat.Apply and the reference's Apply. -/
import Derived.Test.YtmaehdoejpecgaaFlatEq
import Derived.Lib.SliceRun
set_option linter.unusedVariables false
namespace Go.Proofs.Ytmaehdoejpecgaa
open Go.ChangeShapes Go.WideShapes Go.ChangeAt Go.RowKit

/-- A row of the call's own of just these numbers. -/
def ClonePost (w : World) (xs : List Int) (e : Ending) (w' : World) : Prop := ∃ v, e = .returned v ∧ Ow flI w' w.heap.size 3 v xs ∧ Below w.heap.size w w'
theorem Ow.empty {α : Type} (f : Fl α) (w : World) (base : Nat) (e : TypeId) (hb : base ≤ w.heap.size) : w.alloc (.cells #[] e) |>.ownsRow base e f.sz (.slice (some ⟨w.heap.size, 0, none⟩) 0 0) 0 [] := World.ownsRow_lit w #[] 0 hb (by simp [maxLen]) (by simp)
set_option maxHeartbeats 1000000 in
theorem Clone_calls (A : Option Addr) (n c : Nat) (xs : List Int) (w : World) (hA : Rf flI w A n xs) (hn : n ≤ 17592186044416) :
    Calls Try.prog 34 #[.slice A n c] w (ClonePost w xs) := by
  obtain ⟨i0, hi0, hz0, hz1, hz2⟩ := info_parts info_int
  have h1 := hA.1
  have hq := fun w n c => Go.Lib.run_eql_slice_nil (P := Try.prog) w 22 3 A n c 0 0 Try.underlying22
  cases A with
  | none =>
    have hn0 : n = 0 := by
      rcases Nat.eq_zero_or_pos n with h | h
      · exact h
      · obtain ⟨_, _, e, _⟩ := hA.2.2 h; cases e
    subst hn0
    have hx : xs = [] := List.eq_nil_of_length_eq_zero h1
    subst hx
    clear hA h1
    go_enter Try.func34, Try.ntmps34
    go_wp2_with fail
    go_ret
    exact ⟨_, rfl, Ow.nil_ _ _ _ _, Below.refl _ _⟩
  | some a =>
    have H1 := Lib.hid h1
    clear h1
    go_enter Try.func34, Try.ntmps34
    go_wp2_with (at_builtin; refine wpList_append_any _ rfl (.tmp 5) (.tmp 6) _ rfl w.heap.size 3 i0 _ 1 8 Try.underlying22 hi0 hz0 hz1 hz2 rfl (by omega) (.slice (some ⟨w.heap.size, 0, none⟩) 0 0) 0 [] rfl (Ow.empty flI w w.heap.size 3 (Nat.le_refl _)) w.heap.size (some a) n c (xs.flatMap flI.enc) rfl ((hA.reads (by decide)).alloc (Nat.le_refl _) _) (flat_one flI xs) (by simp only [maxLen]; omega) (by omega) (by simp) ?_; intro v1 w1 hown1 hg1 hat1)
    go_ret
    refine ⟨_, rfl, ?_, (below_new w _).grown hg1 (by simp) (fun k hk => ?_)⟩
    · have := Ow.join (f := flI) (xs := []) (ys := xs) (m := n) H1.out hown1
      simpa using this
    · simp [Value.ownBlock] at hk
      omega

def ApplyPost (w : World) (xs : List Int) (cs : List Chg) (e : Ending) (w' : World) : Prop :=
  (∃ ys v, applyTo xs cs = some ys ∧ e = .returned (.tuple #[v, .bool true]) ∧ Ow flI w' w.heap.size 3 v ys ∧ Below w.heap.size w w') ∨
  (applyTo xs cs = none ∧ e = .returned (.tuple #[.slice none 0 0, .bool false]) ∧ Below w.heap.size w w')
theorem apply_out {ys : List Int} {cs : List Chg} {k : Nat} {c : Chg} (hc : cs[k]? = some c) (h : c.at_ < 0 ∨ (ys.length : Int) ≤ c.at_) : applyTo ys (cs.drop k) = none := by
  rw [List.drop_eq_getElem_cons (List.getElem?_eq_some_iff.1 hc).1, (List.getElem?_eq_some_iff.1 hc).2, applyTo, if_pos h]
theorem apply_in {ys : List Int} {cs : List Chg} {k : Nat} {c : Chg} (hc : cs[k]? = some c) (h0 : 0 ≤ c.at_) (h1 : c.at_ < ys.length) : applyTo ys (cs.drop k) = applyTo (ys.set c.at_.toNat c.num) (cs.drop (k + 1)) := by
  rw [List.drop_eq_getElem_cons (List.getElem?_eq_some_iff.1 hc).1, (List.getElem?_eq_some_iff.1 hc).2, applyTo, if_neg (by omega)]
theorem apply_end {ys : List Int} {cs : List Chg} {k : Nat} (h : cs.length ≤ k) : applyTo ys (cs.drop k) = some ys := by
  rw [List.drop_of_length_le h]; rfl
theorem owI_cell {w : World} {base g cap : Nat} {ys : List Int} (h : Ow flI w base 3 (.slice (some ⟨g, 0, none⟩) ys.length cap) ys) (p : Nat) (hp : p < ys.length) : w.cell? ⟨g, p, none⟩ = some (.int .i64 ys[p]) := by
  have hcell := h.cell1 (j := p) (i := 0) (x := ys[p]) (u := .int .i64 ys[p]) (List.getElem?_eq_getElem hp) (by decide) rfl
  have e : p * flI.sz + 0 = p := by show p * 1 + 0 = p; omega
  rw [e] at hcell
  exact hcell
theorem owI_form {w : World} {base : Nat} {v : Value} {ys : List Int} (h : Ow flI w base 3 v ys) {n : Nat} (hn : ys.length = n) (h0 : 0 < n) : ∃ g cap, v = .slice (some ⟨g, 0, none⟩) n cap ∧ base ≤ g ∧ g < w.heap.size := by
  obtain ⟨g, cap, e, r⟩ := h.form (by omega)
  exact ⟨g, cap, by rw [e, hn], r⟩

set_option maxHeartbeats 1000000 in
theorem Apply_calls (A L : Option Addr) (n m c d : Nat) (xs : List Int) (cs : List Chg) (w : World) (hA : Rf flI w A n xs) (hL : Rf flC w L m cs) (hn : n ≤ 17592186044416) :
    Calls Try.prog 16 #[.slice A n c, .slice L m d] w (ApplyPost w xs cs) := by
  have h1 := hA.1
  have h2 := hL.1
  have hm := hL.2.1
  have H1 := Lib.hid h1
  have H2 := Lib.hid h2
  clear h1 h2
  go_enter Try.func16, Try.ntmps16
  go_wp2_with fail
  refine (Clone_calls A n c xs w hA hn).mono ?_
  rintro e w0 ⟨v, rfl, hown0, hb0⟩
  obtain ⟨A0, c0, rfl, _⟩ := hown0.read (by decide)
  rw [H1.out] at hown0 ⊢
  go_wp2_with fail
  go_loopw [12] (fun i wr => ∃ (k : Nat) (ys : List Int), k ≤ m ∧ i = .int .i64 k ∧ Ow flI wr w.heap.size 3 (.slice A0 n c0) ys ∧ Hid (ys.length = n) ∧ Hid (applyTo xs cs = applyTo ys (cs.drop k)) ∧ Below w.heap.size w wr) (fun i _ => m - (intOf i).toNat)
  case atStart => exact ⟨0, xs, by omega, rfl, hown0, H1, Lib.hid rfl, hb0⟩
  case round =>
    obtain ⟨k, ys, hk, rfl, hown, hyl, hr, hbr⟩ := hrel
    by_cases hlt : k < m
    · obtain ⟨bl, ol, x, rfl, hx, ca0, ca1⟩ := rfC_at hL hlt
      have ca := cell_keep hbr (cell_lt ca0) ca0
      have ca' := cell_keep hbr (cell_lt ca1) ca1
      have HX := Lib.hid hx
      have HO := Lib.hid hown
      have hsz := hbr.size
      clear ca0 ca1 hx hown hown0
      obtain ⟨p, q⟩ := x
      dsimp only at ca ca'
      by_cases hp : p < 0
      · go_wp2_with fail
        go_ret2
        exact .inr ⟨hr.out.trans (apply_out HX.out (.inl hp)), rfl, hbr.alloc hsz _⟩
      by_cases hp2 : (n : Int) ≤ p
      · go_wp2_with fail
        go_ret2
        exact .inr ⟨hr.out.trans (apply_out HX.out (.inr (by rw [hyl.out]; exact hp2))), rfl, hbr.alloc hsz _⟩
      obtain ⟨p, rfl⟩ := Int.eq_ofNat_of_zero_le (show 0 ≤ p by omega)
      obtain ⟨g, cap, hv, hgb, hgl⟩ := owI_form HO.out hyl.out (by omega)
      injection hv with hA0 _ hc0
      subst hA0
      subst hc0
      have HO2 : Hid (Ow flI wr w.heap.size 3 (.slice (some ⟨g, 0, none⟩) ys.length c0) ys) := by have := HO.out; rw [← hyl.out] at this; exact this
      have hpx : p < ys.length := by have := hyl.out; omega
      have hcell := owI_cell HO2.out p hpx
      have hfree := HO2.out.free p
      generalize ys[p] = y0 at *
      go_wp2_with fail
      go_roundw
      case rel =>
        refine ⟨k + 1, ys.set p q, by omega, by go_num, ?_, Lib.hid (by rw [List.length_set]; exact hyl.out), Lib.hid (hr.out.trans (apply_in HX.out (by show 0 ≤ (p : Int); omega) (by show (p : Int) < _; have := hyl.out; omega))), ?_⟩
        · have := (HO2.out.put1 rfl p q (.int .i64 q) rfl).1
          rw [hyl.out] at this
          exact this.alloc _
        · exact (hbr.setCell (p := ⟨g, p, none⟩) hgb _).alloc (by rw [size_put]; exact hsz) _
      case measure => simp [intOf]; omega
    · have hkm : k = m := by omega
      subst hkm
      go_wp2_with fail
      go_ret2
      exact .inl ⟨ys, _, hr.out.trans (apply_end (by have := H2.out; omega)), rfl, hown, hbr⟩

set_option maxHeartbeats 1000000 in
theorem RefApply_calls (A L : Option Addr) (n m c d : Nat) (xs : List Int) (cs : List Chg) (w : World) (hA : Rf flI w A n xs) (hL : Rf flC w L m cs) (hn : n ≤ 17592186044416) :
    Calls Try.prog 18 #[.slice A n c, .slice L m d] w (ApplyPost w xs cs) := by
  obtain ⟨i0, hi0, hz0, hz1, hz2⟩ := info_parts info_int
  have h1 := hA.1
  have h2 := hL.1
  have hm := hL.2.1
  have H1 := Lib.hid h1
  have H2 := Lib.hid h2
  clear h1 h2
  go_enter Try.func18, Try.ntmps18
  go_wp2_with (at_builtin; refine wpList_append_any _ rfl (.tmp 8) (.tmp 9) _ rfl w.heap.size 3 i0 _ 1 8 Try.underlying22 hi0 hz0 hz1 hz2 rfl (by omega) (.slice (some ⟨w.heap.size, 0, none⟩) 0 0) 0 [] rfl (Ow.empty flI w w.heap.size 3 (Nat.le_refl _)) w.heap.size A n c (xs.flatMap flI.enc) rfl ((hA.reads (by decide)).alloc (Nat.le_refl _) _) (flat_one flI xs) (by simp only [maxLen]; omega) (by omega) (by simp) ?_; intro v w0 hown1 hg1 hat1)
  have hb0 : Below w.heap.size w w0 := (below_new w _).grown hg1 (by simp) (fun k hk => by simp [Value.ownBlock] at hk; omega)
  have hown0 : Ow flI w0 w.heap.size 3 v xs := by
    have := Ow.join (f := flI) (xs := []) (ys := xs) (m := n) H1.out hown1
    simpa using this
  clear hown1 hg1 hat1
  obtain ⟨A0, c0, rfl, _⟩ := hown0.read (by decide)
  rw [H1.out] at hown0 ⊢
  go_loopw [7] (fun i wr => ∃ (k : Nat) (ys : List Int), k ≤ m ∧ i = .int .i64 k ∧ Ow flI wr w.heap.size 3 (.slice A0 n c0) ys ∧ Hid (ys.length = n) ∧ Hid (applyTo xs cs = applyTo ys (cs.drop k)) ∧ Below w.heap.size w wr) (fun i _ => m - (intOf i).toNat)
  case atStart => exact ⟨0, xs, by omega, rfl, hown0, H1, Lib.hid rfl, hb0⟩
  case round =>
    obtain ⟨k, ys, hk, rfl, hown, hyl, hr, hbr⟩ := hrel
    by_cases hlt : k < m
    · obtain ⟨bl, ol, x, rfl, hx, ca0, ca1⟩ := rfC_at hL hlt
      have ca := cell_keep hbr (cell_lt ca0) ca0
      have ca' := cell_keep hbr (cell_lt ca1) ca1
      have HX := Lib.hid hx
      have HO := Lib.hid hown
      have hsz := hbr.size
      clear ca0 ca1 hx hown hown0
      obtain ⟨p, q⟩ := x
      dsimp only at ca ca'
      by_cases hp : p < 0
      · go_wp2_with fail
        go_ret2
        exact .inr ⟨hr.out.trans (apply_out HX.out (.inl hp)), rfl, hbr⟩
      by_cases hp2 : (n : Int) ≤ p
      · go_wp2_with fail
        go_ret2
        exact .inr ⟨hr.out.trans (apply_out HX.out (.inr (by rw [hyl.out]; exact hp2))), rfl, hbr⟩
      obtain ⟨p, rfl⟩ := Int.eq_ofNat_of_zero_le (show 0 ≤ p by omega)
      obtain ⟨g, cap, hv, hgb, hgl⟩ := owI_form HO.out hyl.out (by omega)
      injection hv with hA0 _ hc0
      subst hA0
      subst hc0
      have HO2 : Hid (Ow flI wr w.heap.size 3 (.slice (some ⟨g, 0, none⟩) ys.length c0) ys) := by have := HO.out; rw [← hyl.out] at this; exact this
      have hpx : p < ys.length := by have := hyl.out; omega
      have hcell := owI_cell HO2.out p hpx
      have hfree := HO2.out.free p
      generalize ys[p] = y0 at *
      go_wp2_with fail
      go_region
      go_wp2_with fail
      go_roundw
      case rel =>
        refine ⟨k + 1, ys.set p q, by omega, by go_num, ?_, Lib.hid (by rw [List.length_set]; exact hyl.out), Lib.hid (hr.out.trans (apply_in HX.out (by show 0 ≤ (p : Int); omega) (by show (p : Int) < _; have := hyl.out; omega))), ?_⟩
        · have := (HO2.out.put1 rfl p q (.int .i64 q) rfl).1
          rw [hyl.out] at this
          exact this.drew
        · exact (hbr.setCell (p := ⟨g, p, none⟩) hgb _).drew
      case measure => simp [intOf]; omega
    · have hkm : k = m := by omega
      subst hkm
      go_wp2_with fail
      go_ret2
      exact .inl ⟨ys, _, hr.out.trans (apply_end (by have := H2.out; omega)), rfl, hown, hbr⟩
end Go.Proofs.Ytmaehdoejpecgaa
