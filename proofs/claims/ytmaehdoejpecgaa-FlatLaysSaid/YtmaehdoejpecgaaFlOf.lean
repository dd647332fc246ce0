/- Routes as numbers: flat.Of and the document's. -/
import Derived.Test.YtmaehdoejpecgaaFlatKn
import Derived.Deep.RegionHeld3
set_option linter.unusedVariables false
namespace Go.Proofs.Ytmaehdoejpecgaa
open Go.ChangeShapes Go.WideShapes Go.ChangeAt Go.RowKit

structure Rs where
  m : Int
  t : Int
  g : Int
  s : Bool
deriving DecidableEq
def flR : Fl Rs := ⟨4, fun c => [.int .i64 c.m, .int .i64 c.t, .int .i64 c.g, .bool c.s], fun _ => rfl, fun _ u hu => by
  simp only [List.mem_cons, List.not_mem_nil, or_false] at hu
  rcases hu with rfl | rfl | rfl | rfl <;> rfl⟩
def kR : Kd Rs := Kd.iso (Kd.pair (Kd.int .i64) (Kd.pair (Kd.int .i64) (Kd.pair (Kd.int .i64) (Kd.pair Kd.bool Kd.unit)))) fun c => (c.m, c.t, c.g, c.s, ())
theorem kR_enc (w : World) (x : Rs) (cs : List Value) (h : kR.K w x cs) : cs = flR.enc x := by
  obtain ⟨_, _, rfl, ⟨rfl, _⟩, _, _, rfl, ⟨rfl, _⟩, _, _, rfl, ⟨rfl, _⟩, _, _, rfl, rfl, rfl⟩ := h
  rfl
theorem opens_r : Opens Try.prog 67 kR :=
  opens_iso _ (fun a => ⟨a.1, a.2.1, a.2.2.1, a.2.2.2.1⟩) (fun _ => rfl) (opens_struct Try.underlying67 (by kernel_rfl)
    (opensF_cons rfl (opens_int Try.underlying3 (by kernel_rfl)) (opensF_cons rfl (opens_int Try.underlying3 (by kernel_rfl)) (opensF_cons rfl (opens_int Try.underlying3 (by kernel_rfl)) (opensF_cons rfl (opens_bool Try.underlying4 (by kernel_rfl)) opensF_nil)))))
theorem opens_rs : Opens Try.prog 36 (Kd.slice kR) :=
  opens_slice Try.underlying36 (by kernel_rfl) (by decide) (of_decide_eq_true (by kernel_rfl)) opens_r
theorem rfR_at {w : World} {A : Option Addr} {n : Nat} {xs : List Rs} (h : Rf flR w A n xs) {j : Nat} (hj : j < n) : ∃ b off x, A = some ⟨b, off, none⟩ ∧ xs[j]? = some x ∧ w.cell? ⟨b, off + j * 4, none⟩ = some (.int .i64 x.m) ∧ w.cell? ⟨b, off + j * 4 + 1, none⟩ = some (.int .i64 x.t) ∧ w.cell? ⟨b, off + j * 4 + 2, none⟩ = some (.int .i64 x.g) ∧ w.cell? ⟨b, off + j * 4 + 3, none⟩ = some (.bool x.s) := by
  obtain ⟨b, off, x, rfl, hx, hc⟩ := h.at_ hj
  exact ⟨b, off, x, rfl, hx, hc 0 _ rfl, hc 1 _ rfl, hc 2 _ rfl, hc 3 _ rfl⟩
def numB (b : Bool) : Int := if b then 1 else 0
def nums1 (x : Rs) : List Int := [x.m, x.t, x.g, numB x.s]
def numsOf (xs : List Rs) : List Int := xs.flatMap nums1
theorem numsOf_len : ∀ xs : List Rs, (numsOf xs).length = xs.length * 4
  | [] => rfl
  | x :: r => by
    unfold numsOf
    rw [List.flatMap_cons, List.length_append, show (r.flatMap nums1) = numsOf r from rfl, numsOf_len r]
    simp [nums1]; omega
theorem numsOf_snoc {xs : List Rs} {k : Nat} {x : Rs} (hx : xs[k]? = some x) : numsOf (xs.take (k + 1)) = numsOf (xs.take k) ++ nums1 x := by
  unfold numsOf
  rw [List.take_add_one, hx]
  simp
theorem number_calls (b : Bool) (w : World) : Calls Try.prog 36 #[.bool b] w fun e w' => e = .returned (.int .i64 (numB b)) ∧ w = w' := by
  cases b
  all_goals
    go_enter Try.func36, Try.ntmps36
    go_wp2_with fail
    go_ret
    exact ⟨rfl, rfl⟩
theorem Bool_calls (b : Bool) (w : World) : Calls Try.prog 37 #[.bool b] w fun e w' => e = .returned (.int .i64 (numB b)) ∧ w = w' := by
  cases b
  all_goals
    go_enter Try.func37, Try.ntmps37
    go_wp2_with fail
    go_ret
    exact ⟨rfl, rfl⟩
/-- The box of an append's four numbers. -/
theorem box4_reads (W : World) (g : Nat) (hg : g = W.heap.size) (cs : Array Value) (t : TypeId) (a b c d : Int) (h : cs.toList = [.int .i64 a, .int .i64 b, .int .i64 c, .int .i64 d]) : Reads (W.alloc (.cells cs t)) (W.heap.size + 1) 1 (some ⟨g, 0, none⟩) 4 ([a, b, c, d].flatMap flI.enc) := by
  subst hg
  refine ⟨by rfl, fun _ => ⟨_, rfl, by simp, fun j u hu => ?_⟩⟩
  rw [add_off _ W.heap.size 0 rfl, Nat.zero_add, (Blk.new W cs t (0, 0)).cell j, ← Array.getElem?_toList, h]
  exact hu
theorem keep4 {w w1 : World} (hb : Below w.heap.size w w1) {p0 p1 p2 p3 : Addr} {v0 v1 v2 v3 : Value}
    (h : w.cell? p0 = some v0 ∧ w.cell? p1 = some v1 ∧ w.cell? p2 = some v2 ∧ w.cell? p3 = some v3) :
    w1.cell? p0 = some v0 ∧ w1.cell? p1 = some v1 ∧ w1.cell? p2 = some v2 ∧ w1.cell? p3 = some v3 :=
  ⟨cell_stay hb h.1, cell_stay hb h.2.1, cell_stay hb h.2.2.1, cell_stay hb h.2.2.2⟩
theorem keep4g {w w1 : World} {row : Option Nat} (hg : w.grownBy w1 row) {g : Nat} (hr : row ≠ some g) {i0 i1 i2 i3 : Nat} {v0 v1 v2 v3 : Value}
    (h : w.cell? ⟨g, i0, none⟩ = some v0 ∧ w.cell? ⟨g, i1, none⟩ = some v1 ∧ w.cell? ⟨g, i2, none⟩ = some v2 ∧ w.cell? ⟨g, i3, none⟩ = some v3) :
    w1.cell? ⟨g, i0, none⟩ = some v0 ∧ w1.cell? ⟨g, i1, none⟩ = some v1 ∧ w1.cell? ⟨g, i2, none⟩ = some v2 ∧ w1.cell? ⟨g, i3, none⟩ = some v3 := by
  have e : ∀ i v, w.cell? ⟨g, i, none⟩ = some v → w1.cell? ⟨g, i, none⟩ = some v := fun i v h => (World.cell?_of_block (w := w) (hg.block g (cell_lt h) (fun e => hr e.symm))).trans h
  exact ⟨e _ _ h.1, e _ _ h.2.1, e _ _ h.2.2.1, e _ _ h.2.2.2⟩
def OfPost (w : World) (xs : List Rs) (e : Ending) (w' : World) : Prop := ∃ v, e = .returned v ∧ Ow flI w' w.heap.size 3 v (numsOf xs) ∧ Below w.heap.size w w'
set_option maxHeartbeats 4000000 in
theorem Of_calls (A : Option Addr) (n c : Nat) (xs : List Rs) (w : World) (hA : Rf flR w A n xs) (hn : n ≤ 1000000) :
    Calls Try.prog 21 #[.slice A n c] w (OfPost w xs) := by
  obtain ⟨i0, hi0, hz0, hz1, hz2⟩ := info_parts info_int
  have H1 := Lib.hid hA.1
  go_enter Try.func21, Try.ntmps21
  go_wp2_with fail
  go_loopw [3, 8] (fun v i wr => ∃ k : Nat, k ≤ n ∧ i = .int .i64 k ∧ Ow flI wr w.heap.size 3 v (numsOf (xs.take k)) ∧ Below w.heap.size w wr) (fun v i _ => n - (intOf i).toNat)
  case atStart => exact ⟨0, by omega, rfl, Ow.nil_ _ _ _ _, Below.refl _ _⟩
  case round =>
    obtain ⟨k, hk, rfl, hown, hbr⟩ := hrel
    obtain ⟨Av, cv, rfl, _⟩ := hown.read (by decide)
    have HO := Lib.hid hown
    have HB := Lib.hid hbr
    by_cases hlt : k < n
    · obtain ⟨bl, ol, x, rfl, hx, c0, c1, c2, c3⟩ := rfR_at hA hlt
      have c0 := cell_keep hbr (cell_lt c0) c0
      have c1 := cell_keep hbr (cell_lt c1) c1
      have c2 := cell_keep hbr (cell_lt c2) c2
      have c3 := cell_keep hbr (cell_lt c3) c3
      have HX := Lib.hid hx
      have hlen0 : (numsOf (xs.take k)).length = k * 4 := by rw [numsOf_len, List.length_take, Nat.min_eq_left (by have := H1.out; omega)]
      generalize hys : numsOf (xs.take k) = ys at *
      have HY := Lib.hid hys
      have hlen : ys.length = k * 4 := hlen0
      have hyl : ys.length ≤ 4000000 := by omega
      have hsz := hbr.size
      clear hx hA hown hbr hlen hlen0 hys
      go_wp2_with fail
      have hbn := below_new wr (.cells #[.int .i64 x.m, .int .i64 x.t, .int .i64 x.g, .bool x.s] 67)
      have z := Blk.new wr #[.int .i64 x.m, .int .i64 x.t, .int .i64 x.g, .bool x.s] 67 (0, 0)
      have HO1 := Lib.hid (HO.out.alloc (.cells #[.int .i64 x.m, .int .i64 x.t, .int .i64 x.g, .bool x.s] 67))
      have hnb := Lib.hid (show (Value.slice Av ys.length cv).ownBlock ≠ some wr.heap.size from fun e => absurd (World.ownsRow.lt HO.out _ e).2 (Nat.lt_irrefl _))
      have HBN := Lib.hid (below_more HB.out hbn)
      have hs1 : (wr.alloc (.cells #[.int .i64 x.m, .int .i64 x.t, .int .i64 x.g, .bool x.s] 67)).heap.size = wr.heap.size + 1 := by simp
      generalize wr.alloc (.cells #[.int .i64 x.m, .int .i64 x.t, .int .i64 x.g, .bool x.s] 67) = W at *
      generalize wr.heap.size = g at *
      have z0 : W.cell? ⟨g, 0, none⟩ = some (.int .i64 x.m) := z.cell 0
      have z1 : W.cell? ⟨g, 1, none⟩ = some (.int .i64 x.t) := z.cell 1
      have z2 : W.cell? ⟨g, 2, none⟩ = some (.int .i64 x.g) := z.cell 2
      have z3 : W.cell? ⟨g, 3, none⟩ = some (.bool x.s) := z.cell 3
      clear z hbn
      go_region_held3 (fun w' => w'.cell? ⟨g, 0, none⟩ = some (.int .i64 x.m) ∧ w'.cell? ⟨g, 1, none⟩ = some (.int .i64 x.t) ∧ w'.cell? ⟨g, 2, none⟩ = some (.int .i64 x.g) ∧ w'.cell? ⟨g, 3, none⟩ = some (.bool x.s))
        (first | assumption | exact keep4 (below_new _ _) (by assumption) | exact keep4g hg1 hnb.out (by assumption) | go_keep)
        (first
          | (go_at_call 36; refine (number_calls x.s _).mono ?_; rintro e w4 ⟨rfl, rfl⟩)
          | (refine step_append_any _ (by rfl) (.tmp 12) (.tmp 22) _ (by rfl) w.heap.size 3 i0 _ 1 8 Try.underlying22 hi0 hz0 hz1 hz2 rfl (by omega) (.slice Av ys.length cv) ys.length (ys.flatMap flI.enc) (by rfl) (HO1.out.drew.alloc _) (W.heap.size + 1) (some ⟨g + 1, 0, none⟩) 4 4 ([x.m, x.t, x.g, numB x.s].flatMap flI.enc) (by rfl) (box4_reads W.drew (g + 1) hs1.symm #[.int .i64 x.m, .int .i64 x.t, .int .i64 x.g, .int .i64 (numB x.s)] 3 x.m x.t x.g (numB x.s) rfl) (flat_one flI _) (by simp only [maxLen]; omega) (by omega) (by simp; omega) ?_; intro v1 w1 hown1 hg1 hat1; obtain ⟨A1, c1, rfl⟩ := row_form hown1)
          | fail)
      all_goals (have HN := Lib.hid hown1; have HG := Lib.hid hg1; clear hown1 hg1 hat1)
      all_goals go_wp2_with fail
      all_goals go_roundw
      case rel =>
        refine ⟨k + 1, by omega, by go_num, ?_, ?_⟩
        · rw [numsOf_snoc HX.out, HY.out]
          exact Ow.join (f := flI) (xs := ys) (ys := nums1 x) (m := 4) rfl HN.out
        · exact (((below_drawn HBN.out 1).alloc (by show w.heap.size ≤ W.heap.size; omega) _)).grown HG.out (by simp; omega) (fun k hk => (World.ownsRow.lt HO.out k hk).1)
      case measure => simp [intOf]; omega
    · have hkn : k = n := by omega
      have e : xs.take k = xs := List.take_of_length_le (by have := H1.out; omega)
      have HE : Ow flI wr w.heap.size 3 (.slice Av (numsOf (xs.take k)).length cv) (numsOf xs) := by have := HO.out; rw [e] at this ⊢; exact this
      have HE := Lib.hid HE
      clear e
      go_wp2_with fail
      go_ret
      exact ⟨_, rfl, HE.out, HB.out⟩
set_option maxHeartbeats 4000000 in
theorem RefOf_calls (A : Option Addr) (n c : Nat) (xs : List Rs) (w : World) (hA : Rf flR w A n xs) (hn : n ≤ 1000000) :
    Calls Try.prog 22 #[.slice A n c] w (OfPost w xs) := by
  obtain ⟨i0, hi0, hz0, hz1, hz2⟩ := info_parts info_int
  have H1 := Lib.hid hA.1
  go_enter Try.func22, Try.ntmps22
  go_wp2_with fail
  go_loopw [3, 4] (fun v i wr => ∃ k : Nat, k ≤ n ∧ i = .int .i64 k ∧ Ow flI wr w.heap.size 3 v (numsOf (xs.take k)) ∧ Below w.heap.size w wr) (fun v i _ => n - (intOf i).toNat)
  case atStart => exact ⟨0, by omega, rfl, Ow.nil_ _ _ _ _, Below.refl _ _⟩
  case round =>
    obtain ⟨k, hk, rfl, hown, hbr⟩ := hrel
    obtain ⟨Av, cv, rfl, _⟩ := hown.read (by decide)
    have HO := Lib.hid hown
    have HB := Lib.hid hbr
    by_cases hlt : k < n
    · obtain ⟨bl, ol, x, rfl, hx, d0, d1, d2, d3⟩ := rfR_at hA hlt
      have c0 := cell_keep hbr (cell_lt d0) d0
      have c1 := cell_keep hbr (cell_lt d1) d1
      have c2 := cell_keep hbr (cell_lt d2) d2
      have c3 := cell_keep hbr (cell_lt d3) d3
      have hbl : bl < w.heap.size := cell_lt d0
      have HX := Lib.hid hx
      have hlen0 : (numsOf (xs.take k)).length = k * 4 := by rw [numsOf_len, List.length_take, Nat.min_eq_left (by have := H1.out; omega)]
      generalize hys : numsOf (xs.take k) = ys at *
      have HY := Lib.hid hys
      have hlen : ys.length = k * 4 := hlen0
      have hyl : ys.length ≤ 4000000 := by omega
      have hsz := hbr.size
      have hnb := Lib.hid (show (Value.slice Av ys.length cv).ownBlock ≠ some bl from fun e => absurd (World.ownsRow.lt HO.out _ e).1 (by omega))
      clear hx hA hown hbr hlen hlen0 hys d0 d1 d2 d3
      have hk0 : (0 : Int) ≤ (k : Int) := Int.natCast_nonneg _
      have hk1 : (k : Int) < (n : Int) := by omega
      go_wp2_with fail
      go_region_held3 (fun w' => w'.cell? ⟨bl, ol + k * 4, none⟩ = some (.int .i64 x.m) ∧ w'.cell? ⟨bl, ol + k * 4 + 1, none⟩ = some (.int .i64 x.t) ∧ w'.cell? ⟨bl, ol + k * 4 + 2, none⟩ = some (.int .i64 x.g) ∧ w'.cell? ⟨bl, ol + k * 4 + 3, none⟩ = some (.bool x.s))
        (first | assumption | exact keep4 (below_new _ _) (by assumption) | exact keep4g hg1 hnb.out (by assumption) | go_keep)
        (first
          | (go_at_call 37; refine (Bool_calls x.s _).mono ?_; rintro e w4 ⟨rfl, rfl⟩)
          | (refine step_append_any _ (by rfl) (.tmp 11) (.tmp 33) _ (by rfl) w.heap.size 3 i0 _ 1 8 Try.underlying22 hi0 hz0 hz1 hz2 rfl (by omega) (.slice Av ys.length cv) ys.length (ys.flatMap flI.enc) (by rfl) (HO.out.drew.alloc _) (wr.heap.size + 1) (some ⟨wr.heap.size, 0, none⟩) 4 4 ([x.m, x.t, x.g, numB x.s].flatMap flI.enc) (by rfl) (box4_reads wr.drew wr.heap.size rfl #[.int .i64 x.m, .int .i64 x.t, .int .i64 x.g, .int .i64 (numB x.s)] 3 x.m x.t x.g (numB x.s) rfl) (flat_one flI _) (by simp only [maxLen]; omega) (by omega) (by simp; omega) ?_; intro v1 w1 hown1 hg1 hat1; obtain ⟨A1, c1, rfl⟩ := row_form hown1)
          | fail)
      all_goals (have HN := Lib.hid hown1; have HG := Lib.hid hg1; clear hown1 hg1 hat1)
      all_goals go_wp2_with fail
      all_goals go_roundw
      case rel =>
        refine ⟨k + 1, by omega, by go_num, ?_, ?_⟩
        · rw [numsOf_snoc HX.out, HY.out]
          exact Ow.join (f := flI) (xs := ys) (ys := nums1 x) (m := 4) rfl HN.out
        · exact (((below_drawn HB.out 1).alloc (by show w.heap.size ≤ wr.heap.size; omega) _)).grown HG.out (by simp; omega) (fun k hk => (World.ownsRow.lt HO.out k hk).1)
      case measure => simp [intOf]; omega
    · have hkn : k = n := by omega
      have e : xs.take k = xs := List.take_of_length_le (by have := H1.out; omega)
      have HE : Ow flI wr w.heap.size 3 (.slice Av (numsOf (xs.take k)).length cv) (numsOf xs) := by have := HO.out; rw [e] at this ⊢; exact this
      have HE := Lib.hid HE
      clear e
      go_wp2_with fail
      go_ret
      exact ⟨_, rfl, HE.out, HB.out⟩
end Go.Proofs.Ytmaehdoejpecgaa
