/- The document's Crate. -/
import Derived.Test.YtodccdfpoocolaaCrEq
import Derived.Deep.RegionHeld3
import Derived.Test.YtodccdfpoocolaaRes
set_option linter.unusedVariables false
namespace Go.Proofs.Ytodccdfpoocolaa
open Go.RowKit

/-- A Thing. -/
structure Th where
  k : Int
  n : Int
  s : ByteArray
  b : Bool
  deriving DecidableEq
def flTh : Fl Th := ⟨4, fun t => [.int .i64 t.k, .int .i64 t.n, .string t.s, .bool t.b], fun _ => rfl, fun a u hu => by
  simp only [List.mem_cons, List.not_mem_nil, or_false] at hu
  rcases hu with rfl | rfl | rfl | rfl <;> rfl⟩
def Th.val (t : Th) : Value := .agg #[.int .i64 t.k, .int .i64 t.n, .string t.s, .bool t.b]
abbrev Rc (w : World) (B b : Nat) (v : Value) (ts : List Th) : Prop := Bx flTh 70 72 w B b v ts
abbrev RcPost (w : World) (B b : Nat) (v : Value) (ts : List Th) (x : Th) (e : Ending) (w' : World) : Prop := BxPost flTh 70 72 w B b v ts x e w'
theorem info_th : (Try.prog.info? 70).map (fun i => (i.zero, i.size, i.bytes)) = some (some (.agg #[.int .i64 0, .int .i64 0, .string .empty, .bool false]), 4, 40) := by kernel_rfl
theorem th_reads {W : World} {g : Nat} (x : Th) (h : Blk W g #[.int .i64 x.k, .int .i64 x.n, .string x.s, .bool x.b] 70 (0, 0)) : Reads W W.heap.size 4 (some ⟨g, 0, none⟩) 1 [.int .i64 x.k, .int .i64 x.n, .string x.s, .bool x.b] := by
  have := (lit_reads flTh [x] h (by rfl) (by show 1 ≤ _; omega)).reads (by decide)
  exact this

set_option maxHeartbeats 2000000 in
theorem RefAdd_calls (x : Th) (w : World) (B b : Nat) (v : Value) (ts : List Th) (h : Rc w B b v ts) (hB : B ≤ w.heap.size) :
    Calls Try.prog 33 #[.pointer (some ⟨b, 0, none⟩), .agg #[.int .i64 x.k, .int .i64 x.n, .string x.s, .bool x.b]] w (RcPost w B b v ts x) := by
  obtain ⟨i0, hi0, hz0, hz1, hz2⟩ := info_parts info_th
  have hc := h.blk.cell 0
  have hf := h.blk.free 0
  have hbl := h.blk.lt
  obtain ⟨A, c, hv, hR⟩ := h.own.read (by decide)
  subst hv
  have hroom := h.own.room (by decide)
  have H := Lib.hid h
  have hnb := Lib.hid (own_not_blk h.own h.blk (by decide))
  simp only [List.getElem?_toArray, List.getElem?_cons_zero] at hc
  clear h hR
  by_cases hl : ts.length < 100
  · go_enter Try.func33, Try.ntmps33
    go_wp2_with fail
    go_region_law ((refine step_append_any _ (by rfl) (.tmp 15) (.tmp 17) _ (by rfl) B 70 i0 _ 4 40 Try.underlying31 hi0 hz0 hz1 hz2 rfl (by omega) (.slice A ts.length c) ts.length (ts.flatMap flTh.enc) (by rfl) ((H.out.own.alloc _).alloc _).drew _ (some ⟨w.heap.size + 1, 0, none⟩) 1 1 [.int .i64 x.k, .int .i64 x.n, .string x.s, .bool x.b] (by rfl) (th_reads x (Blk.at_ (by simp) _ _ _).drew) (flTh.one x) (by simp only [maxLen]; omega) (by omega) (by simp; omega) ?_; intro v1 w1 hown1 hg1 hat1; obtain ⟨A1, c1, rfl⟩ := row_form hown1; have hw1 := ((below_new w (.cells #[.int .i64 x.k, .int .i64 x.n, .string x.s, .bool x.b] 70)).alloc (by simp) (.cells #[.int .i64 x.k, .int .i64 x.n, .string x.s, .bool x.b] 70)); have hblk1 := add_head H.out hnb.out (below_drawn hw1 1) hg1; have hf1 := hblk1.free 0; have hc1 := hblk1.cell 0; simp only [List.getElem?_toArray, List.getElem?_cons_zero] at hc1; have HT1 := Lib.hid hat1; clear hat1; have hbl1 := hblk1.lt; have HB1 := Lib.hid hblk1; have HO1 := Lib.hid hown1; clear hblk1 hown1))
    all_goals go_wp2_with fail
    all_goals go_ret
    all_goals exact .inr ⟨hl, rfl, _, add_done (f := flTh) (x := x) (by decide) (below_drawn hw1 1) H.out hnb.out rfl HO1.out HB1.out hg1 HT1.out⟩
  · go_enter Try.func33, Try.ntmps33
    go_wp2_with fail
    go_ret
    exact .inl ⟨by omega, rfl, below_new w _⟩

theorem rfT_at {w : World} {A : Option Addr} {n : Nat} {xs : List Th} (h : Rf flTh w A n xs) {j : Nat} (hj : j < n) : ∃ b off x, A = some ⟨b, off, none⟩ ∧ xs[j]? = some x ∧ w.cell? ⟨b, off + j * 4, none⟩ = some (.int .i64 x.k) ∧ w.cell? ⟨b, off + j * 4 + 1, none⟩ = some (.int .i64 x.n) ∧ w.cell? ⟨b, off + j * 4 + 2, none⟩ = some (.string x.s) ∧ w.cell? ⟨b, off + j * 4 + 3, none⟩ = some (.bool x.b) := by
  obtain ⟨b, off, x, rfl, hx, hc⟩ := h.at_ hj
  exact ⟨b, off, x, rfl, hx, hc 0 _ rfl, hc 1 _ rfl, hc 2 _ rfl, hc 3 _ rfl⟩
def Th.zero : Th := ⟨0, 0, .empty, false⟩
def rcAt (ts : List Th) (i k : Int) : Th × Bool :=
  match (if 0 ≤ i then ts[i.toNat]? else none) with
  | some t => if t.k = k then (t, true) else (.zero, false)
  | none => (.zero, false)
theorem rcAt_none {ts : List Th} {i k : Int} (h : i < 0 ∨ (ts.length : Int) ≤ i) : rcAt ts i k = (.zero, false) := by
  unfold rcAt
  have : (if 0 ≤ i then ts[i.toNat]? else none) = none := by
    split
    · exact List.getElem?_eq_none (by omega)
    · rfl
  rw [this]
theorem rcAt_some {ts : List Th} {j : Nat} {k : Int} {t : Th} (h : ts[j]? = some t) : rcAt ts j k = if t.k = k then (t, true) else (.zero, false) := by
  unfold rcAt
  simp [h]
theorem th_ret {fn : Func} {tmps : Array Value} {w : World} {p u : Tmp} {g : Nat} {x y z r : Value} {t : TypeId} {fr : Nat × Nat} (h : fn.results = #[.cell p 70, .tmp u]) (hp : tmps.getD p undef = .pointer (some ⟨g, 0, none⟩)) (hg : Blk w g #[x, y, z, r] t fr) :
    (results fn tmps).run Try.prog w = .ok (.tuple #[.agg #[x, y, z, r], tmps.getD u undef]) w :=
  results_list (rs := [.cell p 70, .tmp u]) h (by simp) (.cell g t #[x, y, z, r] fr _ hp hg Try.underlying70 rfl (by kernel_rfl) (.tmp .nil))
theorem eqv_th (x y : Th) : Eqv Try.prog 2 70 (.agg #[.int .i64 x.k, .int .i64 x.n, .string x.s, .bool x.b]) (.agg #[.int .i64 y.k, .int .i64 y.n, .string y.s, .bool y.b]) (decide (x = y)) := by
  have h := eqv_struct (P := Try.prog) (t := 70) (xs := #[.int .i64 x.k, .int .i64 x.n, .string x.s, .bool x.b]) (ys := #[.int .i64 y.k, .int .i64 y.n, .string y.s, .bool y.b]) Try.underlying70 (by kernel_rfl)
    (eqf_cons (by decide) (fun _ => by kernel_rfl) (fun _ => by kernel_rfl) (eqv_int (q' := .i64) Try.underlying3 x.k y.k)
    (eqf_cons (by decide) (fun _ => by kernel_rfl) (fun _ => by kernel_rfl) (eqv_int (q' := .i64) Try.underlying3 x.n y.n)
    (eqf_cons (by decide) (fun _ => by kernel_rfl) (fun _ => by kernel_rfl) (eqv_str Try.underlying9 x.s y.s)
    (eqf_cons (by decide) (fun _ => by kernel_rfl) (fun _ => by kernel_rfl) (eqv_bool Try.underlying4 x.b y.b) eqf_nil))))
  have e : (x.k == y.k && (x.n == y.n && (x.s == y.s && (x.b == y.b && true)))) = decide (x = y) := by
    obtain ⟨a, b, c, d⟩ := x
    obtain ⟨a', b', c', d'⟩ := y
    rw [ba_beq, Bool.eq_iff_iff]
    simp
  rw [e] at h
  exact h
theorem not_of {a : Bool} {p : Prop} [Decidable p] (h : a = decide p) : (!a) = decide (¬ p) := by rw [h]; simp
end Go.Proofs.Ytodccdfpoocolaa
