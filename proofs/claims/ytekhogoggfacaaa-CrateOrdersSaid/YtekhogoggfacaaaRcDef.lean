/- The document's Crate. -/
import Derived.Test.YtekhogoggfacaaaCrEq
import Derived.Deep.RegionHeld3
import Derived.Test.YtekhogoggfacaaaRes
set_option linter.unusedVariables false
namespace Go.Proofs.Ytekhogoggfacaaa
open Go.RowKit

/-- A Thing. -/
structure Th where
  k : Int
  n : Int
  s : ByteArray
  b : Bool
  deriving DecidableEq
def flTh : Fl Th := ⟨4, fun t => [.int .i64 t.k, .int .i64 t.n, .string t.s, .bool t.b], fun _ => rfl, fun a u hu => by
  simp only [List.mem_cons, List.not_mem_nil, or_false] at hu
  rcases hu with rfl | rfl | rfl | rfl <;> rfl⟩
def Th.val (t : Th) : Value := .agg #[.int .i64 t.k, .int .i64 t.n, .string t.s, .bool t.b]
abbrev Rc (w : World) (B b : Nat) (v : Value) (ts : List Th) : Prop := Bx flTh 31 29 w B b v ts
abbrev RcPost (w : World) (B b : Nat) (v : Value) (ts : List Th) (x : Th) (e : Ending) (w' : World) : Prop := BxPost flTh 31 29 w B b v ts x e w'
theorem info_th : (Try.prog.info? 31).map (fun i => (i.zero, i.size, i.bytes)) = some (some (.agg #[.int .i64 0, .int .i64 0, .string .empty, .bool false]), 4, 40) := by kernel_rfl
theorem th_reads {W : World} {g : Nat} (x : Th) (h : Blk W g #[.int .i64 x.k, .int .i64 x.n, .string x.s, .bool x.b] 31 (0, 0)) : Reads W W.heap.size 4 (some ⟨g, 0, none⟩) 1 [.int .i64 x.k, .int .i64 x.n, .string x.s, .bool x.b] := by
  have := (lit_reads flTh [x] h (by rfl) (by show 1 ≤ _; omega)).reads (by decide)
  exact this

set_option maxHeartbeats 2000000 in
theorem RefAdd_calls (x : Th) (w : World) (B b : Nat) (v : Value) (ts : List Th) (h : Rc w B b v ts) (hB : B ≤ w.heap.size) :
    Calls Try.prog 22 #[.pointer (some ⟨b, 0, none⟩), .agg #[.int .i64 x.k, .int .i64 x.n, .string x.s, .bool x.b]] w (RcPost w B b v ts x) := by
  obtain ⟨i0, hi0, hz0, hz1, hz2⟩ := info_parts info_th
  have hc := h.blk.cell 0
  have hf := h.blk.free 0
  have hbl := h.blk.lt
  obtain ⟨A, c, hv, hR⟩ := h.own.read (by decide)
  subst hv
  have hroom := h.own.room (by decide)
  have H := Lib.hid h
  have hnb := Lib.hid (own_not_blk h.own h.blk (by decide))
  simp only [List.getElem?_toArray, List.getElem?_cons_zero] at hc
  clear h hR
  by_cases hl : ts.length < 100
  · go_enter Try.func22, Try.ntmps22
    go_wp2_with fail
    go_region_law ((refine step_append_any _ (by rfl) (.tmp 15) (.tmp 17) _ (by rfl) B 31 i0 _ 4 40 Try.underlying22 hi0 hz0 hz1 hz2 rfl (by omega) (.slice A ts.length c) ts.length (ts.flatMap flTh.enc) (by rfl) ((H.out.own.alloc _).alloc _).drew _ (some ⟨w.heap.size + 1, 0, none⟩) 1 1 [.int .i64 x.k, .int .i64 x.n, .string x.s, .bool x.b] (by rfl) (th_reads x (Blk.at_ (by simp) _ _ _).drew) (flTh.one x) (by simp only [maxLen]; omega) (by omega) (by simp; omega) ?_; intro v1 w1 hown1 hg1 hat1; obtain ⟨A1, c1, rfl⟩ := row_form hown1; have hw1 := ((below_new w (.cells #[.int .i64 x.k, .int .i64 x.n, .string x.s, .bool x.b] 31)).alloc (by simp) (.cells #[.int .i64 x.k, .int .i64 x.n, .string x.s, .bool x.b] 31)); have hblk1 := add_head H.out hnb.out (below_drawn hw1 1) hg1; have hf1 := hblk1.free 0; have hc1 := hblk1.cell 0; simp only [List.getElem?_toArray, List.getElem?_cons_zero] at hc1; have HT1 := Lib.hid hat1; clear hat1; have hbl1 := hblk1.lt; have HB1 := Lib.hid hblk1; have HO1 := Lib.hid hown1; clear hblk1 hown1))
    all_goals go_wp2_with fail
    all_goals go_ret
    all_goals exact .inr ⟨hl, rfl, _, add_done (f := flTh) (x := x) (by decide) (below_drawn hw1 1) H.out hnb.out rfl HO1.out HB1.out hg1 HT1.out⟩
  · go_enter Try.func22, Try.ntmps22
    go_wp2_with fail
    go_ret
    exact .inl ⟨by omega, rfl, below_new w _⟩

theorem rfT_at {w : World} {A : Option Addr} {n : Nat} {xs : List Th} (h : Rf flTh w A n xs) {j : Nat} (hj : j < n) : ∃ b off x, A = some ⟨b, off, none⟩ ∧ xs[j]? = some x ∧ w.cell? ⟨b, off + j * 4, none⟩ = some (.int .i64 x.k) ∧ w.cell? ⟨b, off + j * 4 + 1, none⟩ = some (.int .i64 x.n) ∧ w.cell? ⟨b, off + j * 4 + 2, none⟩ = some (.string x.s) ∧ w.cell? ⟨b, off + j * 4 + 3, none⟩ = some (.bool x.b) := by
  obtain ⟨b, off, x, rfl, hx, hc⟩ := h.at_ hj
  exact ⟨b, off, x, rfl, hx, hc 0 _ rfl, hc 1 _ rfl, hc 2 _ rfl, hc 3 _ rfl⟩
def Th.zero : Th := ⟨0, 0, .empty, false⟩
def rcAt (ts : List Th) (i k : Int) : Th × Bool :=
  match (if 0 ≤ i then ts[i.toNat]? else none) with
  | some t => if t.k = k then (t, true) else (.zero, false)
  | none => (.zero, false)
theorem rcAt_none {ts : List Th} {i k : Int} (h : i < 0 ∨ (ts.length : Int) ≤ i) : rcAt ts i k = (.zero, false) := by
  unfold rcAt
  have : (if 0 ≤ i then ts[i.toNat]? else none) = none := by
    split
    · exact List.getElem?_eq_none (by omega)
    · rfl
  rw [this]
theorem rcAt_some {ts : List Th} {j : Nat} {k : Int} {t : Th} (h : ts[j]? = some t) : rcAt ts j k = if t.k = k then (t, true) else (.zero, false) := by
  unfold rcAt
  simp [h]
theorem th_ret {fn : Func} {tmps : Array Value} {w : World} {p u : Tmp} {g : Nat} {x y z r : Value} {t : TypeId} {fr : Nat × Nat} (h : fn.results = #[.cell p 31, .tmp u]) (hp : tmps.getD p undef = .pointer (some ⟨g, 0, none⟩)) (hg : Blk w g #[x, y, z, r] t fr) :
    (results fn tmps).run Try.prog w = .ok (.tuple #[.agg #[x, y, z, r], tmps.getD u undef]) w :=
  results_list (rs := [.cell p 31, .tmp u]) h (by simp) (.cell g t #[x, y, z, r] fr _ hp hg Try.underlying31 rfl (by kernel_rfl) (.tmp .nil))
set_option maxHeartbeats 2000000 in
theorem RefAt_calls (w : World) (B b : Nat) (v : Value) (ts : List Th) (h : Rc w B b v ts) (i k : Int) :
    Calls Try.prog 14 #[.pointer (some ⟨b, 0, none⟩), .int .i64 i, .int .i64 k] w fun e w' => e = .returned (.tuple #[(rcAt ts i k).1.val, .bool (rcAt ts i k).2]) ∧ Below w.heap.size w w' := by
  have hc := h.blk.cell 0
  have hbl := h.blk.lt
  obtain ⟨A, c, hv, hR⟩ := h.own.read (by decide)
  subst hv
  have hroom := h.own.room (by decide)
  simp only [List.getElem?_toArray, List.getElem?_cons_zero] at hc
  clear h
  by_cases h0 : i < 0
  · have HL := Lib.hid (rcAt_none (ts := ts) (k := k) (.inl h0))
    clear hR
    go_enter Try.func14, Try.ntmps14
    go_wp2_with fail
    refine bodyPost_ret (th_ret rfl rfl (Blk.new w _ _ _)) rfl ?_
    exact ⟨by rw [HL.out]; rfl, below_new w _⟩
  by_cases h1 : (ts.length : Int) ≤ i
  · have HL := Lib.hid (rcAt_none (ts := ts) (k := k) (.inr h1))
    clear hR
    go_enter Try.func14, Try.ntmps14
    go_wp2_with fail
    refine bodyPost_ret (th_ret rfl rfl (Blk.new w _ _ _)) rfl ?_
    exact ⟨by rw [HL.out]; rfl, below_new w _⟩
  obtain ⟨j, rfl⟩ := Int.eq_ofNat_of_zero_le (show 0 ≤ i by omega)
  obtain ⟨bl, ol, x, rfl, hx, c0, c1, c2, c3⟩ := rfT_at hR (j := j) (by omega)
  have l0 := cell_lt c0
  simp only at l0
  have e0 := rcAt_some (k := k) hx
  by_cases hk : x.k = k
  · have HL := Lib.hid (e0.trans (if_pos hk))
    have hk2 : (x.k != k) = false := by simp [hk]
    have HK := Lib.hid hk
    clear e0 hR hx hk
    go_enter Try.func14, Try.ntmps14
    go_wp2_with fail
    refine bodyPost_ret (th_ret rfl rfl (Blk.new w _ _ _)) rfl ?_
    exact ⟨by rw [HL.out]; rfl, below_new w _⟩
  · have HL := Lib.hid (e0.trans (if_neg hk))
    have hk2 : (x.k != k) = true := by simp [hk]
    clear e0 hR hx hk
    go_enter Try.func14, Try.ntmps14
    go_wp2_with fail
    refine bodyPost_ret (th_ret rfl rfl (Blk.new w _ _ _)) rfl ?_
    exact ⟨by rw [HL.out]; rfl, below_new w _⟩

theorem eqv_th (x y : Th) : Eqv Try.prog 2 31 (.agg #[.int .i64 x.k, .int .i64 x.n, .string x.s, .bool x.b]) (.agg #[.int .i64 y.k, .int .i64 y.n, .string y.s, .bool y.b]) (decide (x = y)) := by
  have h := eqv_struct (P := Try.prog) (t := 31) (xs := #[.int .i64 x.k, .int .i64 x.n, .string x.s, .bool x.b]) (ys := #[.int .i64 y.k, .int .i64 y.n, .string y.s, .bool y.b]) Try.underlying31 (by kernel_rfl)
    (eqf_cons (by decide) (fun _ => by kernel_rfl) (fun _ => by kernel_rfl) (eqv_int (q' := .i64) Try.underlying3 x.k y.k)
    (eqf_cons (by decide) (fun _ => by kernel_rfl) (fun _ => by kernel_rfl) (eqv_int (q' := .i64) Try.underlying3 x.n y.n)
    (eqf_cons (by decide) (fun _ => by kernel_rfl) (fun _ => by kernel_rfl) (eqv_str Try.underlying9 x.s y.s)
    (eqf_cons (by decide) (fun _ => by kernel_rfl) (fun _ => by kernel_rfl) (eqv_bool Try.underlying4 x.b y.b) eqf_nil))))
  have e : (x.k == y.k && (x.n == y.n && (x.s == y.s && (x.b == y.b && true)))) = decide (x = y) := by
    obtain ⟨a, b, c, d⟩ := x
    obtain ⟨a', b', c', d'⟩ := y
    rw [ba_beq, Bool.eq_iff_iff]
    simp
  rw [e] at h
  exact h
theorem not_of {a : Bool} {p : Prop} [Decidable p] (h : a = decide p) : (!a) = decide (¬ p) := by rw [h]; simp
set_option maxHeartbeats 2000000 in
theorem RefSame_calls (w : World) (B b : Nat) (v : Value) (xs : List Th) (B' b' : Nat) (v' : Value) (ys : List Th) (h : Rc w B b v xs) (h' : Rc w B' b' v' ys) :
    Calls Try.prog 24 #[.pointer (some ⟨b, 0, none⟩), .pointer (some ⟨b', 0, none⟩)] w fun e w' => e = .returned (.bool (decide (xs = ys))) ∧ Below w.heap.size w w' := by
  have hc := h.blk.cell 0
  have hbl := h.blk.lt
  obtain ⟨A, c, hv, hA⟩ := h.own.read (by decide)
  subst hv
  have hroom := h.own.room (by decide)
  have hc' := h'.blk.cell 0
  have hbl' := h'.blk.lt
  obtain ⟨A', c', hv', hB⟩ := h'.own.read (by decide)
  subst hv'
  have hroom' := h'.own.room (by decide)
  simp only [List.getElem?_toArray, List.getElem?_cons_zero] at hc hc'
  clear h h'
  by_cases hne : xs.length = ys.length
  · have hb : ((xs.length : Int) != (ys.length : Int)) = false := by simp [hne]
    have HN := Lib.hid hne
    clear hne
    go_enter Try.func24, Try.ntmps24
    go_wp2_with fail
    go_quiet (fail)
    go_wp2_with fail
    go_loopw [5] (fun i wr => ∃ k : Nat, k ≤ xs.length ∧ i = .int .i64 k ∧ Hid (xs.take k = ys.take k) ∧ Below w.heap.size w wr) (fun i _ => xs.length - (intOf i).toNat)
    case atStart => exact ⟨0, by omega, rfl, Lib.hid rfl, below_drawn (Below.refl _ _) _⟩
    case round =>
      obtain ⟨k, hk, rfl, hr, hbr⟩ := hrel
      have hcr := cell_keep hbr hbl hc
      have hcr' := cell_keep hbr hbl' hc'
      by_cases hlt : k < xs.length
      · obtain ⟨bl, ol, x, rfl, hx, c0, c1, c2, c3⟩ := rfT_at hA hlt
        obtain ⟨bm, om, y, rfl, hy, d0, d1, d2, d3⟩ := rfT_at hB (j := k) (by have := HN.out; omega)
        have c0 := cell_keep hbr (cell_lt c0) c0
        have c1 := cell_keep hbr (cell_lt c1) c1
        have c2 := cell_keep hbr (cell_lt c2) c2
        have c3 := cell_keep hbr (cell_lt c3) c3
        have d0 := cell_keep hbr (cell_lt d0) d0
        have d1 := cell_keep hbr (cell_lt d1) d1
        have d2 := cell_keep hbr (cell_lt d2) d2
        have d3 := cell_keep hbr (cell_lt d3) d3
        have hq := run_neq_of (eqv_th x y) (by decide)
        have HX := Lib.hid hx
        have HY := Lib.hid hy
        clear hx hy
        have hkm : (k : Int) < ys.length := by have := HN.out; omega
        have hk0 : (0 : Int) ≤ (k : Int) := Int.natCast_nonneg _
        by_cases hxy : x = y
        · simp only [decide_eq_true hxy, Bool.not_true] at hq
          have HXY := Lib.hid hxy
          clear hxy
          go_wp2_with fail
          go_quiet (fail)
          go_wp2_with fail
          go_roundw
          case rel => exact ⟨k + 1, by omega, by go_num, Lib.hid (take_eq_step HX.out HY.out hr.out HXY.out), below_drawn hbr _⟩
          case measure => simp [intOf]; omega
        · simp only [decide_eq_false hxy, Bool.not_false] at hq
          have HXY := Lib.hid hxy
          clear hxy
          go_wp2_with fail
          go_quiet (fail)
          go_wp2_with fail
          go_ret
          exact ⟨by rw [decide_eq_false (ne_of_at HX.out HY.out HXY.out)]; rfl, below_drawn hbr _⟩
      · have hkn : k = xs.length := by omega
        have hfin : xs = ys := by
          have := hr.out
          rw [hkn, List.take_of_length_le (by omega), List.take_of_length_le (by have := HN.out; omega)] at this
          exact this
        have HF := Lib.hid hfin
        clear hfin
        go_wp2_with fail
        go_ret
        exact ⟨by rw [decide_eq_true HF.out]; rfl, hbr⟩
  · have hb : ((xs.length : Int) != (ys.length : Int)) = true := by simp; omega
    have hll : ¬ xs = ys := by rintro rfl; omega
    have H3 := Lib.hid hll
    clear hll hA hB hne
    go_enter Try.func24, Try.ntmps24
    go_wp2_with fail
    go_quiet (fail)
    go_wp2_with fail
    go_ret
    exact ⟨by rw [decide_eq_false H3.out]; rfl, below_drawn (Below.refl _ _) _⟩
end Go.Proofs.Ytekhogoggfacaaa
