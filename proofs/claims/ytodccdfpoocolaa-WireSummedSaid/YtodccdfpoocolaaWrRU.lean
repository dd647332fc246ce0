/- The document's number and take. -/
import Derived.Test.YtodccdfpoocolaaWrInv
set_option linter.unusedVariables false
namespace Go.Proofs.Ytodccdfpoocolaa
open Go.RowKit Go.Lib

set_option maxHeartbeats 4000000 in
theorem RefNum_calls (w : World) (A : Option Addr) (len c : Nat) (xs : List Nat) (h : Rf flB w A len xs) (hx : ∀ x ∈ xs, x < 256) (hl : len ≤ 8) :
    Calls Try.prog 39 #[.slice A len c] w fun e w' => e = .returned (.int .u64 (numB xs : Nat)) ∧ w = w' := by
  have H := Lib.hid h
  have HX := Lib.hid hx
  have HL := Lib.hid h.1
  clear h hx
  go_enter Try.func39, Try.ntmps39
  go_wp2_with fail
  go_loopw [3, 4] (fun z i wr => ∃ k : Nat, k ≤ len ∧ i = .int .i64 k ∧ z = .int .u64 (numB (xs.take k) : Nat) ∧ wr = w) (fun _ i _ => len - (intOf i).toNat)
  case atStart => exact ⟨0, by omega, rfl, rfl, rfl⟩
  case round =>
    obtain ⟨k, hk, rfl, rfl, rfl⟩ := hrel
    by_cases hlt : k < len
    · obtain ⟨b', off', x, rfl, hxk, hcell⟩ := rfB_at H.out (j := k) hlt
      have hxl := HX.out x (List.mem_of_getElem? hxk)
      have hz := numB_lt HX.out k
      have HT := Lib.hid (numB_take hxk)
      have ho := Lib.hid (or_step (numB (xs.take k)) x (pow_fits hz (by omega)) hxl)
      generalize numB (xs.take k) = z at *
      clear hxk
      go_wp2_with fail
      go_roundw
      case rel => exact ⟨k + 1, by omega, by go_num, by rw [ho.out, HT.out], trivial⟩
      case measure => simp [intOf]; omega
    · have hkn : xs.take k = xs := List.take_of_length_le (by have := HL.out; omega)
      rw [hkn]
      clear hkn
      go_wp2_with fail
      go_ret
      exact ⟨rfl, rfl⟩
/-- xs[2:2+n]. -/
theorem run_mid (b o len c n : Nat) (hn : 2 + n ≤ c) (W : World) (hc : c ≠ 2) :
    (Instr.slice 25 (.slice (some ⟨b, o, none⟩) len c) (some (.int .i64 2)) (some (.int .i64 (2 + (n : Int)))) none).run Try.prog W = .ok (.slice (some ⟨b, o + 2, none⟩) n (c - 2)) W := by
  have ht : Try.prog.underlying 25 = some (.slice (Try.prog.elem 25)) := by simp [Program.elem, Try.underlying25]
  have he : Try.prog.elem 25 = 5 := by simp [Program.elem, Try.underlying25]
  have hz : (Go.sizeOf 5).run Try.prog W = .ok 1 W := by
    obtain ⟨i0, hi0, hz0, hz1, hz2⟩ := info_parts info_b
    simp [sizeOf, typeInfo, hi0, hz1, go_sem]
  have e1 : (2 + (n : Int)).toNat = 2 + n := by omega
  rw [run_slice_lh W 25 _ _ _ ht .i64 .i64 2 (2 + (n : Int)) (by omega) (by omega) (by omega), he, hz, e1]
  have hne : ¬ c = 2 := hc
  simp [Result.andThen, sliced, Addr.add, hne]
theorem run_mid0 (b o len : Nat) (W : World) :
    (Instr.slice 25 (.slice (some ⟨b, o, none⟩) len 2) (some (.int .i64 2)) (some (.int .i64 2)) none).run Try.prog W = .ok (.slice (some ⟨b, o, none⟩) 0 0) W := by
  have ht : Try.prog.underlying 25 = some (.slice (Try.prog.elem 25)) := by simp [Program.elem, Try.underlying25]
  have he : Try.prog.elem 25 = 5 := by simp [Program.elem, Try.underlying25]
  have hz : (Go.sizeOf 5).run Try.prog W = .ok 1 W := by
    obtain ⟨i0, hi0, hz0, hz1, hz2⟩ := info_parts info_b
    simp [sizeOf, typeInfo, hi0, hz1, go_sem]
  rw [run_slice_lh W 25 _ _ _ ht .i64 .i64 2 2 (by omega) (by omega) (by omega), he, hz]
  simp [Result.andThen, sliced]
theorem run_midA (b o len c n : Nat) (hn : 2 + n ≤ c) (W : World) :
    (Instr.slice 25 (.slice (some ⟨b, o, none⟩) len c) (some (.int .i64 2)) (some (.int .i64 (2 + (n : Int)))) none).run Try.prog W = .ok (.slice (cutA (some ⟨b, o, none⟩) c 2) n (c - 2)) W := by
  by_cases hc : c = 2
  · subst hc
    obtain rfl : n = 0 := by omega
    rw [show cutA (some ⟨b, o, none⟩) 2 2 = some ⟨b, o, none⟩ from if_pos rfl]
    exact run_mid0 b o len W
  · rw [show cutA (some ⟨b, o, none⟩) c 2 = some ⟨b, o + 2, none⟩ from if_neg hc]
    exact run_mid b o len c n hn W hc
theorem keep_mid {w : World} {A : Option Addr} {n c : Nat} {xs : List Nat} {p : Addr} {v : Value} (h : Rf flB w A n xs) (hc : w.cell? p = some v) (cs : Array Value) :
    ((w.alloc (.cells cs 70)).cell? p = some v ∧ (convert 25 9 (.slice A n c)).run Try.prog (w.alloc (.cells cs 70)) = .ok (.string (strOfB xs)) (w.alloc (.cells cs 70))) ∧
    ((w.alloc (.cells cs 70)).drew.cell? p = some v ∧ (convert 25 9 (.slice A n c)).run Try.prog (w.alloc (.cells cs 70)).drew = .ok (.string (strOfB xs)) (w.alloc (.cells cs 70)).drew) :=
  ⟨⟨cell_stay (below_new w _) hc, conv_str (h.stay (below_new w _))⟩, cell_stay (below_new w _) hc, conv_str (h.stay (below_new w _)).drew⟩
def tkR (bs : List Nat) : Th × Nat := (takeR bs).getD (⟨0, 0, .empty, false⟩, 0)
def RTkPost (w : World) (bs : List Nat) (e : Ending) (w' : World) : Prop := e = .returned (.tuple #[(tkR bs).1.val, .int .i64 ((tkR bs).2 : Nat)]) ∧ Below w.heap.size w w'
theorem tkR_20 : tkR [2] = (⟨0, 0, .empty, false⟩, 0) := rfl
theorem tkR_30 : tkR [3] = (⟨0, 0, .empty, false⟩, 0) := rfl
theorem tkR_nil : tkR [] = (⟨0, 0, .empty, false⟩, 0) := rfl
theorem tkR_1 {r : List Nat} (h : 8 ≤ r.length) : tkR (1 :: r) = (⟨1, wrap64 (numB (r.take 8) : Nat), .empty, false⟩, 9) := by unfold tkR; rw [takeR.eq_def]; simp [h]
theorem tkR_1n {r : List Nat} (h : ¬ 8 ≤ r.length) : tkR (1 :: r) = (⟨0, 0, .empty, false⟩, 0) := by unfold tkR; rw [takeR.eq_def]; simp [h]
theorem tkR_2 {n : Nat} {r : List Nat} (h : n ≤ 200 ∧ n ≤ r.length) : tkR (2 :: n :: r) = (⟨2, 0, strOfB (r.take n), false⟩, 2 + n) := by unfold tkR; rw [takeR.eq_def]; simp [h]
theorem tkR_2n {n : Nat} {r : List Nat} (h : ¬ (n ≤ 200 ∧ n ≤ r.length)) : tkR (2 :: n :: r) = (⟨0, 0, .empty, false⟩, 0) := by unfold tkR; rw [takeR.eq_def]; simp [h]
theorem tkR_3 {v : Nat} {r : List Nat} (h : v ≤ 1) : tkR (3 :: v :: r) = (⟨3, 0, .empty, (v : Int) == 1⟩, 2) := by unfold tkR; rw [takeR.eq_def]; simp [h]
theorem tkR_3n {v : Nat} {r : List Nat} (h : ¬ v ≤ 1) : tkR (3 :: v :: r) = (⟨0, 0, .empty, false⟩, 0) := by unfold tkR; rw [takeR.eq_def]; simp [h]
theorem tkR_x {k : Nat} {r : List Nat} (h1 : k ≠ 1) (h2 : k ≠ 2) (h3 : k ≠ 3) : tkR (k :: r) = (⟨0, 0, .empty, false⟩, 0) := by unfold tkR; rw [takeR.eq_def]; simp [h1, h2, h3]
set_option maxRecDepth 100000 in
set_option maxHeartbeats 8000000 in
theorem RefTk_calls (w : World) (A : Option Addr) (len c : Nat) (bs : List Nat) (h : Rf flB w A len bs) (hx : ∀ x ∈ bs, x < 256) (hlc : len ≤ c) (hc2 : c ≤ 9223372036854775807) :
    Calls Try.prog 40 #[.slice A len c] w (RTkPost w bs) := by
  have hb1 := below_new w (.cells #[.int .i64 0, .int .i64 0, .string ⟨#[]⟩, .bool false] 70)
  have HB1 := Lib.hid hb1
  have key : ∀ (t : Th) (k : Nat) (w' : World), tkR bs = (t, k) → Below w.heap.size w w' → RTkPost w bs (.returned (.tuple #[.agg #[.int .i64 t.k, .int .i64 t.n, .string t.s, .bool t.b], .int .i64 (k : Nat)])) w' := by
    intro t k w' e hb
    unfold RTkPost
    rw [e]
    exact ⟨rfl, hb⟩
  have KEY := Lib.hid key
  clear key
  cases bs with
  | nil =>
    have h0 : len = 0 := by have := h.1; simpa using this.symm
    subst h0
    clear h hx hb1
    go_enter Try.func40, Try.ntmps40
    go_wp2_with fail
    refine bodyPost_ret (th_ret rfl rfl (Blk.new w _ _ _)) rfl ?_
    exact KEY.out _ 0 _ tkR_nil HB1.out
  | cons k r =>
    obtain ⟨bl, ol, x0, rfl, hx0, c0⟩ := rfB_at h (j := 0) (by have := h.1; simp at this; omega)
    have hk0 : x0 = k := by simpa using hx0.symm
    subst hk0
    have c0' := cell_stay hb1 c0
    rw [Nat.add_zero] at c0'
    have hl1 : r.length + 1 = len := h.1
    have h0p : (0 : Int) < (len : Int) := by omega
    have H := Lib.hid h
    have HX := Lib.hid hx
    have hk256 : x0 < 256 := hx x0 List.mem_cons_self
    clear h hx hx0 c0
    by_cases hk1 : x0 = 1
    · subst hk1
      by_cases h8 : 8 ≤ r.length
      · have h9 : (9 : Int) ≤ (len : Int) := by omega
        have hcc : (9 : Int) ≤ (c : Int) := by omega
        have HE := Lib.hid (tkR_1 h8)
        have hR8 : Rf flB (w.alloc (.cells #[.int .i64 0, .int .i64 0, .string ⟨#[]⟩, .bool false] 70)) (some ⟨bl, ol + 1, none⟩) 8 (r.take 8) := by
          have hz := (H.out.cutB 1 (by omega) hlc).takeB (k := 8) (by omega)
          rw [show cutA (some ⟨bl, ol, none⟩) c 1 = some ⟨bl, ol + 1, none⟩ from if_neg (by omega)] at hz
          exact hz.stay hb1
        have HNUM := Lib.hid (RefNum_calls _ _ 8 (c - 1) _ hR8 (fun y hy => HX.out y (List.mem_cons_of_mem _ (List.mem_of_mem_take hy))) (by omega))
        clear hR8
        go_enter Try.func40, Try.ntmps40
        go_wp2_with fail
        refine HNUM.out.mono ?_
        rintro e w1 ⟨rfl, rfl⟩
        go_wp2_with fail
        refine bodyPost_ret (th_ret rfl rfl (Blk.new w _ _ _)) rfl ?_
        exact KEY.out _ 9 _ HE.out ((Below.refl _ _).alloc (Nat.le_refl _) _)
      · have h9 : ¬ (9 : Int) ≤ (len : Int) := by omega
        by_cases h2 : (2 : Int) ≤ (len : Int)
        · have HE := Lib.hid (tkR_1n h8)
          go_enter Try.func40, Try.ntmps40
          go_wp2_with fail
          refine bodyPost_ret (th_ret rfl rfl (Blk.new w _ _ _)) rfl ?_
          exact KEY.out _ 0 _ HE.out HB1.out
        · have HE := Lib.hid (tkR_1n h8)
          go_enter Try.func40, Try.ntmps40
          go_wp2_with fail
          refine bodyPost_ret (th_ret rfl rfl (Blk.new w _ _ _)) rfl ?_
          exact KEY.out _ 0 _ HE.out HB1.out
    have e1 : ((x0 : Int) == 1) = false := by simp; omega
    by_cases hk2 : x0 = 2
    · subst hk2
      cases r with
      | nil =>
        have hl0 : len = 1 := by simpa using hl1.symm
        subst hl0
        have HE := Lib.hid tkR_20
        go_enter Try.func40, Try.ntmps40
        go_wp2_with fail
        refine bodyPost_ret (th_ret rfl rfl (Blk.new w _ _ _)) rfl ?_
        exact KEY.out _ 0 _ HE.out HB1.out
      | cons n r =>
        obtain ⟨b', o', x1, e', hx1, c1⟩ := rfB_at H.out (j := 1) (by simp at hl1; omega)
        cases e'
        have hn1 : x1 = n := by simpa using hx1.symm
        subst hn1
        have c1' := cell_stay hb1 c1
        have hn256 : x1 < 256 := HX.out x1 (by simp)
        have hl2 : r.length + 1 + 1 = len := by simpa using hl1
        have h2 : (2 : Int) ≤ (len : Int) := by omega
        have h1' : (1 : Int) < (len : Int) := by omega
        have C1 := Lib.hid c1
        clear hx1 c1
        by_cases hfit : x1 ≤ 200 ∧ x1 ≤ r.length
        · have HE := Lib.hid (tkR_2 hfit)
          have hf0 : IntKind.i64.wrap (x1 : Int) = (x1 : Int) := by rw [IntKind.wrap_i64]; omega
          have hf1 : (x1 : Int) ≤ 200 := by omega
          have hf2 : 2 + (x1 : Int) ≤ (len : Int) := by omega
          have hf3 : IntKind.i64.wrap (2 + (x1 : Int)) = 2 + (x1 : Int) := by rw [IntKind.wrap_i64]; omega
          have hf4 : (2 : Int) ≤ 2 + (x1 : Int) := by omega
          have hf5 : 2 + (x1 : Int) ≤ (c : Int) := by omega
          have hf6 : (2 + (x1 : Int)).toNat = 2 + x1 := by omega
          have hf7 : 2 + x1 - 2 = x1 := by omega
          have hf8 : (0 : Int) ≤ 2 + (x1 : Int) := by omega
          have hblw : bl < w.heap.size := by
            obtain ⟨b', o', y, e', _, cc⟩ := rfB_at H.out (j := 0) (by omega)
            cases e'
            exact cell_lt cc
          have hne : w.heap.size ≠ bl := by omega
          have hmid := fun W => run_midA bl ol len c x1 (by omega) W
          have HRb : Hid (Rf flB w (cutA (some ⟨bl, ol, none⟩) c 2) x1 (r.take x1)) := Lib.hid ((H.out.cutB 2 (by omega) hlc).takeB (k := x1) (by omega))
          generalize cutA (some ⟨bl, ol, none⟩) c 2 = A2 at *
          have KEEP := Lib.hid (keep_mid (c := c - 2) HRb.out C1.out)
          by_cases h9 : (9 : Int) ≤ (len : Int)
          · go_enter Try.func40, Try.ntmps40
            go_wp2_with fail
            go_region_held3 (fun w' => w'.cell? ⟨bl, ol + 1, none⟩ = some (.int .u8 (x1 : Int)) ∧ (convert 25 9 (.slice A2 x1 (c - 2))).run Try.prog w' = .ok (.string (strOfB (r.take x1))) w') (first | assumption | exact (KEEP.out _).2 | exact (KEEP.out _).1 | go_keep) (fail)
            all_goals go_wp2_with fail
            all_goals refine bodyPost_ret (th_ret rfl rfl (Blk.new w _ _ _)) rfl ?_
            all_goals exact KEY.out _ (2 + x1) _ HE.out (below_drawn ((Below.refl _ _).alloc (Nat.le_refl _) _) 1)
          · go_enter Try.func40, Try.ntmps40
            go_wp2_with fail
            go_region_held3 (fun w' => w'.cell? ⟨bl, ol + 1, none⟩ = some (.int .u8 (x1 : Int)) ∧ (convert 25 9 (.slice A2 x1 (c - 2))).run Try.prog w' = .ok (.string (strOfB (r.take x1))) w') (first | assumption | exact (KEEP.out _).2 | exact (KEEP.out _).1 | go_keep) (fail)
            all_goals go_wp2_with fail
            all_goals refine bodyPost_ret (th_ret rfl rfl (Blk.new w _ _ _)) rfl ?_
            all_goals exact KEY.out _ (2 + x1) _ HE.out (below_drawn ((Below.refl _ _).alloc (Nat.le_refl _) _) 1)
        · have HE0 := tkR_2n hfit
          by_cases h9 : (9 : Int) ≤ (len : Int)
          · by_cases h200 : (x1 : Int) ≤ 200
            · have hng : ¬ 2 + (x1 : Int) ≤ (len : Int) := by omega
              have HE := Lib.hid (HE0)
              go_enter Try.func40, Try.ntmps40
              go_wp2_with fail
              refine bodyPost_ret (th_ret rfl rfl (Blk.new w _ _ _)) rfl ?_
              exact KEY.out _ 0 _ HE.out HB1.out
            · have HE := Lib.hid (HE0)
              go_enter Try.func40, Try.ntmps40
              go_wp2_with fail
              refine bodyPost_ret (th_ret rfl rfl (Blk.new w _ _ _)) rfl ?_
              exact KEY.out _ 0 _ HE.out HB1.out
          · by_cases h200 : (x1 : Int) ≤ 200
            · have hng : ¬ 2 + (x1 : Int) ≤ (len : Int) := by omega
              have HE := Lib.hid (HE0)
              go_enter Try.func40, Try.ntmps40
              go_wp2_with fail
              refine bodyPost_ret (th_ret rfl rfl (Blk.new w _ _ _)) rfl ?_
              exact KEY.out _ 0 _ HE.out HB1.out
            · have HE := Lib.hid (HE0)
              go_enter Try.func40, Try.ntmps40
              go_wp2_with fail
              refine bodyPost_ret (th_ret rfl rfl (Blk.new w _ _ _)) rfl ?_
              exact KEY.out _ 0 _ HE.out HB1.out
    have e2 : ((x0 : Int) == 2) = false := by simp; omega
    by_cases hk3 : x0 = 3
    · subst hk3
      cases r with
      | nil =>
        have hl0 : len = 1 := by simpa using hl1.symm
        subst hl0
        have HE := Lib.hid tkR_30
        go_enter Try.func40, Try.ntmps40
        go_wp2_with fail
        refine bodyPost_ret (th_ret rfl rfl (Blk.new w _ _ _)) rfl ?_
        exact KEY.out _ 0 _ HE.out HB1.out
      | cons n r =>
        obtain ⟨b', o', x1, e', hx1, c1⟩ := rfB_at H.out (j := 1) (by simp at hl1; omega)
        cases e'
        have hn1 : x1 = n := by simpa using hx1.symm
        subst hn1
        have c1' := cell_stay hb1 c1
        have hl2 : r.length + 1 + 1 = len := by simpa using hl1
        have h2 : (2 : Int) ≤ (len : Int) := by omega
        have h1' : (1 : Int) < (len : Int) := by omega
        clear hx1 c1
        by_cases hfit : x1 ≤ 1
        · have HE := Lib.hid (tkR_3 (r := r) hfit)
          have hf' : (x1 : Int) ≤ 1 := by omega
          by_cases h9 : (9 : Int) ≤ (len : Int)
          · go_enter Try.func40, Try.ntmps40
            go_wp2_with fail
            refine bodyPost_ret (th_ret rfl rfl (Blk.new w _ _ _)) rfl ?_
            exact KEY.out _ 2 _ HE.out ((Below.refl _ _).alloc (Nat.le_refl _) _)
          · go_enter Try.func40, Try.ntmps40
            go_wp2_with fail
            refine bodyPost_ret (th_ret rfl rfl (Blk.new w _ _ _)) rfl ?_
            exact KEY.out _ 2 _ HE.out ((Below.refl _ _).alloc (Nat.le_refl _) _)
        · have HE0 := tkR_3n (r := r) hfit
          have hf' : ¬ (x1 : Int) ≤ 1 := by omega
          by_cases h9 : (9 : Int) ≤ (len : Int)
          · have HE := Lib.hid (HE0)
            go_enter Try.func40, Try.ntmps40
            go_wp2_with fail
            refine bodyPost_ret (th_ret rfl rfl (Blk.new w _ _ _)) rfl ?_
            exact KEY.out _ 0 _ HE.out HB1.out
          · have HE := Lib.hid (HE0)
            go_enter Try.func40, Try.ntmps40
            go_wp2_with fail
            refine bodyPost_ret (th_ret rfl rfl (Blk.new w _ _ _)) rfl ?_
            exact KEY.out _ 0 _ HE.out HB1.out
    have e3 : ((x0 : Int) == 3) = false := by simp; omega
    have HE0 := tkR_x (r := r) hk1 hk2 hk3
    clear hk1 hk2 hk3
    by_cases h9 : (9 : Int) ≤ (len : Int)
    · have HE := Lib.hid (HE0)
      go_enter Try.func40, Try.ntmps40
      go_wp2_with fail
      refine bodyPost_ret (th_ret rfl rfl (Blk.new w _ _ _)) rfl ?_
      exact KEY.out _ 0 _ HE.out HB1.out
    · by_cases h2 : (2 : Int) ≤ (len : Int)
      · have HE := Lib.hid (HE0)
        go_enter Try.func40, Try.ntmps40
        go_wp2_with fail
        refine bodyPost_ret (th_ret rfl rfl (Blk.new w _ _ _)) rfl ?_
        exact KEY.out _ 0 _ HE.out HB1.out
      · have HE := Lib.hid (HE0)
        go_enter Try.func40, Try.ntmps40
        go_wp2_with fail
        refine bodyPost_ret (th_ret rfl rfl (Blk.new w _ _ _)) rfl ?_
        exact KEY.out _ 0 _ HE.out HB1.out
end Go.Proofs.Ytodccdfpoocolaa
