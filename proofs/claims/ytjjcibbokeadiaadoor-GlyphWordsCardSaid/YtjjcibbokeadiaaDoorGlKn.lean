/- Walks: the law's same and known. -/
import Derived.Test.YtjjcibbokeadiaaDoorGlCm2
import Derived.Test.YtjjcibbokeadiaaDoorEqs
set_option linter.unusedVariables false
namespace Go.Proofs.YtjjcibbokeadiaaDoor
open Go.RowKit

theorem rfW_at {w : World} {A : Option Addr} {n : Nat} {xs : List Wd} (h : Rf flW w A n xs) {j : Nat} (hj : j < n) : ∃ b off x, A = some ⟨b, off, none⟩ ∧ xs[j]? = some x ∧ w.cell? ⟨b, off + j * 2, none⟩ = some (.string x.1) ∧ w.cell? ⟨b, off + j * 2 + 1, none⟩ = some (.int .i64 x.2) := by
  obtain ⟨b, off, x, rfl, hx, hc⟩ := h.at_ hj
  exact ⟨b, off, x, rfl, hx, by have := hc 0 _ rfl; simpa [flW] using this, by have := hc 1 _ rfl; simpa [flW] using this⟩
theorem ba_beq (a b : ByteArray) : (a == b) = decide (a = b) := by
  obtain ⟨a⟩ := a
  obtain ⟨b⟩ := b
  show (a == b) = _
  by_cases h : a = b <;> simp [h]
theorem eqv_wd (x y : Wd) : Eqv Tryd.prog 2 32 (.agg #[.string x.1, .int .i64 x.2]) (.agg #[.string y.1, .int .i64 y.2]) (decide (x = y)) := by
  have h := eqv_struct (P := Tryd.prog) (t := 32) (xs := #[.string x.1, .int .i64 x.2]) (ys := #[.string y.1, .int .i64 y.2]) Tryd.underlying32 (by kernel_rfl)
    (eqf_cons (by decide) (fun _ => by kernel_rfl) (fun _ => by kernel_rfl) (eqv_str Tryd.underlying9 x.1 y.1) (eqf_cons (by decide) (fun _ => by kernel_rfl) (fun _ => by kernel_rfl) (eqv_int (q' := .i64) Tryd.underlying3 x.2 y.2) eqf_nil))
  have e : (x.1 == y.1 && (x.2 == y.2 && true)) = decide (x = y) := by
    obtain ⟨a, b⟩ := x
    obtain ⟨c, d⟩ := y
    rw [ba_beq, Bool.eq_iff_iff]
    simp
  rw [e] at h
  exact h
set_option maxHeartbeats 1000000 in
theorem same_calls (A B : Option Addr) (n m c d : Nat) (xs ys : List Wd) (w : World) (hA : Rf flW w A n xs) (hB : Rf flW w B m ys) :
    Calls Tryd.prog 21 #[.slice A n c, .slice B m d] w fun e w' => e = .returned (.bool (decide (xs = ys))) ∧ Below w.heap.size w w' := by
  have h1 := hA.1
  have h2 := hB.1
  have hn := hA.2.1
  by_cases hne : n = m
  · have hb : ((n : Int) != (m : Int)) = false := by simp [hne]
    have HN := Lib.hid hne
    have H1 := Lib.hid h1
    have H2 := Lib.hid h2
    clear hne h1 h2
    go_enter Tryd.func21, Tryd.ntmps21
    go_wp2_with fail
    go_loopw [5] (fun i wr => ∃ k : Nat, k ≤ n ∧ i = .int .i64 k ∧ Hid (xs.take k = ys.take k) ∧ Below w.heap.size w wr) (fun i _ => n - (intOf i).toNat)
    case atStart => exact ⟨0, by omega, rfl, Lib.hid rfl, Below.refl _ _⟩
    case round =>
      obtain ⟨k, hk, rfl, hr, hbr⟩ := hrel
      by_cases hlt : k < n
      · obtain ⟨ba, oa, x, rfl, hx, ca0, ca1⟩ := rfW_at hA hlt
        obtain ⟨bb, ob, y, rfl, hy, cb0, cb1⟩ := rfW_at hB (j := k) (by have := HN.out; omega)
        have ca := cell_keep hbr (cell_lt ca0) ca0
        have cb := cell_keep hbr (cell_lt cb0) cb0
        have ca' := cell_keep hbr (cell_lt ca1) ca1
        have cb' := cell_keep hbr (cell_lt cb1) cb1
        have HX := Lib.hid hx
        have HY := Lib.hid hy
        clear ca0 cb0 ca1 cb1 hx hy
        have hkm : (k : Int) < m := by have := HN.out; omega
        have hq := run_neq_of (eqv_wd x y) (by omega)
        by_cases hxy : x = y
        · rw [decide_eq_true hxy] at hq
          have HXY := Lib.hid hxy
          clear hxy
          go_wp2_with fail
          go_quiet (fail)
          go_wp2_with fail
          go_roundw
          case rel => exact ⟨k + 1, by omega, by go_num, Lib.hid (take_eq_step HX.out HY.out hr.out HXY.out), below_drawn hbr _⟩
          case measure => simp [intOf]; omega
        · rw [decide_eq_false hxy] at hq
          have HXY := Lib.hid hxy
          clear hxy
          go_wp2_with fail
          go_quiet (fail)
          go_wp2_with fail
          go_ret
          exact ⟨by rw [decide_eq_false (ne_of_at HX.out HY.out HXY.out)]; rfl, below_drawn hbr _⟩
      · have hkn : k = n := by omega
        have hfin : xs = ys := by
          have := hr.out
          rw [hkn, List.take_of_length_le (by have := H1.out; omega), List.take_of_length_le (by have := H2.out; have := HN.out; omega)] at this
          exact this
        have HF := Lib.hid hfin
        clear hkn hfin
        go_wp2_with fail
        go_ret
        exact ⟨by rw [decide_eq_true HF.out]; rfl, hbr⟩
  · have hb : ((n : Int) != (m : Int)) = true := by simp; omega
    have hll : ¬ xs = ys := by rintro rfl; omega
    have H3 := Lib.hid hll
    clear h1 h2 hll
    go_enter Tryd.func21, Tryd.ntmps21
    go_wp2_with fail
    go_ret
    exact ⟨by rw [decide_eq_false H3.out]; rfl, Below.refl _ _⟩

theorem kn_words : wordsL (byt ⟨#[195, 169, 32, 55]⟩) = ([((⟨#[195, 169]⟩, 0) : Wd), ((⟨#[55]⟩, 2) : Wd)], -1) := by decide +kernel
theorem kn_name : nameL (byt ⟨#[195, 169, 55]⟩) = true := by decide +kernel
theorem kn_width : (rn (byt ⟨#[195, 169, 55]⟩)).length = 2 := by decide +kernel
def knW : List Wd := [((⟨#[195, 169]⟩, 0) : Wd), ((⟨#[55]⟩, 2) : Wd)]
set_option maxRecDepth 100000 in
set_option maxHeartbeats 4000000 in
theorem known_calls (w : World) (hT : Tabs w) : Calls Tryd.prog 15 #[] w fun e w' => e = .returned (.bool true) ∧ Below w.heap.size w w' := by
  have hW : Hid (Calls Tryd.prog 20 #[.string ⟨#[195, 169, 32, 55]⟩] w fun e w' => ∃ v, e = .returned (.tuple #[v, .int .i64 (-1)]) ∧ Ow flW w' w.heap.size 32 v knW ∧ Below w.heap.size w w') := Lib.hid ((Words_calls w hT _ (by decide)).mono (by
    rintro e w' ⟨v, rfl, h2, h3⟩
    rw [kn_words] at h2 ⊢
    exact ⟨v, rfl, h2, h3⟩))
  have hI : Hid (∀ W, Tabs W → Calls Tryd.prog 16 #[.string ⟨#[195, 169, 55]⟩] W fun e w' => e = .returned (.bool true) ∧ Below W.heap.size W w') := Lib.hid (fun W h => by have := IsName_calls W h ⟨#[195, 169, 55]⟩ (by decide); rw [kn_name] at this; exact this)
  have hN : Hid (∀ W, Calls Tryd.prog 17 #[.string ⟨#[195, 169, 55]⟩] W fun e w' => e = .returned (.int .i64 2) ∧ Below W.heap.size W w') := Lib.hid (fun W => by have := Width_calls W ⟨#[195, 169, 55]⟩ (by decide); rw [kn_width] at this; exact this)
  have HT := Lib.hid hT
  clear hT
  go_enter Tryd.func15, Tryd.ntmps15
  go_wp2_with fail
  refine hW.out.mono ?_
  rintro e w1 ⟨v, rfl, ho, hb1⟩
  obtain ⟨A, c, rfl, hA⟩ := ho.read (by decide)
  have HA := Lib.hid hA
  have HB1 := Lib.hid hb1
  have hlit := fun W => lit_reads flW knW (Blk.new W #[.string ⟨#[195, 169]⟩, .int .i64 0, .string ⟨#[55]⟩, .int .i64 2] 32 (0, 0)) rfl (by decide)
  have HL := Lib.hid hlit
  clear ho hA hb1 hlit
  go_wp2_with fail
  have hb2 := Lib.hid (below_more HB1.out (below_new w1 (.cells #[.string ⟨#[195, 169]⟩, .int .i64 0, .string ⟨#[55]⟩, .int .i64 2] 32)))
  have KS := same_calls A _ knW.length knW.length c 2 knW knW _ (HA.out.stay (below_new w1 _)) (HL.out w1)
  rw [decide_eq_true rfl] at KS
  refine KS.mono ?_
  rintro e w2 ⟨rfl, hb3⟩
  have HB3 := Lib.hid (hb2.out.trans (hb3.mono hb2.out.size))
  clear KS hb3
  go_wp2_with fail
  refine (hI.out _ (HT.out.stay HB3.out)).mono ?_
  rintro e w3 ⟨rfl, hb4⟩
  have HB4 := Lib.hid (HB3.out.trans (hb4.mono HB3.out.size))
  clear hb4
  go_wp2_with fail
  refine (hN.out _).mono ?_
  rintro e w4 ⟨rfl, hb5⟩
  have HB5 := Lib.hid (HB4.out.trans (hb5.mono HB4.out.size))
  clear hb5
  go_wp2_with fail
  go_ret
  exact ⟨rfl, HB5.out⟩
end Go.Proofs.YtjjcibbokeadiaaDoor
