/- Walk of FlatLeast. -/
import Derived.Test.YtmaehdoejpecgaaFlatCh
import Derived.Test.YtmaehdoejpecgaaLater
import Derived.StillTailTactics
import Derived.Deep.RegionWith
set_option linter.unusedVariables false
namespace Go.Proofs.Ytmaehdoejpecgaa
open Go.ChangeShapes Go.WideShapes Go.ChangeAt Go.RowKit

theorem mask10 (x : Int) : ∃ m : Nat, bits .and .i64 x 1023 = (m : Int) := by
  refine ⟨(x % 1024).toNat, ?_⟩
  show IntKind.i64.wrap ((BitVec.ofInt 64 x &&& BitVec.ofInt 64 1023).toNat : Int) = _
  rw [BitVec.toNat_and]
  have h1 : (BitVec.ofInt 64 1023).toNat = 1023 := by decide
  have h2 := Nat.and_two_pow_sub_one_eq_mod (BitVec.ofInt 64 x).toNat 10
  have h3 : (BitVec.ofInt 64 x).toNat = (x % 18446744073709551616).toNat := by simp [BitVec.toNat_ofInt]
  rw [h1, h2, IntKind.wrap_i64, h3]
  omega
theorem xor_other (x y : Int) (h1 : 1 ≤ y) (h2 : y ≤ 1000) : x ≠ bits .xor .i64 x y := by
  intro h
  have h3 : bits .xor .i64 x y = IntKind.i64.wrap ((BitVec.ofInt 64 x ^^^ BitVec.ofInt 64 y).toNat : Int) := rfl
  rw [h3, IntKind.wrap_i64] at h
  have h4 : (BitVec.ofInt 64 x).toNat = (BitVec.ofInt 64 x ^^^ BitVec.ofInt 64 y).toNat := by
    have e : (BitVec.ofInt 64 x).toNat = (x % 18446744073709551616).toNat := by simp [BitVec.toNat_ofInt]
    have l := (BitVec.ofInt 64 x ^^^ BitVec.ofInt 64 y).isLt
    rw [e]
    omega
  have h5 := BitVec.eq_of_toNat_eq h4
  have h6 : BitVec.ofInt 64 y = 0#64 := by
    have := congrArg (BitVec.ofInt 64 x ^^^ ·) h5
    simp only [BitVec.xor_self, ← BitVec.xor_assoc, BitVec.zero_xor] at this
    exact this.symm
  have h7 := congrArg BitVec.toNat h6
  have e : (BitVec.ofInt 64 y).toNat = (y % 18446744073709551616).toNat := by simp [BitVec.toNat_ofInt]
  rw [e] at h7
  simp at h7
  omega
theorem diffTo_same (xs : List Int) : ∀ k, diffTo xs xs k = []
  | 0 => rfl
  | k + 1 => by
    have e : diffTo xs xs (k + 1) = if xs.getD k 0 = xs.getD k 0 then diffTo xs xs k else diffTo xs xs k ++ [⟨(k : Int), xs.getD k 0⟩] := rfl
    rw [e, if_pos rfl]
    exact diffTo_same xs k
theorem diff_same (xs : List Int) : diff xs xs = [] := by unfold diff; rw [if_pos rfl]; exact diffTo_same xs _
theorem diffTo_set (xs : List Int) (p : Nat) (v : Int) (hp : p < xs.length) (hv : xs.getD p 0 ≠ v) : ∀ k, k ≤ xs.length → diffTo xs (xs.set p v) k = if k ≤ p then [] else [⟨(p : Int), v⟩]
  | 0, _ => by simp [diffTo]
  | k + 1, hk => by
    have ih := diffTo_set xs p v hp hv k (by omega)
    have e : diffTo xs (xs.set p v) (k + 1) = if xs.getD k 0 = (xs.set p v).getD k 0 then diffTo xs (xs.set p v) k else diffTo xs (xs.set p v) k ++ [⟨(k : Int), (xs.set p v).getD k 0⟩] := rfl
    rw [e, ih]
    by_cases hkp : k = p
    · subst hkp
      have e1 : (xs.set k v).getD k 0 = v := by simp [List.getD_eq_getElem?_getD, hp]
      rw [e1, if_neg hv, if_pos (Nat.le_refl _), if_neg (by omega)]
      rfl
    · have e1 : (xs.set p v).getD k 0 = xs.getD k 0 := by simp [List.getD_eq_getElem?_getD, List.getElem?_set_ne (Ne.symm hkp)]
      rw [e1, if_pos rfl]
      by_cases h : k ≤ p
      · rw [if_pos h, if_pos (by omega)]
      · rw [if_neg h, if_neg (by omega)]
theorem diff_set (xs : List Int) (p : Nat) (v : Int) (hp : p < xs.length) (hv : xs.getD p 0 ≠ v) : diff xs (xs.set p v) = [⟨(p : Int), v⟩] := by
  unfold diff
  rw [if_pos (by simp), diffTo_set xs p v hp hv _ (by simp), if_neg (by simp; omega)]

set_option maxHeartbeats 2000000 in
theorem least_calls (A : Option Addr) (n c : Nat) (xs : List Int) (p y : Int) (w : World) (hA : Rf flI w A n xs) :
    Calls Try.prog 3 #[.slice A n c, .int .i64 p, .int .i64 y] w fun e w' => e = .returned (.bool true) ∧ Below w.heap.size w w' := by
  obtain ⟨i0, hi0, hz0, hz1, hz2⟩ := info_parts info_int
  have hn0 := hA.2.1
  by_cases h1 : (n : Int) < 1
  · go_enter Try.func3, Try.ntmps3
    go_wp2
    go_ret
    exact ⟨rfl, Below.refl _ _⟩
  by_cases h2 : (100 : Int) < n
  · go_enter Try.func3, Try.ntmps3
    go_wp2
    go_ret
    exact ⟨rfl, Below.refl _ _⟩
  by_cases h3 : y < 1
  · go_enter Try.func3, Try.ntmps3
    go_wp2
    go_ret
    exact ⟨rfl, Below.refl _ _⟩
  by_cases h4 : 1000 < y
  · go_enter Try.func3, Try.ntmps3
    go_wp2
    go_ret
    exact ⟨rfl, Below.refl _ _⟩
  obtain ⟨m, hm⟩ := mask10 p
  have hmn0 : (0 : Int) ≤ (m : Int) % n := by omega
  have hmn1 : (m : Int) % n < n := Int.emod_lt_of_pos _ (by omega)
  have HA := Lib.hid hA
  have H1 := Lib.hid (rf_n hA)
  clear hA
  go_enter Try.func3, Try.ntmps3
  go_wp2_with (at_builtin; refine wpList_append_any _ rfl (.tmp 29) (.tmp 30) _ rfl w.heap.size 3 i0 _ 1 8 Try.underlying22 hi0 hz0 hz1 hz2 rfl (by omega) (.slice (some ⟨w.heap.size, 0, none⟩) 0 0) 0 [] rfl (Ow.empty flI w w.heap.size 3 (Nat.le_refl _)) w.heap.size A n c (xs.flatMap flI.enc) rfl ((HA.out.reads (by decide)).alloc (Nat.le_refl _) _) (flat_one flI xs) (by simp only [maxLen]; omega) (by omega) (by simp) ?_; intro v w0 hown1 hg1 hat1)
  have hb0 : Below w.heap.size w w0 := (below_new w _).grown hg1 (by simp) (fun k hk => by simp [Value.ownBlock] at hk; omega)
  have hown0 : Ow flI w0 w.heap.size 3 v xs := by
    have h := Ow.join (f := flI) (xs := []) (ys := xs) (m := n) H1.out hown1
    simpa using h
  clear hown1 hg1 hat1
  obtain ⟨g, cap, rfl, hgb, hgl⟩ := owI_form hown0 H1.out (by omega)
  have HO : Hid (Ow flI w0 w.heap.size 3 (.slice (some ⟨g, 0, none⟩) xs.length cap) xs) := by rw [H1.out]; exact hown0
  have hpx : m % n < xs.length := by rw [H1.out]; exact Nat.mod_lt _ (by omega)
  have hcell := owI_cell HO.out (m % n) hpx
  have hfree := HO.out.free (m % n)
  have Hb0 := Lib.hid hb0
  have hx0 := Lib.hid (getD_of (List.getElem?_eq_getElem hpx))
  clear hown0 hb0
  generalize xs[m % n] = x0 at *
  have hz := xor_other x0 y h3 h4
  have HZ := Lib.hid hz
  clear hz
  go_simp
  go_wp2_with fail
  clear hcell
  generalize bits .xor .i64 x0 y = z at *
  have oB := (HO.out.put1 rfl (m % n) z (.int .i64 z) rfl).1
  have bB := Hb0.out.setCell (p := ⟨g, m % n, none⟩) hgb (.int .i64 z)
  generalize w0.setCell ⟨g, m % n, none⟩ (.int .i64 z) = W at *
  have hds := Lib.hid (diff_set xs (m % n) z hpx (by rw [hx0.out]; exact HZ.out))
  have ll : (xs.set (m % n) z).length = n := by rw [List.length_set, H1.out]
  have hzc : (xs.set (m % n) z)[m % n]? = some z := by rw [List.getElem?_set_self hpx]
  have Q := Lib.hid (And.intro oB (And.intro bB (And.intro ll hzc)))
  clear oB bB ll hzc hfree
  refine (Diff_calls A A n n c c xs xs W (HA.out.stay Q.out.2.1) (HA.out.stay Q.out.2.1) (by omega)).mono ?_
  rintro e w1 ⟨v1, rfl, o1, b1⟩
  rw [diff_same] at o1
  obtain ⟨A1, c1, rfl, R1⟩ := o1.read (by decide)
  rw [show decide (xs.length = xs.length) = true from decide_eq_true rfl]
  have B1 := Lib.hid b1
  clear o1 R1 b1
  have RB : Rf flI w1 (some ⟨g, 0, none⟩) n (xs.set (m % n) z) := by
    obtain ⟨A', c', e', R'⟩ := Q.out.1.read (by decide)
    injection e' with e1 _ _
    subst e1
    have := R'.stay B1.out
    rw [Q.out.2.2.1] at this
    exact this
  have HB := Lib.hid RB
  clear RB
  go_wp2_with fail
  refine (Diff_calls A (some ⟨g, 0, none⟩) n n c cap xs (xs.set (m % n) z) w1 ((HA.out.stay Q.out.2.1).stay B1.out) HB.out (by omega)).mono ?_
  rintro e w2 ⟨v2, rfl, o2, b2⟩
  rw [hds.out] at o2
  rw [show decide (xs.length = (xs.set (m % n) z).length) = true from decide_eq_true (by simp)]
  obtain ⟨A2, c2, rfl, R2⟩ := o2.read (by decide)
  obtain ⟨b, o, x, hA2, hx, cc0, cc1⟩ := rfC_at R2 (j := 0) (by simp)
  subst hA2
  have hx2 : x = ⟨((m % n : Nat) : Int), z⟩ := by simp at hx; exact hx.symm
  subst hx2
  obtain ⟨_, _, _, e4, e5, ccz⟩ := rfI_at (HB.out.stay b2) (j := m % n) (by have := Nat.mod_lt m (show 0 < n by omega); omega)
  injection e4 with e4
  injection e4 with e6 e7
  subst e6
  subst e7
  rw [Q.out.2.2.2] at e5
  injection e5 with e5
  subst e5
  rw [Nat.zero_add] at ccz
  have hq := run_eql_of (eqv_chg ⟨((m % n : Nat) : Int), z⟩ ⟨((m % n : Nat) : Int), z⟩) (by omega)
  rw [decide_eq_true rfl] at hq
  dsimp only at cc0 cc1 hq
  simp only [Nat.zero_mul, Nat.add_zero] at cc0 cc1
  have hmc : ((m % n : Nat) : Int) = (m : Int) % (n : Int) := by simp
  rw [hmc] at cc0 hq
  clear hmc
  have B2 := Lib.hid (below_more (below_more Q.out.2.1 B1.out) b2)
  clear o2 R2 b2 hx
  go_wp2_with fail
  clear HO hx0 HZ hds HB Hb0 B1 Q HA H1 hm
  have lz := later_cell ccz
  have l0 := later_cell cc0
  have l1 := later_cell cc1
  clear ccz cc0 cc1
  refine wp_region_later (by kernel_rfl) (by kernel_rfl) ?_
  repeat (go_big_quiet_step ((go_at_call 13; exact later_call _ (known_calls _))))
  refine wpQuiet_nil ?_
  intro q
  go_wp2_with fail
  go_ret
  exact ⟨rfl, below_more B2.out q.hb⟩
end Go.Proofs.Ytmaehdoejpecgaa
