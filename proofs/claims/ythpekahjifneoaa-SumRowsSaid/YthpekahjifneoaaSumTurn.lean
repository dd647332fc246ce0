/- Walk of SumTurned. -/
import Derived.Test.YthpekahjifneoaaSumKn
import Derived.Test.YthpekahjifneoaaSumMath
import Derived.Test.YthpekahjifneoaaWords
import Derived.Outline
namespace Go.Proofs.Ythpekahjifneoaa
open Go.ChangeShapes Go.WideShapes Go.ChangeAt Go.RowKit

theorem info_u8 : (Try.prog.info? 5).map (fun i => (i.zero, i.size, i.bytes)) = some (some (.int .u8 0), 1, 1) := by kernel_rfl
def vbytes (xs : List Nat) : List Value := xs.map fun (x : Nat) => .int .u8 (x : Int)
theorem RdB.reads {w : World} {A : Option Addr} {n : Nat} {xs : List Nat} (h : RdB w A n xs) : Reads w w.heap.size 1 A n (vbytes xs) := by
  obtain ⟨h1, h2, h3, h4⟩ := h
  refine ⟨by simp [vbytes, h1], fun hn => ?_⟩
  obtain ⟨b, off, e, hc⟩ := h4 hn
  refine ⟨_, e, World.block_lt_of_cell? w _ (hc 0 hn), fun j u hu => ?_⟩
  have hj : j < xs.length := by
    rcases Nat.lt_or_ge j xs.length with h | h
    · exact h
    · simp [vbytes, List.getElem?_eq_none h] at hu
  have e2 : (⟨b, off, none⟩ : Addr).add j = ⟨b, off + j, none⟩ := by unfold Addr.add; split <;> simp_all
  rw [e2, hc j (by omega)]
  simp [vbytes, List.getElem?_eq_getElem hj] at hu
  simp [← hu, List.getD_eq_getElem?_getD, List.getElem?_eq_getElem hj]
theorem vbytes_one (xs : List Nat) : ∀ u ∈ vbytes xs, u.oneCell' = true := by
  intro u hu
  simp [vbytes] at hu
  obtain ⟨x, _, rfl⟩ := hu
  rfl
/-- A row of the call's own, of bytes. -/
theorem own_rdb {w : World} {base g n cap : Nat} {xs : List Nat} (h : w.ownsRow base 5 1 (.slice (some ⟨g, 0, none⟩) n cap) n (vbytes xs)) (hn : n ≤ 9223372036854775807) (hx : ∀ x ∈ xs, x < 256) : RdB w (some ⟨g, 0, none⟩) n xs := by
  have hl : xs.length = n := by have := h.1; simpa [vbytes] using this
  refine ⟨hl, hn, hx, fun _ => ⟨g, 0, rfl, fun j hj => ?_⟩⟩
  rw [Nat.zero_add, h.cellAt j (by omega)]
  simp [vbytes, List.getD_eq_getElem?_getD, List.getElem?_eq_getElem (show j < xs.length by omega)]
theorem vb_at (xs : List Nat) (k : Nat) (hk : k < xs.length) : (vbytes xs)[k]? = some (.int .u8 ((xs.getD k 0 : Nat) : Int)) := by
  simp [vbytes, List.getD_eq_getElem?_getD, List.getElem?_eq_getElem hk]
theorem vb_set (xs : List Nat) (k z : Nat) : (vbytes xs).set k (.int .u8 (z : Int)) = vbytes (xs.set k z) := by simp [vbytes, List.map_set]
theorem mask16 (x : Int) : ∃ m : Nat, bits .and .i64 x 65535 = (m : Int) := by
  refine ⟨(x % 65536).toNat, ?_⟩
  show IntKind.i64.wrap ((BitVec.ofInt 64 x &&& BitVec.ofInt 64 65535).toNat : Int) = _
  rw [BitVec.toNat_and]
  have h1 : (BitVec.ofInt 64 65535).toNat = 65535 := by decide
  have h2 := Nat.and_two_pow_sub_one_eq_mod (BitVec.ofInt 64 x).toNat 16
  have h3 : (BitVec.ofInt 64 x).toNat = (x % 18446744073709551616).toNat := by simp [BitVec.toNat_ofInt]
  rw [h1, h2, IntKind.wrap_i64, h3]
  omega

set_option maxHeartbeats 400000 in
theorem turned_calls (A : Option Addr) (n c : Nat) (xs : List Nat) (p : Int) (y : Nat) (hy : y < 256) (w : World) (h : RdB w A n xs) :
    Calls Try.prog 5 #[.slice A n c, .int .i64 p, .int .u8 y] w fun e w' => e = .returned (.bool true) ∧ Below w.heap.size w w' := by
  obtain ⟨i0, hi0, hz0, hz1, hz2⟩ := info_parts info_u8
  by_cases h0 : (n : Int) < 1
  · go_enter Try.func5, Try.ntmps5
    go_wp2
    go_ret
    exact ⟨rfl, Below.refl _ _⟩
  by_cases h1 : (1000 : Int) < n
  · go_enter Try.func5, Try.ntmps5
    go_wp2
    go_ret
    exact ⟨rfl, Below.refl _ _⟩
  by_cases h2 : y = 0
  · subst h2
    go_enter Try.func5, Try.ntmps5
    go_wp2
    go_ret
    exact ⟨rfl, Below.refl _ _⟩
  have h3 : ((y : Int) == 0) = false := by simp; omega
  obtain ⟨m, hm⟩ := mask16 p
  go_enter Try.func5, Try.ntmps5
  have hx256 : xs.getD (m % n) 0 < 256 := byte_at h.2.2.1 _ (by have := Nat.mod_lt m (show 0 < n by omega); have := h.1; omega)
  obtain ⟨x0, hx0⟩ : ∃ x0, Hid (xs.getD (m % n) 0 = x0) := ⟨_, Lib.hid rfl⟩
  rw [hx0.out] at hx256
  have hmn0 : (0 : Int) ≤ (m : Int) % n := by omega
  have hmn1 : (m : Int) % n < n := Int.emod_lt_of_pos _ (by omega)
  have hlx : n ≤ xs.length := by have := h.1; omega
  have hlen : (vbytes xs).length = n := by have := h.1; simpa [vbytes] using this
  go_wp2_with (at_builtin; refine wpList_append_any _ rfl (.tmp 20) (.tmp 21) _ rfl w.heap.size 5 i0 _ 1 1 Try.underlying22 hi0 hz0 hz1 hz2 rfl (by omega) (.slice (some ⟨w.heap.size, 0, none⟩) 0 0) 0 [] rfl (World.ownsRow_lit w #[] 0 (Nat.le_refl _) (by simp [maxLen]) rfl) w.heap.size A n c (vbytes xs) rfl (h.reads.alloc (Nat.le_refl _) _) (vbytes_one xs) (by simp only [maxLen]; omega) (by omega) (by simp) ?_; intro v1 w1 hown hg hat; simp only [Nat.zero_add, List.nil_append] at hown; obtain ⟨g, cap, rfl, hgb, hgl⟩ := hown.form (by omega); have hb0 : Below w.heap.size w w1 := (below_new w (.cells #[] 5)).grown hg (by simp) (by simp [Value.ownBlock]); have hb := Lib.hid hb0; have hcl := hown.cellAt (m % n) (by have := Nat.mod_lt m (show 0 < n by omega); omega); have hfr := hown.frozenAt (m % n); rw [vb_at _ _ (by have := Nat.mod_lt m (show 0 < n by omega); omega)] at hcl; rw [hx0.out] at hcl; have hxr := u8_xor_nat x0 y hx256 hy; have HO := Lib.hid hown; clear hown hg hat hb0)
  have hB1 : Below w.heap.size w (w1.setCell ⟨g, m % n, none⟩ (.int .u8 ((x0 ^^^ y : Nat) : Int))) := hb.out.setCell (p := ⟨g, m % n, none⟩) hgb _
  have hz : ∀ u, (w1.setCell ⟨g, m % n, none⟩ u).heap.size = w1.heap.size := fun u => by simp [World.setCell]
  have hsz := hb.out.size
  have hO2 := (HO.out.stored (m % n) (.int .u8 ((x0 ^^^ y : Nat) : Int))).1
  rw [vb_set] at hO2
  have hxs2 : ∀ x ∈ xs.set (m % n) (x0 ^^^ y), x < 256 := fun x hx => by
    rcases List.mem_or_eq_of_mem_set hx with h' | h'
    · exact h.2.2.1 x h'
    · rw [h']; exact Nat.xor_lt_two_pow (n := 8) hx256 hy
  have hne : crcAll [xs] ≠ crcAll [xs.set (m % n) (x0 ^^^ y)] := fun e => by
    refine crcAll_set xs (m % n) (x0 ^^^ y) h.2.2.1 (by omega) (Nat.xor_lt_two_pow (n := 8) hx256 hy) (fun e2 => ?_) e.symm
    have := xor_cancel' (c := x0) (a := y) (b := 0) (by rw [e2, Nat.xor_zero, hx0.out])
    exact h2 this
  have Hne := Lib.hid hne
  clear hne
  refine (Of_calls _ _ _ [xs] _ (rows_one (c := c) _ _ (h.below (hB1.alloc (by rw [hz]; exact hsz) _)) (cell_new (hz _).symm _ _))).mono ?_
  rintro e w' ⟨rfl, rfl⟩
  go_wp2_with fail
  refine (Of_calls _ _ _ [xs.set (m % n) (x0 ^^^ y)] _ (rows_one (c := cap) _ _ (own_rdb ((hO2.alloc _).alloc _) (by omega) hxs2) (cell_new (by rw [size_new, hz]) _ _))).mono ?_
  rintro e w' ⟨rfl, rfl⟩
  have hb3 : ((crcAll [xs] : Int) != (crcAll [xs.set (m % n) (x0 ^^^ y)] : Int)) = true := by
    simp only [bne_iff_ne, ne_eq]
    intro e
    exact Hne.out (by exact_mod_cast e)
  go_wp2_with fail
  refine (known_calls _).mono ?_
  rintro e w' ⟨rfl, hk⟩
  go_wp2_with fail
  go_ret
  exact ⟨rfl, ((hB1.alloc (by rw [hz]; exact hsz) _).alloc (by simp [hz]; omega) _).trans (hk.mono (by simp [hz]; omega))⟩
end Go.Proofs.Ythpekahjifneoaa
