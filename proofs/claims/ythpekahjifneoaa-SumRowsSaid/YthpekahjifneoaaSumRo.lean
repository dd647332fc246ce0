/- Walk of SumRows. -/
import Derived.Test.YthpekahjifneoaaSumTurn
import Derived.Test.YthpekahjifneoaaKinds
namespace Go.Proofs.Ythpekahjifneoaa
open Go.ChangeShapes Go.WideShapes Go.ChangeAt Go.RowKit

theorem opens_rows : Opens Try.prog 28 (Kd.slice (Kd.slice (Kd.int .u8))) :=
  opens_slice Try.underlying28 (by kernel_rfl) (by decide) (of_decide_eq_true (by kernel_rfl)) (opens_slice Try.underlying22 (by kernel_rfl) (by decide) (of_decide_eq_true (by kernel_rfl)) (opens_int Try.underlying5 (by kernel_rfl)))
def nats (xs : List Int) : List Nat := xs.map Int.toNat
theorem rdb_of_rds {w : World} {A : Option Addr} {n : Nat} {xs : List Int} (h : RdS (Kd.int .u8) w A n xs) (hall : n = 0 → xs = []) : RdB w A n (nats xs) := by
  obtain ⟨h1, h2, h3⟩ := h
  rcases Nat.eq_zero_or_pos n with h0 | h0
  · rw [hall h0]
    exact ⟨by simp [nats, h0], by omega, by simp [nats], fun h => absurd h (by omega)⟩
  obtain ⟨b, off, rfl, hc⟩ := h3 h0
  have hall2 : ∀ j x, xs[j]? = some x → 0 ≤ x ∧ x < 256 ∧ w.cell? ⟨b, off + j, none⟩ = some (.int .u8 x) := by
    intro j x hx
    obtain ⟨cs, ⟨rfl, hw⟩, hcell⟩ := hc j x hx
    have := u8_wf hw
    have hk := hcell 0 _ rfl
    have e : off + j * (Kd.int .u8).sz + 0 = off + j := by show off + j * 1 + 0 = _; omega
    rw [e] at hk
    exact ⟨this.1, this.2, hk⟩
  refine ⟨by simp [nats, h1], by omega, fun y hy => ?_, fun _ => ⟨b, off, rfl, fun j hj => ?_⟩⟩
  · obtain ⟨x, hx, rfl⟩ := List.mem_map.1 hy
    obtain ⟨i, hi, rfl⟩ := List.getElem_of_mem hx
    have := hall2 i _ (List.getElem?_eq_getElem hi)
    omega
  · have hj2 : j < xs.length := by omega
    have := hall2 j _ (List.getElem?_eq_getElem hj2)
    rw [this.2.2]
    simp [nats, List.getD_eq_getElem?_getD, List.getElem?_eq_getElem hj2]
    omega
theorem rows_of_rds {w : World} {A : Option Addr} {n : Nat} {xs : List (List Int)} (h : RdS (Kd.slice (Kd.int .u8)) w A n xs) : RdRows w A n (xs.map nats) ∧ ∀ r ∈ xs.map nats, r.length ≤ 140737488351232 := by
  obtain ⟨h1, h2, h3⟩ := h
  have key : ∀ j x b off, xs[j]? = some x → (∃ cs, (Kd.slice (Kd.int .u8)).K w x cs ∧ ∀ i v, cs[i]? = some v → w.cell? ⟨b, off + j * (Kd.slice (Kd.int .u8)).sz + i, none⟩ = some v) →
      ∃ A c, w.cell? ⟨b, off + j, none⟩ = some (.slice A (nats x).length c) ∧ RdB w A (nats x).length (nats x) ∧ (nats x).length ≤ 140737488351232 := by
    rintro j x b off hx ⟨cs, ⟨A1, n1, c1, rfl, _, _, hr⟩, hcell⟩
    have hk := hcell 0 _ rfl
    have e : off + j * (Kd.slice (Kd.int .u8)).sz + 0 = off + j := by show off + j * 1 + 0 = _; omega
    rw [e] at hk
    have hn : (nats x).length = n1 := by simp [nats, hr.1]
    rw [hn]
    exact ⟨A1, c1, hk, rdb_of_rds hr (fun h0 => List.eq_nil_of_length_eq_zero (by rw [hr.1, h0])), hr.2.1⟩
  constructor
  · refine ⟨by simp [h1], by omega, fun hn => ?_⟩
    obtain ⟨b, off, rfl, hc⟩ := h3 hn
    refine ⟨b, off, rfl, fun j hj => ?_⟩
    have hj2 : j < xs.length := by omega
    obtain ⟨A1, c1, r1, r2, r3⟩ := key j _ b off (List.getElem?_eq_getElem hj2) (hc j _ (List.getElem?_eq_getElem hj2))
    have hd : (xs.map nats).getD j [] = nats xs[j] := by simp [List.getD_eq_getElem?_getD, List.getElem?_eq_getElem hj2]
    rw [hd]
    exact ⟨A1, c1, r1, r2⟩
  · intro r hr
    obtain ⟨x, hx, rfl⟩ := List.mem_map.1 hr
    obtain ⟨i, hi, rfl⟩ := List.getElem_of_mem hx
    obtain ⟨b, off, _, hc⟩ := h3 (by omega)
    obtain ⟨_, _, _, _, r3⟩ := key i _ b off (List.getElem?_eq_getElem hi) (hc i _ (List.getElem?_eq_getElem hi))
    exact r3
theorem RdRows.below {w w1 : World} {L : Option Addr} {n : Nat} {ls : List (List Nat)} (h : RdRows w L n ls) (hb : Below w.heap.size w w1) : RdRows w1 L n ls := by
  obtain ⟨h1, h2, h3⟩ := h
  refine ⟨h1, h2, fun hn => ?_⟩
  obtain ⟨b, off, e, hc⟩ := h3 hn
  refine ⟨b, off, e, fun j hj => ?_⟩
  obtain ⟨A, c, r1, r2⟩ := hc j hj
  exact ⟨A, c, cell_stay hb r1, r2.below hb⟩
theorem flat_snoc (ls : List (List Nat)) (k : Nat) (h : k < ls.length) : (ls.take (k + 1)).flatten = (ls.take k).flatten ++ ls.getD k [] := by
  rw [List.take_succ_eq_append_getElem h, List.flatten_append]
  simp [List.getD_eq_getElem?_getD, List.getElem?_eq_getElem h]
theorem vb_append (xs ys : List Nat) : vbytes xs ++ vbytes ys = vbytes (xs ++ ys) := by simp [vbytes]
theorem vb_length (xs : List Nat) : (vbytes xs).length = xs.length := by simp [vbytes]
/-- What is owned reads, whether nil or not. -/
theorem own_any {w : World} {base n : Nat} {v : Value} {xs : List Nat} (h : w.ownsRow base 5 1 v n (vbytes xs)) (hn : n ≤ 9223372036854775807) (hx : ∀ x ∈ xs, x < 256) : ∃ A c, v = .slice A n c ∧ RdB w A n xs := by
  rcases h.2 with ⟨rfl, h0⟩ | ⟨g, cap, cur, rfl, _⟩
  · subst h0
    have hl : xs.length = 0 := by have := h.1; simpa [vbytes] using this
    exact ⟨none, 0, rfl, hl, by omega, hx, fun h => absurd h (by omega)⟩
  · exact ⟨_, cap, rfl, own_rdb h hn hx⟩

set_option maxHeartbeats 1000000 in
theorem rows_calls (L : Option Addr) (n c : Nat) (ls : List (List Nat)) (w : World) (h : RdRows w L n ls) (hr : ∀ r ∈ ls, r.length ≤ 140737488351232) :
    Calls Try.prog 4 #[.slice L n c] w fun e w' => e = .returned (.bool true) ∧ Below w.heap.size w w' := by
  obtain ⟨i0, hi0, hz0, hz1, hz2⟩ := info_parts info_u8
  have hm := h.2.1
  have hlen := h.1
  go_enter Try.func4, Try.ntmps4
  go_wp2_with fail
  go_loopw [3, 4] (fun v i wr => ∃ k : Nat, k ≤ n ∧ i = .int .i64 k ∧ wr.ownsRow w.heap.size 5 1 v (ls.take k).flatten.length (vbytes (ls.take k).flatten) ∧ (ls.take k).flatten.length ≤ 2000 ∧ (∀ x ∈ (ls.take k).flatten, x < 256) ∧ Below w.heap.size w wr) (fun _ i _ => n - (intOf i).toNat)
  case atStart => exact ⟨0, by omega, rfl, by simpa [vbytes] using World.ownsRow_nil w w.heap.size 5 1, by simp, by simp, Below.refl _ _⟩
  case round =>
    obtain ⟨k, hk, rfl, hown, h2000, hall, hbr⟩ := hrel
    by_cases hlt : k < n
    · obtain ⟨b, off, rfl, hcell⟩ := h.2.2 (by omega)
      obtain ⟨A, c1, hrow0, hrd0⟩ := hcell k hlt
      have hrow := cell_keep hbr (cell_lt hrow0) hrow0
      have hrl : (ls.getD k []).length ≤ 140737488351232 := hr _ (by rw [List.getD_eq_getElem?_getD, List.getElem?_eq_getElem (show k < ls.length by omega)]; exact List.getElem_mem _)
      have hsn := flat_snoc ls k (by omega)
      have hrd := hrd0.below hbr
      have hb256 := hrd.2.2.1
      have HR := Lib.hid hrd
      have HS := Lib.hid hsn
      clear hcell hrow0 hrd0 hrd hsn
      generalize ls.getD k [] = row at *
      generalize (ls.take k).flatten = acc at *
      obtain ⟨A0, c0, rfl, hacc⟩ := own_any hown (by omega) hall
      have HO := Lib.hid hown
      have HA := Lib.hid hacc
      clear hown hacc
      by_cases h300 : (300 : Int) < k
      · go_wp2_with fail
        go_ret
        exact ⟨rfl, hbr⟩
      by_cases h2k : (2000 : Int) < (acc.length : Int) + row.length
      · go_wp2_with fail
        go_ret
        exact ⟨rfl, hbr⟩
      go_wp2_with (at_builtin; refine wpList_append_any _ rfl (.tmp 24) (.tmp 28) _ rfl w.heap.size 5 i0 _ 1 1 Try.underlying22 hi0 hz0 hz1 hz2 rfl (by omega) (.slice A0 acc.length c0) acc.length (vbytes acc) rfl HO.out wr.heap.size A row.length c1 (vbytes row) rfl HR.out.reads (vbytes_one row) (by simp only [maxLen]; omega) (by omega) hbr.size ?_; intro v1 w1 hown1 hg1 hat1)
      go_roundw
      case rel =>
        refine ⟨k + 1, by omega, by go_num, ?_, ?_, ?_, hbr.grown hg1 hbr.size (own_base HO.out)⟩
        · rw [HS.out, List.length_append, ← vb_append]; exact hown1
        · rw [HS.out, List.length_append]; omega
        · rw [HS.out]
          intro x hx
          rcases List.mem_append.1 hx with hx | hx
          · exact hall x hx
          · exact hb256 x hx
      case measure => simp [intOf]; omega
    · have hkn : k = n := by omega
      subst hkn
      rw [List.take_of_length_le (by omega)] at hown h2000 hall
      obtain ⟨A0, c0, rfl, hacc⟩ := own_any hown (by omega) hall
      have HE := Lib.hid (crcAll_flat ls)
      have HL := Lib.hid hlen
      clear hown hlen
      generalize ls.flatten = fl at *
      go_wp2_with fail
      refine (Of_calls _ _ _ ls _ (h.below hbr)).mono ?_
      rintro e w' ⟨rfl, rfl⟩
      go_wp2_with fail
      refine (Of_calls _ _ _ [fl] _ (rows_one (c := c0) _ _ (hacc.below (below_new _ _)) (cell_new rfl _ _))).mono ?_
      rintro e w' ⟨rfl, rfl⟩
      rw [← HE.out]
      go_wp2_with fail
      refine (known_calls _).mono ?_
      rintro e w' ⟨rfl, hk⟩
      go_wp2_with fail
      go_ret
      exact ⟨rfl, (hbr.alloc hbr.size _).trans (hk.mono (by simp; have := hbr.size; omega))⟩
end Go.Proofs.Ythpekahjifneoaa
