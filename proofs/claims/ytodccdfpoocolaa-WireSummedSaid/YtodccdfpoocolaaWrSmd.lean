/- Walk of WireSummed. -/
import Derived.Test.YtodccdfpoocolaaWrAlk
import Derived.Test.YtodccdfpoocolaaWrLaw
set_option linter.unusedVariables false
namespace Go.Proofs.Ytodccdfpoocolaa
open Go.RowKit Go.Lib

theorem head_cells {z : Nat} {bs : List Nat} (hz : z = crcAll [bs]) (hcr : z < 4294967296) (hl : bs.length < 65536) :
    (#[Value.int .u8 ((z : Int) / 16777216), .int .u8 ((z : Int) / 65536 % 256), .int .u8 ((z : Int) / 256 % 256), .int .u8 ((z : Int) % 256), .int .u8 ((bs.length : Int) / 256), .int .u8 ((bs.length : Int) % 256)] : Array Value).toList = (headB bs).flatMap flB.enc := by
  unfold headB bigB bigTo
  rw [← hz]
  simp only [List.range_succ, List.range_zero, List.nil_append, List.cons_append, List.map_cons, List.map_nil, List.flatMap_cons, List.flatMap_nil, flB, byteAt]
  simp
  omega
theorem pack_post_some {w : World} {bs : List Nat} {e : Ending} {w' : World} (h : PackPost w (some bs) e w') :
    ∃ A c, e = .returned (.tuple #[.slice A bs.length c, .int .i64 0]) ∧ Rf flB w' A bs.length bs ∧ Below w.heap.size w w' := pack_post h
theorem own_of6 {w : World} {base : Nat} {e : TypeId} {v : Value} {xs : List Nat} {n : Nat} (h : Ow flB w base e v xs) (hn : xs.length = n) : w.ownsRow base e 1 v n (xs.flatMap flB.enc) := by
  subst hn
  exact h
set_option maxHeartbeats 8000000 in
theorem summed_calls (A : Option Addr) (c : Nat) (bs : List Nat) (w : World) (hA : Rf flB w A bs.length bs) (hb : ∀ x ∈ bs, x < 256) (hnc : bs.length ≤ c) (hc : c ≤ 9223372036854775807) :
    Calls Try.prog 6 #[.slice A bs.length c] w fun e w' => e = .returned (.bool true) ∧ Below w.heap.size w w' := by
  obtain ⟨i0, hi0, hz0, hz1, hz2⟩ := info_parts info_b
  have HA := Lib.hid hA
  have hm := hA.2.1
  by_cases h5 : (3000 : Int) < (bs.length : Int)
  · clear hA hb
    go_enter Try.func6, Try.ntmps6
    go_wp2_with fail
    go_ret
    exact ⟨rfl, Below.refl _ _⟩
  have HB := Lib.hid hb
  have K1 := Lib.hid (Ref_calls A bs.length c bs w (rdb_of hA hb))
  have hcr := crcAll_u32 [bs]
  have HC := Lib.hid (show crcAll [bs] = crcAll [bs] from rfl)
  clear hA hb
  obtain ⟨z, hz⟩ : ∃ z, z = crcAll [bs] := ⟨_, rfl⟩
  rw [← hz] at K1 hcr
  have HZ := Lib.hid hz
  clear hz HC
  go_enter Try.func6, Try.ntmps6
  go_wp2_with fail
  refine K1.out.mono ?_
  rintro e w1 ⟨rfl, rfl⟩
  have hlen6 : (headB bs ++ bs).length = 6 + bs.length := by rw [List.length_append, headB_len]
  have hbt : ∀ x ∈ headB bs ++ bs, x < 256 := by
    intro y hy
    rcases List.mem_append.1 hy with h | h
    · unfold headB at h
      rcases List.mem_append.1 h with h | h
      · exact bigB_byte _ _ _ h
      · exact bigB_byte _ _ _ h
    · exact HB.out y h
  obtain ⟨q1, q2⟩ := refU_eq hbt
  have Q1 := Lib.hid q1
  have Q2 := Lib.hid q2
  have HBT := Lib.hid hbt
  have HE := Lib.hid (head_cells HZ.out hcr (by omega))
  have hE := Lib.hid (Ow.lit' (f := flB) (xs := headB bs) w w.heap.size 5 _ w.heap.size rfl (Nat.le_refl _) (by rw [headB_len]; omega) HE.out)
  have HA1 := Lib.hid (HA.out.stay (below_new w (.cells #[Value.int .u8 ((z : Int) / 16777216), .int .u8 ((z : Int) / 65536 % 256), .int .u8 ((z : Int) / 256 % 256), .int .u8 ((z : Int) % 256), .int .u8 ((bs.length : Int) / 256), .int .u8 ((bs.length : Int) % 256)] 5)))
  have HL6 := Lib.hid hlen6
  have HH := Lib.hid (headB_len bs)
  rw [HH.out] at hE
  clear hbt q1 q2 hlen6
  generalize headB bs = hd at *
  obtain ⟨L, hL⟩ : ∃ L, L = (hd ++ bs).length := ⟨_, rfl⟩
  have hLb : L ≤ 3006 := by rw [hL, HL6.out]; omega
  have HLL := Lib.hid hL
  clear hL HL6
  go_wp2_with (at_builtin; refine wpList_append_any _ rfl (.tmp 34) (.tmp 35) _ rfl w.heap.size 5 i0 _ 1 1 Try.underlying25 hi0 hz0 hz1 hz2 rfl (by omega) (.slice (some ⟨w.heap.size, 0, none⟩) 6 6) 6 (hd.flatMap flB.enc) rfl (own_of6 hE.out HH.out) _ A bs.length c (bs.flatMap flB.enc) rfl (HA1.out.reads (by decide)) (flat_one flB _) (by simp only [maxLen]; omega) (by omega) (by simp) ?_; intro v6 w6 hown6 hg6 hat6; have ho6 : Ow flB w6 w.heap.size 5 v6 (hd ++ bs) := (Ow.join (f := flB) (xs := hd) (ys := bs) (m := bs.length) rfl (by rw [HH.out]; exact hown6)); obtain ⟨A6, c6, hv6, R6, hl1, hl2⟩ := ho6.readc (by decide); rw [← HLL.out] at hv6 R6 hl1; subst hv6; have HB6 := Lib.hid ((below_new w _).grown hg6 (by simp) (by intro k hk; simp [Value.ownBlock] at hk; omega)); have HR6 := Lib.hid R6; have HQ6 := Lib.hid (And.intro hl1 hl2); clear ho6 hown6 hg6 hat6 R6 hl1 hl2)
  generalize htb : hd ++ bs = tb at *
  have HTB := Lib.hid htb
  clear htb
  have HU := Lib.hid (Unpack_calls w6 A6 L c6 tb HR6.out HBT.out HQ6.out.1 HQ6.out.2 (by omega))
  refine HU.out.mono ?_
  rintro e w7 (⟨its, d, v4, hi, rfl, hc4, b2⟩ | ⟨hi, rfl, b2⟩)
  · have HB7 := Lib.hid (HB6.out.trans (b2.mono HB6.out.size))
    have HI := Lib.hid hi
    have HC := Lib.hid hc4.cz
    have HR7 := Lib.hid (HR6.out.stay b2)
    have HV := Lib.hid (RefUn_calls w7 A6 L c6 tb HR7.out HBT.out HQ6.out.1 HQ6.out.2)
    clear b2 hc4 hi HU
    go_wp2_with fail
    refine HV.out.mono ?_
    rintro e w8 (⟨ts, b', v', hr, rfl, hrc, b3⟩ | ⟨hr, rfl, b3⟩)
    · have HB8 := Lib.hid (HB7.out.trans (b3.mono HB7.out.size))
      have hq := (Q1.out ts hr).1
      obtain ⟨p1, p2, p3⟩ := refU_inv HBT.out hr
      rw [HI.out] at hq
      injection hq with hq
      have HC8 := Lib.hid (HC.out.stay b3)
      have HR8 := Lib.hid (HR7.out.stay b3)
      rw [hq] at HC8
      have HP := Lib.hid (Pack_calls w8 d (ts.map itOf) HC8.out (by have := (packB_ok p1).2.1; omega) (by rw [List.length_map]; exact p2))
      rw [p1] at HP
      clear b3 hr hq hrc HV p1 p2 p3
      go_wp2_with fail
      refine HP.out.mono ?_
      rintro e w9 h9
      obtain ⟨A9, c9, rfl, R9, b4⟩ := pack_post_some h9
      have HB9 := Lib.hid (HB8.out.trans (b4.mono HB8.out.size))
      have k1 := conv_str (c := c9) R9
      have k2 := conv_str (c := c6) (HR8.out.stay b4)
      clear h9 R9 b4
      go_wp2_with fail
      refine (known_calls _).mono ?_
      rintro e w4 ⟨rfl, b4⟩
      go_wp2_with fail
      go_ret
      exact ⟨rfl, HB9.out.trans (b4.mono HB9.out.size)⟩
    · rw [Q2.out hr] at HI
      cases HI.out
  · have HB7 := Lib.hid (HB6.out.trans (b2.mono HB6.out.size))
    have HI := Lib.hid hi
    have HR7 := Lib.hid (HR6.out.stay b2)
    have HV := Lib.hid (RefUn_calls w7 A6 L c6 tb HR7.out HBT.out HQ6.out.1 HQ6.out.2)
    clear b2 hi HU
    go_wp2_with fail
    refine HV.out.mono ?_
    rintro e w8 (⟨ts, b', v', hr, rfl, hrc, b3⟩ | ⟨hr, rfl, b3⟩)
    · rw [(Q1.out ts hr).1] at HI
      cases HI.out
    · have HB8 := Lib.hid (HB7.out.trans (b3.mono HB7.out.size))
      clear b3 hr
      go_wp2_with fail
      refine (known_calls _).mono ?_
      rintro e w4 ⟨rfl, b4⟩
      go_wp2_with fail
      go_ret
      exact ⟨rfl, HB8.out.trans (b4.mono HB8.out.size)⟩
end Go.Proofs.Ytodccdfpoocolaa
