/- Walk of WireTakes. -/
import Derived.Test.YtodccdfpoocolaaWrAlk
set_option linter.unusedVariables false
namespace Go.Proofs.Ytodccdfpoocolaa
open Go.RowKit Go.Lib

set_option maxHeartbeats 8000000 in
theorem takes_calls (A : Option Addr) (c : Nat) (bs : List Nat) (w : World) (hA : Rf flB w A bs.length bs) (hb : ∀ x ∈ bs, x < 256) (hnc : bs.length ≤ c) (hc : c ≤ 9223372036854775807) :
    Calls Try.prog 5 #[.slice A bs.length c] w fun e w' => e = .returned (.bool true) ∧ Below w.heap.size w w' := by
  obtain ⟨i0, hi0, hz0, hz1, hz2⟩ := info_parts info_b
  have HA := Lib.hid hA
  by_cases h5 : (5000 : Int) < (bs.length : Int)
  · clear hA hb
    go_enter Try.func5, Try.ntmps5
    go_wp2_with fail
    go_ret
    exact ⟨rfl, Below.refl _ _⟩
  obtain ⟨q1, q2⟩ := refU_eq hb
  have Q1 := Lib.hid q1
  have Q2 := Lib.hid q2
  have HB := Lib.hid hb
  have hE := Lib.hid (Ow.lit' (f := flB) (xs := []) w w.heap.size 5 #[] w.heap.size rfl (Nat.le_refl _) (by simp) rfl)
  have HA1 := Lib.hid (hA.stay (below_new w (.cells #[] 5)))
  clear hA hb q1 q2
  go_enter Try.func5, Try.ntmps5
  go_wp2_with (at_builtin; refine wpList_append_any _ rfl (.tmp 11) (.tmp 12) _ rfl w.heap.size 5 i0 _ 1 1 Try.underlying25 hi0 hz0 hz1 hz2 rfl (by omega) (.slice (some ⟨w.heap.size, 0, none⟩) 0 0) 0 [] rfl hE.out _ A bs.length c (bs.flatMap flB.enc) rfl (HA1.out.reads (by decide)) (flat_one flB _) (by simp only [maxLen]; omega) (by omega) (by simp) ?_; intro v6 w6 hown6 hg6 hat6; have ho6 : Ow flB w6 w.heap.size 5 v6 bs := (by simpa using Ow.join (f := flB) (xs := []) (ys := bs) (m := bs.length) rfl hown6); obtain ⟨A6, c6, rfl, R6, hl1, hl2⟩ := ho6.readc (by decide); have HB6 := Lib.hid ((below_new w (.cells #[] 5)).grown hg6 (by simp) (by intro k hk; simp [Value.ownBlock] at hk; omega)); have HR6 := Lib.hid R6; have HL6 := Lib.hid (And.intro hl1 hl2); clear ho6 hown6 hg6 hat6 R6 hl1 hl2)
  have HU := Lib.hid (Unpack_calls w6 A6 bs.length c6 bs HR6.out HB.out HL6.out.1 HL6.out.2 (by omega))
  have HA6 := Lib.hid (HA.out.stay HB6.out)
  refine HU.out.mono ?_
  rintro e w7 (⟨its, d, v4, hi, rfl, hc4, b2⟩ | ⟨hi, rfl, b2⟩)
  · have HB7 := Lib.hid (HB6.out.trans (b2.mono HB6.out.size))
    have HI := Lib.hid hi
    have HC := Lib.hid hc4.cz
    have HV := Lib.hid (RefUn_calls w7 A bs.length c bs (HA.out.stay HB7.out) HB.out hnc hc)
    clear b2 hc4 hi HU
    go_wp2_with fail
    refine HV.out.mono ?_
    rintro e w8 (⟨ts, b', v', hr, rfl, hrc, b3⟩ | ⟨hr, rfl, b3⟩)
    · have HB8 := Lib.hid (HB7.out.trans (b3.mono HB7.out.size))
      have hq := (Q1.out ts hr).1
      rw [HI.out] at hq
      injection hq with hq
      have HC8 := Lib.hid (HC.out.stay b3)
      rw [hq] at HC8
      have HAL := Lib.hid (alike8_calls w8 _ _ _ _ ts HC8.out hrc (refU_plain hr))
      clear b3 hr hq hrc HV
      go_wp2_with fail
      refine HAL.out.mono ?_
      rintro e w9 ⟨rfl, b4⟩
      have HB9 := Lib.hid (HB8.out.trans (b4.mono HB8.out.size))
      clear b4
      go_wp2_with fail
      refine (known_calls _).mono ?_
      rintro e w4 ⟨rfl, b4⟩
      go_wp2_with fail
      go_ret
      exact ⟨rfl, HB9.out.trans (b4.mono HB9.out.size)⟩
    · rw [Q2.out hr] at HI
      cases HI.out
  · have HB7 := Lib.hid (HB6.out.trans (b2.mono HB6.out.size))
    have HI := Lib.hid hi
    have HV := Lib.hid (RefUn_calls w7 A bs.length c bs (HA.out.stay HB7.out) HB.out hnc hc)
    clear b2 hi HU
    go_wp2_with fail
    refine HV.out.mono ?_
    rintro e w8 (⟨ts, b', v', hr, rfl, hrc, b3⟩ | ⟨hr, rfl, b3⟩)
    · rw [(Q1.out ts hr).1] at HI
      cases HI.out
    · have HB8 := Lib.hid (HB7.out.trans (b3.mono HB7.out.size))
      clear b3 hr
      go_wp2_with fail
      refine (known_calls _).mono ?_
      rintro e w4 ⟨rfl, b4⟩
      go_wp2_with fail
      go_ret
      exact ⟨rfl, HB8.out.trans (b4.mono HB8.out.size)⟩
end Go.Proofs.Ytodccdfpoocolaa
