/- Walk of WirePacks. -/
import Derived.Test.YtodccdfpoocolaaWrRPk
set_option linter.unusedVariables false
namespace Go.Proofs.Ytodccdfpoocolaa
open Go.RowKit Go.Lib

theorem thingB_le (t : Th) : (thingB (itOf t)).length ≤ 8 + (1 + t.s.size) := by
  unfold itOf
  by_cases h1 : t.k = 1
  · rw [if_pos h1]; simp [thingB, bigB, bigTo_len]; omega
  · by_cases h2 : t.k = 2
    · rw [if_neg h1, if_pos h2]; simp only [thingB, List.length_cons, strB_len]; omega
    · rw [if_neg h1, if_neg h2]; simp only [thingB, List.length_cons, List.length_nil]; omega
theorem flat_tl (xs : List Th) : ((xs.map itOf).flatMap thingB).length ≤ 8 * xs.length + tl xs := by
  induction xs with
  | nil => simp
  | cons x r ih =>
    have := thingB_le x
    rw [List.map_cons, List.flatMap_cons, List.length_append, List.length_cons]
    have e : tl (x :: r) = (1 + x.s.size) + tl r := by simp [tl]
    rw [e]
    omega
theorem body_tl {xs : List Th} (h : tl xs ≤ 9000) (hn : xs.length ≤ 100) : (bodyB (xs.map itOf)).length ≤ 20000 := by
  have := flat_tl xs
  unfold bodyB
  rw [List.length_cons]
  omega
/-- What Pack tells: bytes, a number. -/
theorem pack_post {w : World} {r : Option (List Nat)} {e : Ending} {w' : World} (h : PackPost w r e w') :
    ∃ A c, e = .returned (.tuple #[.slice A (r.getD []).length c, .int .i64 (if r.isSome then 0 else 1)]) ∧ Rf flB w' A (r.getD []).length (r.getD []) ∧ Below w.heap.size w w' := by
  rcases h with ⟨bs, v, rfl, rfl, h2, h3⟩ | ⟨rfl, rfl, h3⟩
  · obtain ⟨A, c, rfl, hR⟩ := h2.read (by decide)
    exact ⟨A, c, rfl, hR, h3⟩
  · exact ⟨none, 0, rfl, Rf.nil_ _ _ _, h3⟩
set_option maxHeartbeats 4000000 in
theorem packs_calls (A : Option Addr) (n c : Nat) (xs : List Th) (w : World) (hA : Rf flTh w A n xs) (hs : Sz xs) :
    Calls Try.prog 4 #[.slice A n c] w fun e w' => e = .returned (.bool true) ∧ Below w.heap.size w w' := by
  have h1 := Lib.hid hA.1
  have HA := Lib.hid hA
  have HS := Lib.hid hs
  clear hA hs
  go_enter Try.func4, Try.ntmps4
  go_wp2_with fail
  refine (long8_calls A n c xs w HA.out HS.out).mono ?_
  rintro e w1 ⟨rfl | ⟨rfl, hT, hn⟩, hb1⟩
  · go_wp2_with fail
    go_ret
    exact ⟨rfl, hb1⟩
  have hbody := Lib.hid (body_tl hT (by have := h1.out; omega))
  have HB1 := Lib.hid hb1
  have HN := Lib.hid hn
  clear hT hb1 hn
  go_wp2_with fail
  refine (made8_calls A n c xs w1 (HA.out.stay HB1.out) HN.out).mono ?_
  rintro e w2 ⟨b, b', rfl, hP⟩
  have HP := Lib.hid hP
  clear hP
  go_wp2_with fail
  refine (Pack_calls w2 b (xs.map itOf) HP.out.cz (by have := hbody.out; omega) (by have := h1.out; have := HN.out; simp; omega)).mono ?_
  intro e w3 h3
  obtain ⟨A3, c3, rfl, R3, b3⟩ := pack_post h3
  have hP3 := HP.out.stay b3
  obtain ⟨v', hrc⟩ := hP3.rc
  have HRC := Lib.hid hrc
  have Q3 := Lib.hid (And.intro R3 (HB1.out.trans (hP3.below.mono HB1.out.size)))
  clear h3 R3 b3 hP3 hrc
  have HPB := Lib.hid (RefPack_calls w3 _ b' v' (xs.map plainT) HRC.out (plt_plain xs) (by rw [plain_its]; have := hbody.out; omega) (by have := h1.out; have := HN.out; simp; omega))
  rw [plain_its] at HPB
  generalize packB (xs.map itOf) = r at *
  generalize hrl : r.getD [] = rl at *
  generalize hro : (if r.isSome = true then (0 : Int) else 1) = ro at *
  have HRL := Lib.hid (And.intro hrl hro)
  clear hrl hro
  go_wp2_with fail
  refine HPB.out.mono ?_
  intro e w4 h4
  obtain ⟨A4, c4, rfl, R4, b4⟩ := pack_post h4
  rw [HRL.out.1, HRL.out.2] at *
  have hR3 := Q3.out.1.stay b4
  have k1 := conv_str (c := c3) hR3
  have k2 := conv_str (c := c4) R4
  have HB4 := Lib.hid (Q3.out.2.trans (b4.mono Q3.out.2.size))
  clear h4 R4 b4 hR3 Q3
  go_wp2_with fail
  refine (known_calls _).mono ?_
  rintro e w5 ⟨rfl, b5⟩
  go_wp2_with fail
  go_ret
  exact ⟨rfl, HB4.out.trans (b5.mono HB4.out.size)⟩
end Go.Proofs.Ytodccdfpoocolaa
