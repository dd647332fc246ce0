/- flat.Lay. -/
import Derived.Test.YtmaehdoejpecgaaFlRds
set_option linter.unusedVariables false
namespace Go.Proofs.Ytmaehdoejpecgaa
open Go.ChangeShapes Go.WideShapes Go.ChangeAt Go.RowKit

/-- A crate, and a row of numbers beside it. -/
structure Ly (W0 : World) (b : Nat) (its : List It) (A : Option Addr) (c : Nat) (ns : List Int) (w : World) : Prop where
  cr : ∃ v, Cr w W0.heap.size b v its
  row : Ow flI w W0.heap.size 3 (.slice A ns.length c) ns
  below : Below W0.heap.size W0 w
theorem Ly.int {W0 w : World} {b c : Nat} {its : List It} {A : Option Addr} {ns : List Int} (h : Ly W0 b its A c ns w) (n : Int) :
    Calls Try.prog 28 #[.pointer (some ⟨b, 0, none⟩), .int .i64 n] w fun e w' => e = .returned (.bool (decide (its.length < 100))) ∧ Ly W0 b (addTo its (.num n)) A c ns w' := by
  obtain ⟨⟨v, h1⟩, h2, h5⟩ := h
  refine (AddInt_calls n w W0.heap.size b v its h1 h5.size).mono ?_
  rintro e w1 (⟨hl, rfl, hb⟩ | ⟨hl, rfl, v1, hc, ho, _⟩)
  · refine ⟨by rw [decide_eq_false (by omega)], ?_⟩
    rw [show addTo its (.num n) = its from if_neg (by omega)]
    exact ⟨⟨v, h1.stay hb⟩, h2.stay hb, h5.trans (hb.mono h5.size)⟩
  · refine ⟨by rw [decide_eq_true hl], ?_⟩
    rw [addTo_fit _ hl]
    refine ⟨⟨v1, hc⟩, h2.only ho ?_, h5.trans (ho.below h5.size (fun q hq hs => (h1.foot q hs).1))⟩
    rintro k hk (e | e)
    · subst e; exact own_not_blk h2 h1.blk (by decide) hk
    · exact own_not_own h1.own h2 (by decide) k e hk
def layN (e c : Int) (xs : List Rs) : List Int := e :: c :: (xs.length : Int) :: numsOf xs
theorem layN_len (e c : Int) (xs : List Rs) : (layN e c xs).length = 3 + xs.length * 4 := by
  unfold layN; simp [numsOf_len]; omega
def layI (ns : List Int) : List It := .txt stateB :: ns.map It.num
/-- The items so far: all, as long as there is room. -/
def Lt (ns : List Int) (k : Nat) (its : List It) : Prop := its.length = min (k + 1) 100 ∧ (k ≤ 99 → its = layI (ns.take k))
theorem lt_step {ns : List Int} {k : Nat} {its : List It} {n : Int} (h : Lt ns k its) (hx : ns[k]? = some n) : Lt ns (k + 1) (addTo its (.num n)) := by
  obtain ⟨h1, h2⟩ := h
  by_cases hl : its.length < 100
  · have hk : k ≤ 98 := by omega
    rw [addTo_fit _ hl]
    refine ⟨by simp; omega, fun _ => ?_⟩
    rw [h2 (by omega), List.take_add_one, hx]
    simp [layI]
  · rw [show addTo its (.num n) = its from if_neg hl]
    exact ⟨by omega, fun hk => by omega⟩
/-- What Lay leaves. -/
def LayPost (w : World) (ns : List Int) (e : Ending) (w' : World) : Prop :=
  (ns.length ≤ 99 ∧ ∃ b v, e = .returned (.pointer (some ⟨b, 0, none⟩)) ∧ Cr w' w.heap.size b v (layI ns) ∧ Below w.heap.size w w') ∨
  (99 < ns.length ∧ e = .returned (.pointer none) ∧ Below w.heap.size w w')
set_option maxHeartbeats 4000000 in
theorem Lay_calls (ep ct : Int) (A : Option Addr) (n c : Nat) (xs : List Rs) (w : World) (hA : Rf flR w A n xs) (hn : n ≤ 1000) :
    Calls Try.prog 31 #[.int .i64 ep, .int .i64 ct, .slice A n c] w (LayPost w (layN ep ct xs)) := by
  obtain ⟨i0, hi0, hz0, hz1, hz2⟩ := info_parts info_int
  have hxl := hA.1
  have HA := Lib.hid hA
  have HXL := Lib.hid hxl
  clear hA hxl
  go_enter Try.func31, Try.ntmps31
  go_wp2_with fail
  refine (boxNew_calls w).mono ?_
  rintro e w1 ⟨b, rfl, hc, hb1⟩
  go_wp2_with fail
  refine (AddText_calls stateB w1 w.heap.size b _ _ hc hb1.size).mono ?_
  rintro e w2 (⟨hl, _, _⟩ | ⟨_, rfl, v1, hc2, ho, _⟩)
  · simp at hl
  have hb2 : Below w.heap.size w w2 := hb1.trans (ho.below hb1.size (fun q hq hs => (hc.foot q hs).1))
  have HC2 := Lib.hid hc2
  clear hc ho
  have hs2 := hb2.size
  go_wp2_with fail
  have hb3 : Below w.heap.size w (w2.alloc (.cells #[.int .i64 ep, .int .i64 ct, .int .i64 (n : Int)] 3)) := hb2.alloc hs2 _
  refine (Of_calls A n c xs _ (HA.out.stay hb3) (by omega)).mono ?_
  rintro e w4 ⟨v4, rfl, o4, b4⟩
  obtain ⟨A4, c4, rfl, R4⟩ := o4.read (by decide)
  have hL4 : Ow flI w4 w.heap.size 3 (.slice (some ⟨w2.heap.size, 0, none⟩) 3 3) [ep, ct, (n : Int)] :=
    (Ow.lit (f := flI) (xs := [ep, ct, (n : Int)]) w2 w.heap.size 3 #[.int .i64 ep, .int .i64 ct, .int .i64 (n : Int)] hs2 (by simp) rfl).stay b4
  have hb4 : Below w.heap.size w w4 := hb3.trans (b4.mono hb3.size)
  have hs4 := hb4.size
  have hs43 := b4.size
  rw [World.size_alloc] at hs43
  have hnl := Lib.hid (numsOf_len xs)
  have HC4 := Lib.hid ((HC2.out.stay (below_new w2 (.cells #[.int .i64 ep, .int .i64 ct, .int .i64 (n : Int)] 3))).stay b4)
  have HF := Lib.hid HC2.out.foot
  have HR4 := Lib.hid R4
  have HB4 := Lib.hid hb4
  have HL4 := Lib.hid hL4
  have hxl2 := Lib.hid HXL.out
  clear o4 R4 b4 hb3 hb2 hb1 hL4 hb4 HC2
  go_wp2_with (at_builtin; refine wpList_append_any _ rfl (.tmp 18) (.tmp 20) _ rfl w.heap.size 3 i0 _ 1 8 Try.underlying22 hi0 hz0 hz1 hz2 rfl (by omega) (.slice (some ⟨w2.heap.size, 0, none⟩) 3 3) 3 ([ep, ct, (n : Int)].flatMap flI.enc) rfl HL4.out w4.heap.size A4 (numsOf xs).length c4 ((numsOf xs).flatMap flI.enc) rfl (HR4.out.reads (by decide)) (flat_one flI _) (by have := hnl.out; have := hxl2.out; simp only [maxLen]; omega) (by have := hnl.out; have := hxl2.out; omega) (by omega) ?_; intro v5 w5 hown5 hg5 hat5; obtain ⟨A5, c5, rfl⟩ := row_form hown5; have HO5 := Lib.hid hown5; have HG5 := Lib.hid hg5; clear hown5 hg5 hat5)
  have hO5 : Ow flI w5 w.heap.size 3 (.slice A5 (3 + (numsOf xs).length) c5) (layN ep ct xs) := by
    have := Ow.join (f := flI) (xs := [ep, ct, (n : Int)]) (ys := numsOf xs) (m := (numsOf xs).length) rfl HO5.out
    rw [← hxl2.out] at this
    exact this
  have hN : 3 + (numsOf xs).length = (layN ep ct xs).length := by rw [layN_len, hnl.out]
  have hNn : (layN ep ct xs).length ≤ 4100 := by have := hxl2.out; rw [layN_len]; omega
  have hLy : Ly w b [.txt stateB] A5 c5 (layN ep ct xs) w5 := by
    rw [hN] at hO5
    refine ⟨⟨v1, HC4.out.only (Only.of_grown HG5.out) (fun e => ?_) (fun k hk e => ?_)⟩, hO5, HB4.out.grown HG5.out hs4 (fun k hk => by injection hk with hk; subst hk; exact hs2)⟩
    · have e : w2.heap.size = b := by injection e
      have := (HF.out b (.inl rfl)).2
      omega
    · have e : w2.heap.size = k := by injection e
      have := (HF.out k (.inr hk)).2
      omega
  have hN2 : (3 : Int) + ((numsOf xs).length : Int) = ((layN ep ct xs).length : Int) := by omega
  rw [hN]
  (try rw [hN2])
  generalize layN ep ct xs = ns at *
  have HLy := Lib.hid hLy
  have hRoom := hLy.row.room (by decide)
  clear hO5 hN hN2 hLy HO5 HG5 HC4 HF HR4 HB4 HL4 hnl hxl2 HXL HA
  go_wp2_with fail
  go_loopw [8, 23] (fun ok i wr => ∃ (k : Nat) (its : List It), k ≤ ns.length ∧ i = .int .i64 k ∧ ok = .bool (decide (k ≤ 99)) ∧ Hid (Lt ns k its) ∧ Hid (Ly w b its A5 c5 ns wr)) (fun _ i _ => ns.length - (intOf i).toNat)
  case atStart => exact ⟨0, _, by omega, rfl, rfl, Lib.hid ⟨rfl, fun _ => rfl⟩, HLy⟩
  case round =>
    obtain ⟨k, its, hk, rfl, rfl, hlt, hly⟩ := hrel
    by_cases hkn : k < ns.length
    · obtain ⟨A', c', e', hR⟩ := hly.out.row.read (by decide)
      injection e' with e1 e2 e3
      subst e1 e3
      obtain ⟨bb, ob, x, rfl, hx, cb⟩ := rfI_at hR hkn
      have HX := Lib.hid hx
      clear hx hR
      go_wp2_with fail
      refine (hly.out.int x).mono ?_
      rintro e w6 ⟨rfl, hly6⟩
      have HL6 := Lib.hid hly6
      have hil := hlt.out.1
      clear hly6
      by_cases h98 : k ≤ 98
      · rw [decide_eq_true (show its.length < 100 by omega), decide_eq_true (show k ≤ 99 by omega)]
        go_wp2_with fail
        go_roundw
        case rel => exact ⟨k + 1, _, by omega, by go_num, by rw [decide_eq_true (show k + 1 ≤ 99 by omega)], Lib.hid (lt_step hlt.out HX.out), HL6⟩
        case measure => simp [intOf]; omega
      · rw [decide_eq_false (show ¬ its.length < 100 by omega)]
        go_wp2_with fail
        go_roundw
        case rel => exact ⟨k + 1, _, by omega, by go_num, by rw [decide_eq_false (show ¬ k + 1 ≤ 99 by omega)], Lib.hid (lt_step hlt.out HX.out), HL6⟩
        case measure => simp [intOf]; omega
    · have hkN : k = ns.length := by omega
      subst hkN
      obtain ⟨v6, hc6⟩ := hly.out.cr
      have HC6 := Lib.hid hc6
      clear hc6
      by_cases h99 : ns.length ≤ 99
      · rw [decide_eq_true h99]
        have hits := hlt.out.2 h99
        rw [List.take_length] at hits
        subst hits
        go_wp2_with fail
        go_ret
        exact .inl ⟨h99, b, v6, rfl, HC6.out, hly.out.below⟩
      · rw [decide_eq_false h99]
        go_wp2_with fail
        go_ret
        exact .inr ⟨by omega, rfl, hly.out.below⟩
end Go.Proofs.Ytmaehdoejpecgaa
