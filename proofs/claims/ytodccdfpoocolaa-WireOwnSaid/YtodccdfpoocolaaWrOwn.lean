/- Walk of WireOwn. -/
import Derived.Test.YtodccdfpoocolaaWrTxt
set_option linter.unusedVariables false
namespace Go.Proofs.Ytodccdfpoocolaa
open Go.RowKit Go.Lib

theorem owB_form {w : World} {base : Nat} {A : Option Addr} {n c : Nat} {xs : List Nat} (h : Ow flB w base 5 (.slice A n c) xs) (hl : xs.length = n) (hn : 0 < n) : ∃ g, A = some ⟨g, 0, none⟩ ∧ base ≤ g ∧ g < w.heap.size := by
  have hlt := World.ownsRow.lt h
  rcases h.2 with ⟨e, h0⟩ | ⟨g, cap, cur, e, hb, _⟩
  · injection e with _ e1 _; omega
  · injection e with e1 _ _
    subst e1
    exact ⟨g, rfl, (hlt g rfl).1, (hlt g rfl).2⟩
theorem Bx.low_put {α : Type} {f : Fl α} {te tc : TypeId} {w : World} {B b : Nat} {v : Value} {xs : List α} (h : Bx f te tc w B b v xs) {p : Addr} (hp : p.block < B) (u : Value) : Bx f te tc (w.setCell p u) B b v xs :=
  h.only (Only.put p u) (fun e => by have := h.low; omega) (fun k hk e => by have := (World.ownsRow.lt h.own k hk).1; omega)
theorem own_one (n : Int) (s : ByteArray) : ∀ body pre, bodyB [.txt s, .num n] = body → body = pre → (headB body ++ body).length = 6 + (1 + (2 + s.size) + 9) := by
  intro body pre h1 _
  rw [List.length_append, headB_len, ← h1]
  simp only [bodyB, List.flatMap_cons, List.flatMap_nil, List.length_cons, List.length_append, thingB, strB_len, bigB_len, List.length_nil]
  omega
theorem own_at (n : Int) (s : ByteArray) : (headB (bodyB [.txt s, .num n]) ++ bodyB [.txt s, .num n])[9 + s.size]? = some 1 := by
  rw [List.getElem?_append_right (by rw [headB_len]; omega), headB_len]
  have e : bodyB [.txt s, .num n] = (2 :: 2 :: (s.size % 256) :: strB s) ++ (1 :: bigB (u64 n) 8) := by simp [bodyB, thingB]
  have hl : (2 :: 2 :: (s.size % 256) :: strB s).length = 3 + s.size := by simp only [List.length_cons, strB_len]; omega
  rw [e, List.getElem?_append_right (by rw [hl]; omega), hl, show 9 + s.size - 6 - (3 + s.size) = 0 by omega]
  rfl
set_option maxHeartbeats 8000000 in
theorem wown_calls (s : ByteArray) (n : Int) (w : World) (hn : (Lit.int .i64 n).wf = true) :
    Calls Try.prog 12 #[.string s, .int .i64 n] w fun e w' => e = .returned (.bool true) ∧ Below w.heap.size w w' := by
  by_cases h1 : (s.size : Int) < 1
  · go_enter Try.func12, Try.ntmps12
    go_wp2
    go_ret
    exact ⟨rfl, Below.refl _ _⟩
  by_cases h2 : (100 : Int) < (s.size : Int)
  · go_enter Try.func12, Try.ntmps12
    go_wp2
    go_ret
    exact ⟨rfl, Below.refl _ _⟩
  have hgn : -9223372036854775808 ≤ n ∧ n < 9223372036854775808 := by
    simp [Lit.wf, IntKind.min, IntKind.max, IntKind.bits, IntKind.signed] at hn
    omega
  clear hn
  have hok : ([.txt s, .num n] : List It).all okB = true := by
    simp only [List.all_cons, List.all_nil, okB, Bool.and_true, decide_eq_true_eq]
    omega
  have hbl := own_one n s _ _ rfl rfl
  have hpk := packB_some hok (by have := hbl; rw [List.length_append, headB_len] at this; omega)
  have HPK := Lib.hid hpk
  have HUN := Lib.hid (unpack_pack hpk (by simp) (fun x hx => by
    rcases List.mem_cons.1 hx with rfl | hx
    · show s.size ≤ 200; omega
    · rw [List.mem_singleton.1 hx]; exact hgn))
  have HPB := Lib.hid (pack_byte hpk)
  have HAT := Lib.hid (own_at n s)
  have HBD := Lib.hid (show (bodyB [.txt s, .num n]).length ≤ 400000 by rw [List.length_append, headB_len] at hbl; omega)
  generalize headB (bodyB [.txt s, .num n]) ++ bodyB [.txt s, .num n] = bs at *
  have HBL := Lib.hid (show bs.length = 18 + s.size by omega)
  clear hok hbl hpk hgn
  go_enter Try.func12, Try.ntmps12
  go_wp2_with fail
  refine (boxNew_calls w).mono ?_
  rintro e w1 ⟨b, rfl, hc, hb1⟩
  go_wp2_with fail
  refine (AddText_calls s w1 w.heap.size b _ _ hc hb1.size).mono ?_
  rintro e w2 (⟨hl, _, _⟩ | ⟨_, rfl, v1, hc2, ho, _⟩)
  · simp at hl
  have hb2 : Below w.heap.size w w2 := hb1.trans (ho.below hb1.size (fun q hq hs => (hc.foot q hs).1))
  have HC2 := Lib.hid hc2
  have HB2 := Lib.hid hb2
  clear hc ho hc2 hb1 hb2
  go_wp2_with fail
  refine (AddInt_calls n w2 w.heap.size b v1 _ HC2.out HB2.out.size).mono ?_
  rintro e w3 (⟨hl, _, _⟩ | ⟨_, rfl, v2, hc3, ho, _⟩)
  · simp at hl
  have HC3 := Lib.hid (show Cr w3 w.heap.size b v2 [.txt s, .num n] from hc3)
  have HB3 := Lib.hid (HB2.out.trans (ho.below HB2.out.size (fun q hq hs => (HC2.out.foot q hs).1)))
  clear hc3 ho
  go_wp2_with fail
  refine (Pack_calls w3 b _ HC3.out.cz HBD.out (by simp)).mono ?_
  rintro e w4 (⟨ps, v4, hp, rfl, o4, b4⟩ | ⟨hp, _⟩)
  rotate_left
  · rw [HPK.out] at hp; cases hp
  have hps : ps = bs := by rw [HPK.out] at hp; exact (Option.some.inj hp).symm
  subst hps
  obtain ⟨A4, c4, rfl, R4, hl3, hl4⟩ := o4.readc (by decide)
  rw [HBL.out] at R4 hl3 o4 ⊢
  have HO4 := Lib.hid o4
  have HB4 := Lib.hid b4
  have HC4 := Lib.hid (HC3.out.stay b4)
  have HU := Lib.hid (Unpack_calls w4 A4 (18 + s.size) c4 ps R4 HPB.out hl3 hl4 (by omega))
  rw [HUN.out] at HU
  clear o4 b4 R4 hl3 hl4 hp
  go_wp2_with fail
  refine HU.out.mono ?_
  rintro e w5 (⟨its, d, v5, hi, rfl, hc5, b5⟩ | ⟨hi, _⟩)
  rotate_left
  · cases hi
  injection hi with hi
  subst hi
  have HO5 := Lib.hid (HO4.out.stay b5)
  have HB5 := Lib.hid (HB4.out.trans (b5.mono HB4.out.size))
  have HD5 := Lib.hid hc5
  have hw4 : w4.heap.size ≤ w5.heap.size := b5.size
  obtain ⟨g, hg, hgb, _⟩ := owB_form HO4.out HBL.out (by omega)
  have hg4 : g < w4.heap.size := (World.ownsRow.lt HO4.out g (by rw [hg]; rfl)).2
  subst hg
  clear hc5 b5 HU
  go_wp2_with fail
  go_loopw [10] (fun i wr => ∃ (k : Nat) (zs : List Nat), k ≤ 18 + s.size ∧ i = .int .i64 k ∧ Hid (Ow flB wr w3.heap.size 5 (.slice (some ⟨g, 0, none⟩) (18 + s.size) c4) zs) ∧ Hid (zs.length = 18 + s.size) ∧ Hid (Below w3.heap.size w3 wr) ∧ Hid (∃ v, Cr wr w4.heap.size d v [.txt s, .num n])) (fun i _ => 18 + s.size - (intOf i).toNat)
  case atStart => exact ⟨0, ps, by omega, rfl, HO5, HBL, HB5, Lib.hid ⟨_, HD5.out⟩⟩
  case round =>
    obtain ⟨k, zs, hk, rfl, hO, hz, hB, hD⟩ := hrel
    by_cases hlt : k < 18 + s.size
    · obtain ⟨A', c', e', hR⟩ := hO.out.read (by decide)
      injection e' with e1 e2 e3
      subst e1 e3
      obtain ⟨b', off', x, e, hx, hcell⟩ := rfB_at hR (j := k) (by rw [hz.out]; exact hlt)
      cases e
      rw [Nat.zero_add] at hcell
      have hfree : wr.frozen? ⟨g, k, none⟩ = false := by
        have h := hO.out
        rcases h.2 with ⟨e, _⟩ | ⟨g', cap, cur, e, _, hh, _⟩
        · cases e
        · injection e with e _ _
          injection e with e
          injection e with e _ _
          subst e
          simp [World.frozen?, hh]
      have HO2 : Hid (Ow flB wr w3.heap.size 5 (.slice (some ⟨g, 0, none⟩) zs.length c4) zs) := Lib.hid (by rw [hz.out]; exact hO.out)
      clear hR hx
      go_wp2_with fail
      go_roundw
      case rel =>
        refine ⟨k + 1, zs.set k 0, by omega, by go_num, Lib.hid ?_, Lib.hid (by rw [List.length_set]; exact hz.out), Lib.hid (hB.out.setCell (p := ⟨g, k, none⟩) hgb _), Lib.hid ?_⟩
        · have := (HO2.out.put1 rfl k 0 (.int .u8 0) rfl).1
          rw [hz.out] at this
          exact this
        · obtain ⟨v, hv⟩ := hD.out
          exact ⟨v, hv.low_put (p := ⟨g, k, none⟩) hg4 _⟩
      case measure => simp [intOf]; omega
    · obtain ⟨v6, hd6⟩ := hD.out
      have HC6 := Lib.hid (HC3.out.stay hB.out)
      have HD6 := Lib.hid hd6
      have HB6 := Lib.hid (HB3.out.trans (hB.out.mono HB3.out.size))
      clear hd6
      go_wp2_with fail
      refine (Pack_calls wr b _ HC6.out.cz HBD.out (by simp)).mono ?_
      rintro e w7 (⟨qs, v7, hp, rfl, o7, b7⟩ | ⟨hp, _⟩)
      rotate_left
      · rw [HPK.out] at hp; cases hp
      have hps : qs = ps := by rw [HPK.out] at hp; exact (Option.some.inj hp).symm
      subst hps
      obtain ⟨A7, c7, rfl, R7⟩ := o7.read (by decide)
      rw [HBL.out] at R7 ⊢
      have HC7 := Lib.hid (HC6.out.stay b7)
      have HD7 := Lib.hid (HD6.out.stay b7)
      have HB7 := Lib.hid (HB6.out.trans (b7.mono HB6.out.size))
      have HR7 := Lib.hid R7
      clear o7 b7 R7 hp
      go_wp2_with fail
      refine (Same_calls w7 _ _ _ _ HC7.out.cz HD7.out.cz).mono ?_
      rintro e w8 ⟨rfl, b8⟩
      rw [show decide (([.txt s, .num n] : List It) = [.txt s, .num n]) = true from decide_eq_true rfl]
      have HB8 := Lib.hid (HB7.out.trans (b8.mono HB7.out.size))
      obtain ⟨bp, op, x, rfl, hx, hcell⟩ := rfB_at (HR7.out.stay b8) (j := 9 + s.size) (by omega)
      have hx1 : x = 1 := by rw [HAT.out] at hx; exact (Option.some.inj hx).symm
      subst hx1
      have hi1 : (0 : Int) ≤ 9 + (s.size : Int) := by omega
      have hi3 : ((9 : Int) + (s.size : Int)).toNat = 9 + s.size := by omega
      have hi4 : IntKind.i64.wrap (18 + (s.size : Int) - 9) = 9 + (s.size : Int) := by rw [IntKind.wrap_i64]; omega
      have hi5 : (9 : Int) + (s.size : Int) < 18 + (s.size : Int) := by omega
      have hi6 : (9 : Int) ≤ 18 + (s.size : Int) := by omega
      clear b8 hx
      go_wp2_with fail
      refine (known_calls _).mono ?_
      rintro e w9 ⟨rfl, b9⟩
      go_wp2_with fail
      go_ret
      exact ⟨rfl, HB8.out.trans (b9.mono HB8.out.size)⟩
end Go.Proofs.Ytodccdfpoocolaa
