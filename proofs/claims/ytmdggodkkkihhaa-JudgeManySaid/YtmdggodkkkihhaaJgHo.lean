/- Contracts of judge.holds and judge.bars. -/
import Derived.Test.YtmdggodkkkihhaaJgSa
set_option linter.unusedVariables false
namespace Go.Proofs.Ytmdggodkkkihhaa
open Go.RowKit

structure Rs where
  m : Int
  t : Int
  g : Int
  s : Bool
deriving DecidableEq
def flR : Fl Rs := ⟨4, fun c => [.int .i64 c.m, .int .i64 c.t, .int .i64 c.g, .bool c.s], fun _ => rfl, fun _ u hu => by
  simp only [List.mem_cons, List.not_mem_nil, or_false] at hu
  rcases hu with rfl | rfl | rfl | rfl <;> rfl⟩
def kR : Kd Rs := Kd.iso (Kd.pair (Kd.int .i64) (Kd.pair (Kd.int .i64) (Kd.pair (Kd.int .i64) (Kd.pair Kd.bool Kd.unit)))) fun c => (c.m, c.t, c.g, c.s, ())
theorem kR_enc (w : World) (x : Rs) (cs : List Value) (h : kR.K w x cs) : cs = flR.enc x := by
  obtain ⟨_, _, rfl, ⟨rfl, _⟩, _, _, rfl, ⟨rfl, _⟩, _, _, rfl, ⟨rfl, _⟩, _, _, rfl, rfl, rfl⟩ := h
  rfl
theorem Sl.rs {w : World} {A : Option Addr} {n c : Nat} {xs : List Rs} (h : Sl flR w A n c xs) {j : Nat} (hj : j < n) : ∃ b off x, A = some ⟨b, off, none⟩ ∧ xs[j]? = some x ∧ w.cell? ⟨b, off + j * 4, none⟩ = some (.int .i64 x.m) ∧ w.cell? ⟨b, off + j * 4 + 1, none⟩ = some (.int .i64 x.t) ∧ w.cell? ⟨b, off + j * 4 + 2, none⟩ = some (.int .i64 x.g) ∧ w.cell? ⟨b, off + j * 4 + 3, none⟩ = some (.bool x.s) := by
  obtain ⟨b, off, x, rfl, hx, hc⟩ := h.rf.at_ hj
  exact ⟨b, off, x, rfl, hx, hc 0 _ rfl, hc 1 _ rfl, hc 2 _ rfl, hc 3 _ rfl⟩
theorem Sl.none_ {w : World} {A : Option Addr} {n c : Nat} (hn : n = 0) (hc : c ≤ 9223372036854775807) : Sl flI w A n c [] := by
  subst hn
  exact ⟨⟨rfl, by omega, fun h => absurd h (by omega)⟩, by omega, hc, by omega⟩
theorem Sl.from_ {w : World} {b off n c : Nat} {xs : List Int} (h : Sl flI w (some ⟨b, off, none⟩) n c xs) (k : Nat) : Sl flI w (some ⟨b, off + k, none⟩) (n - k) (c - k) (xs.drop k) := by
  obtain ⟨⟨h1, h2, h3⟩, h4, h5, h6⟩ := h
  refine ⟨⟨by rw [List.length_drop, h1], by omega, fun hn => ⟨b, off + k, rfl, fun j x hx i u hu => ?_⟩⟩, by omega, by omega, by omega⟩
  obtain ⟨b', off', e, hc⟩ := h3 (by omega)
  obtain ⟨rfl, rfl⟩ : b = b' ∧ off = off' := by simpa using e
  rw [List.getElem?_drop] at hx
  have := hc (k + j) x hx i u hu
  simp only [flI, Nat.mul_one] at this ⊢
  rw [Nat.add_assoc off k j]
  exact this
/-- Does a route that stands so hold a section? -/
def holdsM (x : Rte) (r : Rs) (sec : Int) : Bool :=
  if r.m = 1 ∨ r.m = 2 ∨ r.m = 4 then x.path.any fun a => decide (sec = a)
  else if r.m = 3 then (x.path.drop (min (max r.g 0) x.path.length).toNat).any fun a => decide (sec = a) else false
set_option maxHeartbeats 4000000 in
theorem Holds_calls (w : World) (x : Rte) (P Q F : Option Addr) (p pc q qc f fc : Nat) (hv : RteV w x P Q F p pc q qc f fc) (r : Rs) (sec : Int) :
    Calls Try.prog 31 #[.agg #[.string x.name, .int .i64 x.frm, .int .i64 x.to, .slice P p pc, .slice Q q qc, .slice F f fc], .agg #[.int .i64 r.m, .int .i64 r.t, .int .i64 r.g, .bool r.s], .int .i64 sec] w fun e w' => e = .returned (.bool (holdsM x r sec)) ∧ Below w.heap.size w w' := by
  have hbw : Below w.heap.size w ((w.alloc (.cells #[.string x.name, .int .i64 x.frm, .int .i64 x.to, .slice P p pc, .slice Q q qc, .slice F f fc] 47)).alloc (.cells #[.int .i64 r.m, .int .i64 r.t, .int .i64 r.g, .bool r.s] 33)) := (below_new w _).alloc (by simp) _
  have K1 := Lib.hid (CTI_calls _ P p pc x.path (hv.path.stay hbw) sec)
  by_cases h1 : r.m = 1
  · have HF : Hid (holdsM x r sec = x.path.any fun a => decide (sec = a)) := Lib.hid (by unfold holdsM; rw [if_pos (.inl h1)])
    have h1' : (r.m == 1) = true := by simp [h1]
    clear h1 hv
    go_enter Try.func31, Try.ntmps31
    go_wp2_with (refine K1.out.mono ?_; rintro e w1 ⟨rfl, hb⟩)
    go_ret
    exact ⟨ret_bool (by rw [HF.out]), below_more hbw hb⟩
  by_cases h2 : r.m = 2
  · have HF : Hid (holdsM x r sec = x.path.any fun a => decide (sec = a)) := Lib.hid (by unfold holdsM; rw [if_pos (.inr (.inl h2))])
    have h1' : (r.m == 1) = false := by simp [h1]
    have h2' : (r.m == 2) = true := by simp [h2]
    clear h1 h2 hv
    go_enter Try.func31, Try.ntmps31
    go_wp2_with (refine K1.out.mono ?_; rintro e w1 ⟨rfl, hb⟩)
    go_ret
    exact ⟨ret_bool (by rw [HF.out]), below_more hbw hb⟩
  by_cases h4 : r.m = 4
  · have HF : Hid (holdsM x r sec = x.path.any fun a => decide (sec = a)) := Lib.hid (by unfold holdsM; rw [if_pos (.inr (.inr h4))])
    have h1' : (r.m == 1) = false := by simp [h1]
    have h2' : (r.m == 2) = false := by simp [h2]
    have h4' : (r.m == 4) = true := by simp [h4]
    clear h1 h2 h4 hv
    go_enter Try.func31, Try.ntmps31
    go_wp2_with (refine K1.out.mono ?_; rintro e w1 ⟨rfl, hb⟩)
    go_ret
    exact ⟨ret_bool (by rw [HF.out]), below_more hbw hb⟩
  have h1' : (r.m == 1) = false := by simp [h1]
  have h2' : (r.m == 2) = false := by simp [h2]
  have h4' : (r.m == 4) = false := by simp [h4]
  by_cases h3 : r.m = 3
  · have h3' : (r.m == 3) = true := by simp [h3]
    have HF : Hid (holdsM x r sec = (x.path.drop (min (max r.g 0) x.path.length).toNat).any fun a => decide (sec = a)) := Lib.hid (by unfold holdsM; rw [if_neg (by omega), if_pos h3])
    have hlen := hv.path.len
    have hle := hv.path.le
    have hcap := hv.path.cap
    clear h1 h2 h4 h3
    rcases Nat.eq_zero_or_pos p with hp | hp
    · subst hp
      have hxe : x.path = [] := List.eq_nil_of_length_eq_zero hlen
      have HE : Hid (holdsM x r sec = false) := Lib.hid (by rw [HF.out, hxe]; simp)
      clear hv hlen hxe
      go_enter Try.func31, Try.ntmps31
      go_wp2_with fail
      all_goals refine (CTI_calls _ _ _ _ [] (Sl.none_ (by omega) (by omega)) sec).mono ?_
      all_goals rintro e w1 ⟨rfl, hb⟩
      all_goals go_wp2_with fail
      all_goals go_ret
      all_goals exact ⟨ret_bool (by rw [HE.out]), below_more ((below_new w _).alloc (by simp) _) hb⟩
    · obtain ⟨b, off, y, rfl, _, _⟩ := hv.path.int hp
      have HV := Lib.hid (hv.path.stay hbw)
      clear hv
      rcases Int.lt_or_le r.g (p : Int) with hg | hg
      · rcases Int.lt_or_le 0 r.g with hg0 | hg0
        · obtain ⟨j, hj⟩ : ∃ j : Nat, r.g = j := ⟨r.g.toNat, by omega⟩
          have HE : Hid (holdsM x r sec = (x.path.drop j).any fun a => decide (sec = a)) := Lib.hid (by rw [HF.out, hj, hlen]; congr 2; omega)
          have HS := Lib.hid (HV.out.from_ j)
          obtain ⟨rm, rt, rg, rs⟩ := r
          simp only at *
          subst hj
          have hjp : (j : Int) ≤ p := by omega
          have hjc : ¬ pc - j = 0 := by omega
          clear hlen
          go_enter Try.func31, Try.ntmps31
          go_wp2_with fail
          refine (CTI_calls _ _ _ _ (x.path.drop j) HS.out sec).mono ?_
          rintro e w1 ⟨rfl, hb⟩
          go_wp2_with fail
          go_ret
          exact ⟨ret_bool (by rw [HE.out]), below_more hbw hb⟩
        · have HE : Hid (holdsM x r sec = x.path.any fun a => decide (sec = a)) := Lib.hid (by rw [HF.out, hlen, show (min (max r.g 0) (p : Int)).toNat = 0 by omega, List.drop_zero])
          have hpc : ¬ pc = 0 := by omega
          clear hlen
          rcases Int.lt_or_le r.g 0 with hg1 | hg1
          · clear hg0
            go_enter Try.func31, Try.ntmps31
            go_wp2_with fail
            refine K1.out.mono ?_
            rintro e w1 ⟨rfl, hb⟩
            go_wp2_with fail
            go_ret
            exact ⟨ret_bool (by rw [HE.out]), below_more hbw hb⟩
          · obtain ⟨rm, rt, rg, rs⟩ := r
            simp only at *
            obtain rfl : rg = 0 := by omega
            clear hg1 hg0
            go_enter Try.func31, Try.ntmps31
            go_wp2_with fail
            refine K1.out.mono ?_
            rintro e w1 ⟨rfl, hb⟩
            go_wp2_with fail
            go_ret
            exact ⟨ret_bool (by rw [HE.out]), below_more hbw hb⟩
      · have HE : Hid (holdsM x r sec = false) := Lib.hid (by rw [HF.out, hlen, show (min (max r.g 0) (p : Int)).toNat = p by omega, List.drop_of_length_le (by omega)]; rfl)
        clear hlen
        go_enter Try.func31, Try.ntmps31
        go_wp2_with fail
        all_goals refine (CTI_calls _ _ _ _ [] (Sl.none_ (by omega) (by omega)) sec).mono ?_
        all_goals rintro e w1 ⟨rfl, hb⟩
        all_goals go_wp2_with fail
        all_goals go_ret
        all_goals exact ⟨ret_bool (by rw [HE.out]), below_more ((below_new w _).alloc (by simp) _) hb⟩
  · have h3' : (r.m == 3) = false := by simp [h3]
    have HF : Hid (holdsM x r sec = false) := Lib.hid (by unfold holdsM; rw [if_neg (by omega), if_neg h3])
    clear h1 h2 h4 h3 hv
    go_enter Try.func31, Try.ntmps31
    go_wp2_with fail
    go_ret
    exact ⟨ret_bool (by rw [HF.out]), hbw⟩
end Go.Proofs.Ytmdggodkkkihhaa
