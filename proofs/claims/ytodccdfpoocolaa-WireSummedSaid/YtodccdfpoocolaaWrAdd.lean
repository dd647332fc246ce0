/- wire.add. -/
import Derived.Test.YtodccdfpoocolaaWrTak
import Derived.Test.YtodccdfpoocolaaWrPack
set_option linter.unusedVariables false
namespace Go.Proofs.Ytodccdfpoocolaa
open Go.RowKit Go.Lib

def takeI : List Nat → Option (It × List Nat)
  | [] => none
  | k :: r =>
    if k = 1 then if 8 ≤ r.length then some (.num (wrap64 (numB (r.take 8) : Nat)), r.drop 8) else none
    else if k = 2 then match r with
      | [] => none
      | n :: r' => if n ≤ r'.length then some (.txt (strOfB (r'.take n)), r'.drop n) else none
    else if k = 3 then match r with
      | [] => none
      | v :: r' => some (.tru ((v : Int) == 1), r')
    else none
theorem takeI_1 {r : List Nat} (h : 8 ≤ r.length) : takeI (1 :: r) = some (.num (wrap64 (numB (r.take 8) : Nat)), r.drop 8) := by rw [takeI.eq_def]; simp [h]
theorem takeI_1n {r : List Nat} (h : ¬ 8 ≤ r.length) : takeI (1 :: r) = none := by rw [takeI.eq_def]; simp [h]
theorem takeI_2 {n : Nat} {r : List Nat} (h : n ≤ r.length) : takeI (2 :: n :: r) = some (.txt (strOfB (r.take n)), r.drop n) := by rw [takeI.eq_def]; simp [h]
theorem takeI_2n {n : Nat} {r : List Nat} (h : ¬ n ≤ r.length) : takeI (2 :: n :: r) = none := by rw [takeI.eq_def]; simp [h]
theorem takeI_x {k : Nat} {r : List Nat} (h1 : k ≠ 1) (h2 : k ≠ 2) (h3 : k ≠ 3) : takeI (k :: r) = none := by rw [takeI.eq_def]; simp [h1, h2, h3]
theorem takeI_20 : takeI [2] = none := rfl
theorem takeI_30 : takeI [3] = none := rfl
theorem takeI_3 {v : Nat} {r : List Nat} : takeI (3 :: v :: r) = some (.tru ((v : Int) == 1), r) := rfl
def AddBPost (w0 : World) (b : Nat) (its : List It) (bs : List Nat) (e : Ending) (w' : World) : Prop :=
  (∃ x r A' c' v', takeI bs = some (x, r) ∧ its.length < 100 ∧ e = .returned (.tuple #[.slice A' r.length c', .bool true]) ∧ Rf flB w0 A' r.length r ∧ r.length ≤ c' ∧ c' ≤ 9223372036854775807 ∧ Cr w' w0.heap.size b v' (its ++ [x]) ∧ Below w0.heap.size w0 w') ∨
  ((takeI bs = none ∨ 100 ≤ its.length) ∧ (∃ A' n' c', e = .returned (.tuple #[.slice A' n' c', .bool false])) ∧ Below w0.heap.size w0 w')
/-- What an Add behind a taking leaves. -/
theorem addB_of {w0 w w' : World} {b : Nat} {v : Value} {its : List It} {bs r : List Nat} {x : It} {e : Ending} {A' : Option Addr} {c' : Nat} (hb : Below w0.heap.size w0 w) (hc : Cr w w0.heap.size b v its) (ht : takeI bs = some (x, r)) (hr : Rf flB w0 A' r.length r) (h1 : r.length ≤ c') (h2 : c' ≤ 9223372036854775807)
    (h : AddPost w w0.heap.size b v its x e w') : ∃ ok : Bool, e = .returned (.bool ok) ∧ AddBPost w0 b its bs (.returned (.tuple #[.slice A' r.length c', .bool ok])) w' := by
  rcases h with ⟨hl, rfl, hb'⟩ | ⟨hl, rfl, v1, hc1, ho, _⟩
  · exact ⟨false, rfl, .inr ⟨.inr hl, ⟨_, _, _, rfl⟩, hb.trans (hb'.mono hb.size)⟩⟩
  · exact ⟨true, rfl, .inl ⟨x, r, A', c', v1, ht, hl, rfl, hr, h1, h2, hc1, hb.trans (ho.below hb.size (fun q hq hs => (hc.foot q hs).1))⟩⟩
theorem cut_some {w : World} {A : Option Addr} {len c n : Nat} {xs : List Nat} (h : Rf flB w A len xs) (hl : 1 ≤ len) : ∃ b o, cutA A c n = some ⟨b, o, none⟩ := by
  obtain ⟨b, off, e, _⟩ := h.2.2 (by omega)
  subst e
  unfold cutA
  split
  · exact ⟨_, _, rfl⟩
  · exact ⟨_, _, rfl⟩
set_option maxRecDepth 100000 in
set_option maxHeartbeats 8000000 in
theorem addB_calls (w0 w : World) (hb : Below w0.heap.size w0 w) (b : Nat) (v : Value) (its : List It) (hc : Cr w w0.heap.size b v its) (A : Option Addr) (len c : Nat) (bs : List Nat) (hR : Rf flB w0 A len bs) (hx : ∀ x ∈ bs, x < 256) (hlc : len ≤ c) (hc2 : c ≤ 9223372036854775807) :
    Calls Try.prog 37 #[.pointer (some ⟨b, 0, none⟩), .slice A len c] w (AddBPost w0 b its bs) := by
  have hT1 := taken_calls w A len c bs (hR.stay hb) hx hlc hc2 1 (by omega) (by omega)
  have HB := Lib.hid hb
  have HC := Lib.hid hc
  cases bs with
  | nil =>
    have h0 : len = 0 := by have := hR.1; simpa using this.symm
    subst h0
    rw [if_neg (by omega)] at hT1
    clear hb hc hR hx
    go_enter Try.func37, Try.ntmps37
    go_wp2_with fail
    refine hT1.mono ?_
    rintro e w1 ⟨rfl, b1⟩
    go_wp2_with fail
    go_ret2
    exact .inr ⟨.inl rfl, ⟨_, _, _, rfl⟩, HB.out.trans (b1.mono HB.out.size)⟩
  | cons k r =>
    have hl1 : r.length + 1 = len := hR.1
    rw [if_pos (by omega)] at hT1
    have hn1 : numB ((k :: r).take 1) = k := by simp [numB]
    rw [hn1] at hT1
    have hR1 := hR.cutB 1 (by omega) hlc
    have hd1 : (k :: r).drop 1 = r := rfl
    rw [hd1] at hR1
    have hx1 : ∀ x ∈ r, x < 256 := fun x h => hx x (List.mem_cons_of_mem _ h)
    have hk256 : k < 256 := hx k List.mem_cons_self
    have hlc1 : len - 1 ≤ c - 1 := by omega
    have hcc1 : c - 1 ≤ 9223372036854775807 := by omega
    have hrl : r.length = len - 1 := by omega
    generalize cutA A c 1 = A1 at *
    generalize len - 1 = len1 at *
    generalize c - 1 = c1 at *
    clear hb hc hR hx hn1 hd1 hl1 hlc hc2
    have HR1 := Lib.hid hR1
    have HX1 := Lib.hid hx1
    have HRL := Lib.hid hrl
    have HL1 := Lib.hid (And.intro hlc1 hcc1)
    clear hR1 hx1 hrl hlc1 hcc1
    by_cases hk1 : k = 1
    · subst hk1
      by_cases h8 : 8 ≤ len1
      · have hT := Lib.hid (takeI_1 (r := r) (by have := HRL.out; omega))
        have hRr := HR1.out.cutB 8 h8 HL1.out.1
        have hrd : (r.drop 8).length = len1 - 8 := by rw [List.length_drop, HRL.out]
        have HRr := Lib.hid (show Rf flB w0 (cutA A1 c1 8) (r.drop 8).length (r.drop 8) from by rw [hrd]; exact hRr)
        have HRD := Lib.hid hrd
        have HL8 := Lib.hid (And.intro (show (r.drop 8).length ≤ c1 - 8 from by rw [hrd]; have := HL1.out.1; omega) (show c1 - 8 ≤ 9223372036854775807 from by have := HL1.out.2; omega))
        clear hRr hrd
        go_enter Try.func37, Try.ntmps37
        go_wp2_with fail
        refine hT1.mono ?_
        rintro e w1 ⟨rfl, b1⟩
        have hB1 := Lib.hid (HB.out.trans (b1.mono HB.out.size))
        have hC1 := Lib.hid (HC.out.stay b1)
        clear b1 hT1
        go_wp2_with fail
        refine (taken_calls w1 A1 len1 c1 r (HR1.out.stay hB1.out) HX1.out HL1.out.1 HL1.out.2 8 (by omega) (by omega)).mono ?_
        rintro e w2 ⟨rfl, b2⟩
        rw [if_pos h8]
        have hB2 := Lib.hid (hB1.out.trans (b2.mono hB1.out.size))
        have hC2 := Lib.hid (hC1.out.stay b2)
        clear b2 hB1 hC1
        go_wp2_with fail
        refine (AddInt_calls _ w2 w0.heap.size b v its hC2.out hB2.out.size).mono ?_
        intro e w3 h3
        obtain ⟨ok, rfl, hpost⟩ := addB_of hB2.out hC2.out hT.out HRr.out HL8.out.1 HL8.out.2 h3
        have HPO := Lib.hid hpost
        clear h3 hpost
        go_wp2_with fail
        go_ret2
        have := HPO.out
        rw [HRD.out] at this
        exact this
      · have hT := Lib.hid (takeI_1n (r := r) (by have := HRL.out; omega))
        go_enter Try.func37, Try.ntmps37
        go_wp2_with fail
        refine hT1.mono ?_
        rintro e w1 ⟨rfl, b1⟩
        have hB1 := Lib.hid (HB.out.trans (b1.mono HB.out.size))
        clear b1 hT1
        go_wp2_with fail
        refine (taken_calls w1 A1 len1 c1 r (HR1.out.stay hB1.out) HX1.out HL1.out.1 HL1.out.2 8 (by omega) (by omega)).mono ?_
        rintro e w2 ⟨rfl, b2⟩
        rw [if_neg h8]
        have hB2 := Lib.hid (hB1.out.trans (b2.mono hB1.out.size))
        clear b2
        go_wp2_with fail
        go_ret2
        exact .inr ⟨.inl hT.out, ⟨_, _, _, rfl⟩, hB2.out⟩
    · have b1x : ((k : Int) == 1) = false := by simp; omega
      by_cases hk2 : k = 2
      · subst hk2
        cases r with
        | nil =>
          go_enter Try.func37, Try.ntmps37
          go_wp2_with fail
          refine hT1.mono ?_
          rintro e w1 ⟨rfl, b1⟩
          have hB1 := Lib.hid (HB.out.trans (b1.mono HB.out.size))
          have hC1 := Lib.hid (HC.out.stay b1)
          clear b1 hT1
          go_wp2_with fail
          refine (taken_calls w1 A1 len1 c1 [] (HR1.out.stay hB1.out) HX1.out HL1.out.1 HL1.out.2 1 (by omega) (by omega)).mono ?_
          rintro e w2 ⟨rfl, b2⟩
          rw [if_neg (by have := HRL.out; simp at this; omega)]
          have hB2 := Lib.hid (hB1.out.trans (b2.mono hB1.out.size))
          have hC2 := Lib.hid (hC1.out.stay b2)
          clear b2 hB1 hC1
          go_wp2_with fail
          go_ret2
          exact .inr ⟨.inl takeI_20, ⟨_, _, _, rfl⟩, hB2.out⟩
        | cons n r =>
          have hn256 : n < 256 := HX1.out n List.mem_cons_self
          have hl2 : r.length + 1 = len1 := HRL.out
          have hne : 1 ≤ len1 := by omega
          have hR2 := HR1.out.cutB 1 hne HL1.out.1
          have hd2 : (n :: r).drop 1 = r := rfl
          rw [hd2] at hR2
          have hn2 : numB ((n :: r).take 1) = n := by simp [numB]
          have hx2 : ∀ x ∈ r, x < 256 := fun x h => HX1.out x (List.mem_cons_of_mem _ h)
          have hrl2 : r.length = len1 - 1 := by omega
          have hlc2 : len1 - 1 ≤ c1 - 1 := by have := HL1.out.1; omega
          have hcc2 : c1 - 1 ≤ 9223372036854775807 := by have := HL1.out.2; omega
          have HR2 := Lib.hid (show Rf flB w0 (cutA A1 c1 1) r.length r from by rw [hrl2]; exact hR2)
          have HX2 := Lib.hid hx2
          have HRL2 := Lib.hid hrl2
          have HL2 := Lib.hid (show r.length ≤ c1 - 1 ∧ c1 - 1 ≤ 9223372036854775807 from ⟨by omega, hcc2⟩)
          have HNE := Lib.hid hne
          have HN2 := Lib.hid hn2
          clear hl2 hR2 hd2 hn2 hx2 hrl2 hlc2 hcc2 hne
          go_enter Try.func37, Try.ntmps37
          go_wp2_with fail
          refine hT1.mono ?_
          rintro e w1 ⟨rfl, b1⟩
          have hB1 := Lib.hid (HB.out.trans (b1.mono HB.out.size))
          have hC1 := Lib.hid (HC.out.stay b1)
          clear b1 hT1
          go_wp2_with fail
          refine (taken_calls w1 A1 len1 c1 (n :: r) (HR1.out.stay hB1.out) HX1.out HL1.out.1 HL1.out.2 1 (by omega) (by omega)).mono ?_
          rintro e w2 ⟨rfl, b2⟩
          rw [if_pos HNE.out, HN2.out, ← HRL2.out]
          have hB2 := Lib.hid (hB1.out.trans (b2.mono hB1.out.size))
          have hC2 := Lib.hid (hC1.out.stay b2)
          clear b2 hB1 hC1
          obtain ⟨b2, o2, he2⟩ := cut_some (c := c1) (n := 1) HR1.out HNE.out
          rw [he2] at HR2 ⊢
          clear he2
          generalize c1 - 1 = c2 at *
          by_cases hnr : n ≤ r.length
          · have hT := Lib.hid (takeI_2 hnr)
            have hng : ¬ (r.length : Int) < (n : Int) := by omega
            have q1 : (n : Int) ≤ (c2 : Int) := by have := HL2.out.1; omega
            have q2 : (n : Int) ≤ (r.length : Int) := by omega
            have q3 : (0 : Int) ≤ (n : Int) := by omega
            have q4 : (r.length : Int) ≤ (c2 : Int) := by have := HL2.out.1; omega
            have kcv := conv_str (c := c2) (n := n) (xs := r.take n) (A := some ⟨b2, o2, none⟩) (w := w2.drew) (by
              have h := (HR2.out.stay hB2.out)
              refine ⟨by rw [List.length_take]; omega, by have := h.2.1; omega, fun hp => ?_⟩
              obtain ⟨b', off', e, hc⟩ := h.2.2 (by omega)
              exact ⟨b', off', e, fun j x hxj i u hu => hc j x (by rw [List.getElem?_take] at hxj; split at hxj; exact hxj; cases hxj) i u hu⟩)
            have hR3 := HR2.out.cutB n hnr HL2.out.1
            have hrd : (r.drop n).length = r.length - n := List.length_drop
            have HR3 := Lib.hid (show Rf flB w0 (cutA (some ⟨b2, o2, none⟩) c2 n) (r.drop n).length (r.drop n) from by rw [hrd]; exact hR3)
            have HRD := Lib.hid hrd
            have HL3 := Lib.hid (And.intro (show (r.drop n).length ≤ c2 - n from by rw [hrd]; have := HL2.out.1; omega) (show c2 - n ≤ 9223372036854775807 from by have := HL2.out.2; omega))
            have hB3 := Lib.hid (below_drawn hB2.out 1)
            have hC3 : Hid (Cr w2.drew w0.heap.size b v its) := Lib.hid ⟨hC2.out.blk, hC2.out.own, hC2.out.low⟩
            clear hR3 hrd
            have hm1 : IntKind.i64.wrap (n : Int) = (n : Int) := by rw [IntKind.wrap_i64]; omega
            by_cases hcn : c2 = n
            · subst hcn
              have HE := Lib.hid (show cutA (some ⟨b2, o2, none⟩) c2 c2 = some ⟨b2, o2, none⟩ from if_pos rfl)
              go_wp2_with fail
              go_region_with (go_at_call 14; refine (AddText_calls _ w2.drew w0.heap.size b v its hC3.out hB3.out.size).mono ?_; intro e w3 h3; obtain ⟨ok, rfl, hpost⟩ := addB_of hB3.out hC3.out hT.out HR3.out HL3.out.1 HL3.out.2 h3; have HPO := Lib.hid hpost; clear h3 hpost)
              go_wp2_with fail
              go_ret2
              have h := HPO.out
              rw [HE.out, HRD.out, Nat.sub_self] at h
              exact h
            · have HE := Lib.hid (show cutA (some ⟨b2, o2, none⟩) c2 n = some ⟨b2, o2 + n, none⟩ from if_neg hcn)
              go_wp2_with fail
              go_region_with (go_at_call 14; refine (AddText_calls _ w2.drew w0.heap.size b v its hC3.out hB3.out.size).mono ?_; intro e w3 h3; obtain ⟨ok, rfl, hpost⟩ := addB_of hB3.out hC3.out hT.out HR3.out HL3.out.1 HL3.out.2 h3; have HPO := Lib.hid hpost; clear h3 hpost)
              go_wp2_with fail
              go_ret2
              have h := HPO.out
              rw [HE.out, HRD.out] at h
              exact h
          · have hT := Lib.hid (takeI_2n hnr)
            have hng : (r.length : Int) < (n : Int) := by omega
            go_wp2_with fail
            go_ret2
            exact .inr ⟨.inl hT.out, ⟨_, _, _, rfl⟩, hB2.out⟩
      · have b2x : ((k : Int) == 2) = false := by simp; omega
        by_cases hk3 : k = 3
        · subst hk3
          cases r with
          | nil =>
            go_enter Try.func37, Try.ntmps37
            go_wp2_with fail
            refine hT1.mono ?_
            rintro e w1 ⟨rfl, b1⟩
            have hB1 := Lib.hid (HB.out.trans (b1.mono HB.out.size))
            have hC1 := Lib.hid (HC.out.stay b1)
            clear b1 hT1
            go_wp2_with fail
            refine (taken_calls w1 A1 len1 c1 [] (HR1.out.stay hB1.out) HX1.out HL1.out.1 HL1.out.2 1 (by omega) (by omega)).mono ?_
            rintro e w2 ⟨rfl, b2⟩
            rw [if_neg (by have := HRL.out; simp at this; omega)]
            have hB2 := Lib.hid (hB1.out.trans (b2.mono hB1.out.size))
            have hC2 := Lib.hid (hC1.out.stay b2)
            clear b2 hB1 hC1
            go_wp2_with fail
            go_ret2
            exact .inr ⟨.inl takeI_30, ⟨_, _, _, rfl⟩, hB2.out⟩
          | cons n r =>
            have hn256 : n < 256 := HX1.out n List.mem_cons_self
            have hl2 : r.length + 1 = len1 := HRL.out
            have hne : 1 ≤ len1 := by omega
            have hR2 := HR1.out.cutB 1 hne HL1.out.1
            have hd2 : (n :: r).drop 1 = r := rfl
            rw [hd2] at hR2
            have hn2 : numB ((n :: r).take 1) = n := by simp [numB]
            have hx2 : ∀ x ∈ r, x < 256 := fun x h => HX1.out x (List.mem_cons_of_mem _ h)
            have hrl2 : r.length = len1 - 1 := by omega
            have hlc2 : len1 - 1 ≤ c1 - 1 := by have := HL1.out.1; omega
            have hcc2 : c1 - 1 ≤ 9223372036854775807 := by have := HL1.out.2; omega
            have HR2 := Lib.hid (show Rf flB w0 (cutA A1 c1 1) r.length r from by rw [hrl2]; exact hR2)
            have HX2 := Lib.hid hx2
            have HRL2 := Lib.hid hrl2
            have HL2 := Lib.hid (show r.length ≤ c1 - 1 ∧ c1 - 1 ≤ 9223372036854775807 from ⟨by omega, hcc2⟩)
            have HNE := Lib.hid hne
            have HN2 := Lib.hid hn2
            clear hl2 hR2 hd2 hn2 hx2 hrl2 hlc2 hcc2 hne
            go_enter Try.func37, Try.ntmps37
            go_wp2_with fail
            refine hT1.mono ?_
            rintro e w1 ⟨rfl, b1⟩
            have hB1 := Lib.hid (HB.out.trans (b1.mono HB.out.size))
            have hC1 := Lib.hid (HC.out.stay b1)
            clear b1 hT1
            go_wp2_with fail
            refine (taken_calls w1 A1 len1 c1 (n :: r) (HR1.out.stay hB1.out) HX1.out HL1.out.1 HL1.out.2 1 (by omega) (by omega)).mono ?_
            rintro e w2 ⟨rfl, b2⟩
            rw [if_pos HNE.out, HN2.out, ← HRL2.out]
            have hB2 := Lib.hid (hB1.out.trans (b2.mono hB1.out.size))
            have hC2 := Lib.hid (hC1.out.stay b2)
            clear b2 hB1 hC1
            generalize cutA A1 c1 1 = A2 at *
            generalize c1 - 1 = c2 at *
            have hT := Lib.hid (takeI_3 (v := n) (r := r))
            go_wp2_with fail
            refine (AddBool_calls _ w2 w0.heap.size b v its hC2.out hB2.out.size).mono ?_
            intro e w3 h3
            obtain ⟨ok, rfl, hpost⟩ := addB_of hB2.out hC2.out hT.out HR2.out HL2.out.1 HL2.out.2 h3
            have HPO := Lib.hid hpost
            clear h3 hpost
            go_wp2_with fail
            go_ret2
            exact HPO.out
        · have b3x : ((k : Int) == 3) = false := by simp; omega
          have hT := Lib.hid (takeI_x (r := r) hk1 hk2 hk3)
          clear hk1 hk2 hk3
          go_enter Try.func37, Try.ntmps37
          go_wp2_with fail
          refine hT1.mono ?_
          rintro e w1 ⟨rfl, b1⟩
          have hB1 := Lib.hid (HB.out.trans (b1.mono HB.out.size))
          clear b1 hT1
          go_wp2_with fail
          go_ret2
          exact .inr ⟨.inl hT.out, ⟨_, _, _, rfl⟩, hB1.out⟩
end Go.Proofs.Ytodccdfpoocolaa
