/- Walk of GlyphWords. -/
import Derived.Test.YtjjcibbokeadiaaDoorGlEac
set_option linter.unusedVariables false
namespace Go.Proofs.YtjjcibbokeadiaaDoor
open Go.RowKit

/-- The text so far: its words, its runes. -/
structure Txt (S : ByteArray) (want : List Wd) (at_ : Nat) (win : Bool) : Prop where
  whole : wholeR (rn (byt S)) = true
  fold : (rn (byt S)).foldl stepW ⟨[], 0, false⟩ = ⟨want, at_, win⟩
theorem Txt.zero : Txt ⟨#[]⟩ [] 0 false := ⟨rfl, rfl⟩
theorem Txt.len {S : ByteArray} {want : List Wd} {a : Nat} {win : Bool} (h : Txt S want a win) : (rn (byt S)).length = a := by
  have := fold_n (rn (byt S)) ⟨[], 0, false⟩
  rw [h.fold] at this
  simpa using this.symm
theorem Txt.blank {S : ByteArray} {want : List Wd} {a : Nat} {win : Bool} (h : Txt S want a win) {c : UInt8} (hc : c = 32 ∨ c = 9) : Txt (S ++ ⟨#[c]⟩) want (a + 1) false := by
  have hc1 : c.toNat < 128 := by rcases hc with rfl | rfl <;> decide
  have hb : blankR (c.toNat, 1) = true := by rcases hc with rfl | rfl <;> rfl
  have hg : badR (c.toNat, 1) = false := by rcases hc with rfl | rfl <;> rfl
  have e : rn (byt (S ++ ⟨#[c]⟩)) = rn (byt S) ++ [(c.toNat, 1)] := by
    rw [byt_app, show byt ⟨#[c]⟩ = [c.toNat] from rfl, rn_plain _ hc1]
  refine ⟨?_, ?_⟩
  · rw [e]
    exact whole_app h.whole (by unfold wholeR; simp [hg])
  · rw [e, List.foldl_append, h.fold]
    exact stepW_blank _ hb
theorem Txt.word {S t : ByteArray} {want : List Wd} {a : Nat} (h : Txt S want a false) (ht : nameL (byt t) = true) : Txt (S ++ t) (want ++ [((t, (a : Int)) : Wd)]) (a + (rn (byt t)).length) true := by
  obtain ⟨h1, h2, h3, _⟩ := name_whole ht
  have e : rn (byt (S ++ t)) = rn (byt S) ++ rn (byt t) := by rw [byt_app, rn_app _ (byt_lt S) h.whole]
  refine ⟨?_, ?_⟩
  · rw [e]; exact whole_app h.whole h1
  · rw [e, List.foldl_append, h.fold, fold_new _ _ _ h3 h2, encAll_rn _ h1]
theorem Txt.words {S : ByteArray} {want : List Wd} {a : Nat} {win : Bool} (h : Txt S want a win) : wordsL (byt (S ++ ⟨#[32]⟩)) = (want, -1) := by
  have h2 := h.blank (c := 32) (.inl rfl)
  unfold wordsL
  rw [goW_all _ _ h2.whole, h2.fold]
theorem rfS_at {w : World} {A : Option Addr} {n : Nat} {xs : List ByteArray} (h : Rf flS w A n xs) {j : Nat} (hj : j < n) : ∃ b off x, A = some ⟨b, off, none⟩ ∧ xs[j]? = some x ∧ w.cell? ⟨b, off + j, none⟩ = some (.string x) := by
  obtain ⟨b, off, x, rfl, hx, hc⟩ := h.at_ hj
  refine ⟨b, off, x, rfl, hx, ?_⟩
  have := hc 0 _ rfl
  simpa [flS] using this
theorem rfI_at {w : World} {A : Option Addr} {n : Nat} {xs : List Int} (h : Rf flI w A n xs) {j : Nat} (hj : j < n) : ∃ b off x, A = some ⟨b, off, none⟩ ∧ xs[j]? = some x ∧ w.cell? ⟨b, off + j, none⟩ = some (.int .i64 x) := by
  obtain ⟨b, off, x, rfl, hx, hc⟩ := h.at_ hj
  refine ⟨b, off, x, rfl, hx, ?_⟩
  have := hc 0 _ rfl
  simpa [flI] using this
theorem mask_lo (x : Int) (b : Nat) (m : Int) (hm : (BitVec.ofInt 64 m).toNat = 2 ^ b - 1) (hb : b < 60) : ∃ q : Nat, bits .and .i64 x m = (q : Int) ∧ q < 2 ^ b := by
  have h2 := Nat.and_two_pow_sub_one_eq_mod (BitVec.ofInt 64 x).toNat b
  have hlt : (BitVec.ofInt 64 x).toNat % 2 ^ b < 2 ^ b := Nat.mod_lt _ (Nat.pow_pos (by omega))
  have hpow : 2 ^ b < 2 ^ 60 := Nat.pow_lt_pow_right (by omega) hb
  refine ⟨(BitVec.ofInt 64 x).toNat % 2 ^ b, ?_, hlt⟩
  show IntKind.i64.wrap ((BitVec.ofInt 64 x &&& BitVec.ofInt 64 m).toNat : Int) = _
  rw [BitVec.toNat_and, hm, h2, IntKind.wrap_i64]
  omega
theorem mask3 (x : Int) : ∃ q : Nat, bits .and .i64 x 3 = (q : Int) ∧ q < 4 := mask_lo x 2 3 (by decide) (by omega)
theorem mask1 (x : Int) : bits .and .i64 x 1 = 0 ∨ bits .and .i64 x 1 = 1 := by
  obtain ⟨q, h, hq⟩ := mask_lo x 1 1 (by decide) (by omega)
  rw [h]
  omega
set_option maxRecDepth 100000 in
set_option maxHeartbeats 8000000 in
theorem words_calls (A B : Option Addr) (n c m d : Nat) (xs : List ByteArray) (gs : List Int) (w : World) (hT : Tabs w) (hA : Rf flS w A n xs) (hB : Rf flI w B m gs) :
    Calls Tryd.prog 4 #[.slice A n c, .slice B m d] w fun e w' => e = .returned (.bool true) ∧ Below w.heap.size w w' := by
  obtain ⟨i0, hi0, hz0, hz1, hz2⟩ := info_parts info_w
  have HT := Lib.hid hT
  have hn := hA.2.1
  have hm := hB.2.1
  have HA := Lib.hid hA
  have HB := Lib.hid hB
  clear hT hA hB
  by_cases h1 : (30 : Int) < (n : Int)
  · go_enter Tryd.func4, Tryd.ntmps4
    go_wp2_with fail
    go_ret
    exact ⟨rfl, Below.refl _ _⟩
  by_cases h2 : (m : Int) < (n : Int)
  · go_enter Tryd.func4, Tryd.ntmps4
    go_wp2_with fail
    go_ret
    exact ⟨rfl, Below.refl _ _⟩
  go_enter Tryd.func4, Tryd.ntmps4
  go_wp2_with fail
  go_loopw [5, 6, 7, 8] (fun s a v i wr => ∃ (k an : Nat) (S : ByteArray) (want : List Wd) (win : Bool), k ≤ n ∧ s = .string S ∧ a = .int .i64 an ∧ i = .int .i64 k ∧ Hid (Txt S want an win ∧ (k = 0 → win = false) ∧ Ow flW wr w.heap.size 32 v want ∧ Below w.heap.size w wr) ∧ want.length ≤ k ∧ an ≤ 12 * k ∧ S.size ≤ 64 * k) (fun _ _ _ i _ => n - (intOf i).toNat)
  case atStart => exact ⟨0, 0, _, [], false, by omega, rfl, rfl, rfl, Lib.hid ⟨Txt.zero, fun _ => rfl, Ow.nil_ _ _ _ _, Below.refl _ _⟩, by simp, by simp, by decide⟩
  case round =>
    obtain ⟨k, an, S, want, win, hk, rfl, rfl, rfl, hR, hwl, han, hSz⟩ := hrel
    by_cases hlt : k < n
    · obtain ⟨ba, oa, t, rfl, hx, c0⟩ := rfS_at HA.out hlt
      obtain ⟨bb, ob, g, rfl, hy, d0⟩ := rfI_at HB.out (j := k) (by omega)
      have C0 := Lib.hid c0
      have D0 := Lib.hid d0
      have c0 := cell_keep hR.out.2.2.2 (cell_lt C0.out) C0.out
      have d0 := cell_keep hR.out.2.2.2 (cell_lt D0.out) D0.out
      have hkm : (k : Int) < (m : Int) := by omega
      clear hx hy
      by_cases h60 : (60 : Int) < (t.size : Int)
      · go_wp2_with fail
        go_ret
        exact ⟨rfl, hR.out.2.2.2⟩
      have KI := Lib.hid (RefIsName_calls wr (HT.out.stay hR.out.2.2.2) t (by omega))
      cases hnm : nameL (byt t) with
      | false =>
        rw [hnm] at KI
        clear hnm
        go_wp2_with fail
        refine KI.out.mono ?_
        rintro e w1 ⟨rfl, hb1⟩
        go_wp2_with fail
        go_ret
        exact ⟨rfl, hR.out.2.2.2.trans (hb1.mono hR.out.2.2.2.size)⟩
      | true =>
        rw [hnm] at KI
        have HNM := Lib.hid hnm
        clear hnm
        obtain ⟨q, hq, hq4⟩ := mask3 g
        rcases Nat.eq_zero_or_pos k with hk0 | hk0
        · have d1 : decide (0 < k) = false := decide_eq_false (by omega)
          have d2 : ¬ (0 : Int) < (k : Int) := by omega
          have HK0 := Lib.hid hk0
          clear hk0
          go_wp2_with fail
          refine KI.out.mono ?_
          rintro e w1 ⟨rfl, hb1⟩
          have HB1 := Lib.hid (hR.out.2.2.2.trans (hb1.mono hR.out.2.2.2.size))
          have HO1 := Lib.hid (hR.out.2.2.1.stay hb1)
          have c0 := cell_keep HB1.out (cell_lt C0.out) C0.out
          have d0 := cell_keep HB1.out (cell_lt D0.out) D0.out
          clear hb1
          go_wp2_with fail
          clear hq d1 d2
          go_loopw [5, 10] (fun s j wi => ∃ (jj : Nat) (S' : ByteArray), jj ≤ q ∧ s = .string S' ∧ j = .int .i64 jj ∧ Hid (Txt S' want (an + jj) (if jj = 0 then win else false) ∧ Below w1.heap.size w1 wi) ∧ S'.size ≤ 64 * k + jj) (fun _ j _ => q - (intOf j).toNat)
          case atStart => exact ⟨0, S, by omega, rfl, rfl, Lib.hid ⟨hR.out.1, Below.refl _ _⟩, by omega⟩
          case round =>
            obtain ⟨jj, S', hjq, rfl, rfl, hI, hSz'⟩ := hrel
            have hS8 : (S'.size : Int) ≤ 8388608 := by omega
            by_cases hlj : jj < q
            · have hli : (jj : Int) < (q : Int) := by omega
              have d0 := fun o => cell_stay (below_new wr o) (cell_keep (HB1.out.trans (hI.out.2.mono HB1.out.size)) (cell_lt D0.out) D0.out)
              rcases mask1 (g / 2 ^ (jj + 2)) with hm1 | hm1
              · go_wp2_with fail
                go_roundw
                case rel => exact ⟨jj + 1, S' ++ ⟨#[32]⟩, by omega, rfl, by go_num, Lib.hid ⟨by have := hI.out.1.blank (c := 32) (.inl rfl); rwa [Nat.add_assoc] at this, hI.out.2.trans ((below_new wr _).mono hI.out.2.size)⟩, by rw [ByteArray.size_append]; show S'.size + 1 ≤ _; omega⟩
                case measure => simp [intOf]; omega
              · go_wp2_with fail
                go_roundw
                case rel => exact ⟨jj + 1, S' ++ ⟨#[9]⟩, by omega, rfl, by go_num, Lib.hid ⟨by have := hI.out.1.blank (c := 9) (.inr rfl); rwa [Nat.add_assoc] at this, hI.out.2.trans ((below_new wr _).mono hI.out.2.size)⟩, by rw [ByteArray.size_append]; show S'.size + 1 ≤ _; omega⟩
                case measure => simp [intOf]; omega
            · obtain rfl : q = jj := by omega
              have hng : ¬ (((q : Nat)) : Int) < (q : Int) := by omega
              have htx : Txt S' want (an + (q)) false := by
                have h := hI.out.1
                have hw := hR.out.2.1 HK0.out
                rw [hw] at h
                simpa using h
              have ht32 := name_size HNM.out
              have ht8 : (t.size : Int) ≤ 8388608 := by omega
              have htw := htx.word HNM.out
              have hrl := Nat.le_trans (name_whole HNM.out).2.2.2 (Nat.le_refl 8)
              have HTW := Lib.hid htw
              have HBw := Lib.hid (HB1.out.trans (hI.out.2.mono HB1.out.size))
              have HOw := Lib.hid (HO1.out.stay hI.out.2)
              have KR := Lib.hid (fun W h => Runes_calls W h t (by omega))
              have HBX := Lib.hid (fun W => box_w W t ((an : Int) + (q : Int)))
              have hwlb : want.length ≤ 30 := by omega
              have c0 := cell_keep HBw.out (cell_lt C0.out) C0.out
              clear htx htw
              go_wp2_with (first
                | (at_builtin; refine wpList_append_any _ rfl (.tmp 74) (.tmp 81) _ rfl w.heap.size 32 i0 _ 2 24 Tryd.underlying29 hi0 hz0 hz1 hz2 rfl (by omega) _ want.length (want.flatMap flW.enc) rfl (HOw.out.alloc _) _ (some ⟨wr.heap.size, 0, none⟩) 1 1 (flW.enc ((t, (an : Int) + (q : Int)) : Wd)) rfl (HBX.out wr) (flW.one _) (by simp only [maxLen]; omega) (by omega) (by have := HBw.out.size; simp; omega) ?_; intro v4 w4 hown4 hg4 hat4; have HO4 := Lib.hid hown4; have HG4 := Lib.hid hg4; have HB4 := Lib.hid (grown_below (HBw.out.alloc HBw.out.size _) (by have := HBw.out.size; simp; omega) HG4.out HOw.out.base_); have c0 := cell_keep HB4.out (cell_lt C0.out) C0.out; clear hown4 hg4 hat4)
                | (go_at_call 19; refine (KR.out _ (HT.out.stay HB4.out)).mono ?_; intro e w5 hp; obtain ⟨U, u, rfl, _, hb5⟩ := runes_post hp; have HB5 := Lib.hid (HB4.out.trans (hb5.mono HB4.out.size)); have HO5 := Lib.hid ((Ow.snoc HO4.out).stay hb5); clear hp hb5))
              generalize hrn : (rn (byt t)).length = R at *
              have HRN := Lib.hid hrn
              clear hrn
              go_wp2_with fail
              go_roundw
              case rel =>
                exact ⟨k + 1, an + (q) + R, S' ++ t, _, true, by omega, rfl, by go_num, by go_num, Lib.hid ⟨HTW.out, fun h => by omega, HO5.out, HB5.out⟩, by simp; omega, by omega, by rw [ByteArray.size_append]; omega⟩
              case measure => simp [intOf]; omega
        · have d1 : decide (0 < k) = true := decide_eq_true hk0
          have d2 : (0 : Int) < (k : Int) := by omega
          have HK0 := Lib.hid hk0
          clear hk0
          go_wp2_with fail
          refine KI.out.mono ?_
          rintro e w1 ⟨rfl, hb1⟩
          have HB1 := Lib.hid (hR.out.2.2.2.trans (hb1.mono hR.out.2.2.2.size))
          have HO1 := Lib.hid (hR.out.2.2.1.stay hb1)
          have c0 := cell_keep HB1.out (cell_lt C0.out) C0.out
          have d0 := cell_keep HB1.out (cell_lt D0.out) D0.out
          clear hb1
          go_wp2_with fail
          clear hq d1 d2
          go_loopw [5, 10] (fun s j wi => ∃ (jj : Nat) (S' : ByteArray), jj ≤ q + 1 ∧ s = .string S' ∧ j = .int .i64 jj ∧ Hid (Txt S' want (an + jj) (if jj = 0 then win else false) ∧ Below w1.heap.size w1 wi) ∧ S'.size ≤ 64 * k + jj) (fun _ j _ => q + 1 - (intOf j).toNat)
          case atStart => exact ⟨0, S, by omega, rfl, rfl, Lib.hid ⟨hR.out.1, Below.refl _ _⟩, by omega⟩
          case round =>
            obtain ⟨jj, S', hjq, rfl, rfl, hI, hSz'⟩ := hrel
            have hS8 : (S'.size : Int) ≤ 8388608 := by omega
            by_cases hlj : jj < q + 1
            · have hli : (jj : Int) < ((q : Int) + 1) := by omega
              have d0 := fun o => cell_stay (below_new wr o) (cell_keep (HB1.out.trans (hI.out.2.mono HB1.out.size)) (cell_lt D0.out) D0.out)
              rcases mask1 (g / 2 ^ (jj + 2)) with hm1 | hm1
              · go_wp2_with fail
                go_roundw
                case rel => exact ⟨jj + 1, S' ++ ⟨#[32]⟩, by omega, rfl, by go_num, Lib.hid ⟨by have := hI.out.1.blank (c := 32) (.inl rfl); rwa [Nat.add_assoc] at this, hI.out.2.trans ((below_new wr _).mono hI.out.2.size)⟩, by rw [ByteArray.size_append]; show S'.size + 1 ≤ _; omega⟩
                case measure => simp [intOf]; omega
              · go_wp2_with fail
                go_roundw
                case rel => exact ⟨jj + 1, S' ++ ⟨#[9]⟩, by omega, rfl, by go_num, Lib.hid ⟨by have := hI.out.1.blank (c := 9) (.inr rfl); rwa [Nat.add_assoc] at this, hI.out.2.trans ((below_new wr _).mono hI.out.2.size)⟩, by rw [ByteArray.size_append]; show S'.size + 1 ≤ _; omega⟩
                case measure => simp [intOf]; omega
            · obtain rfl : jj = q + 1 := by omega
              have hng : ¬ (((q + 1 : Nat)) : Int) < ((q : Int) + 1) := by omega
              have htx : Txt S' want (an + (q + 1)) false := by
                have h := hI.out.1
                rwa [if_neg (by omega)] at h
              have ht32 := name_size HNM.out
              have ht8 : (t.size : Int) ≤ 8388608 := by omega
              have htw := htx.word HNM.out
              have hrl := Nat.le_trans (name_whole HNM.out).2.2.2 (Nat.le_refl 8)
              have HTW := Lib.hid htw
              have HBw := Lib.hid (HB1.out.trans (hI.out.2.mono HB1.out.size))
              have HOw := Lib.hid (HO1.out.stay hI.out.2)
              have KR := Lib.hid (fun W h => Runes_calls W h t (by omega))
              have HBX := Lib.hid (fun W => box_w W t ((an : Int) + ((q : Int) + 1)))
              have hwlb : want.length ≤ 30 := by omega
              have c0 := cell_keep HBw.out (cell_lt C0.out) C0.out
              clear htx htw
              go_wp2_with (first
                | (at_builtin; refine wpList_append_any _ rfl (.tmp 74) (.tmp 81) _ rfl w.heap.size 32 i0 _ 2 24 Tryd.underlying29 hi0 hz0 hz1 hz2 rfl (by omega) _ want.length (want.flatMap flW.enc) rfl (HOw.out.alloc _) _ (some ⟨wr.heap.size, 0, none⟩) 1 1 (flW.enc ((t, (an : Int) + ((q : Int) + 1)) : Wd)) rfl (HBX.out wr) (flW.one _) (by simp only [maxLen]; omega) (by omega) (by have := HBw.out.size; simp; omega) ?_; intro v4 w4 hown4 hg4 hat4; have HO4 := Lib.hid hown4; have HG4 := Lib.hid hg4; have HB4 := Lib.hid (grown_below (HBw.out.alloc HBw.out.size _) (by have := HBw.out.size; simp; omega) HG4.out HOw.out.base_); have c0 := cell_keep HB4.out (cell_lt C0.out) C0.out; clear hown4 hg4 hat4)
                | (go_at_call 19; refine (KR.out _ (HT.out.stay HB4.out)).mono ?_; intro e w5 hp; obtain ⟨U, u, rfl, _, hb5⟩ := runes_post hp; have HB5 := Lib.hid (HB4.out.trans (hb5.mono HB4.out.size)); have HO5 := Lib.hid ((Ow.snoc HO4.out).stay hb5); clear hp hb5))
              generalize hrn : (rn (byt t)).length = R at *
              have HRN := Lib.hid hrn
              clear hrn
              go_wp2_with fail
              go_roundw
              case rel =>
                exact ⟨k + 1, an + (q + 1) + R, S' ++ t, _, true, by omega, rfl, by go_num, by go_num, Lib.hid ⟨HTW.out, fun h => by omega, HO5.out, HB5.out⟩, by simp; omega, by omega, by rw [ByteArray.size_append]; omega⟩
              case measure => simp [intOf]; omega
    · obtain rfl : k = n := by omega
      have KW := Lib.hid (Words_calls wr (HT.out.stay hR.out.2.2.2) (S ++ ⟨#[32]⟩) (by rw [ByteArray.size_append]; show S.size + 1 ≤ _; omega))
      have KN := Lib.hid (fun W => Width_calls W S (by omega))
      have F1 := Lib.hid hR.out.1.words
      rw [hR.out.1.len] at KN
      have hS8 : (S.size : Int) ≤ 8388608 := by omega
      obtain ⟨V, e4, rfl, hV⟩ := hR.out.2.2.1.read (by decide)
      have HV := Lib.hid hV
      have HBr := Lib.hid hR.out.2.2.2
      clear hlt hV
      go_wp2_with fail
      refine KW.out.mono ?_
      intro e w2 hp
      obtain ⟨U, u, rfl, hU, hb2⟩ := words_post hp
      rw [F1.out] at hU ⊢
      have HU := Lib.hid hU
      have HV2 := Lib.hid (HV.out.stay hb2)
      have HB2 := Lib.hid (HBr.out.trans (hb2.mono HBr.out.size))
      clear hp hU hb2
      have KS := same_calls U V want.length want.length u e4 want want w2 HU.out HV2.out
      rw [decide_eq_true rfl] at KS
      go_wp2_with fail
      refine KS.mono ?_
      rintro e w3 ⟨rfl, hb3⟩
      have HB3 := Lib.hid (HB2.out.trans (hb3.mono HB2.out.size))
      clear KS hb3
      go_wp2_with fail
      refine (KN.out w3).mono ?_
      rintro e w4 ⟨rfl, hb4⟩
      have HB4 := Lib.hid (HB3.out.trans (hb4.mono HB3.out.size))
      clear hb4
      go_wp2_with fail
      refine (known_calls _ (HT.out.stay HB4.out)).mono ?_
      rintro e w5 ⟨rfl, hb5⟩
      go_wp2_with fail
      go_ret
      exact ⟨rfl, HB4.out.trans (hb5.mono HB4.out.size)⟩
theorem opens_strs : Opens Tryd.prog 27 (Kd.slice Kd.str) :=
  opens_slice Tryd.underlying27 (by kernel_rfl) (by decide) (of_decide_eq_true (by kernel_rfl)) (opens_str Tryd.underlying9 (by kernel_rfl))
theorem opens_ints : Opens Tryd.prog 28 (Kd.slice (Kd.int .i64)) :=
  opens_slice Tryd.underlying28 (by kernel_rfl) (by decide) (of_decide_eq_true (by kernel_rfl)) (opens_int Tryd.underlying3 (by kernel_rfl))
end Go.Proofs.YtjjcibbokeadiaaDoor
