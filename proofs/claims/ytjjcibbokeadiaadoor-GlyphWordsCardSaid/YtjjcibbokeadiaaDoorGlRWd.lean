/- Contract: the document's Words. -/
import Derived.Test.YtjjcibbokeadiaaDoorGlRIs
set_option linter.unusedVariables false
namespace Go.Proofs.YtjjcibbokeadiaaDoor
open Go.RowKit

def frV : Option Nat → Int
  | none => -1
  | some f => f
/-- The document's state, as the program's. -/
def stOf (s : ByteArray) (out : List Wd) (fr : Option Nat) (start at_ i : Nat) : St :=
  match fr with
  | none => ⟨out, i, false⟩
  | some f => ⟨out ++ [((s.extract start at_, (f : Int)) : Wd)], i, true⟩
theorem byt_ext (s : ByteArray) (a b : Nat) : byt (s.extract a b) = ((byt s).drop a).take (b - a) := by
  unfold byt
  rw [ByteArray.data_extract, Array.toList_extract]
  simp only [List.extract_eq_take_drop, List.map_take, List.map_drop]
/-- A rune that is read, written again. -/
theorem enc_ext {s : ByteArray} {p r m : Nat} (hp : p < s.size) (hd : decL ((byt s).drop p) = (r, m)) (hb : badR (r, m) = false) : Utf8.encode (r : Int) = s.extract p (p + m) := by
  have hne : (byt s).drop p ≠ [] := fun e => by
    have := congrArg List.length e
    rw [List.length_drop, byt_len] at this
    simp at this
    omega
  have hlt : ∀ x ∈ (byt s).drop p, x < 256 := fun x hx => byt_lt s x (List.mem_of_mem_drop hx)
  obtain ⟨h1, h2⟩ := enc_dec hne hlt (by rw [hd]; exact hb)
  rw [hd] at h1 h2
  apply byt_inj
  rw [byt_ext, Nat.add_sub_cancel_left, ← h2]
  exact byt_encode (r : Int) (by omega) (by simpa using h1)
theorem extract_more (s : ByteArray) (a b c : Nat) (h1 : a ≤ b) (h2 : b ≤ c) : s.extract a b ++ s.extract b c = s.extract a c := by
  apply byt_inj
  have e : ∀ x y : ByteArray, byt (x ++ y) = byt x ++ byt y := by
    intro x y
    unfold byt
    rw [ByteArray.data_append, Array.toList_append, List.map_append]
  rw [e, byt_ext, byt_ext, byt_ext]
  have h3 : c - a = (b - a) + (c - b) := by omega
  rw [h3, List.take_add, List.drop_drop, show a + (b - a) = b by omega]
def RefWordsPost (w : World) (l : List Nat) (e : Ending) (w' : World) : Prop := WordsPost w l e w'
theorem step_blank_none {s : ByteArray} {out : List Wd} {start a a' i : Nat} {x : Nat × Nat} (hb : blankR x = true) : stepW (stOf s out none start a i) x = stOf s out none start a' (i + 1) := by
  unfold stepW stOf
  rw [hb]
  rfl
theorem step_blank_some {s : ByteArray} {out : List Wd} {f start a a' i : Nat} {x : Nat × Nat} (hb : blankR x = true) : stepW (stOf s out (some f) start a i) x = stOf s (out ++ [((s.extract start a, (f : Int)) : Wd)]) none start a' (i + 1) := by
  unfold stepW stOf
  rw [hb]
  rfl
theorem step_word_none {s : ByteArray} {out : List Wd} {start a i r m : Nat} (ha : a < s.size) (hd : decL ((byt s).drop a) = (r, m)) (hw : badR (r, m) = false) (hb : blankR (r, m) = false) : stepW (stOf s out none start a i) (r, m) = stOf s out (some i) a (a + m) (i + 1) := by
  unfold stepW stOf
  rw [hb]
  dsimp only
  rw [enc_ext ha hd hw]
  rfl
theorem step_word_some {s : ByteArray} {out : List Wd} {f start a i r m : Nat} (hs : start ≤ a) (ha : a < s.size) (hd : decL ((byt s).drop a) = (r, m)) (hw : badR (r, m) = false) (hb : blankR (r, m) = false) : stepW (stOf s out (some f) start a i) (r, m) = stOf s out (some f) start (a + m) (i + 1) := by
  unfold stepW stOf
  rw [hb]
  dsimp only
  rw [enc_ext ha hd hw]
  show St.mk (extLast _ _) _ _ = _
  rw [extLast_snoc]
  dsimp only
  rw [extract_more s start a (a + m) hs (by omega)]
theorem stOf_n (s : ByteArray) (out : List Wd) (fr : Option Nat) (start a i : Nat) : (stOf s out fr start a i).n = i := by cases fr <;> rfl
/-- What a round of the document's Words keeps. -/
structure Rnw (w1 wr : World) (s : ByteArray) (l : List (Nat × Nat)) (v : Value) (out : List Wd) (fr : Option Nat) (start a i : Nat) : Prop where
  bel : Below w1.heap.size w1 wr
  own : Ow flW wr w1.heap.size 32 v out
  eq : goW (stOf s out fr start a i) (l.drop i) = wordsL (byt s)
  rest : rn ((byt s).drop a) = l.drop i
set_option maxRecDepth 100000 in
set_option maxHeartbeats 8000000 in
theorem RefWords_calls (w : World) (hT : Tabs w) (s : ByteArray) (hs : s.size ≤ 1000000) :
    Calls Tryd.prog 23 #[.string s] w (WordsPost w (byt s)) := by
  obtain ⟨i0, hi0, hz0, hz1, hz2⟩ := info_parts info_w
  have HK : Hid (Calls Tryd.prog 19 #[.string s] w fun e w' => ∃ v, e = .returned v ∧ Ow flR w' w.heap.size 47 v (rn (byt s)) ∧ Below w.heap.size w w') := Lib.hid (Runes_calls w hT s (by omega))
  have hle := Nat.le_trans (rn_len (byt s)) (Nat.le_of_eq (byt_len s))
  have HL := Lib.hid (byt_len s)
  have H0 := Lib.hid (show goW (stOf s [] none 0 0 0) (rn (byt s)) = wordsL (byt s) from rfl)
  have H1 := Lib.hid (show rn ((byt s).drop 0) = rn (byt s) from rfl)
  generalize rn (byt s) = l at *
  clear hT
  go_enter Tryd.func23, Tryd.ntmps23
  go_wp2_with fail
  refine HK.out.mono ?_
  rintro e w1 ⟨v, rfl, ho, hb1⟩
  obtain ⟨A, c, rfl, hA⟩ := ho.read (by decide)
  have HA := Lib.hid hA
  have HB1 := Lib.hid hb1
  clear ho hA hb1
  go_wp2_with fail
  go_loopw [5, 6, 7, 8, 9] (fun v a fr st i wr => ∃ (an start k : Nat) (f : Option Nat) (out : List Wd), a = .int .i64 an ∧ fr = .int .i64 (frV f) ∧ st = .int .i64 start ∧ i = .int .i64 k ∧ Hid (Rnw w1 wr s l v out f start an k) ∧ start ≤ an ∧ an ≤ s.size ∧ k ≤ l.length ∧ out.length ≤ k) (fun _ _ _ _ i _ => l.length - (intOf i).toNat)
  case atStart => exact ⟨0, 0, 0, none, [], rfl, rfl, rfl, rfl, Lib.hid ⟨Below.refl _ _, Ow.nil_ _ _ _ _, H0.out, H1.out⟩, by omega, by omega, by omega, by simp⟩
  case round =>
    obtain ⟨a, start, k, f, out, rfl, rfl, rfl, rfl, hR, hsa, has, hk, hol⟩ := hrel
    by_cases hlt : k < l.length
    · obtain ⟨b, off, r, m, rfl, hx, c0, c1, c2⟩ := rfR_at HA.out hlt
      have Q1 := Lib.hid c1
      have c0 := cell_stay hR.out.bel c0
      have c1 := cell_stay hR.out.bel c1
      have c2 := cell_stay hR.out.bel c2
      have hrest := hR.out.rest
      rw [drop_at hx] at hrest
      have hne : (byt s).drop a ≠ [] := fun e => by rw [e, rn_nil] at hrest; cases hrest
      have hal : a < s.size := by
        rcases Nat.lt_or_ge a s.size with h | h
        · exact h
        · exact absurd (List.drop_eq_nil_of_le (by rw [HL.out]; exact h)) hne
      rw [rn_cons hne, List.drop_drop] at hrest
      injection hrest with hd hrest
      have hwd := dec_width hne
      rw [hd] at hwd hrest
      dsimp only at hwd hrest
      rw [List.length_drop, HL.out] at hwd
      have ham : a + m ≤ s.size := by omega
      have hm1 : 1 ≤ m := hwd.1
      have heq := hR.out.eq
      rw [drop_at hx] at heq
      have HD := Lib.hid hd
      have HREST := Lib.hid hrest
      have HEQ := Lib.hid heq
      clear hx hrest hne hd hwd heq
      cases hbad : badR (r, m) with
      | true =>
        rw [hbad] at c2
        have HF := Lib.hid (show wordsL (byt s) = ([], (k : Int)) by rw [← HEQ.out, goW_bad hbad, stOf_n])
        clear hbad
        go_wp2_with fail
        go_ret2
        exact ⟨.slice none 0 0, by rw [HF.out]; exact rfl, by rw [HF.out]; exact Ow.nil_ _ _ _ _, HB1.out.trans (hR.out.bel.mono HB1.out.size)⟩
      | false =>
        rw [hbad] at c2
        have HQ := Lib.hid (HEQ.out.symm.trans (goW_ok hbad))
        have HBAD := Lib.hid hbad
        clear hbad
        have hsal : (start : Int) ≤ (a : Int) := by omega
        have hasl : (a : Int) ≤ (s.size : Int) := by omega
        rcases blank_cases r m with ⟨hbl, hb⟩ | ⟨hbl, b1, b2⟩
        · cases f with
          | none =>
            have HE := Lib.hid (step_blank_none (s := s) (out := out) (start := start) (a := a) (a' := a + m) (i := k) hbl)
            dsimp only [frV]
            clear hbl
            rcases hb with b1 | ⟨b1, b2⟩
            all_goals
              go_wp2_with fail
              go_roundw
              case rel => exact ⟨a + m, start, k + 1, none, out, by go_num, rfl, rfl, by go_num, Lib.hid ⟨hR.out.bel, hR.out.own, by rw [← HE.out]; exact HQ.out.symm, HREST.out⟩, by omega, ham, by omega, by omega⟩
              case measure => simp [intOf]; omega
          | some f =>
            have HE := Lib.hid (step_blank_some (s := s) (out := out) (f := f) (start := start) (a := a) (a' := a + m) (i := k) hbl)
            dsimp only [frV]
            have HBX := Lib.hid (fun W => box_w W (s.extract start a) (f : Int))
            clear hbl
            rcases hb with b1 | ⟨b1, b2⟩
            all_goals
              go_wp2_with (at_builtin; refine wpList_append_any _ rfl (.tmp 52) (.tmp 59) _ rfl w1.heap.size 32 i0 _ 2 24 Tryd.underlying29 hi0 hz0 hz1 hz2 rfl (by omega) _ out.length (out.flatMap flW.enc) rfl (hR.out.own.alloc _) _ (some ⟨wr.heap.size, 0, none⟩) 1 1 (flW.enc ((s.extract start a, (f : Int)) : Wd)) rfl (HBX.out wr) (flW.one _) (by simp only [maxLen]; omega) (by omega) (by have := hR.out.bel.size; simp; omega) ?_; intro v4 w4 hown4 hg4 hat4; have HO4 := Lib.hid hown4; have HG4 := Lib.hid hg4; have HB4 := Lib.hid (grown_below (hR.out.bel.alloc hR.out.bel.size _) (by have := hR.out.bel.size; simp; omega) HG4.out hR.out.own.base_); have c1 := cell_stay HB4.out Q1.out; clear hown4 hg4 hat4)
              go_roundw
              case rel => exact ⟨a + m, start, k + 1, none, _, by go_num, rfl, rfl, by go_num, Lib.hid ⟨HB4.out, Ow.snoc HO4.out, by rw [← HE.out]; exact HQ.out.symm, HREST.out⟩, by omega, ham, by omega, by simp; omega⟩
              case measure => simp [intOf]; omega
        · cases f with
          | none =>
            have HE := Lib.hid (step_word_none (out := out) (start := start) (i := k) hal HD.out HBAD.out hbl)
            dsimp only [frV]
            clear hbl
            go_wp2_with fail
            go_roundw
            case rel => exact ⟨a + m, a, k + 1, some k, out, by go_num, rfl, rfl, by go_num, Lib.hid ⟨hR.out.bel, hR.out.own, by rw [← HE.out]; exact HQ.out.symm, HREST.out⟩, by omega, ham, by omega, by omega⟩
            case measure => simp [intOf]; omega
          | some f =>
            have HE := Lib.hid (step_word_some (out := out) (f := f) (i := k) hsa hal HD.out HBAD.out hbl)
            dsimp only [frV]
            clear hbl
            go_wp2_with fail
            go_roundw
            case rel => exact ⟨a + m, start, k + 1, some f, out, by go_num, rfl, rfl, by go_num, Lib.hid ⟨hR.out.bel, hR.out.own, by rw [← HE.out]; exact HQ.out.symm, HREST.out⟩, by omega, ham, by omega, by omega⟩
            case measure => simp [intOf]; omega
    · have he : l.drop k = [] := List.drop_eq_nil_of_le (by omega)
      have heq := hR.out.eq
      rw [he] at heq
      have hsal : (start : Int) ≤ (a : Int) := by omega
      have hasl : (a : Int) ≤ (s.size : Int) := by omega
      clear he
      cases f with
      | none =>
        have HF := Lib.hid (show wordsL (byt s) = (out, -1) from heq.symm)
        dsimp only [frV]
        clear heq
        go_wp2_with fail
        go_ret2
        exact ⟨_, by rw [HF.out]; exact rfl, by rw [HF.out]; exact hR.out.own.lower HB1.out.size, HB1.out.trans (hR.out.bel.mono HB1.out.size)⟩
      | some f =>
        have HF := Lib.hid (show wordsL (byt s) = (out ++ [((s.extract start a, (f : Int)) : Wd)], -1) from heq.symm)
        have HBX := Lib.hid (fun W => box_w W (s.extract start a) (f : Int))
        dsimp only [frV]
        clear heq
        go_wp2_with (at_builtin; refine wpList_append_any _ rfl (.tmp 70) (.tmp 77) _ rfl w1.heap.size 32 i0 _ 2 24 Tryd.underlying29 hi0 hz0 hz1 hz2 rfl (by omega) _ out.length (out.flatMap flW.enc) rfl (hR.out.own.alloc _) _ (some ⟨wr.heap.size, 0, none⟩) 1 1 (flW.enc ((s.extract start a, (f : Int)) : Wd)) rfl (HBX.out wr) (flW.one _) (by simp only [maxLen]; omega) (by omega) (by have := hR.out.bel.size; simp; omega) ?_; intro v4 w4 hown4 hg4 hat4; have HO4 := Lib.hid hown4; have HG4 := Lib.hid hg4; have HB4 := Lib.hid (grown_below (hR.out.bel.alloc hR.out.bel.size _) (by have := hR.out.bel.size; simp; omega) HG4.out hR.out.own.base_); clear hown4 hg4 hat4)
        go_ret2
        exact ⟨_, by rw [HF.out]; exact rfl, by rw [HF.out]; exact (Ow.snoc HO4.out).lower HB1.out.size, HB1.out.trans (HB4.out.mono HB1.out.size)⟩
end Go.Proofs.YtjjcibbokeadiaaDoor
