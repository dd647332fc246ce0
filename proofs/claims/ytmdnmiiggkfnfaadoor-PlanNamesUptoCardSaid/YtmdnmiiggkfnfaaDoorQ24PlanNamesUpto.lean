/- Texts put together for a claim. -/
import Derived.Test.YtmdnmiiggkfnfaaDoorQ19PlanNamesUpto
import Derived.Test.YtmdnmiiggkfnfaaDoorLater
import Derived.Test.YtmdnmiiggkfnfaaDoorRes
import Derived.Lib.IndexLaws
/- strings.Cut at one byte; plain bounds on words and on what a reader takes. -/
set_option linter.unusedVariables false
set_option linter.unusedSimpArgs false
namespace Go.Proofs.YtmdnmiiggkfnfaaDoor
open Go.RowKit

theorem take_while_at : ∀ (l : List UInt8) (c : UInt8) (o : Nat), l[o]? = some c → (∀ k, k < o → l[k]? ≠ some c) → l.takeWhile (· != c) = l.take o ∧ l.dropWhile (· != c) = l.drop o
  | [], c, o, h, _ => by simp at h
  | x :: t, c, 0, h, _ => by
    simp only [List.getElem?_cons_zero, Option.some.injEq] at h
    subst h
    simp
  | x :: t, c, o + 1, h, hn => by
    have hx : x ≠ c := fun e => hn 0 (by omega) (by simp [e])
    have ih := take_while_at t c o (by simpa using h) (fun k hk => by have := hn (k + 1) (by omega); simpa using this)
    have hb : (x != c) = true := by simpa using hx
    rw [List.takeWhile_cons, List.dropWhile_cons, hb]
    simp [ih.1, ih.2]
theorem take_while_all : ∀ (l : List UInt8) (c : UInt8), (∀ k : Nat, l[k]? ≠ some c) → l.takeWhile (· != c) = l ∧ l.dropWhile (· != c) = []
  | [], c, _ => ⟨rfl, rfl⟩
  | x :: t, c, hn => by
    have hx : x ≠ c := fun e => hn 0 (by simp [e])
    have ih := take_while_all t c (fun k => by have := hn (k + 1); simpa using this)
    have hb : (x != c) = true := by simpa using hx
    rw [List.takeWhile_cons, List.dropWhile_cons, hb]
    simp [ih.1, ih.2]
theorem nat_bne (x c : UInt8) : (x.toNat != c.toNat) = (x != c) := by
  rw [Bool.eq_iff_iff]
  simp [UInt8.toNat_inj]
theorem map_while (l : List UInt8) (c : UInt8) : (l.map UInt8.toNat).takeWhile (· != c.toNat) = (l.takeWhile (· != c)).map UInt8.toNat ∧ (l.map UInt8.toNat).dropWhile (· != c.toNat) = (l.dropWhile (· != c)).map UInt8.toNat := by
  induction l with
  | nil => exact ⟨rfl, rfl⟩
  | cons x t ih =>
    rw [List.map_cons, List.takeWhile_cons, List.dropWhile_cons, List.takeWhile_cons, List.dropWhile_cons, nat_bne]
    cases x != c with
    | true => simp [ih.1, ih.2]
    | false => simp
def CutPost (s : ByteArray) (c : UInt8) (w : World) (e : Ending) (w' : World) : Prop :=
  ∃ a b f, e = .returned (.tuple #[.string a, .string b, .bool f]) ∧ byt a = (byt s).takeWhile (· != c.toNat) ∧ byt b = ((byt s).dropWhile (· != c.toNat)).drop 1 ∧ a.size ≤ s.size ∧ b.size ≤ s.size ∧ Below w.heap.size w w'
theorem byt_extract2 (s : ByteArray) (i j : Nat) : byt (s.extract i j) = ((byt s).drop i).take (j - i) := by
  unfold byt
  have h := Lib.extract_toList s i j
  rw [ByteArray.toList_eq] at h
  rw [show (s.extract i j).data.toList = (s.extract i j).toList from (ByteArray.toList_eq _).symm ▸ rfl]
  rw [ByteArray.toList_eq, h, List.map_take, List.map_drop]
theorem SCut_calls (s : ByteArray) (c : UInt8) (w : World) (hs : s.size ≤ 100000000) : Calls Tryd.prog 45 #[.string s, .string ⟨#[c]⟩] w (CutPost s c w) := by
  have KI := Lib.hid (Tryd.stringslite_Index_one s c w)
  rcases Int.lt_or_le (Lib.indexByte s.data.toList c) 0 with h0 | h0
  · have hm : Lib.indexByte s.data.toList c = -1 := by have := Lib.indexByte_ge s.data.toList c; omega
    rw [hm] at KI
    have hn := take_while_all _ _ (Lib.indexByte_none hm)
    have HB : Hid (byt s = (byt s).takeWhile (· != c.toNat) ∧ ([] : List Nat) = ((byt s).dropWhile (· != c.toNat)).drop 1) := Lib.hid (by
      have := map_while s.data.toList c
      unfold byt
      rw [this.1, this.2, hn.1, hn.2]
      exact ⟨rfl, rfl⟩)
    clear hm h0 hn
    go_enter Tryd.func45, Tryd.ntmps45
    go_wp2_with (first
      | (go_at_call 54; refine KI.out.mono ?_; rintro e w1 ⟨rfl, rfl⟩)
      | fail)
    go_ret3
    exact ⟨s, ⟨#[]⟩, false, rfl, HB.out.1, HB.out.2, Nat.le_refl _, Nat.zero_le _, Below.refl _ _⟩
  · obtain ⟨o, ho⟩ := Int.eq_ofNat_of_zero_le h0
    rw [ho] at KI
    obtain ⟨h1, h2⟩ := Lib.indexByte_some ho
    have hlt : o < s.size := by
      have h5 := (List.getElem?_eq_some_iff.1 h1).1
      rw [Array.length_toList] at h5
      exact h5
    have hw := take_while_at _ _ _ h1 h2
    have HB : Hid (byt (s.extract 0 o) = (byt s).takeWhile (· != c.toNat) ∧ byt (s.extract (o + 1) s.size) = ((byt s).dropWhile (· != c.toNat)).drop 1) := Lib.hid (by
      have hm := map_while s.data.toList c
      constructor
      · rw [byt_extract2]
        show _ = (s.data.toList.map UInt8.toNat).takeWhile _
        rw [hm.1, hw.1]
        simp [byt, List.map_take]
      · rw [byt_extract]
        show _ = ((s.data.toList.map UInt8.toNat).dropWhile _).drop 1
        rw [hm.2, hw.2]
        simp [byt, List.map_drop, List.drop_drop])
    have hb1 : (o : Int) ≤ s.size := by omega
    have hb2 : (o : Int) + 1 ≤ s.size := by omega
    have hb3 : o ≤ s.size := by omega
    have hb4 : o + 1 ≤ s.size := by omega
    clear h0 ho h1 h2 hw
    go_enter Tryd.func45, Tryd.ntmps45
    go_wp2_with (first
      | (go_at_call 54; refine KI.out.mono ?_; rintro e w1 ⟨rfl, rfl⟩)
      | fail)
    go_quiet (fail)
    go_wp2_with fail
    go_ret3
    refine ⟨s.extract 0 o, s.extract (o + 1) s.size, true, rfl, HB.out.1, HB.out.2, ?_, ?_, below_drawn (Below.refl _ _) _⟩
    · rw [ByteArray.size_extract]; omega
    · rw [ByteArray.size_extract]; omega
theorem Cut1_calls (s : ByteArray) (c : UInt8) (w : World) (hs : s.size ≤ 100000000) : Calls Tryd.prog 27 #[.string s, .string ⟨#[c]⟩] w (CutPost s c w) := by
  have K := Lib.hid (SCut_calls s c w hs)
  go_enter Tryd.func27, Tryd.ntmps27
  go_wp2_with (first
    | (go_at_call 45; refine K.out.mono ?_; rintro e w1 ⟨a, b, f, rfl, h1, h2, h3, h4, h5⟩)
    | fail)
  go_ret3
  exact ⟨a, b, f, rfl, h1, h2, h3, h4, h5⟩

/-- So many words, and so long, a text has at most. -/
theorem goW_bound : ∀ (rs : List (Nat × Nat)) (st : St) (m : Nat), (∀ x ∈ st.acc, x.1.size ≤ m) → (goW st rs).1.length ≤ st.acc.length + rs.length ∧ ∀ x ∈ (goW st rs).1, x.1.size ≤ m + 4 * rs.length
  | [], st, m, h => ⟨by simp [goW], by simpa [goW] using h⟩
  | y :: t, st, m, h => by
    by_cases hb : badR y = true
    · rw [goW_bad hb]
      exact ⟨by simp, by simp⟩
    · rw [goW_ok (by simpa using hb)]
      have ht := encode_le (y.1 : Int)
      have key : (stepW st y).acc.length ≤ st.acc.length + 1 ∧ ∀ x ∈ (stepW st y).acc, x.1.size ≤ m + 4 := by
        unfold stepW
        generalize Utf8.encode (y.1 : Int) = tt at *
        split
        · exact ⟨by simp, fun x hx => by have := h x hx; omega⟩
        · split
          · dsimp only
            rcases List.eq_nil_or_concat st.acc with he | ⟨p, x, he⟩
            · rw [he]
              exact ⟨by simp [extLast], by simp [extLast]⟩
            · rw [List.concat_eq_append] at he
              rw [he, extLast_snoc]
              refine ⟨by simp, fun z hz => ?_⟩
              rcases List.mem_append.1 hz with h1 | h1
              · have := h z (by rw [he]; exact List.mem_append_left _ h1); omega
              · rw [List.mem_singleton.1 h1]
                have h2 := h x (by rw [he]; simp)
                show (x.1 ++ tt).size ≤ _
                rw [ByteArray.size_append]
                omega
          · refine ⟨by simp, fun z hz => ?_⟩
            rcases List.mem_append.1 hz with h1 | h1
            · have := h z h1; omega
            · rw [List.mem_singleton.1 h1]
              show tt.size ≤ m + 4
              omega
      have ih := goW_bound t (stepW st y) (m + 4) key.2
      rw [List.length_cons]
      exact ⟨by have := ih.1; have := key.1; omega, fun x hx => by have := ih.2 x hx; omega⟩
theorem words_bound (l : List Nat) : (wordsL l).1.length ≤ l.length ∧ ∀ x ∈ (wordsL l).1, x.1.size ≤ 4 * l.length := by
  have h := goW_bound (rn l) ⟨[], 0, false⟩ 0 (by simp)
  have h2 := rn_len l
  unfold wordsL
  refine ⟨by have := h.1; simp at this; omega, fun x hx => by have := h.2 x hx; omega⟩
end Go.Proofs.YtmdnmiiggkfnfaaDoor
