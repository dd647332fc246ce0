/- Contracts of the document's Runes, IsName; of the law's whole. -/
import Derived.Test.YtmdnmiiggkfnfaaDoorGlWords
set_option linter.unusedVariables false
set_option linter.unusedSimpArgs false
namespace Go.Proofs.YtmdnmiiggkfnfaaDoor
open Go.RowKit

/-- A rune in memory: its number, its bytes, whether it is a wrong one. -/
def flRn : Fl (Nat × Nat) := ⟨3, fun x => [.int .i32 (x.1 : Int), .int .i64 (x.2 : Int), .bool (badR x)], fun _ => rfl, fun x u hu => by
  rcases List.mem_cons.1 hu with rfl | hu
  · rfl
  · rcases List.mem_cons.1 hu with rfl | hu
    · rfl
    · rw [List.mem_singleton.1 hu]; rfl⟩
theorem info_r : (Tryd.prog.info? 70).map (fun i => (i.zero, i.size, i.bytes)) = some (some (.agg #[.int .i32 0, .int .i64 0, .bool false]), 3, 24) := by kernel_rfl
theorem box_r (W : World) (r n : Nat) : Reads (W.alloc (.cells #[.int .i32 (r : Int), .int .i64 (n : Int), .bool (badR (r, n))] 70)) (W.heap.size + 1) 3 (some ⟨W.heap.size, 0, none⟩) 1 (flRn.enc (r, n)) := box_reads flRn W _ _ (r, n) rfl
/-- The second law of the box: with the flag as it was reckoned. -/
theorem box_rb (W : World) (r n : Nat) (b : Bool) (h : badR (r, n) = b) : Reads (W.alloc (.cells #[.int .i32 (r : Int), .int .i64 (n : Int), .bool b] 70)) (W.heap.size + 1) 3 (some ⟨W.heap.size, 0, none⟩) 1 (flRn.enc (r, n)) := by
  subst h
  exact box_r W r n
def RunesPost (w : World) (l : List Nat) (e : Ending) (w' : World) : Prop :=
  ∃ v, e = .returned v ∧ Ow flRn w' w.heap.size 70 v (rn l) ∧ Below w.heap.size w w'
theorem bad_cases (r n : Nat) : (badR (r, n) = false ∧ ((r : Int) == 65533) = false) ∨ (badR (r, n) = false ∧ ((r : Int) == 65533) = true ∧ ((n : Int) == 1) = false) ∨ (badR (r, n) = true ∧ ((r : Int) == 65533) = true ∧ ((n : Int) == 1) = true) := by
  unfold badR
  by_cases h1 : r = 65533
  · by_cases h2 : n = 1
    · right; right; subst h1 h2; simp
    · right; left; subst h1; simp; omega
  · left
    simp
    omega
set_option maxRecDepth 100000 in
set_option maxRecDepth 20000 in
set_option maxHeartbeats 4000000 in
theorem Runes_calls (w : World) (hT : Tabs w) (s : ByteArray) (hs : s.size ≤ 4000000) :
    Calls Tryd.prog 35 #[.string s] w (RunesPost w (byt s)) := by
  obtain ⟨i0, hi0, hz0, hz1, hz2⟩ := info_parts info_r
  have HL := Lib.hid (byt_len s)
  have HT := Lib.hid hT
  clear hT
  go_enter Tryd.func35, Tryd.ntmps35
  go_wp2_with fail
  go_loopw [3, 4] (fun l i wr => ∃ (pos : Nat) (acc : List (Nat × Nat)), i = .int .i64 pos ∧ Hid (Ow flRn wr w.heap.size 70 l acc ∧ Below w.heap.size w wr ∧ acc ++ rn ((byt s).drop pos) = rn (byt s)) ∧ acc.length ≤ pos ∧ pos ≤ s.size) (fun _ i _ => s.size - (intOf i).toNat)
  case atStart => exact ⟨0, [], rfl, Lib.hid ⟨Ow.nil_ _ _ _ _, Below.refl _ _, rfl⟩, by simp, by omega⟩
  case round =>
    obtain ⟨pos, acc, rfl, hR, hal, hp0⟩ := hrel
    by_cases hp : pos < s.size
    · have hne : (byt s).drop pos ≠ [] := fun e => by
        have := congrArg List.length e
        rw [List.length_drop, HL.out] at this
        simp at this
        omega
      have hwd := dec_width hne
      have hk : pos + (decL ((byt s).drop pos)).2 ≤ s.size := by
        have := hwd.2.1
        rw [List.length_drop, HL.out] at this
        omega
      have K := Lib.hid (dec_calls wr (HT.out.stay hR.out.2.1) s pos hp)
      have hc2 := hR.out.2.2
      rw [rn_cons hne, List.drop_drop] at hc2
      have HC := Lib.hid hc2
      have h1 := hwd.1
      have hpi : (pos : Int) < (s.size : Int) := by omega
      have hpl : (pos : Int) ≤ (s.size : Int) := by omega
      clear hne hwd hc2
      generalize decL ((byt s).drop pos) = x at *
      obtain ⟨r, n⟩ := x
      dsimp only at hk h1 HC K
      rcases bad_cases r n with ⟨hb, b1⟩ | ⟨hb, b1, b2⟩ | ⟨hb, b1, b2⟩
      all_goals
        have HBX := Lib.hid (fun W => box_rb W r n _ hb)
        clear hb
        go_wp2_with (first
          | (go_at_call 51; refine K.out.mono ?_; rintro e w3 ⟨rfl, hb3⟩; have HB3 := Lib.hid hb3; have HO3 := Lib.hid (hR.out.1.stay hb3); clear hb3)
          | (at_builtin; refine wpList_append_any _ rfl (.tmp 18) (.tmp 28) _ rfl w.heap.size 70 i0 _ 3 24 Tryd.underlying67 hi0 hz0 hz1 hz2 rfl (by omega) _ acc.length (acc.flatMap flRn.enc) rfl (HO3.out.alloc _) _ (some ⟨w3.heap.size, 0, none⟩) 1 1 (flRn.enc (r, n)) rfl (HBX.out w3) (flRn.one _) (by simp only [maxLen]; omega) (by omega) (by have := hR.out.2.1.size; have := HB3.out.size; simp; omega) ?_; intro v4 w4 hown4 hg4 hat4; have HO4 := Lib.hid hown4; have HG4 := Lib.hid hg4; clear hown4 hg4 hat4))
        go_roundw
        case rel =>
          exact ⟨pos + n, acc ++ [(r, n)], by go_num, Lib.hid ⟨Ow.snoc HO4.out, grown_below (((hR.out.2.1.trans (HB3.out.mono hR.out.2.1.size))).alloc (by have := hR.out.2.1.size; have := HB3.out.size; omega) _) (by have := hR.out.2.1.size; have := HB3.out.size; simp; omega) HG4.out (hR.out.1.base_), by rw [← HC.out]; simp⟩, by simp; omega, hk⟩
        case measure => simp [intOf]; omega
    · have he : (byt s).drop pos = [] := List.drop_eq_nil_of_le (by rw [HL.out]; omega)
      have hc2 := hR.out.2.2
      rw [he, rn_nil, List.append_nil] at hc2
      have HF := Lib.hid hc2
      clear he hc2
      go_wp2_with fail
      go_ret
      exact ⟨_, rfl, by rw [← HF.out]; exact hR.out.1, hR.out.2.1⟩
end Go.Proofs.YtmdnmiiggkfnfaaDoor
