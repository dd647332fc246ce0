/- Contracts of slices.Concat of two rows of Needs, and of table.Needs. -/
import Derived.Test.YtmdggodkkkihhaaLyCat
set_option linter.unusedVariables false
namespace Go.Proofs.Ytmdggodkkkihhaa
open Go.RowKit

set_option maxHeartbeats 2000000 in
theorem Cat_calls (w : World) (g : Nat) (Q F : Option Addr) (q qc f fc : Nat) (qs fs : List Need) (hQ : Sl flN w Q q qc qs) (hF : Sl flN w F f fc fs)
    (h0 : w.cell? ⟨g, 0, none⟩ = some (.slice Q q qc)) (h1 : w.cell? ⟨g, 1, none⟩ = some (.slice F f fc)) (hn : q + f ≤ 8796093022208) :
    Calls Try.prog 39 #[.slice (some ⟨g, 0, none⟩) 2 2] w fun e w' => ∃ v, e = .returned v ∧ Ow flN w' w.heap.size 54 v (qs ++ fs) ∧ Below w.heap.size w w' := by
  obtain ⟨i0, hi0, hz0, hz1, hz2⟩ := info_parts info_need
  have HLQ := Lib.hid hQ.len
  have HLF := Lib.hid hF.len
  have HQ := Lib.hid hQ
  have HF := Lib.hid hF
  clear hQ hF
  go_enter Try.func39, Try.ntmps39
  go_wp2_with fail
  go_loopw [3, 11] (fun s i wr => wr = w ∧ ((i = .int .i64 0 ∧ s = .int .i64 0) ∨ (i = .int .i64 1 ∧ s = .int .i64 q) ∨ (i = .int .i64 2 ∧ s = .int .i64 (q + f)))) (fun _ i _ => 2 - (intOf i).toNat)
  case atStart => exact ⟨rfl, .inl ⟨rfl, rfl⟩⟩
  case round =>
    obtain ⟨hwr, hrel⟩ := hrel
    obtain rfl : w = wr := hwr.symm
    obtain ⟨rfl, rfl⟩ | ⟨rfl, rfl⟩ | ⟨rfl, rfl⟩ := hrel
    · go_wp2_with fail
      go_roundw
      case rel => exact ⟨by first | trivial | rfl, .inr (.inl ⟨by go_num, by go_num⟩)⟩
      case measure => decide
    · go_wp2_with fail
      go_roundw
      case rel => exact ⟨by first | trivial | rfl, .inr (.inr ⟨by go_num, by go_num⟩)⟩
      case measure => decide
    · have K := Lib.hid (Grow_calls w (q + f) (by omega))
      rw [Int.natCast_add] at K
      go_wp2_with (refine K.out.mono ?_; rintro e w1 ⟨v1, rfl, hown, hb⟩)
      have c0 := cell_stay hb h0
      have c1 := cell_stay hb h1
      obtain ⟨A1, cc1, rfl⟩ := row_form hown
      have HO := Lib.hid hown
      clear hown
      go_loopw [6, 27] (fun v i w2 => Below w.heap.size w w2 ∧ ((i = .int .i64 0 ∧ Ow flN w2 w.heap.size 54 v []) ∨ (i = .int .i64 1 ∧ Ow flN w2 w.heap.size 54 v qs) ∨ (i = .int .i64 2 ∧ Ow flN w2 w.heap.size 54 v (qs ++ fs)))) (fun _ i _ => 2 - (intOf i).toNat)
      case atStart => exact ⟨hb, .inl ⟨rfl, HO.out⟩⟩
      case round =>
        obtain ⟨hb2, ⟨rfl, hown⟩ | ⟨rfl, hown⟩ | ⟨rfl, hown⟩⟩ := hrel
        · have c0 := cell_stay hb2 h0
          have HO := Lib.hid hown
          have HB := Lib.hid hb2
          clear hown hb2
          go_wp2_with (at_builtin; refine wpList_append_any _ rfl (.tmp 31) (.tmp 32) _ rfl w.heap.size 54 i0 _ 2 16 Try.underlying45 hi0 hz0 hz1 hz2 rfl (by omega) _ 0 [] rfl HO.out _ Q q qc (qs.flatMap flN.enc) rfl ((HQ.out.stay HB.out).rf.reads (by decide)) (flat_one flN qs) (by simp only [maxLen]; omega) (by omega) (by have := HB.out.size; omega) ?_; intro v3 w3 hown3 hg3 hat3)
          go_roundw
          case rel => refine ⟨_, _, _, _, _, _, _, _, _, _, ?_, rfl⟩; exact ⟨HB.out.grown hg3 HB.out.size HO.out.base_, .inr (.inl ⟨by go_num, by have := Ow.join (f := flN) (xs := []) (ys := qs) (m := q) HLQ.out hown3; simpa using this⟩)⟩
          case measure => simp [intOf]
        · have c1 := cell_stay hb2 h1
          have HO := Lib.hid hown
          have HB := Lib.hid hb2
          clear hown hb2
          go_wp2_with (at_builtin; refine wpList_append_any _ rfl (.tmp 31) (.tmp 32) _ rfl w.heap.size 54 i0 _ 2 16 Try.underlying45 hi0 hz0 hz1 hz2 rfl (by omega) _ qs.length (qs.flatMap flN.enc) rfl HO.out _ F f fc (fs.flatMap flN.enc) rfl ((HF.out.stay HB.out).rf.reads (by decide)) (flat_one flN fs) (by have := HLQ.out; simp only [maxLen]; omega) (by have := HLQ.out; omega) (by have := HB.out.size; omega) ?_; intro v3 w3 hown3 hg3 hat3)
          go_roundw
          case rel => refine ⟨_, _, _, _, _, _, _, _, _, _, ?_, rfl⟩; exact ⟨HB.out.grown hg3 HB.out.size HO.out.base_, .inr (.inr ⟨by go_num, Ow.join (f := flN) (xs := qs) (ys := fs) (m := f) HLF.out hown3⟩)⟩
          case measure => simp [intOf]
        · go_wp2_with fail
          go_ret
          exact ⟨_, rfl, hown, hb2⟩
end Go.Proofs.Ytmdggodkkkihhaa
