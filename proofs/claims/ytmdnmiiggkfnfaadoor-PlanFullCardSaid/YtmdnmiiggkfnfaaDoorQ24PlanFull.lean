/- Texts put together for a claim. -/
import Derived.Test.YtmdnmiiggkfnfaaDoorQ23PlanFull
import Derived.Laws.BytesArg
import Derived.Lib.Bytes
/- Walk of PlanFull. -/
set_option linter.unusedVariables false
set_option linter.unusedSimpArgs false
namespace Go.Proofs.YtmdnmiiggkfnfaaDoor
open Go.RowKit

/-- The i-th name, and as numbers. -/
def fuN (i : Nat) : ByteArray := ⟨#[UInt8.ofNat (97 + i % 26), UInt8.ofNat (97 + i / 26)]⟩
def fuPre : Nat → ByteArray
  | 0 => ⟨#[115, 101, 99, 116, 105, 111, 110, 32]⟩
  | 1 => ⟨#[115, 105, 103, 110, 97, 108, 32]⟩
  | 2 => ⟨#[112, 111, 105, 110, 116, 32]⟩
  | _ => ⟨#[114, 111, 117, 116, 101, 32]⟩
def fuSuf : Nat → ByteArray
  | 2 => ⟨#[32, 105, 110, 32, 122, 122]⟩
  | 3 => ⟨#[32, 102, 114, 111, 109, 32, 121, 121, 32, 116, 111, 32, 120, 120, 32, 118, 105, 97, 32, 122, 122]⟩
  | _ => ⟨#[]⟩
/-- The i-th line. -/
def fuL (kind i : Nat) : List Nat := if kind = 4 then [] else byt (fuPre kind) ++ byt (fuN i) ++ byt (fuSuf kind)
def fuB : List (List Nat) := [[115, 101, 99, 116, 105, 111, 110, 32, 122, 122], [115, 105, 103, 110, 97, 108, 32, 121, 121], [115, 105, 103, 110, 97, 108, 32, 120, 120]]
def fuM : List Nat := [9, 4, 5, 6, 57]
/-- What is known of the lines: none holds a line's end. -/
theorem fu_no : ∀ (kind : Fin 5) (i : Fin 70), 10 ∉ fuL kind i := by decide +kernel
theorem fu_all : ∀ (kind : Fin 5) (n : Fin 71), 1 ≤ n.1 → (parseGo lay0 0 (fuB ++ (List.range n).map (fuL kind))).2 = (if fuM.getD kind 0 < n.1 then (fuM.getD kind 0 + 4, 6) else (n.1 + 3, 0)) := by decide +kernel
/-- The ends of lines. -/
def fuEnd : Nat → ByteArray
  | 2 => ⟨#[32, 105, 110, 32, 122, 122, 10]⟩
  | 3 => ⟨#[32, 102, 114, 111, 109, 32, 121, 121, 32, 116, 111, 32, 120, 120, 32, 118, 105, 97, 32, 122, 122, 10]⟩
  | _ => ⟨#[10]⟩
def fuT (kind : Nat) : Nat → ByteArray
  | 0 => ⟨#[115, 101, 99, 116, 105, 111, 110, 32, 122, 122, 10, 115, 105, 103, 110, 97, 108, 32, 121, 121, 10, 115, 105, 103, 110, 97, 108, 32, 120, 120, 10]⟩
  | n + 1 => if kind = 4 then fuT kind n ++ ⟨#[10]⟩ else fuT kind n ++ fuPre kind ++ fuN n ++ fuEnd kind
theorem fu_end : ∀ kind : Fin 4, byt (fuEnd kind) = byt (fuSuf kind) ++ [10] := by decide
theorem fu_byt (kind : Nat) (hk : kind < 5) : ∀ n : Nat, byt (fuT kind n) = joinNl (fuB ++ (List.range n).map (fuL kind))
  | 0 => rfl
  | n + 1 => by
    rw [List.range_succ, List.map_append, List.map_singleton, ← List.append_assoc, joinNl_snoc, ← fu_byt kind hk n, fuT, fuL]
    by_cases h4 : kind = 4
    · rw [if_pos h4, if_pos h4, byt_app3]
      simp [byt]
    · rw [if_neg h4, if_neg h4, byt_app3, byt_app3, byt_app3, fu_end ⟨kind, by omega⟩]
      simp
theorem fu_parse (kind n : Nat) (hk : kind < 5) (h1 : 1 ≤ n) (hn : n ≤ 70) : (parseM (fuT kind n)).2 = (if fuM.getD kind 0 < n then (fuM.getD kind 0 + 4, 6) else (n + 3, 0)) := by
  rw [parseM_lines (fu_byt kind hk n) (fun l hl => by
    rcases List.mem_append.1 hl with h | h
    · exact (by decide : ∀ l ∈ fuB, 10 ∉ l) l h
    · obtain ⟨i, hi, rfl⟩ := List.mem_map.1 h
      exact fu_no ⟨kind, hk⟩ ⟨i, by have := List.mem_range.1 hi; omega⟩)]
  exact fu_all ⟨kind, hk⟩ ⟨n, by omega⟩ h1
theorem fu_size (kind : Nat) : ∀ n : Nat, (fuT kind n).size ≤ 40 + 40 * n
  | 0 => by
    have : (fuT kind 0).size = 31 := rfl
    omega
  | n + 1 => by
    have ih := fu_size kind n
    have h1 : (fuPre kind).size ≤ 8 := by
      unfold fuPre
      split <;> decide
    have h2 : (fuEnd kind).size ≤ 25 := by
      unfold fuEnd
      split <;> decide
    have h3 : (fuN n).size = 2 := rfl
    rw [fuT]
    split
    · rw [ByteArray.size_append]
      have : (ByteArray.mk #[10]).size = 1 := rfl
      omega
    · rw [ByteArray.size_append, ByteArray.size_append, ByteArray.size_append]
      omega
theorem run_two (W : World) (k : Nat) (hk : k < 70) : (convert 38 9 (.slice (some ⟨W.heap.size, 0, none⟩) 2 2)).run Tryd.prog (W.alloc (.cells #[.int .u8 (97 + (k : Int) % 26), .int .u8 (97 + (k : Int) / 26)] 5)) = .ok (.string (fuN k)) (W.alloc (.cells #[.int .u8 (97 + (k : Int) % 26), .int .u8 (97 + (k : Int) / 26)] 5)) := by
  have h := run_convert_bytes_arg (P := Tryd.prog) (W.alloc (.cells #[.int .u8 (97 + (k : Int) % 26), .int .u8 (97 + (k : Int) / 26)] 5)) 38 5 Tryd.underlying38 Tryd.underlying5 W.heap.size 0 2 2 [97 + (k : Int) % 26, 97 + (k : Int) / 26] rfl (fun i hi => by
    have hb := (Blk.new W #[.int .u8 (97 + (k : Int) % 26), .int .u8 (97 + (k : Int) / 26)] 5 (0, 0)).cell (0 + i)
    rw [hb]
    rcases i with _ | _ | i
    · rfl
    · rfl
    · omega) 9 Tryd.underlying9
  rw [h]
  have e : strOfNums [97 + (k : Int) % 26, 97 + (k : Int) / 26] = fuN k := by
    have h1 : 97 + (k : Int) % 26 = ((97 + k % 26 : Nat) : Int) := by omega
    have h2 : 97 + (k : Int) / 26 = ((97 + k / 26 : Nat) : Int) := by omega
    rw [h1, h2]
    rfl
  rw [e]
set_option maxRecDepth 20000 in
set_option maxHeartbeats 8000000 in
theorem full_0 (n : Nat) (h1 : 1 ≤ n) (hn : n ≤ 70) (w : World) (hT : Tabs w) : Calls Tryd.prog 5 #[.int .i64 0, .int .i64 n] w fun e w' => e = .returned (.bool true) ∧ Below w.heap.size w w' := by
  have KK := Lib.hid (fun (W : World) (hb : Below w.heap.size w W) => known3_calls W (hT.stay hb))
  have h2 : ¬ (n : Int) < 1 := by omega
  have h3 : ¬ (70 : Int) < n := by omega
  have HT := Lib.hid hT
  have HP : Hid ((parseM (fuT 0 n)).2 = if 9 < n then (13, 6) else (n + 3, 0)) := Lib.hid (fu_parse 0 n (by decide) h1 hn)
  clear hT
  go_enter Tryd.func5, Tryd.ntmps5
  go_wp2_with fail
  go_loopw [5, 6] (fun s i wr => ∃ k : Nat, k ≤ n ∧ i = .int .i64 k ∧ s = .string (fuT 0 k) ∧ Hid (Below w.heap.size w wr)) (fun s i _ => n - (intOf i).toNat)
  case atStart => exact ⟨0, by omega, rfl, rfl, Lib.hid (Below.refl _ _)⟩
  case round =>
    obtain ⟨k, hk, rfl, rfl, hr⟩ := hrel
    have hz3 := fu_size 0 k
    have hz1 : ((fuT 0 k).size : Int) ≤ 8388608 := by omega
    by_cases hlt : k < n
    · have hcv := fun W => run_two W k (by omega)
      obtain ⟨t, ht⟩ : ∃ t, fuN k = t := ⟨_, rfl⟩
      have HE : Hid (fuT 0 (k + 1) = fuT 0 k ++ ⟨#[115, 101, 99, 116, 105, 111, 110, 32]⟩ ++ t ++ ⟨#[10]⟩) := Lib.hid (by rw [← ht]; rfl)
      have hz2 : (t.size : Int) ≤ 2 := by rw [← ht]; exact Int.le_refl 2
      rw [ht] at hcv
      have HB := Lib.hid (hr.out.alloc hr.out.size (.cells #[.int .u8 (97 + (k : Int) % 26), .int .u8 (97 + (k : Int) / 26)] 5))
      clear ht
      go_wp2_with fail
      go_roundw
      case rel => exact ⟨k + 1, by omega, by go_num, by rw [HE.out], HB⟩
      case measure => simp [intOf]; omega
    · obtain rfl : k = n := by omega
      clear hlt
      by_cases hm : 9 < k
      · have hm1 : (9 : Int) < k := by omega
        have HPA := Lib.hid (HP.out.trans (if_pos hm))
        have K1 := Lib.hid (ParseS_calls (wr.alloc (.cells #[.int .i64 9, .int .i64 4, .int .i64 5, .int .i64 6, .int .i64 57] 3)) (HT.out.stay (below_more hr.out (below_new _ _))) (fuT 0 k) (by omega) _ 13 6 HPA.out rfl)
        have hbn := Lib.hid (below_more hr.out (below_new wr (.cells #[.int .i64 9, .int .i64 4, .int .i64 5, .int .i64 6, .int .i64 57] 3)))
        generalize List.length (parseM (fuT 0 k)).1.sigs = zs at *
        clear hm HP HPA
        go_wp2_with (first
          | (go_at_call 15; refine K1.out.mono ?_; rintro en w1 ⟨A1, n1, c1, A2, n2, c2, A3, c3, A4, n4, c4, rfl, hb⟩; have HB1 := Lib.hid (below_more hbn.out hb); clear hb)
          | (go_at_call 16; refine (KK.out _ (HB1.out.alloc HB1.out.size _)).mono ?_; rintro en w3 ⟨rfl, hb3⟩; have HB3 := Lib.hid (below_more (HB1.out.alloc HB1.out.size _) hb3); clear hb3)
          | fail)
        go_ret
        exact ⟨rfl, HB3.out⟩
      · have hm1 : ¬ (9 : Int) < k := by omega
        have HPA := Lib.hid (HP.out.trans (if_neg hm))
        have K1 := Lib.hid (ParseS_calls (wr.alloc (.cells #[.int .i64 9, .int .i64 4, .int .i64 5, .int .i64 6, .int .i64 57] 3)) (HT.out.stay (below_more hr.out (below_new _ _))) (fuT 0 k) (by omega) _ (k + 3) 0 HPA.out rfl)
        have hbn := Lib.hid (below_more hr.out (below_new wr (.cells #[.int .i64 9, .int .i64 4, .int .i64 5, .int .i64 6, .int .i64 57] 3)))
        generalize List.length (parseM (fuT 0 k)).1.sigs = zs at *
        clear hm HP HPA
        go_wp2_with (first
          | (go_at_call 15; refine K1.out.mono ?_; rintro en w1 ⟨A1, n1, c1, A2, n2, c2, A3, c3, A4, n4, c4, rfl, hb⟩; have HB1 := Lib.hid (below_more hbn.out hb); clear hb)
          | (go_at_call 16; refine (KK.out _ (HB1.out.alloc HB1.out.size _)).mono ?_; rintro en w3 ⟨rfl, hb3⟩; have HB3 := Lib.hid (below_more (HB1.out.alloc HB1.out.size _) hb3); clear hb3)
          | fail)
        go_ret
        exact ⟨rfl, HB3.out⟩
set_option maxRecDepth 20000 in
set_option maxHeartbeats 8000000 in
theorem full_1 (n : Nat) (h1 : 1 ≤ n) (hn : n ≤ 70) (w : World) (hT : Tabs w) : Calls Tryd.prog 5 #[.int .i64 1, .int .i64 n] w fun e w' => e = .returned (.bool true) ∧ Below w.heap.size w w' := by
  have KK := Lib.hid (fun (W : World) (hb : Below w.heap.size w W) => known3_calls W (hT.stay hb))
  have h2 : ¬ (n : Int) < 1 := by omega
  have h3 : ¬ (70 : Int) < n := by omega
  have HT := Lib.hid hT
  have HP : Hid ((parseM (fuT 1 n)).2 = if 4 < n then (8, 6) else (n + 3, 0)) := Lib.hid (fu_parse 1 n (by decide) h1 hn)
  clear hT
  go_enter Tryd.func5, Tryd.ntmps5
  go_wp2_with fail
  go_loopw [5, 6] (fun s i wr => ∃ k : Nat, k ≤ n ∧ i = .int .i64 k ∧ s = .string (fuT 1 k) ∧ Hid (Below w.heap.size w wr)) (fun s i _ => n - (intOf i).toNat)
  case atStart => exact ⟨0, by omega, rfl, rfl, Lib.hid (Below.refl _ _)⟩
  case round =>
    obtain ⟨k, hk, rfl, rfl, hr⟩ := hrel
    have hz3 := fu_size 1 k
    have hz1 : ((fuT 1 k).size : Int) ≤ 8388608 := by omega
    by_cases hlt : k < n
    · have hcv := fun W => run_two W k (by omega)
      obtain ⟨t, ht⟩ : ∃ t, fuN k = t := ⟨_, rfl⟩
      have HE : Hid (fuT 1 (k + 1) = fuT 1 k ++ ⟨#[115, 105, 103, 110, 97, 108, 32]⟩ ++ t ++ ⟨#[10]⟩) := Lib.hid (by rw [← ht]; rfl)
      have hz2 : (t.size : Int) ≤ 2 := by rw [← ht]; exact Int.le_refl 2
      rw [ht] at hcv
      have HB := Lib.hid (hr.out.alloc hr.out.size (.cells #[.int .u8 (97 + (k : Int) % 26), .int .u8 (97 + (k : Int) / 26)] 5))
      clear ht
      go_wp2_with fail
      go_roundw
      case rel => exact ⟨k + 1, by omega, by go_num, by rw [HE.out], HB⟩
      case measure => simp [intOf]; omega
    · obtain rfl : k = n := by omega
      clear hlt
      by_cases hm : 4 < k
      · have hm1 : (4 : Int) < k := by omega
        have HPA := Lib.hid (HP.out.trans (if_pos hm))
        have K1 := Lib.hid (ParseS_calls (wr.alloc (.cells #[.int .i64 9, .int .i64 4, .int .i64 5, .int .i64 6, .int .i64 57] 3)) (HT.out.stay (below_more hr.out (below_new _ _))) (fuT 1 k) (by omega) _ 8 6 HPA.out rfl)
        have hbn := Lib.hid (below_more hr.out (below_new wr (.cells #[.int .i64 9, .int .i64 4, .int .i64 5, .int .i64 6, .int .i64 57] 3)))
        generalize List.length (parseM (fuT 1 k)).1.sigs = zs at *
        clear hm HP HPA
        go_wp2_with (first
          | (go_at_call 15; refine K1.out.mono ?_; rintro en w1 ⟨A1, n1, c1, A2, n2, c2, A3, c3, A4, n4, c4, rfl, hb⟩; have HB1 := Lib.hid (below_more hbn.out hb); clear hb)
          | (go_at_call 16; refine (KK.out _ (HB1.out.alloc HB1.out.size _)).mono ?_; rintro en w3 ⟨rfl, hb3⟩; have HB3 := Lib.hid (below_more (HB1.out.alloc HB1.out.size _) hb3); clear hb3)
          | fail)
        go_ret
        exact ⟨rfl, HB3.out⟩
      · have hm1 : ¬ (4 : Int) < k := by omega
        have HPA := Lib.hid (HP.out.trans (if_neg hm))
        have K1 := Lib.hid (ParseS_calls (wr.alloc (.cells #[.int .i64 9, .int .i64 4, .int .i64 5, .int .i64 6, .int .i64 57] 3)) (HT.out.stay (below_more hr.out (below_new _ _))) (fuT 1 k) (by omega) _ (k + 3) 0 HPA.out rfl)
        have hbn := Lib.hid (below_more hr.out (below_new wr (.cells #[.int .i64 9, .int .i64 4, .int .i64 5, .int .i64 6, .int .i64 57] 3)))
        generalize List.length (parseM (fuT 1 k)).1.sigs = zs at *
        clear hm HP HPA
        go_wp2_with (first
          | (go_at_call 15; refine K1.out.mono ?_; rintro en w1 ⟨A1, n1, c1, A2, n2, c2, A3, c3, A4, n4, c4, rfl, hb⟩; have HB1 := Lib.hid (below_more hbn.out hb); clear hb)
          | (go_at_call 16; refine (KK.out _ (HB1.out.alloc HB1.out.size _)).mono ?_; rintro en w3 ⟨rfl, hb3⟩; have HB3 := Lib.hid (below_more (HB1.out.alloc HB1.out.size _) hb3); clear hb3)
          | fail)
        go_ret
        exact ⟨rfl, HB3.out⟩
set_option maxRecDepth 20000 in
set_option maxHeartbeats 8000000 in
theorem full_2 (n : Nat) (h1 : 1 ≤ n) (hn : n ≤ 70) (w : World) (hT : Tabs w) : Calls Tryd.prog 5 #[.int .i64 2, .int .i64 n] w fun e w' => e = .returned (.bool true) ∧ Below w.heap.size w w' := by
  have KK := Lib.hid (fun (W : World) (hb : Below w.heap.size w W) => known3_calls W (hT.stay hb))
  have h2 : ¬ (n : Int) < 1 := by omega
  have h3 : ¬ (70 : Int) < n := by omega
  have HT := Lib.hid hT
  have HP : Hid ((parseM (fuT 2 n)).2 = if 5 < n then (9, 6) else (n + 3, 0)) := Lib.hid (fu_parse 2 n (by decide) h1 hn)
  clear hT
  go_enter Tryd.func5, Tryd.ntmps5
  go_wp2_with fail
  go_loopw [5, 6] (fun s i wr => ∃ k : Nat, k ≤ n ∧ i = .int .i64 k ∧ s = .string (fuT 2 k) ∧ Hid (Below w.heap.size w wr)) (fun s i _ => n - (intOf i).toNat)
  case atStart => exact ⟨0, by omega, rfl, rfl, Lib.hid (Below.refl _ _)⟩
  case round =>
    obtain ⟨k, hk, rfl, rfl, hr⟩ := hrel
    have hz3 := fu_size 2 k
    have hz1 : ((fuT 2 k).size : Int) ≤ 8388608 := by omega
    by_cases hlt : k < n
    · have hcv := fun W => run_two W k (by omega)
      obtain ⟨t, ht⟩ : ∃ t, fuN k = t := ⟨_, rfl⟩
      have HE : Hid (fuT 2 (k + 1) = fuT 2 k ++ ⟨#[112, 111, 105, 110, 116, 32]⟩ ++ t ++ ⟨#[32, 105, 110, 32, 122, 122, 10]⟩) := Lib.hid (by rw [← ht]; rfl)
      have hz2 : (t.size : Int) ≤ 2 := by rw [← ht]; exact Int.le_refl 2
      rw [ht] at hcv
      have HB := Lib.hid (hr.out.alloc hr.out.size (.cells #[.int .u8 (97 + (k : Int) % 26), .int .u8 (97 + (k : Int) / 26)] 5))
      clear ht
      go_wp2_with fail
      go_roundw
      case rel => exact ⟨k + 1, by omega, by go_num, by rw [HE.out], HB⟩
      case measure => simp [intOf]; omega
    · obtain rfl : k = n := by omega
      clear hlt
      by_cases hm : 5 < k
      · have hm1 : (5 : Int) < k := by omega
        have HPA := Lib.hid (HP.out.trans (if_pos hm))
        have K1 := Lib.hid (ParseS_calls (wr.alloc (.cells #[.int .i64 9, .int .i64 4, .int .i64 5, .int .i64 6, .int .i64 57] 3)) (HT.out.stay (below_more hr.out (below_new _ _))) (fuT 2 k) (by omega) _ 9 6 HPA.out rfl)
        have hbn := Lib.hid (below_more hr.out (below_new wr (.cells #[.int .i64 9, .int .i64 4, .int .i64 5, .int .i64 6, .int .i64 57] 3)))
        generalize List.length (parseM (fuT 2 k)).1.sigs = zs at *
        clear hm HP HPA
        go_wp2_with (first
          | (go_at_call 15; refine K1.out.mono ?_; rintro en w1 ⟨A1, n1, c1, A2, n2, c2, A3, c3, A4, n4, c4, rfl, hb⟩; have HB1 := Lib.hid (below_more hbn.out hb); clear hb)
          | (go_at_call 16; refine (KK.out _ (HB1.out.alloc HB1.out.size _)).mono ?_; rintro en w3 ⟨rfl, hb3⟩; have HB3 := Lib.hid (below_more (HB1.out.alloc HB1.out.size _) hb3); clear hb3)
          | fail)
        go_ret
        exact ⟨rfl, HB3.out⟩
      · have hm1 : ¬ (5 : Int) < k := by omega
        have HPA := Lib.hid (HP.out.trans (if_neg hm))
        have K1 := Lib.hid (ParseS_calls (wr.alloc (.cells #[.int .i64 9, .int .i64 4, .int .i64 5, .int .i64 6, .int .i64 57] 3)) (HT.out.stay (below_more hr.out (below_new _ _))) (fuT 2 k) (by omega) _ (k + 3) 0 HPA.out rfl)
        have hbn := Lib.hid (below_more hr.out (below_new wr (.cells #[.int .i64 9, .int .i64 4, .int .i64 5, .int .i64 6, .int .i64 57] 3)))
        generalize List.length (parseM (fuT 2 k)).1.sigs = zs at *
        clear hm HP HPA
        go_wp2_with (first
          | (go_at_call 15; refine K1.out.mono ?_; rintro en w1 ⟨A1, n1, c1, A2, n2, c2, A3, c3, A4, n4, c4, rfl, hb⟩; have HB1 := Lib.hid (below_more hbn.out hb); clear hb)
          | (go_at_call 16; refine (KK.out _ (HB1.out.alloc HB1.out.size _)).mono ?_; rintro en w3 ⟨rfl, hb3⟩; have HB3 := Lib.hid (below_more (HB1.out.alloc HB1.out.size _) hb3); clear hb3)
          | fail)
        go_ret
        exact ⟨rfl, HB3.out⟩
set_option maxRecDepth 20000 in
set_option maxHeartbeats 8000000 in
theorem full_3 (n : Nat) (h1 : 1 ≤ n) (hn : n ≤ 70) (w : World) (hT : Tabs w) : Calls Tryd.prog 5 #[.int .i64 3, .int .i64 n] w fun e w' => e = .returned (.bool true) ∧ Below w.heap.size w w' := by
  have KK := Lib.hid (fun (W : World) (hb : Below w.heap.size w W) => known3_calls W (hT.stay hb))
  have h2 : ¬ (n : Int) < 1 := by omega
  have h3 : ¬ (70 : Int) < n := by omega
  have HT := Lib.hid hT
  have HP : Hid ((parseM (fuT 3 n)).2 = if 6 < n then (10, 6) else (n + 3, 0)) := Lib.hid (fu_parse 3 n (by decide) h1 hn)
  clear hT
  go_enter Tryd.func5, Tryd.ntmps5
  go_wp2_with fail
  go_loopw [5, 6] (fun s i wr => ∃ k : Nat, k ≤ n ∧ i = .int .i64 k ∧ s = .string (fuT 3 k) ∧ Hid (Below w.heap.size w wr)) (fun s i _ => n - (intOf i).toNat)
  case atStart => exact ⟨0, by omega, rfl, rfl, Lib.hid (Below.refl _ _)⟩
  case round =>
    obtain ⟨k, hk, rfl, rfl, hr⟩ := hrel
    have hz3 := fu_size 3 k
    have hz1 : ((fuT 3 k).size : Int) ≤ 8388608 := by omega
    by_cases hlt : k < n
    · have hcv := fun W => run_two W k (by omega)
      obtain ⟨t, ht⟩ : ∃ t, fuN k = t := ⟨_, rfl⟩
      have HE : Hid (fuT 3 (k + 1) = fuT 3 k ++ ⟨#[114, 111, 117, 116, 101, 32]⟩ ++ t ++ ⟨#[32, 102, 114, 111, 109, 32, 121, 121, 32, 116, 111, 32, 120, 120, 32, 118, 105, 97, 32, 122, 122, 10]⟩) := Lib.hid (by rw [← ht]; rfl)
      have hz2 : (t.size : Int) ≤ 2 := by rw [← ht]; exact Int.le_refl 2
      rw [ht] at hcv
      have HB := Lib.hid (hr.out.alloc hr.out.size (.cells #[.int .u8 (97 + (k : Int) % 26), .int .u8 (97 + (k : Int) / 26)] 5))
      clear ht
      go_wp2_with fail
      go_roundw
      case rel => exact ⟨k + 1, by omega, by go_num, by rw [HE.out], HB⟩
      case measure => simp [intOf]; omega
    · obtain rfl : k = n := by omega
      clear hlt
      by_cases hm : 6 < k
      · have hm1 : (6 : Int) < k := by omega
        have HPA := Lib.hid (HP.out.trans (if_pos hm))
        have K1 := Lib.hid (ParseS_calls (wr.alloc (.cells #[.int .i64 9, .int .i64 4, .int .i64 5, .int .i64 6, .int .i64 57] 3)) (HT.out.stay (below_more hr.out (below_new _ _))) (fuT 3 k) (by omega) _ 10 6 HPA.out rfl)
        have hbn := Lib.hid (below_more hr.out (below_new wr (.cells #[.int .i64 9, .int .i64 4, .int .i64 5, .int .i64 6, .int .i64 57] 3)))
        generalize List.length (parseM (fuT 3 k)).1.sigs = zs at *
        clear hm HP HPA
        go_wp2_with (first
          | (go_at_call 15; refine K1.out.mono ?_; rintro en w1 ⟨A1, n1, c1, A2, n2, c2, A3, c3, A4, n4, c4, rfl, hb⟩; have HB1 := Lib.hid (below_more hbn.out hb); clear hb)
          | (go_at_call 16; refine (KK.out _ (HB1.out.alloc HB1.out.size _)).mono ?_; rintro en w3 ⟨rfl, hb3⟩; have HB3 := Lib.hid (below_more (HB1.out.alloc HB1.out.size _) hb3); clear hb3)
          | fail)
        go_ret
        exact ⟨rfl, HB3.out⟩
      · have hm1 : ¬ (6 : Int) < k := by omega
        have HPA := Lib.hid (HP.out.trans (if_neg hm))
        have K1 := Lib.hid (ParseS_calls (wr.alloc (.cells #[.int .i64 9, .int .i64 4, .int .i64 5, .int .i64 6, .int .i64 57] 3)) (HT.out.stay (below_more hr.out (below_new _ _))) (fuT 3 k) (by omega) _ (k + 3) 0 HPA.out rfl)
        have hbn := Lib.hid (below_more hr.out (below_new wr (.cells #[.int .i64 9, .int .i64 4, .int .i64 5, .int .i64 6, .int .i64 57] 3)))
        generalize List.length (parseM (fuT 3 k)).1.sigs = zs at *
        clear hm HP HPA
        go_wp2_with (first
          | (go_at_call 15; refine K1.out.mono ?_; rintro en w1 ⟨A1, n1, c1, A2, n2, c2, A3, c3, A4, n4, c4, rfl, hb⟩; have HB1 := Lib.hid (below_more hbn.out hb); clear hb)
          | (go_at_call 16; refine (KK.out _ (HB1.out.alloc HB1.out.size _)).mono ?_; rintro en w3 ⟨rfl, hb3⟩; have HB3 := Lib.hid (below_more (HB1.out.alloc HB1.out.size _) hb3); clear hb3)
          | fail)
        go_ret
        exact ⟨rfl, HB3.out⟩
set_option maxRecDepth 20000 in
set_option maxHeartbeats 8000000 in
theorem full_4 (n : Nat) (h1 : 1 ≤ n) (hn : n ≤ 70) (w : World) (hT : Tabs w) : Calls Tryd.prog 5 #[.int .i64 4, .int .i64 n] w fun e w' => e = .returned (.bool true) ∧ Below w.heap.size w w' := by
  have KK := Lib.hid (fun (W : World) (hb : Below w.heap.size w W) => known3_calls W (hT.stay hb))
  have h2 : ¬ (n : Int) < 1 := by omega
  have h3 : ¬ (70 : Int) < n := by omega
  have HT := Lib.hid hT
  have HP : Hid ((parseM (fuT 4 n)).2 = if 57 < n then (61, 6) else (n + 3, 0)) := Lib.hid (fu_parse 4 n (by decide) h1 hn)
  clear hT
  go_enter Tryd.func5, Tryd.ntmps5
  go_wp2_with fail
  go_loopw [5, 6] (fun s i wr => ∃ k : Nat, k ≤ n ∧ i = .int .i64 k ∧ s = .string (fuT 4 k) ∧ Hid (Below w.heap.size w wr)) (fun s i _ => n - (intOf i).toNat)
  case atStart => exact ⟨0, by omega, rfl, rfl, Lib.hid (Below.refl _ _)⟩
  case round =>
    obtain ⟨k, hk, rfl, rfl, hr⟩ := hrel
    have hz3 := fu_size 4 k
    have hz1 : ((fuT 4 k).size : Int) ≤ 8388608 := by omega
    by_cases hlt : k < n
    · have hcv := fun W => run_two W k (by omega)
      obtain ⟨t, ht⟩ : ∃ t, fuN k = t := ⟨_, rfl⟩
      have HE : Hid (fuT 4 (k + 1) = fuT 4 k ++ ⟨#[10]⟩) := Lib.hid (if_pos rfl)
      have hz2 : (t.size : Int) ≤ 2 := by rw [← ht]; exact Int.le_refl 2
      rw [ht] at hcv
      have HB := Lib.hid (hr.out.alloc hr.out.size (.cells #[.int .u8 (97 + (k : Int) % 26), .int .u8 (97 + (k : Int) / 26)] 5))
      clear ht
      go_wp2_with fail
      go_roundw
      case rel => exact ⟨k + 1, by omega, by go_num, by rw [HE.out], HB⟩
      case measure => simp [intOf]; omega
    · obtain rfl : k = n := by omega
      clear hlt
      by_cases hm : 57 < k
      · have hm1 : (57 : Int) < k := by omega
        have HPA := Lib.hid (HP.out.trans (if_pos hm))
        have K1 := Lib.hid (ParseS_calls (wr.alloc (.cells #[.int .i64 9, .int .i64 4, .int .i64 5, .int .i64 6, .int .i64 57] 3)) (HT.out.stay (below_more hr.out (below_new _ _))) (fuT 4 k) (by omega) _ 61 6 HPA.out rfl)
        have hbn := Lib.hid (below_more hr.out (below_new wr (.cells #[.int .i64 9, .int .i64 4, .int .i64 5, .int .i64 6, .int .i64 57] 3)))
        generalize List.length (parseM (fuT 4 k)).1.sigs = zs at *
        clear hm HP HPA
        go_wp2_with (first
          | (go_at_call 15; refine K1.out.mono ?_; rintro en w1 ⟨A1, n1, c1, A2, n2, c2, A3, c3, A4, n4, c4, rfl, hb⟩; have HB1 := Lib.hid (below_more hbn.out hb); clear hb)
          | (go_at_call 16; refine (KK.out _ (HB1.out.alloc HB1.out.size _)).mono ?_; rintro en w3 ⟨rfl, hb3⟩; have HB3 := Lib.hid (below_more (HB1.out.alloc HB1.out.size _) hb3); clear hb3)
          | fail)
        go_ret
        exact ⟨rfl, HB3.out⟩
      · have hm1 : ¬ (57 : Int) < k := by omega
        have HPA := Lib.hid (HP.out.trans (if_neg hm))
        have K1 := Lib.hid (ParseS_calls (wr.alloc (.cells #[.int .i64 9, .int .i64 4, .int .i64 5, .int .i64 6, .int .i64 57] 3)) (HT.out.stay (below_more hr.out (below_new _ _))) (fuT 4 k) (by omega) _ (k + 3) 0 HPA.out rfl)
        have hbn := Lib.hid (below_more hr.out (below_new wr (.cells #[.int .i64 9, .int .i64 4, .int .i64 5, .int .i64 6, .int .i64 57] 3)))
        generalize List.length (parseM (fuT 4 k)).1.sigs = zs at *
        clear hm HP HPA
        go_wp2_with (first
          | (go_at_call 15; refine K1.out.mono ?_; rintro en w1 ⟨A1, n1, c1, A2, n2, c2, A3, c3, A4, n4, c4, rfl, hb⟩; have HB1 := Lib.hid (below_more hbn.out hb); clear hb)
          | (go_at_call 16; refine (KK.out _ (HB1.out.alloc HB1.out.size _)).mono ?_; rintro en w3 ⟨rfl, hb3⟩; have HB3 := Lib.hid (below_more (HB1.out.alloc HB1.out.size _) hb3); clear hb3)
          | fail)
        go_ret
        exact ⟨rfl, HB3.out⟩
theorem full_calls (m n : Int) (w : World) (hT : Tabs w) : Calls Tryd.prog 5 #[.int .i64 m, .int .i64 n] w fun e w' => e = .returned (.bool true) ∧ Below w.heap.size w w' := by
  by_cases h0 : m < 0
  · go_enter Tryd.func5, Tryd.ntmps5
    go_wp2_with fail
    go_ret
    exact ⟨rfl, Below.refl _ _⟩
  by_cases h5 : 4 < m
  · go_enter Tryd.func5, Tryd.ntmps5
    go_wp2_with fail
    go_ret
    exact ⟨rfl, Below.refl _ _⟩
  by_cases h1 : n < 1
  · go_enter Tryd.func5, Tryd.ntmps5
    go_wp2_with fail
    go_ret
    exact ⟨rfl, Below.refl _ _⟩
  by_cases h2 : 70 < n
  · go_enter Tryd.func5, Tryd.ntmps5
    go_wp2_with fail
    go_ret
    exact ⟨rfl, Below.refl _ _⟩
  obtain ⟨k, rfl⟩ := Int.eq_ofNat_of_zero_le (show 0 ≤ n by omega)
  obtain rfl | rfl | rfl | rfl | rfl : m = 0 ∨ m = 1 ∨ m = 2 ∨ m = 3 ∨ m = 4 := by omega
  · exact full_0 k (by omega) (by omega) w hT
  · exact full_1 k (by omega) (by omega) w hT
  · exact full_2 k (by omega) (by omega) w hT
  · exact full_3 k (by omega) (by omega) w hT
  · exact full_4 k (by omega) (by omega) w hT
end Go.Proofs.YtmdnmiiggkfnfaaDoor
