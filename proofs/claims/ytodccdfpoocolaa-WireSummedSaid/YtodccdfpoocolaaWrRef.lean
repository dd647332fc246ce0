/- The document's thing and Pack. -/
import Derived.Test.YtodccdfpoocolaaWrMade
import Derived.Lib.ConvBytes
set_option linter.unusedVariables false
namespace Go.Proofs.Ytodccdfpoocolaa
open Go.RowKit Go.Lib

theorem bw_below (w : World) (s : ByteArray) : Below w.heap.size w (bytesWorld w 5 s) :=
  ⟨rfl, rfl, rfl, by rw [bytesWorld_size]; omega, fun k hk => bytesWorld_at_old w _ s k hk⟩
theorem bw_rf (w : World) (s : ByteArray) (hs : s.size ≤ 9223372036854775807) : Rf flB (bytesWorld w 5 s) (some ⟨w.heap.size, 0, none⟩) s.size (strB s) := by
  refine ⟨strB_len s, hs, fun _ => ⟨w.heap.size, 0, rfl, fun j x hx i v hv => ?_⟩⟩
  have hj : j < s.size := by have := (List.getElem?_eq_some_iff.1 hx).1; rw [strB_len] at this; exact this
  have hi : i = 0 := by
    have : i < (flB.enc x).length := (List.getElem?_eq_some_iff.1 hv).1
    rw [flB.len] at this
    have : flB.sz = 1 := rfl
    omega
  subst hi
  have hv' : v = .int .u8 (x : Int) := by simp [flB] at hv; exact hv.symm
  have e : 0 + j * flB.sz + 0 = j := by show 0 + j * 1 + 0 = j; omega
  rw [e, bytesWorld_cell w _ s j hj, hv']
  unfold strB at hx
  rw [List.getElem?_map] at hx
  obtain ⟨b, hb, rfl⟩ := Option.map_eq_some_iff.1 hx
  rw [List.getD_eq_getElem?_getD, hb]
  rfl
theorem Ow.lit' {α : Type} {f : Fl α} {xs : List α} (w : World) (base : Nat) (e : TypeId) (cs : Array Value) (g : Nat) (hg : g = w.heap.size) (hb : base ≤ w.heap.size) (hn : xs.length ≤ 9223372036854775807) (hc : cs.toList = xs.flatMap f.enc) :
    Ow f (w.alloc (.cells cs e)) base e (.slice (some ⟨g, 0, none⟩) xs.length xs.length) xs := by subst hg; exact Ow.lit w base e cs hb hn hc
def RefThingPost (w : World) (t : Th) (e : Ending) (w' : World) : Prop := ∃ v, e = .returned v ∧ Ow flB w' w.heap.size 5 v (thingB (itOf t)) ∧ Below w.heap.size w w'
set_option maxHeartbeats 4000000 in
theorem RefThing_calls (t : Th) (w : World) (hs : t.s.size ≤ 1000000) :
    Calls Try.prog 34 #[.agg #[.int .i64 t.k, .int .i64 t.n, .string t.s, .bool t.b]] w (RefThingPost w t) := by
  obtain ⟨i0, hi0, hz0, hz1, hz2⟩ := info_parts info_b
  have q0 := (Blk.new w #[.int .i64 t.k, .int .i64 t.n, .string t.s, .bool t.b] 70 (0, 0)).cell 0
  have q1 := (Blk.new w #[.int .i64 t.k, .int .i64 t.n, .string t.s, .bool t.b] 70 (0, 0)).cell 1
  have q2 := (Blk.new w #[.int .i64 t.k, .int .i64 t.n, .string t.s, .bool t.b] 70 (0, 0)).cell 2
  have q3 := (Blk.new w #[.int .i64 t.k, .int .i64 t.n, .string t.s, .bool t.b] 70 (0, 0)).cell 3
  have hb1 := below_new w (.cells #[.int .i64 t.k, .int .i64 t.n, .string t.s, .bool t.b] 70)
  have hs1 : (w.alloc (.cells #[.int .i64 t.k, .int .i64 t.n, .string t.s, .bool t.b] 70)).heap.size = w.heap.size + 1 := by simp
  simp only [List.getElem?_toArray, List.getElem?_cons_zero, List.getElem?_cons_succ] at q0 q1 q2 q3
  by_cases h1 : t.k = 1
  · have b1 : (t.k == 1) = true := by simp [h1]
    have HI := Lib.hid (show itOf t = .num t.n from if_pos h1)
    clear h1
    go_enter Try.func34, Try.ntmps34
    go_wp2_with fail
    rw [u64_wrap]
    refine (big_calls (u64 t.n) 8 (u64_lt _) (by omega) _).mono ?_
    rintro e w2 ⟨v2, rfl, o2, b2⟩
    obtain ⟨A2, c2, rfl, R2⟩ := o2.read (by decide)
    have hL : Ow flB w2 w.heap.size 5 (.slice (some ⟨w.heap.size + 1, 0, none⟩) 1 1) [1] := (Ow.lit' (f := flB) (xs := [1]) (w.alloc (.cells #[.int .i64 t.k, .int .i64 t.n, .string t.s, .bool t.b] 70)) w.heap.size 5 #[.int .u8 1] (w.heap.size + 1) (by simp) (by simp) (by simp) rfl).stay b2
    have hB : Below w.heap.size w w2 := (hb1.alloc (by simp) _).trans (b2.mono (by simp; omega))
    have hsz := b2.size
    have hbl : (bigB (u64 t.n) 8).length = 8 := by simp [bigB, bigTo_len]
    have hsz2 : w.heap.size + 1 + 1 ≤ w2.heap.size := by simpa using hsz
    have HL := Lib.hid hL
    have HB := Lib.hid hB
    have HR := Lib.hid (show Rf flB w2 A2 8 (bigB (u64 t.n) 8) from by rw [hbl] at R2; exact R2)
    rw [hbl]
    clear hL hB hsz hbl R2 o2 b2
    go_wp2_with (at_builtin; refine wpList_append_any _ rfl (.tmp 7) (.tmp 11) _ rfl w.heap.size 5 i0 _ 1 1 Try.underlying25 hi0 hz0 hz1 hz2 rfl (by omega) (.slice (some ⟨w.heap.size + 1, 0, none⟩) 1 1) 1 ([1].flatMap flB.enc) rfl HL.out w2.heap.size A2 8 c2 ((bigB (u64 t.n) 8).flatMap flB.enc) rfl (HR.out.reads (by decide)) (flat_one flB _) (by simp only [maxLen]; omega) (by omega) (by omega) ?_; intro v5 w5 hown5 hg5 hat5)
    have hO5 : Ow flB w5 w.heap.size 5 v5 ([1] ++ bigB (u64 t.n) 8) := Ow.join (f := flB) (xs := [1]) (ys := bigB (u64 t.n) 8) (m := 8) (by simp [bigB, bigTo_len]) hown5
    have hB5 : Below w.heap.size w w5 := HB.out.grown hg5 (by omega) (World.ownsRow.lt HL.out · · |>.1)
    go_ret
    exact ⟨_, rfl, by rw [HI.out]; exact hO5, hB5⟩
  have b1 : (t.k == 1) = false := by simp [h1]
  by_cases h2 : t.k = 2
  · have b2 : (t.k == 2) = true := by simp [h2]
    have HI := Lib.hid (show itOf t = .txt t.s from (if_neg h1).trans (if_pos h2))
    clear h1 h2
    have kcv := fun W => Go.Lib.run_convert_string_bytes (P := Try.prog) W 9 25 5 t.s Try.underlying9 Try.underlying25 Try.underlying5
    have hsz8 : ((t.s.size % 256 : Nat) : Int) = (t.s.size : Int) % 256 := Int.natCast_emod _ _
    have hL := Ow.lit' (f := flB) (xs := [2, t.s.size % 256]) (w.alloc (.cells #[.int .i64 t.k, .int .i64 t.n, .string t.s, .bool t.b] 70)) w.heap.size 5 #[.int .u8 2, .int .u8 ((t.s.size : Int) % 256)] (w.heap.size + 1) (by simp) (by simp) (by simp) (by show _ = [Value.int .u8 2, Value.int .u8 ((t.s.size % 256 : Nat) : Int)]; rw [hsz8])
    have q2' := (World.cell?_alloc_lt (w.alloc (.cells #[.int .i64 t.k, .int .i64 t.n, .string t.s, .bool t.b] 70)) (.cells #[.int .u8 2, .int .u8 ((t.s.size : Int) % 256)] 5) ⟨w.heap.size, 2, none⟩ (by simp)).trans q2
    have hw2 : ((w.alloc (.cells #[.int .i64 t.k, .int .i64 t.n, .string t.s, .bool t.b] 70)).alloc (.cells #[.int .u8 2, .int .u8 ((t.s.size : Int) % 256)] 5)).heap.size = w.heap.size + 1 + 1 := by simp
    have hRf := bw_rf ((w.alloc (.cells #[.int .i64 t.k, .int .i64 t.n, .string t.s, .bool t.b] 70)).alloc (.cells #[.int .u8 2, .int .u8 ((t.s.size : Int) % 256)] 5)) t.s (by omega)
    rw [hw2] at hRf
    have hbw := bw_below ((w.alloc (.cells #[.int .i64 t.k, .int .i64 t.n, .string t.s, .bool t.b] 70)).alloc (.cells #[.int .u8 2, .int .u8 ((t.s.size : Int) % 256)] 5)) t.s
    have HRf := Lib.hid hRf
    have HL2 := Lib.hid (hL.stay hbw)
    have HB2 := Lib.hid ((hb1.alloc (o := .cells #[.int .u8 2, .int .u8 ((t.s.size : Int) % 256)] 5) (by simp)).trans (hbw.mono (by simp; omega)))
    have hsz3 := HB2.out.size
    clear hL hsz8 hRf hbw hw2
    go_enter Try.func34, Try.ntmps34
    go_wp2_with (at_builtin; refine wpList_append_any _ rfl (.tmp 19) (.tmp 22) _ rfl w.heap.size 5 i0 _ 1 1 Try.underlying25 hi0 hz0 hz1 hz2 rfl (by omega) (.slice (some ⟨w.heap.size + 1, 0, none⟩) 2 2) 2 ([2, t.s.size % 256].flatMap flB.enc) rfl HL2.out _ (some ⟨w.heap.size + 1 + 1, 0, none⟩) t.s.size _ ((strB t.s).flatMap flB.enc) rfl (HRf.out.reads (by decide)) (flat_one flB _) (by simp only [maxLen]; omega) (by omega) hsz3 ?_; intro v5 w5 hown5 hg5 hat5)
    have hO5 : Ow flB w5 w.heap.size 5 v5 ([2, t.s.size % 256] ++ strB t.s) := Ow.join (f := flB) (xs := [2, t.s.size % 256]) (ys := strB t.s) (m := t.s.size) (strB_len _) hown5
    have hB5 : Below w.heap.size w w5 := HB2.out.grown hg5 hsz3 (World.ownsRow.lt HL2.out · · |>.1)
    go_ret
    exact ⟨_, rfl, by rw [HI.out]; exact hO5, hB5⟩
  · have b2 : (t.k == 2) = false := by simp [h2]
    have HI := Lib.hid (show itOf t = .tru t.b from (if_neg h1).trans (if_neg h2))
    clear h1 h2
    cases hb : t.b with
    | true =>
      rw [hb] at q0 q1 q2 q3 hb1 HI
      go_enter Try.func34, Try.ntmps34
      go_wp2_with fail
      go_ret
      exact ⟨_, rfl, by rw [HI.out]; exact Ow.lit' (f := flB) (xs := [3, 1]) _ w.heap.size 5 _ _ (by simp) (by simp) (by simp) rfl, hb1.alloc (by simp) _⟩
    | false =>
      rw [hb] at q0 q1 q2 q3 hb1 HI
      go_enter Try.func34, Try.ntmps34
      go_wp2_with fail
      go_ret
      exact ⟨_, rfl, by rw [HI.out]; exact Ow.lit' (f := flB) (xs := [3, 0]) _ w.heap.size 5 _ _ (by simp) (by simp) (by simp) rfl, hb1.alloc (by simp) _⟩
end Go.Proofs.Ytodccdfpoocolaa
