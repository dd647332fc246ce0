/- One thing's bytes: wire.thing. -/
import Derived.Test.YtodccdfpoocolaaWrNum
set_option linter.unusedVariables false
namespace Go.Proofs.Ytodccdfpoocolaa
open Go.RowKit Go.Lib

def u64 (n : Int) : Nat := (n % 18446744073709551616).toNat
theorem u64_lt (n : Int) : u64 n < 18446744073709551616 := by unfold u64; omega
theorem u64_int (n : Int) : ((u64 n : Nat) : Int) = n % 18446744073709551616 := by unfold u64; omega
theorem u64_wrap (n : Int) : IntKind.u64.wrap n = ((u64 n : Nat) : Int) := by rw [u64_int, IntKind.wrap_u64]
def strB (s : ByteArray) : List Nat := s.data.toList.map UInt8.toNat
theorem strB_len (s : ByteArray) : (strB s).length = s.size := by unfold strB; rw [List.length_map, Array.length_toList]; rfl
theorem strCells_enc (s : ByteArray) : strCells s = (strB s).flatMap flB.enc := by
  unfold strCells strB
  induction s.data.toList with
  | nil => rfl
  | cons b r ih => rw [List.map_cons, List.map_cons, List.flatMap_cons, ih]; rfl
def boolN (b : Bool) : Nat := if b then 1 else 0
def thingB : It → List Nat
  | .num n => 1 :: bigB (u64 n) 8
  | .txt s => 2 :: (s.size % 256) :: strB s
  | .tru b => [3, boolN b]
def okB : It → Bool
  | .txt s => decide ((s.size : Int) ≤ 200)
  | _ => true
theorem truth_calls (b : Bool) (w : World) : Calls Try.prog 46 #[.bool b] w fun e w' => e = .returned (.int .u8 (boolN b : Nat)) ∧ w = w' := by
  cases b
  · go_enter Try.func46, Try.ntmps46
    go_wp2_with fail
    go_ret
    exact ⟨rfl, rfl⟩
  · go_enter Try.func46, Try.ntmps46
    go_wp2_with fail
    go_ret
    exact ⟨rfl, rfl⟩
set_option maxHeartbeats 4000000 in
theorem thing_calls (w0 : World) (p : Option Addr) (its : List It) (hc : Cz w0 p its) (v : Value) (bs : List Nat) (w : World) (hb : Below w0.heap.size w0 w) (ho : Ow flB w w0.heap.size 5 v bs) (hl : bs.length ≤ 500000)
    (i : Nat) (x : It) (hx : its[i]? = some x) (hs : ∀ s, x = .txt s → s.size ≤ 400000) :
    Calls Try.prog 29 #[v, .pointer p, .int .i64 (i : Int)] w fun e w' => ∃ v', e = .returned (.tuple #[v', .bool (okB x)]) ∧ Ow flB w' w0.heap.size 5 v' (bs ++ thingB x) ∧ Below w0.heap.size w0 w' := by
  obtain ⟨i0, hi0, hz0, hz1, hz2⟩ := info_parts info_b
  obtain ⟨A, c, rfl, -⟩ := ho.read (by decide)
  have hlk : lk its (i : Int) = some x := by unfold lk; rw [if_pos (by omega)]; simpa using hx
  have hI := Int_calls w p its (hc.stay hb) i
  have hT := Text_calls w p its (hc.stay hb) i
  have hB := Bool_calls w p its (hc.stay hb) i
  rw [hlk] at hI hT hB
  have HO := Lib.hid ho
  have HB := Lib.hid hb
  have hsz := hb.size
  clear ho hb hlk hx hc
  rcases x with n | s | b
  · dsimp only [numOf, txtOf, truOf, okB] at hI hT hB ⊢
    go_enter Try.func29, Try.ntmps29
    go_wp2_with fail
    refine hI.mono ?_
    rintro e w1 ⟨rfl, rfl⟩
    clear hI hT hB
    go_wp2_with (at_builtin; refine wpList_append_any _ rfl (.tmp 21) (.tmp 22) _ rfl w0.heap.size 5 i0 _ 1 1 Try.underlying25 hi0 hz0 hz1 hz2 rfl (by omega) (.slice A bs.length c) bs.length (bs.flatMap flB.enc) rfl (HO.out.alloc _) (w.heap.size + 1) (some ⟨w.heap.size, 0, none⟩) 1 1 (flB.enc 1) rfl (box_reads flB w #[.int .u8 1] _ 1 rfl) (flB.one _) (by simp only [maxLen]; omega) (by omega) (by simp; omega) ?_; intro v1 w1 hown1 hg1 hat1; obtain ⟨A1, c1, rfl⟩ := row_form hown1)
    have hO1 : Ow flB w1 w0.heap.size 5 (.slice A1 (bs.length + 1) c1) (bs ++ [1]) := Ow.snoc (f := flB) hown1
    have hB1 : Below w0.heap.size w0 w1 := (HB.out.alloc hsz _).grown hg1 (by simp; omega) (HO.out.base_)
    clear hown1 hg1 hat1
    rw [u64_wrap]
    refine (number_calls w0 _ (bs ++ [1]) (u64 n) 8 (u64_lt n) (by omega) w1 hB1 (by simpa using hO1) (by simp; omega)).mono ?_
    rintro e w2 ⟨v2, rfl, o2, b2⟩
    have HO2 := Lib.hid o2
    have HB2 := Lib.hid b2
    clear o2 b2 hO1 hB1
    go_wp2_with fail
    go_ret2
    exact ⟨v2, rfl, by have := HO2.out; rw [List.append_assoc] at this; exact this, HB2.out⟩
  · dsimp only [numOf, txtOf, truOf, okB] at hI hT hB ⊢
    have hss := hs s rfl
    clear hs
    have hsz8 : ((s.size % 256 : Nat) : Int) = (s.size : Int) % 256 := Int.natCast_emod _ _
    have HRD := Lib.hid ((lit_reads flB (w := w.alloc (.cells #[.int .u8 2, .int .u8 ((s.size : Int) % 256)] 5)) [2, s.size % 256] (Blk.new w _ _ _) (by show _ = [Value.int .u8 2, Value.int .u8 ((s.size % 256 : Nat) : Int)]; rw [hsz8]) (by simp)).reads (by decide))
    clear hsz8
    go_enter Try.func29, Try.ntmps29
    go_wp2_with fail
    refine hI.mono ?_
    rintro e w1 ⟨rfl, rfl⟩
    go_wp2_with fail
    refine hT.mono ?_
    rintro e w1 ⟨rfl, rfl⟩
    clear hI hT hB
    go_wp2_with (first
      | (at_builtin; refine wpList_append_any _ rfl (.tmp 34) (.tmp 38) _ rfl w0.heap.size 5 i0 _ 1 1 Try.underlying25 hi0 hz0 hz1 hz2 rfl (by omega) (.slice A bs.length c) bs.length (bs.flatMap flB.enc) rfl (HO.out.alloc _) _ (some ⟨w.heap.size, 0, none⟩) 2 2 ([2, s.size % 256].flatMap flB.enc) rfl HRD.out (flat_one flB _) (by simp only [maxLen]; omega) (by omega) (by simp; omega) ?_; intro v1 w1 hown1 hg1 hat1; obtain ⟨A1, c1, rfl⟩ := row_form hown1; have HO1 := Lib.hid (show w1.ownsRow w0.heap.size 5 1 (.slice A1 (bs.length + 2) c1) (bs.length + 2) ((bs ++ [2, s.size % 256]).flatMap flB.enc) from by rw [List.flatMap_append]; exact hown1); have HB1 := Lib.hid ((HB.out.alloc hsz _).grown hg1 (by simp; omega) (HO.out.base_)); clear hown1 hg1 hat1)
      | (at_builtin; refine wpList_append_own_string _ rfl (.tmp 39) (.tmp 40) 25 9 rfl w0.heap.size 5 i0 Try.underlying25 Try.underlying9 hi0 hz0 hz1 hz2 (.slice A1 (bs.length + 2) c1) (bs.length + 2) ((bs ++ [2, s.size % 256]).flatMap flB.enc) rfl HO1.out s rfl (by simp only [maxLen]; omega) (by omega) HB1.out.size ?_; intro v2 w2 hown2 hg2 _; obtain ⟨A2, c2, rfl⟩ := row_form hown2; have HO2 := Lib.hid hown2; have HG2 := Lib.hid hg2; clear hown2 hg2))
    have hO2 : Ow flB w2 w0.heap.size 5 (.slice A2 (bs.length + 2 + s.size) c2) (bs ++ 2 :: (s.size % 256) :: strB s) := by
      have := HO2.out
      rw [strCells_enc] at this
      have e : (bs ++ [2, s.size % 256]).length = bs.length + 2 := by simp
      have h2 := Ow.join (f := flB) (xs := bs ++ [2, s.size % 256]) (ys := strB s) (m := s.size) (strB_len s) (by rw [e]; exact this)
      simpa using h2
    have hB2 : Below w0.heap.size w0 w2 := HB1.out.grown HG2.out HB1.out.size (World.ownsRow.lt HO1.out · · |>.1)
    clear HO2 HG2 HO1 HB1
    go_ret2
    exact ⟨_, rfl, hO2, hB2⟩
  · dsimp only [numOf, txtOf, truOf, okB] at hI hT hB ⊢
    have hz : boolN b < 256 := by cases b <;> simp [boolN]
    have HRD := Lib.hid ((lit_reads flB (w := w.alloc (.cells #[.int .u8 3, .int .u8 (boolN b : Nat)] 5)) [3, boolN b] (Blk.new w _ _ _) rfl (by simp)).reads (by decide))
    clear hs
    go_enter Try.func29, Try.ntmps29
    go_wp2_with fail
    refine hI.mono ?_
    rintro e w1 ⟨rfl, rfl⟩
    go_wp2_with fail
    refine hT.mono ?_
    rintro e w1 ⟨rfl, rfl⟩
    go_wp2_with fail
    refine hB.mono ?_
    rintro e w1 ⟨rfl, rfl⟩
    clear hI hT hB
    go_wp2_with fail
    refine (truth_calls b w).mono ?_
    rintro e w1 ⟨rfl, rfl⟩
    go_wp2_with (at_builtin; refine wpList_append_any _ rfl (.tmp 51) (.tmp 54) _ rfl w0.heap.size 5 i0 _ 1 1 Try.underlying25 hi0 hz0 hz1 hz2 rfl (by omega) (.slice A bs.length c) bs.length (bs.flatMap flB.enc) rfl (HO.out.alloc _) _ (some ⟨w.heap.size, 0, none⟩) 2 2 ([3, boolN b].flatMap flB.enc) rfl HRD.out (flat_one flB _) (by simp only [maxLen]; omega) (by omega) (by simp; omega) ?_; intro v1 w1 hown1 hg1 hat1)
    have hO1 : Ow flB w1 w0.heap.size 5 v1 (bs ++ [3, boolN b]) := Ow.join (f := flB) (xs := bs) (ys := [3, boolN b]) (m := 2) rfl hown1
    have hB1 : Below w0.heap.size w0 w1 := (HB.out.alloc hsz _).grown hg1 (by simp; omega) (HO.out.base_)
    go_ret2
    exact ⟨v1, rfl, hO1, hB1⟩
end Go.Proofs.Ytodccdfpoocolaa
