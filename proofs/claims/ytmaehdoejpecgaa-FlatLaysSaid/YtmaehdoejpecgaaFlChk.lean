/- slices.Chunk at []int, by fours: its iterator's contract. (Shaped on the kit's worked contract of slices.Values.) -/
import Derived.Test.YtmaehdoejpecgaaFlTk
import Derived.RangeFuncNested
import Derived.RangeFuncBound
import Derived.RangeFuncCalls
import Derived.RangeFuncLeaves
import Derived.RangeFuncBox
import Derived.Shelf.Abstract
import Derived.Shelf.RegionOpen
import Derived.OwnWalkIn
import Derived.TacticsInMore
import Derived.LoopNIn
import Derived.LoopIn
import Derived.WalkLawsBesides
import Derived.Sort.QuietIn
set_option linter.unusedVariables false
namespace Go.Proofs.Ytmaehdoejpecgaa
open Go.RowKit Go.Shelf
attribute [local go_sem] Oper.semAt_some

/-- What a round leaves alone: the iterator's two boxes. -/
def KpB (Bs Bn : Nat) (W W' : World) : Prop := W'.heap[Bs]? = W.heap[Bs]? ∧ W'.heap[Bn]? = W.heap[Bn]?
theorem KpB.trans {Bs Bn : Nat} {A B C : World} (h : KpB Bs Bn A B) (k : KpB Bs Bn B C) : KpB Bs Bn A C := ⟨k.1.trans h.1, k.2.trans h.2⟩
theorem KpB.refl (Bs Bn : Nat) (A : World) : KpB Bs Bn A A := ⟨rfl, rfl⟩
theorem KpB.c1 {Bs Bn : Nat} {A B : World} (h : KpB Bs Bn A B) {v : Value} (hc : A.cell? ⟨Bs, 0, none⟩ = some v) : B.cell? ⟨Bs, 0, none⟩ = some v := (World.cell?_of_block (w := A) h.1).trans hc
theorem KpB.c2 {Bs Bn : Nat} {A B : World} (h : KpB Bs Bn A B) {v : Value} (hc : A.cell? ⟨Bn, 0, none⟩ = some v) : B.cell? ⟨Bn, 0, none⟩ = some v := (World.cell?_of_block (w := A) h.2).trans hc
theorem KpB.put {Bs Bn : Nat} {w W : World} (h1 : Bs < w.heap.size) (h2 : Bn < w.heap.size) (l : Nat) (o' : Obj) (hl : w.heap.size ≤ l) : KpB Bs Bn W (W.putObj l o') := ⟨World.putObj_heap_other (by omega), World.putObj_heap_other (by omega)⟩
theorem range_snoc (k : Nat) : List.range (k + 1) = List.range k ++ [k] := List.range_succ
set_option maxRecDepth 100000 in
set_option maxHeartbeats 2000000 in
theorem chunk1_in (n : Nat) (hn : 1 ≤ n) (l Bs Bn b off len cap : Nat) (hreach : len ≤ 1000000) (h4 : len % 4 = 0) (hcap : len ≤ cap) (hcap2 : cap ≤ 9223372036854775807) (m : Nat) (hm : m = len / 4) (J Jx : List (Fin m) → World → Prop) (hJd : ∀ (s : List (Fin m)) W d, J s W → J s (W.drewN d))
    (hY : ∀ pre x W, J pre W → pre.length < len → YieldAt Fence.wide (n - 1) Try.prog l #[.slice (some ⟨b, off + x.val * 4, none⟩) 4 4] W fun e W' =>
      (e = .returned (.bool true) ∧ J (pre ++ [x]) W' ∧ KpB Bs Bn W W') ∨ (e = .returned (.bool false) ∧ Jx (pre ++ [x]) W'))
    (W : World) (hBs : W.cell? ⟨Bs, 0, none⟩ = some (.slice (some ⟨b, off, none⟩) len cap)) (hBn : W.cell? ⟨Bn, 0, none⟩ = some (.int .i64 4)) (h0 : J [] W) :
    CallsIn Fence.wide n Try.prog 43 #[.func (.yield l) #[] #[], .pointer (some ⟨Bs, 0, none⟩), .pointer (some ⟨Bn, 0, none⟩)] W fun e W' => (∃ v, e = .returned v) ∧
      ((∃ ys : List (Fin m), ys.map Fin.val = List.range m ∧ J ys W') ∨ (∃ pre : List (Fin m), Jx pre W')) := by
  refine callsIn_of_wp Try.func43 rfl trivial ?_ rfl
  simp only [Try.ntmps43, List.size_toArray, List.length_cons, List.length_nil, Nat.reduceAdd, Nat.reduceSub, Array.replicate_succ, Array.replicate_zero, List.push_toArray, List.append_toArray, List.nil_append, List.cons_append]
  gi_wp2
  gi_loopw [4] (fun i wr => ∃ (k : Nat) (pre : List (Fin m)), k * 4 ≤ len ∧ i = .int .i64 ((k * 4 : Nat) : Int) ∧ Hid (pre.map Fin.val = List.range k) ∧ J pre wr ∧ KpB Bs Bn W wr)
    (fun i _ => len - (intOf i).toNat)
  case atStart => exact ⟨0, [], by omega, rfl, Lib.hid rfl, h0, KpB.refl _ _ _⟩
  case round =>
    obtain ⟨k, pre, hk, rfl, hpre, hJs, hnx⟩ := hrel
    have hcs := hnx.c1 hBs
    have hcn := hnx.c2 hBn
    by_cases hlt : k * 4 < len
    · have hKl : k < len := by omega
      have hkm : k < m := by omega
      generalize hK4 : k * 4 = K at *
      have hk0 : (0 : Int) ≤ (K : Int) := Int.natCast_nonneg _
      have hk1 : (K : Int) ≤ (len : Int) := by omega
      have hk2 : (4 : Int) ≤ (len : Int) - (K : Int) := by omega
      gi_wp2
      gi_quiet (fail)
      obtain ⟨fn, tmps, assign, body, hy, hR⟩ := hY pre ⟨k, hkm⟩ (wr.drewN nq) (hJd _ _ _ hJs) (by have := congrArg List.length hpre.out; simp at this; omega)
      dsimp only at hy
      rw [hK4] at hy
      have hcs := hcs
      have hw4 : IntKind.i64.wrap ((K : Int) + 4) = (K : Int) + 4 := by rw [IntKind.wrap_i64]; omega
      have ht4 : ((K : Int) + 4).toNat = K + 4 := by omega
      have ht5 : K + 4 - K = 4 := by omega
      have hk5 : (0 : Int) ≤ (K : Int) + 4 := by omega
      have hk6 : (K : Int) + 4 ≤ (cap : Int) := by omega
      have hk7 : (K : Int) ≤ (K : Int) + 4 := by omega
      gi_wp2
      refine hR.mono ?_
      rintro e W3 (⟨rfl, hJ3, hk3⟩ | ⟨rfl, hJx3⟩)
      · have hcn3 : W3.cell? ⟨Bn, 0, none⟩ = some (.int .i64 4) := hk3.c2 hcn
        gi_wp2
        go_roundw
        case rel => exact ⟨k + 1, _, by omega, by simp; omega, Lib.hid (by rw [range_snoc, List.map_append, hpre.out]; rfl), hJ3, hnx.trans hk3⟩
        case measure => simp [intOf]; omega
      · gi_wp2
        refine bodyPost_ret (results_none rfl _ _ _) rfl ?_
        exact ⟨⟨_, rfl⟩, .inr ⟨_, hJx3⟩⟩
    · have hke : k = m := by omega
      gi_wp2
      go_end0
      exact ⟨⟨_, rfl⟩, .inl ⟨pre, hpre.out.trans (congrArg List.range hke), hJs⟩⟩

set_option maxRecDepth 100000 in
set_option maxHeartbeats 1000000 in
/-- .. at a slice without elements: no round. -/
theorem chunk0_in (n : Nat) (l Bs Bn : Nat) (A : Option Addr) (cap : Nat) {α : Type} (J : List α → World → Prop) (W : World) (hBs : W.cell? ⟨Bs, 0, none⟩ = some (.slice A 0 cap)) (h0 : J [] W) :
    CallsIn Fence.wide n Try.prog 43 #[.func (.yield l) #[] #[], .pointer (some ⟨Bs, 0, none⟩), .pointer (some ⟨Bn, 0, none⟩)] W fun e W' => (∃ v, e = .returned v) ∧ J [] W' := by
  refine callsIn_of_wp Try.func43 rfl trivial ?_ rfl
  simp only [Try.ntmps43, List.size_toArray, List.length_cons, List.length_nil, Nat.reduceAdd, Nat.reduceSub, Array.replicate_succ, Array.replicate_zero, List.push_toArray, List.append_toArray, List.nil_append, List.cons_append]
  gi_wp2
  gi_loopw [4] (fun i wr => i = .int .i64 0 ∧ J [] wr ∧ wr.cell? ⟨Bs, 0, none⟩ = some (.slice A 0 cap)) (fun _ _ => 0)
  case atStart => exact ⟨rfl, h0, hBs⟩
  case round =>
    obtain ⟨rfl, hJs, hcs⟩ := hrel
    gi_wp2
    go_end0
    exact ⟨⟨_, rfl⟩, hJs⟩
/-- slices.Chunk(s, 4): both are boxed. -/
theorem chunk_in (n : Nat) (a : Option Addr) (len cap : Nat) (w : World) :
    CallsIn Fence.wide n Try.prog 35 #[.slice a len cap, .int .i64 4] w fun e w' => e = .returned (.func (.func 43) #[] #[.pointer (some ⟨w.heap.size, 0, none⟩), .pointer (some ⟨w.heap.size + 1, 0, none⟩)]) ∧ w' = (w.alloc (.cells #[.slice a len cap] 22)).alloc (.cells #[.int .i64 4] 3) := by
  refine callsIn_of_wp Try.func35 rfl trivial ?_ rfl
  simp only [Try.ntmps35, List.size_toArray, List.length_cons, List.length_nil, Nat.reduceAdd, Nat.reduceSub, Array.replicate_succ, Array.replicate_zero, List.push_toArray, List.append_toArray, List.nil_append, List.cons_append]
  gi_wp2
  go_ret
  exact ⟨rfl, rfl⟩
/-- A row by fours: the address, where there is an element. -/
def ChunkAt (A : Option Addr) (b off len : Nat) : Prop := 0 < len → A = some ⟨b, off, none⟩
theorem chunk_stops (n : Nat) (hn : 1 ≤ n) (Bs Bn : Nat) (A : Option Addr) (b off len cap : Nat) (hA : ChunkAt A b off len) (hreach : len ≤ 1000000) (h4 : len % 4 = 0) (hcap : len ≤ cap) (hcap2 : cap ≤ 9223372036854775807) (w : World) (hBs : Bs < w.heap.size) (hBn : Bn < w.heap.size)
    (hc : w.cell? ⟨Bs, 0, none⟩ = some (.slice A len cap)) (hc2 : w.cell? ⟨Bn, 0, none⟩ = some (.int .i64 4)) :
    SeqStopsK Fence.wide n Try.prog 43 #[.pointer (some ⟨Bs, 0, none⟩), .pointer (some ⟨Bn, 0, none⟩)] (fun x : Fin (len / 4) => #[Value.slice (some ⟨b, off + x.val * 4, none⟩) 4 4]) (KpB Bs Bn) (fun ys => ys.map Fin.val = List.range (len / 4)) (fun _ => True) len w := fun l J Jx W hW hJ _ hY h0 => by
  have hc' := (hW.cell (p := ⟨Bs, 0, none⟩) hBs).trans hc
  have hc2' := (hW.cell (p := ⟨Bn, 0, none⟩) hBn).trans hc2
  rcases Nat.eq_zero_or_pos len with rfl | hpos
  · exact (chunk0_in n l Bs Bn A cap J W hc' h0).mono fun e W' ⟨he, hj⟩ => ⟨he, .inl ⟨_, rfl, hj⟩⟩
  · rw [hA hpos] at hc'
    refine (chunk1_in n hn l Bs Bn b off len cap hreach h4 hcap hcap2 _ rfl J Jx (fun s W1 d hs => hJ s W1 _ none hs ⟨rfl, rfl, rfl, Nat.le_refl _, fun _ _ _ => rfl⟩ (fun r e => by cases e)) hY W hc' hc2' h0).mono ?_
    rintro e W' ⟨he, ⟨ys, hk, hj⟩ | ⟨pre, hj⟩⟩
    · exact ⟨he, .inl ⟨_, hk, hj⟩⟩
    · exact ⟨he, .inr ⟨_, trivial, hj⟩⟩
end Go.Proofs.Ytmaehdoejpecgaa
