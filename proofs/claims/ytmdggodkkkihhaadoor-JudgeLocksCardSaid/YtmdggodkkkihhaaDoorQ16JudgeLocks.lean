/- Texts put together for a claim. -/
import Derived.Test.YtmdggodkkkihhaaDoorQ15JudgeLocks
import Derived.StillTailTactics
/- Contract of table.Needs. -/
set_option linter.unusedVariables false
set_option linter.unusedSimpArgs false
namespace Go.Proofs.YtmdggodkkkihhaaDoor
open Go.RowKit

/-- A row of the call's own is a slice that holds it. -/
theorem sl_ow {α : Type} {f : Fl α} {w : World} {base : Nat} {e : TypeId} {v : Value} {xs : List α} (h : Ow f w base e v xs) (hs : 0 < f.sz) (hn : xs.length ≤ 140737488351232) : ∃ A c, v = .slice A xs.length c ∧ Sl f w A xs.length c xs := by
  obtain ⟨A, c, rfl, hr⟩ := h.read hs
  rcases h.2 with ⟨e1, h0⟩ | ⟨g, cap, cur, e1, _, _, h1, h2, _⟩
  · injection e1 with e1 e2 e3
    subst e3
    exact ⟨A, 0, rfl, hr, by omega, by omega, hn⟩
  · injection e1 with e1 e2 e3
    subst e3
    exact ⟨A, c, rfl, hr, h1, by simp only [maxLen] at h2; omega, hn⟩
/-- What a row of Needs that is returned is. -/
def NeedsPost (w : World) (xs : List Need) (e : Ending) (w' : World) : Prop := ∃ A n c, e = .returned (.slice A n c) ∧ Sl flN w' A n c xs ∧ Below w.heap.size w w'
set_option maxRecDepth 20000 in
set_option maxHeartbeats 2000000 in
theorem Needs_calls (w : World) (L : Lay) (A1 A2 A3 A4 : Option Addr) (n1 c1 n2 c2 n3 c3 n4 c4 : Nat) (hL : LayV w L A1 A2 A3 A4 n1 c1 n2 c2 n3 c3 n4 c4) (r : Nat) (x : Rte) (hr : L.rtes[r]? = some x) (hx : x.points.length + x.flank.length ≤ 8796093022208) :
    Calls Tryd.prog 52 #[.agg #[.slice A1 n1 c1, .slice A2 n2 c2, .slice A3 n3 c3, .slice A4 n4 c4], .int .i64 r] w (NeedsPost w (x.points ++ x.flank)) := by
  have hlt : r < n4 := by
    have := hL.rtes.len
    have := (List.getElem?_eq_some_iff.1 hr).1
    omega
  have hcap := Nat.le_trans hL.rtes.le hL.rtes.cap
  obtain ⟨b, off, x', P, Q, F, p, pc, q, qc, f, fc, rfl, hx', k0, k1, k2, k3, k4, k5, hv⟩ := hL.rtes.at_ hlt
  obtain rfl : x = x' := by rw [hr] at hx'; exact Option.some.inj hx'
  have hw0 := below_new w (.cells #[.slice A1 n1 c1, .slice A2 n2 c2, .slice A3 n3 c3, .slice (some ⟨b, off, none⟩) n4 c4] 26)
  have hB := Blk.new w #[.slice A1 n1 c1, .slice A2 n2 c2, .slice A3 n3 c3, .slice (some ⟨b, off, none⟩) n4 c4] 26 (0, 0)
  have b3 := hB.cell 3
  simp only [List.getElem?_toArray, List.getElem?_cons_zero, List.getElem?_cons_succ] at b3
  have k4 := cell_stay hw0 k4
  have k5 := cell_stay hw0 k5
  have HV := Lib.hid (hv.stay hw0)
  have HP := Lib.hid hv.points.len
  have HF := Lib.hid hv.flank.len
  clear hL hr hx' k0 k1 k2 k3 hB hv
  go_enter Tryd.func52, Tryd.ntmps52
  go_wp2_with fail
  generalize (w.alloc (.cells #[.slice A1 n1 c1, .slice A2 n2 c2, .slice A3 n3 c3, .slice (some ⟨b, off, none⟩) n4 c4] 26)) = w0 at *
  go_still_tail 12, (by kernel_rfl)
  change wpList _ _ _ _ _ w0.drew
  have hd : Below w0.heap.size w0 w0.drew := below_drawn (Below.refl _ _) 1
  have hw2 := below_more hw0 hd
  have HV := Lib.hid (HV.out.stay hd)
  generalize w0.drew = w2 at *
  clear hd hw0 k4 k5 b3
  have hn := below_new w2 (.cells #[.slice Q q qc, .slice F f fc] 60)
  have hB := Blk.new w2 #[.slice Q q qc, .slice F f fc] 60 (0, 0)
  have b0 := hB.cell 0
  have b1 := hB.cell 1
  simp only [List.getElem?_toArray, List.getElem?_cons_zero, List.getElem?_cons_succ] at b0 b1
  have K := Lib.hid (Cat_calls _ w2.heap.size Q F q qc f fc x.points x.flank (HV.out.stay hn).points (HV.out.stay hn).flank b0 b1 (by have := HP.out; have := HF.out; omega))
  go_wp2_with (refine K.out.mono ?_; rintro e w3 ⟨v, rfl, hown, hb⟩)
  go_ret
  obtain ⟨A, c, rfl, hs⟩ := sl_ow hown (by decide) (by rw [List.length_append]; omega)
  exact ⟨_, _, _, rfl, hs, below_more hw2 (below_more hn hb)⟩
end Go.Proofs.YtmdggodkkkihhaaDoor

/- Contracts of table.Entry and table.Conflict. -/
set_option linter.unusedVariables false
set_option linter.unusedSimpArgs false
namespace Go.Proofs.YtmdggodkkkihhaaDoor
open Go.RowKit

theorem box_reads' {α : Type} (f : Fl α) (W : World) (cs : Array Value) (t : TypeId) (x : α) (h : cs.toList = f.enc x) (g : Nat) (hg : g = W.heap.size) : Reads (W.alloc (.cells cs t)) (W.heap.size + 1) f.sz (some ⟨g, 0, none⟩) 1 (f.enc x) := by
  subst hg
  exact box_reads f W cs t x h
/-- The routes that begin at a signal, of the first k. -/
def entryTo (rs : List Rte) (s : Int) : Nat → List Int
  | 0 => []
  | k + 1 => match rs[k]? with
    | some x => if x.frm = s then entryTo rs s k ++ [(k : Int)] else entryTo rs s k
    | none => entryTo rs s k
theorem entryTo_le (rs : List Rte) (s : Int) : ∀ k, (entryTo rs s k).length ≤ k
  | 0 => Nat.le_refl _
  | k + 1 => by
    have := entryTo_le rs s k
    unfold entryTo
    split
    · split
      · simp; omega
      · omega
    · omega
theorem entryTo_yes {rs : List Rte} {s : Int} {k : Nat} {x : Rte} (hx : rs[k]? = some x) (h : x.frm = s) : entryTo rs s (k + 1) = entryTo rs s k ++ [(k : Int)] := by
  rw [entryTo, hx]
  exact if_pos h
theorem entryTo_no {rs : List Rte} {s : Int} {k : Nat} {x : Rte} (hx : rs[k]? = some x) (h : x.frm ≠ s) : entryTo rs s (k + 1) = entryTo rs s k := by
  rw [entryTo, hx]
  exact if_neg h
theorem entryTo_mem {rs : List Rte} {s : Int} : ∀ {k : Nat} {y : Int}, y ∈ entryTo rs s k → ∃ (j : Nat) (x : Rte), y = j ∧ j < k ∧ rs[j]? = some x ∧ x.frm = s
  | 0, y, h => by cases h
  | k + 1, y, h => by
    unfold entryTo at h
    split at h
    · rename_i x hx
      split at h
      · rename_i hs
        rcases List.mem_append.1 h with h | h
        · obtain ⟨j, x', h1, h2, h3⟩ := entryTo_mem h
          exact ⟨j, x', h1, by omega, h3⟩
        · exact ⟨k, x, List.mem_singleton.1 h, by omega, hx, hs⟩
      · obtain ⟨j, x', h1, h2, h3⟩ := entryTo_mem h
        exact ⟨j, x', h1, by omega, h3⟩
    · obtain ⟨j, x', h1, h2, h3⟩ := entryTo_mem h
      exact ⟨j, x', h1, by omega, h3⟩
theorem info_int : (Tryd.prog.info? 3).map (fun i => (i.zero, i.size, i.bytes)) = some (some (.int .i64 0), 1, 8) := by kernel_rfl
/-- What a row of whole numbers that is returned is. -/
def IntsPost (w : World) (xs : List Int) (e : Ending) (w' : World) : Prop := ∃ A n c, e = .returned (.slice A n c) ∧ Sl flI w' A n c xs ∧ Below w.heap.size w w'
set_option maxRecDepth 20000 in
set_option maxHeartbeats 4000000 in
theorem Entry_calls (w : World) (L : Lay) (A1 A2 A3 A4 : Option Addr) (n1 c1 n2 c2 n3 c3 n4 c4 : Nat) (hL : LayV w L A1 A2 A3 A4 n1 c1 n2 c2 n3 c3 n4 c4) (hn : n4 ≤ 1000000) (s : Int) :
    Calls Tryd.prog 45 #[.agg #[.slice A1 n1 c1, .slice A2 n2 c2, .slice A3 n3 c3, .slice A4 n4 c4], .int .i64 s] w (IntsPost w (entryTo L.rtes s n4)) := by
  obtain ⟨i0, hi0, hz0, hz1, hz2⟩ := info_parts info_int
  have hw0 := below_new w (.cells #[.slice A1 n1 c1, .slice A2 n2 c2, .slice A3 n3 c3, .slice A4 n4 c4] 26)
  have HR := Lib.hid hL.rtes
  have hle := entryTo_le L.rtes s
  clear hL
  go_enter Tryd.func45, Tryd.ntmps45
  go_wp2_with fail
  have hsz0 := hw0.size
  generalize (w.alloc (.cells #[.slice A1 n1 c1, .slice A2 n2 c2, .slice A3 n3 c3, .slice A4 n4 c4] 26)) = w0 at *
  go_loopw [5, 11] (fun v i wr => ∃ k : Nat, k ≤ n4 ∧ i = .int .i64 k ∧ Ow flI wr w.heap.size 3 v (entryTo L.rtes s k) ∧ Below w.heap.size w wr) (fun _ i _ => n4 - (intOf i).toNat)
  case atStart => exact ⟨0, by omega, rfl, Ow.nil_ _ _ _ _, hw0⟩
  case round =>
    obtain ⟨k, hk, rfl, hown, hbr⟩ := hrel
    have hsz := hbr.size
    by_cases hlt : k < n4
    · obtain ⟨b, off, x, P, Q, F, p, pc, q, qc, f, fc, rfl, hx, k0, k1, k2, k3, k4, k5, _⟩ := HR.out.at_ hlt
      have k0 := cell_stay hbr k0
      have k1 := cell_stay hbr k1
      have k2 := cell_stay hbr k2
      have k3 := cell_stay hbr k3
      have k4 := cell_stay hbr k4
      have k5 := cell_stay hbr k5
      have HX := Lib.hid hx
      have HO := Lib.hid hown
      have HB := Lib.hid hbr
      have hlk := hle k
      obtain ⟨Av, cv, rfl⟩ := row_form hown
      clear hx hown hle
      by_cases hq : x.frm = s
      · have HF := Lib.hid (entryTo_yes HX.out hq)
        have hq1 : (x.frm == s) = true := by simp [hq]
        clear hq hbr
        go_wp2_with (at_builtin; refine wpList_append_any _ rfl (.tmp 20) (.tmp 22) _ rfl w.heap.size 3 i0 _ 1 8 Tryd.underlying28 hi0 hz0 hz1 hz2 rfl (by omega) _ (entryTo L.rtes s k).length ((entryTo L.rtes s k).flatMap flI.enc) rfl ((HO.out.alloc _).alloc _) ((wr.alloc (.cells #[.string x.name, .int .i64 x.frm, .int .i64 x.dest, .slice P p pc, .slice Q q qc, .slice F f fc] 62)).heap.size + 1) (some ⟨wr.heap.size + 1, 0, none⟩) 1 1 (flI.enc (k : Int)) rfl (box_reads' flI (wr.alloc (.cells #[.string x.name, .int .i64 x.frm, .int .i64 x.dest, .slice P p pc, .slice Q q qc, .slice F f fc] 62)) _ _ (k : Int) rfl (wr.heap.size + 1) (by simp)) (flI.one _) (by simp only [maxLen]; omega) (by omega) (by simp; omega) ?_; intro v1 w1 hown1 hg1 hat1)
        go_roundw
        case rel => exact ⟨k + 1, by omega, by go_num, by rw [HF.out]; exact Ow.snoc hown1, ((HB.out.alloc HB.out.size _).alloc (by simp; omega) _).grown hg1 (by simp; omega) (HO.out.base_)⟩
        case measure => simp [intOf]; omega
      · have HF := Lib.hid (entryTo_no HX.out hq)
        have hq1 : (x.frm == s) = false := by simp [hq]
        clear hq hbr
        go_wp2_with fail
        go_roundw
        case rel => exact ⟨k + 1, by omega, by go_num, by rw [HF.out]; exact HO.out.alloc _, HB.out.alloc HB.out.size _⟩
        case measure => simp [intOf]; omega
    · obtain rfl : n4 = k := by omega
      have hl := hle n4
      obtain ⟨A, c, rfl, hs⟩ := sl_ow hown (by decide) (by omega)
      have HS := Lib.hid hs
      clear hlt hown hs
      go_wp2_with fail
      go_ret
      exact ⟨_, _, _, rfl, HS.out, hbr⟩
end Go.Proofs.YtmdggodkkkihhaaDoor
