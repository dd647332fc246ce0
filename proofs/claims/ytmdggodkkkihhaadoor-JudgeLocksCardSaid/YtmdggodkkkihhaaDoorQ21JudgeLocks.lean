/- Texts put together for a claim. -/
import Derived.Test.YtmdggodkkkihhaaDoorQ17JudgeLocks
import Derived.Test.YtmdggodkkkihhaaDoorQ15JudgeLocks
import Derived.Deep.RegionHeld3
import Derived.Test.YtmdggodkkkihhaaDoorQ16JudgeLocks
import Derived.Test.YtmdggodkkkihhaaDoorQ19JudgeLocks
import Derived.Test.YtmdggodkkkihhaaDoorLater
import Derived.Deep.DeepCutAuto
/- Contract: the reference's Needs (of a route). -/
set_option linter.unusedVariables false
set_option linter.unusedSimpArgs false
namespace Go.Proofs.YtmdggodkkkihhaaDoor
open Go.RowKit

theorem own_empty {α : Type} (f : Fl α) (w : World) (base : Nat) (e : TypeId) (hb : base ≤ w.heap.size) : w.alloc (.cells #[] e) |>.ownsRow base e f.sz (.slice (some ⟨w.heap.size, 0, none⟩) 0 0) 0 [] :=
  World.ownsRow_lit (base := base) (e := e) (size := f.sz) w #[] 0 hb (by simp [maxLen]) (by simp)
theorem two_app {f : Fl Need} {w : World} {base : Nat} {e : TypeId} {v : Value} {xs ys : List Need} {q k : Nat} (hq : xs.length = q) (hk : ys.length = k) (h : w.ownsRow base e f.sz v (0 + q + k) ([] ++ xs.flatMap f.enc ++ ys.flatMap f.enc)) : Ow f w base e v (xs ++ ys) := by
  subst hq hk
  refine Ow.join rfl ?_
  simpa using h
set_option maxRecDepth 20000 in
set_option maxHeartbeats 4000000 in
theorem RNeeds_calls (w : World) (L : Lay) (A1 A2 A3 A4 : Option Addr) (n1 c1 n2 c2 n3 c3 n4 c4 : Nat) (hL : LayV w L A1 A2 A3 A4 n1 c1 n2 c2 n3 c3 n4 c4) (r : Nat) (x : Rte) (hr : L.rtes[r]? = some x) (hx : x.points.length + x.flank.length ≤ 8796093022208) :
    Calls Tryd.prog 34 #[.agg #[.slice A1 n1 c1, .slice A2 n2 c2, .slice A3 n3 c3, .slice A4 n4 c4], .int .i64 r] w (NeedsPost w (x.points ++ x.flank)) := by
  have hlt : r < n4 := by
    have := hL.rtes.len
    have := (List.getElem?_eq_some_iff.1 hr).1
    omega
  obtain ⟨i0, hi0, hz0, hz1, hz2⟩ := info_parts info_need
  have hw0 := below_new w (.cells #[.slice A1 n1 c1, .slice A2 n2 c2, .slice A3 n3 c3, .slice A4 n4 c4] 26)
  have b3 := (Blk.new w #[.slice A1 n1 c1, .slice A2 n2 c2, .slice A3 n3 c3, .slice A4 n4 c4] 26 (0, 0)).cell 3
  simp only [List.getElem?_toArray, List.getElem?_cons_zero, List.getElem?_cons_succ] at b3
  obtain ⟨b, off, x', P, Q, F, p, pc, q, qc, f, fc, rfl, hx', k0, k1, k2, k3, k4, k5, hv⟩ := (hL.stay hw0).rtes.at_ hlt
  obtain rfl : x' = x := by rw [hr] at hx'; exact (Option.some.inj hx').symm
  have q4 := Nat.le_trans hL.rtes.le hL.rtes.cap
  have HQ := Lib.hid hv.points
  have HF := Lib.hid hv.flank
  have HLN := Lib.hid (And.intro hv.points.len hv.flank.len)
  have hqf : q + f ≤ 8796093022208 := by have := HLN.out; omega
  have HW := Lib.hid hw0
  have i1 : (0 : Int) ≤ (r : Int) := by omega
  have i2 : (r : Int) < (n4 : Int) := by omega
  clear hL hr hx hx' k0 k1 k2 k3 hv hw0
  go_enter Tryd.func34, Tryd.ntmps34
  go_wp2_with fail
  generalize (w.alloc (.cells #[.slice A1 n1 c1, .slice A2 n2 c2, .slice A3 n3 c3, .slice (some ⟨b, off, none⟩) n4 c4] 26)) = w0 at *
  generalize hgn : w.heap.size = gn at *
  have HGN := Lib.hid hgn
  clear hgn
  have KEEP := Lib.hid (fun (W : World) (hb : Below w0.heap.size w0 W) => (⟨cell_stay hb b3, cell_stay hb k4, cell_stay hb k5⟩ : W.cell? ⟨gn, 3, none⟩ = some (.slice (some ⟨b, off, none⟩) n4 c4) ∧ W.cell? ⟨b, off + r * 6 + 4, none⟩ = some (.slice Q q qc) ∧ W.cell? ⟨b, off + r * 6 + 5, none⟩ = some (.slice F f fc)))
  have HD := Lib.hid (below_drawn (Below.refl w0.heap.size w0) 1)
  have HA := Lib.hid (HD.out.alloc (Nat.le_refl _) (.cells #[] 78))
  go_region_held3 (fun W => W.cell? ⟨gn, 3, none⟩ = some (.slice (some ⟨b, off, none⟩) n4 c4) ∧ W.cell? ⟨b, off + r * 6 + 4, none⟩ = some (.slice Q q qc) ∧ W.cell? ⟨b, off + r * 6 + 5, none⟩ = some (.slice F f fc))
    (first | exact KEEP.out _ HD.out | exact KEEP.out _ HB2.out | exact KEEP.out _ HB1.out | exact KEEP.out _ HA.out)
    (first
      | (refine step_append_any _ (by rfl) (.tmp 5) (.tmp 11) _ (by rfl) w0.heap.size 78 i0 _ 2 16 Tryd.underlying60 hi0 hz0 hz1 hz2 rfl (by omega) (.slice (some ⟨w0.heap.size, 0, none⟩) 0 0) 0 [] (by rfl) (own_empty flN w0.drew w0.heap.size 78 (Nat.le_refl _)) w0.heap.size Q q qc (x'.points.flatMap flN.enc) (by rfl) ((HQ.out.rf.reads (by decide)).below HA.out) (flat_one flN _) (by simp only [maxLen]; omega) (by omega) (by simp) ?_; intro v1 w1 hown1 hg1 hat1; obtain ⟨A5, c5, rfl⟩ := row_form hown1; have HO1 := Lib.hid hown1; have HB1 := Lib.hid (HA.out.grown hg1 (by simp) (fun k hk => by simp [Value.ownBlock] at hk; omega)); clear hown1 hg1 hat1)
      | (refine step_append_any _ (by rfl) (.tmp 12) (.tmp 18) _ (by rfl) w0.heap.size 78 i0 _ 2 16 Tryd.underlying60 hi0 hz0 hz1 hz2 rfl (by omega) (.slice A5 (0 + q) c5) (0 + q) ([] ++ x'.points.flatMap flN.enc) (by rfl) HO1.out w0.heap.size F f fc (x'.flank.flatMap flN.enc) (by rfl) ((HF.out.rf.reads (by decide)).below HB1.out) (flat_one flN _) (by simp only [maxLen]; omega) (by omega) HB1.out.size ?_; intro v2 w2 hown2 hg2 hat2; have HO2 := Lib.hid (two_app HLN.out.1 HLN.out.2 hown2); have HB2 := Lib.hid (HB1.out.grown hg2 HB1.out.size (World.ownsRow.lt HO1.out · · |>.1)); obtain ⟨A6, c6, rfl⟩ := row_form hown2; clear hown2 hg2 hat2)
      | fail)
  obtain ⟨A7, c7, e7, hs⟩ := sl_ow HO2.out (by decide) (by rw [List.length_append]; have := HLN.out; omega)
  rw [Nat.zero_add] at e7
  have HE := Lib.hid e7
  have HS := Lib.hid hs
  have HBF := Lib.hid (below_more (by rw [HGN.out]; exact HW.out) HB2.out)
  clear hs e7
  go_wp2_with fail
  go_ret
  exact ⟨A7, _, c7, congrArg Ending.returned HE.out, HS.out, HBF.out⟩
end Go.Proofs.YtmdggodkkkihhaaDoor

/- Contracts: the references' Side, Clear, Entry, MayIn. -/
set_option linter.unusedVariables false
set_option linter.unusedSimpArgs false
namespace Go.Proofs.YtmdggodkkkihhaaDoor
open Go.RowKit

set_option maxRecDepth 20000 in
set_option maxHeartbeats 2000000 in
theorem RefSide_calls (W : World) (x : Need) : Calls Tryd.prog 36 #[.agg #[.int .i64 x.p, .bool x.r]] W fun e w' => e = .returned (.int .i64 (posM x)) ∧ Below W.heap.size W w' := by
  have hw0 := below_new W (.cells #[.int .i64 x.p, .bool x.r] 78)
  obtain ⟨p, r⟩ := x
  unfold posM
  cases r with
  | true =>
    go_enter Tryd.func36, Tryd.ntmps36
    go_wp2_with fail
    go_ret
    exact ⟨rfl, hw0⟩
  | false =>
    go_enter Tryd.func36, Tryd.ntmps36
    go_wp2_with fail
    go_ret
    exact ⟨rfl, hw0⟩
section
variable {L : Lay} {I : Inn} {A1 A2 A3 A4 C D : Option Addr} {n1 c1 n2 c2 n3 c3 n4 c4 n c m d : Nat}
set_option maxRecDepth 20000 in
set_option maxHeartbeats 4000000 in
theorem RefEntry_calls (w : World) (hL : LayV w L A1 A2 A3 A4 n1 c1 n2 c2 n3 c3 n4 c4) (hn : n4 ≤ 1000000) (s : Int) :
    Calls Tryd.prog 50 #[.agg #[.slice A1 n1 c1, .slice A2 n2 c2, .slice A3 n3 c3, .slice A4 n4 c4], .int .i64 s] w (IntsPost w (entryTo L.rtes s n4)) := by
  obtain ⟨i0, hi0, hz0, hz1, hz2⟩ := info_parts info_int
  have hw0 := below_new w (.cells #[.slice A1 n1 c1, .slice A2 n2 c2, .slice A3 n3 c3, .slice A4 n4 c4] 26)
  have hB := (Blk.new w #[.slice A1 n1 c1, .slice A2 n2 c2, .slice A3 n3 c3, .slice A4 n4 c4] 26 (0, 0)).cell 3
  simp only [List.getElem?_toArray, List.getElem?_cons_zero, List.getElem?_cons_succ] at hB
  have HR := Lib.hid (hL.stay hw0).rtes
  have q4 := Nat.le_trans hL.rtes.le hL.rtes.cap
  have hle := entryTo_le L.rtes s
  clear hL
  go_enter Tryd.func50, Tryd.ntmps50
  go_wp2_with fail
  generalize (w.alloc (.cells #[.slice A1 n1 c1, .slice A2 n2 c2, .slice A3 n3 c3, .slice A4 n4 c4] 26)) = w0 at *
  have HW0 := Lib.hid hw0
  generalize hgn : w.heap.size = gn at *
  have HGN := Lib.hid hgn
  clear hgn hw0
  go_loopw [5, 6] (fun v i wr => ∃ k : Nat, k ≤ n4 ∧ i = .int .i64 k ∧ Hid (Ow flI wr w0.heap.size 3 v (entryTo L.rtes s k) ∧ Below w0.heap.size w0 wr)) (fun _ i _ => n4 - (intOf i).toNat)
  case atStart => exact ⟨0, by omega, rfl, Lib.hid ⟨Ow.nil_ _ _ _ _, Below.refl _ _⟩⟩
  case round =>
    obtain ⟨k, hk, rfl, hr⟩ := hrel
    obtain ⟨hown, hbr⟩ := hr.out
    have hB := cell_stay hbr hB
    have hsz := hbr.size
    clear hr
    by_cases hlt : k < n4
    · obtain ⟨b, off, x, P, Q, F, p, pc, q, qc, f, fc, rfl, hx, k0, k1, _⟩ := HR.out.at_ hlt
      have k1 := cell_stay hbr k1
      have HX := Lib.hid hx
      have HO := Lib.hid hown
      have HB := Lib.hid hbr
      have hlk := hle k
      obtain ⟨Av, cv, rfl⟩ := row_form hown
      clear hx hown hle
      by_cases hq : x.frm = s
      · have HF := Lib.hid (entryTo_yes HX.out hq)
        have hq1 : (x.frm == s) = true := by simp [hq]
        have HQ := Lib.hid hq
        clear hq hbr
        go_wp2_with (at_builtin; refine wpList_append_any _ rfl (.tmp 22) (.tmp 24) _ rfl w0.heap.size 3 i0 _ 1 8 Tryd.underlying28 hi0 hz0 hz1 hz2 rfl (by omega) _ (entryTo L.rtes s k).length ((entryTo L.rtes s k).flatMap flI.enc) rfl (HO.out.alloc _) (wr.heap.size + 1) (some ⟨wr.heap.size, 0, none⟩) 1 1 (flI.enc (k : Int)) rfl (box_reads flI wr _ _ (k : Int) rfl) (flI.one _) (by simp only [maxLen]; omega) (by omega) (by simp; omega) ?_; intro v1 w1 hown1 hg1 hat1)
        go_roundw
        case rel => exact ⟨k + 1, by omega, by go_num, Lib.hid ⟨by rw [HF.out]; exact Ow.snoc hown1, (HB.out.alloc HB.out.size _).grown hg1 (by simp; omega) (HO.out.base_)⟩⟩
        case measure => simp [intOf]; omega
      · have HF := Lib.hid (entryTo_no HX.out hq)
        have hq1 : (x.frm == s) = false := by simp [hq]
        clear hq hbr
        go_wp2_with fail
        go_roundw
        case rel => exact ⟨k + 1, by omega, by go_num, Lib.hid ⟨by rw [HF.out]; exact HO.out, HB.out⟩⟩
        case measure => simp [intOf]; omega
    · obtain rfl : n4 = k := by omega
      have hl := hle n4
      obtain ⟨A, c', rfl, hs⟩ := sl_ow hown (by decide) (by omega)
      have HS := Lib.hid hs
      have HB := Lib.hid (below_more (by rw [HGN.out]; exact HW0.out) hbr)
      clear hlt hown hs hbr
      go_wp2_with fail
      go_ret
      exact ⟨_, _, _, rfl, HS.out, HB.out⟩
end
end Go.Proofs.YtmdggodkkkihhaaDoor

/- Contracts: the references' Clear, MayIn. -/
set_option linter.unusedVariables false
set_option linter.unusedSimpArgs false
namespace Go.Proofs.YtmdggodkkkihhaaDoor
open Go.RowKit

section
variable {L : Lay} {I : Inn} {A1 A2 A3 A4 C D : Option Addr} {n1 c1 n2 c2 n3 c3 n4 c4 n c m d : Nat}
/-- No section of a path is occupied. -/
def freeM (I : Inn) (path : List Int) : Bool := !(path.any fun a => I.occ.getD a.toNat false)
theorem free_stop {I : Inn} {path : List Int} {k : Nat} {a : Int} (h : path[k]? = some a) (ho : I.occ.getD a.toNat false = true) : freeM I path = false := by
  unfold freeM
  rw [List.any_eq_true.2 ⟨a, List.mem_of_getElem? h, ho⟩]
  rfl
theorem free_all {I : Inn} {path : List Int} (h : ∀ (k : Nat) (a : Int), path[k]? = some a → I.occ.getD a.toNat false = false) : freeM I path = true := by
  unfold freeM
  rw [List.any_eq_false.2 (fun a ha => by
    obtain ⟨k, hk⟩ := List.mem_iff_getElem?.1 ha
    rw [h k a hk]
    decide)]
  rfl
set_option maxRecDepth 20000 in
set_option maxHeartbeats 4000000 in
theorem RefClear_calls (w : World) (hL : LayV w L A1 A2 A3 A4 n1 c1 n2 c2 n3 c3 n4 c4) (hI : InV w I C D n c m d) (r : Nat) (x : Rte) (hr : L.rtes[r]? = some x) (hx : RteOk I x) :
    Calls Tryd.prog 37 #[.agg #[.slice A1 n1 c1, .slice A2 n2 c2, .slice A3 n3 c3, .slice A4 n4 c4], .int .i64 r, .agg #[.slice C n c, .slice D m d]] w fun e w' => e = .returned (.bool (freeM I x.path)) ∧ Below w.heap.size w w' := by
  have hlr : r < n4 := by
    have := hL.rtes.len
    have := (List.getElem?_eq_some_iff.1 hr).1
    omega
  have hbw : Below w.heap.size w ((w.alloc (.cells #[.slice A1 n1 c1, .slice A2 n2 c2, .slice A3 n3 c3, .slice A4 n4 c4] 26)).alloc (.cells #[.slice C n c, .slice D m d] 30)) := (below_new w _).alloc (by simp) _
  have hB1 := ((Blk.new w #[.slice A1 n1 c1, .slice A2 n2 c2, .slice A3 n3 c3, .slice A4 n4 c4] 26 (0, 0)).alloc (.cells #[.slice C n c, .slice D m d] 30)).cell 3
  have hB2 := (Blk.at_ (w := w.alloc (.cells #[.slice A1 n1 c1, .slice A2 n2 c2, .slice A3 n3 c3, .slice A4 n4 c4] 26)) (g := w.heap.size + 1) (by simp) #[.slice C n c, .slice D m d] 30 (0, 0)).cell 0
  simp only [List.getElem?_toArray, List.getElem?_cons_zero, List.getElem?_cons_succ] at hB1 hB2
  obtain ⟨b, off, x', P, Q, F, p, pc, q, qc, f, fc, rfl, hx', e0, e1, e2, e3, e4, e5, hv⟩ := (hL.stay hbw).rtes.at_ hlr
  obtain rfl : x' = x := by rw [hr] at hx'; exact (Option.some.inj hx').symm
  have q4 := Nat.le_trans hL.rtes.le hL.rtes.cap
  have qn := Nat.le_trans hI.occ.le hI.occ.cap
  have qp := Nat.le_trans hv.path.le hv.path.cap
  have HLEN := Lib.hid (And.intro hv.path.len hI.occ.len)
  have HP := Lib.hid hv.path
  have HI := Lib.hid (hI.stay hbw)
  have HX := Lib.hid hx.path
  have HBW := Lib.hid hbw
  clear hL hI hx hv hx' hr e0 e1 e2 e4 e5 hbw
  go_enter Tryd.func37, Tryd.ntmps37
  go_wp2_with fail
  generalize ((w.alloc (.cells #[.slice A1 n1 c1, .slice A2 n2 c2, .slice A3 n3 c3, .slice (some ⟨b, off, none⟩) n4 c4] 26)).alloc (.cells #[.slice C n c, .slice D m d] 30)) = w0 at *
  generalize hgn : w.heap.size = gn at *
  have HGN := Lib.hid hgn
  clear hgn
  go_loopw [7] (fun i wr => ∃ k : Nat, k ≤ p ∧ i = .int .i64 k ∧ Hid (Below w0.heap.size w0 wr ∧ ∀ (j : Nat) (a : Int), j < k → x'.path[j]? = some a → I.occ.getD a.toNat false = false)) (fun i _ => p - (intOf i).toNat)
  case atStart => exact ⟨0, by omega, rfl, Lib.hid ⟨Below.refl _ _, fun j a h => absurd h (by omega)⟩⟩
  case round =>
    obtain ⟨k, hk, rfl, hr⟩ := hrel
    have HB := Lib.hid hr.out.1
    have HR := Lib.hid hr.out.2
    have hB1 := cell_stay HB.out hB1
    have hB2 := cell_stay HB.out hB2
    have e3 := cell_stay HB.out e3
    have HBG := Lib.hid (below_more (by rw [HGN.out]; exact HBW.out) HB.out)
    clear hr
    by_cases hlt : k < p
    · obtain ⟨b1, off1, v, rfl, hv, hc⟩ := HP.out.int hlt
      have hvb := HX.out v (List.mem_of_getElem? hv)
      obtain ⟨u, rfl⟩ : ∃ u : Nat, v = u := ⟨v.toNat, by omega⟩
      have hu : u < n := by have := HLEN.out; omega
      obtain ⟨b2, off2, y, rfl, hy, hd⟩ := HI.out.occ.tru hu
      have HY : Hid (I.occ.getD ((u : Int).toNat) false = y) := Lib.hid (by rw [Int.toNat_natCast]; exact getD_of hy)
      have HV := Lib.hid hv
      have L1 := later_cell hB1
      have L2 := later_cell hB2
      have L3 := later_cell e3
      have L4 := later_cell (cell_stay HB.out hc)
      have L5 := later_cell (cell_stay HB.out hd)
      clear hv hy hvb hc hd
      cases y with
      | true =>
        have HE := Lib.hid (free_stop HV.out HY.out)
        go_wp2_with fail
        refine wp_region_later (by kernel_rfl) (by kernel_rfl) ?_
        repeat (go_big_quiet_step (fail))
        refine wpQuiet_nil ?_
        intro q0
        go_wp2_with fail
        go_ret
        exact ⟨ret_bool (by rw [HE.out]), below_more HBG.out q0.hb⟩
      | false =>
        have HN : Hid (∀ (j : Nat) (a : Int), j < k + 1 → x'.path[j]? = some a → I.occ.getD a.toNat false = false) := Lib.hid (fun j a hj ha => by
          rcases Nat.lt_or_ge j k with h | h
          · exact HR.out j a h ha
          · obtain rfl : j = k := by omega
            rw [HV.out] at ha
            cases ha
            exact HY.out)
        go_wp2_with fail
        refine wp_region_later (by kernel_rfl) (by kernel_rfl) ?_
        repeat (go_big_quiet_step (fail))
        refine wpQuiet_nil ?_
        intro q0
        go_wp2_with fail
        go_roundw
        case rel => exact ⟨k + 1, by omega, by go_num, Lib.hid ⟨below_more HB.out q0.hb, HN.out⟩⟩
        case measure => simp [intOf]; omega
    · obtain rfl : k = p := by omega
      have HE := Lib.hid (free_all (I := I) (path := x'.path) (fun j a ha => HR.out j a (by have := (List.getElem?_eq_some_iff.1 ha).1; have := HLEN.out; omega) ha))
      clear hlt
      go_wp2_with fail
      go_ret
      exact ⟨ret_bool (by rw [HE.out]), HBG.out⟩
/-- The words of what the field tells. -/
def mayInM (L : Lay) (I : Inn) : Bool := !(I.lies.any fun a => decide (a < 0) || decide (2 < a)) && decide (I.occ.length = L.secs.length) && decide (I.lies.length = L.pts.length)
theorem may_stop {L : Lay} {I : Inn} {k : Nat} {a : Int} (h : I.lies[k]? = some a) (ho : (decide (a < 0) || decide (2 < a)) = true) : mayInM L I = false := by
  unfold mayInM
  rw [List.any_eq_true.2 ⟨a, List.mem_of_getElem? h, ho⟩]
  rfl
theorem may_all {L : Lay} {I : Inn} (h : ∀ (k : Nat) (a : Int), I.lies[k]? = some a → (decide (a < 0) || decide (2 < a)) = false) : mayInM L I = (decide (I.occ.length = L.secs.length) && decide (I.lies.length = L.pts.length)) := by
  unfold mayInM
  rw [List.any_eq_false.2 (fun a ha => by
    obtain ⟨k, hk⟩ := List.mem_iff_getElem?.1 ha
    rw [h k a hk]
    decide)]
  rfl
set_option maxRecDepth 20000 in
set_option maxHeartbeats 4000000 in
theorem RefMayIn_calls (w : World) (hL : LayV w L A1 A2 A3 A4 n1 c1 n2 c2 n3 c3 n4 c4) (hI : InV w I C D n c m d) :
    Calls Tryd.prog 10 #[.agg #[.slice A1 n1 c1, .slice A2 n2 c2, .slice A3 n3 c3, .slice A4 n4 c4], .agg #[.slice C n c, .slice D m d]] w fun e w' => e = .returned (.bool (mayInM L I)) ∧ Below w.heap.size w w' := by
  have hbw : Below w.heap.size w ((w.alloc (.cells #[.slice A1 n1 c1, .slice A2 n2 c2, .slice A3 n3 c3, .slice A4 n4 c4] 26)).alloc (.cells #[.slice C n c, .slice D m d] 30)) := (below_new w _).alloc (by simp) _
  have hB1 := (Blk.new w #[.slice A1 n1 c1, .slice A2 n2 c2, .slice A3 n3 c3, .slice A4 n4 c4] 26 (0, 0)).alloc (.cells #[.slice C n c, .slice D m d] 30)
  have hB2 := Blk.at_ (w := w.alloc (.cells #[.slice A1 n1 c1, .slice A2 n2 c2, .slice A3 n3 c3, .slice A4 n4 c4] 26)) (g := w.heap.size + 1) (by simp) #[.slice C n c, .slice D m d] 30 (0, 0)
  have b0 := hB1.cell 0
  have b1 := hB1.cell 1
  have i0 := hB2.cell 0
  have i1 := hB2.cell 1
  simp only [List.getElem?_toArray, List.getElem?_cons_zero, List.getElem?_cons_succ] at b0 b1 i0 i1
  have q1 := Nat.le_trans hL.secs.le hL.secs.cap
  have q2 := Nat.le_trans hL.pts.le hL.pts.cap
  have qn := Nat.le_trans hI.occ.le hI.occ.cap
  have qm := Nat.le_trans hI.lies.le hI.lies.cap
  have HLEN := Lib.hid (And.intro hL.secs.len (And.intro hL.pts.len (And.intro hI.occ.len hI.lies.len)))
  have HI := Lib.hid (hI.stay hbw)
  have HBW := Lib.hid hbw
  clear hL hI hB1 hB2 hbw
  go_enter Tryd.func10, Tryd.ntmps10
  go_wp2_with fail
  generalize ((w.alloc (.cells #[.slice A1 n1 c1, .slice A2 n2 c2, .slice A3 n3 c3, .slice A4 n4 c4] 26)).alloc (.cells #[.slice C n c, .slice D m d] 30)) = w0 at *
  generalize hgn : w.heap.size = gn at *
  have HGN := Lib.hid hgn
  clear hgn
  go_loop [5] (fun i => ∃ k : Nat, k ≤ m ∧ i = .int .i64 k ∧ Hid (∀ (j : Nat) (a : Int), j < k → I.lies[j]? = some a → (decide (a < 0) || decide (2 < a)) = false)) (fun i => m - (intOf i).toNat)
  case atStart => exact ⟨0, by omega, rfl, Lib.hid (fun j a h => absurd h (by omega))⟩
  case round =>
    obtain ⟨k, hk, rfl, hr⟩ := hrel
    by_cases hlt : k < m
    · obtain ⟨b, off, v, rfl, hv, hc⟩ := HI.out.lies.int hlt
      have HV := Lib.hid hv
      clear hv
      by_cases v1 : v < 0
      · have HE := Lib.hid (may_stop (L := L) HV.out (by rw [decide_eq_true v1]; rfl))
        go_wp2_with fail
        go_ret
        exact ⟨ret_bool (by rw [HE.out]), by rw [HGN.out]; exact HBW.out⟩
      by_cases v2 : 2 < v
      · have HE := Lib.hid (may_stop (L := L) HV.out (by rw [decide_eq_true v2]; simp))
        go_wp2_with fail
        go_ret
        exact ⟨ret_bool (by rw [HE.out]), by rw [HGN.out]; exact HBW.out⟩
      · have HN : Hid (∀ (j : Nat) (a : Int), j < k + 1 → I.lies[j]? = some a → (decide (a < 0) || decide (2 < a)) = false) := Lib.hid (fun j a hj ha => by
          rcases Nat.lt_or_ge j k with h | h
          · exact hr.out j a h ha
          · obtain rfl : j = k := by omega
            rw [HV.out] at ha
            cases ha
            rw [decide_eq_false v1, decide_eq_false v2]; rfl)
        go_wp2_with fail
        go_round
        case rel => exact ⟨k + 1, by omega, by go_num, HN⟩
        case measure => simp [intOf]; omega
    · obtain rfl : k = m := by omega
      have HE := Lib.hid (may_all (L := L) (I := I) (fun j a ha => hr.out j a (by have := (List.getElem?_eq_some_iff.1 ha).1; have := HLEN.out; omega) ha))
      have HE2 : Hid (mayInM L I = (decide (n = n1) && decide (k = n2))) := Lib.hid (by rw [HE.out, HLEN.out.1, HLEN.out.2.1, HLEN.out.2.2.1, HLEN.out.2.2.2])
      clear hlt hr HE
      by_cases e1 : n = n1
      · rw [decide_eq_true e1] at HE2
        subst e1
        by_cases e2 : k = n2
        · rw [decide_eq_true e2] at HE2
          subst e2
          go_wp2_with fail
          go_ret
          exact ⟨ret_bool (by rw [HE2.out]; first | rfl | simp), by rw [HGN.out]; exact HBW.out⟩
        · rw [decide_eq_false e2] at HE2
          have e3 : ¬ ((k : Int) = (n2 : Int)) := by omega
          have e4 : (k == n2) = false := by simp [e2]
          clear e2
          go_wp2_with fail
          go_ret
          exact ⟨ret_bool (by rw [HE2.out]; first | rfl | (simp only [Bool.true_and, Bool.false_and]; first | rfl | exact (decide_eq_false (by omega)).symm | simpa using e4 | (simp; omega))), by rw [HGN.out]; exact HBW.out⟩
      · rw [decide_eq_false e1] at HE2
        have e3 : ¬ ((n : Int) = (n1 : Int)) := by omega
        have e4 : (n == n1) = false := by simp [e1]
        clear e1
        go_wp2_with fail
        go_ret
        exact ⟨ret_bool (by rw [HE2.out]; first | rfl | (simp only [Bool.true_and, Bool.false_and]; first | rfl | exact (decide_eq_false (by omega)).symm | simpa using e4 | (simp; omega))), by rw [HGN.out]; exact HBW.out⟩
end
end Go.Proofs.YtmdggodkkkihhaaDoor

/- Contract: the reference's Right. -/
set_option linter.unusedVariables false
set_option linter.unusedSimpArgs false
namespace Go.Proofs.YtmdggodkkkihhaaDoor
open Go.RowKit

section
variable {L : Lay} {I : Inn} {A1 A2 A3 A4 C D : Option Addr} {n1 c1 n2 c2 n3 c3 n4 c4 n c m d : Nat}
/-- All lies right. -/
def rightM (I : Inn) (ns : List Need) : Bool := !(ns.any fun a => decide (I.lies.getD a.p.toNat 0 ≠ posM a))
theorem right_stop {I : Inn} {ns : List Need} {k : Nat} {a : Need} (h : ns[k]? = some a) (ho : I.lies.getD a.p.toNat 0 ≠ posM a) : rightM I ns = false := by
  unfold rightM
  rw [List.any_eq_true.2 ⟨a, List.mem_of_getElem? h, decide_eq_true ho⟩]
  rfl
theorem right_all {I : Inn} {ns : List Need} (h : ∀ (k : Nat) (a : Need), ns[k]? = some a → I.lies.getD a.p.toNat 0 = posM a) : rightM I ns = true := by
  unfold rightM
  rw [List.any_eq_false.2 (fun a ha => by
    obtain ⟨k, hk⟩ := List.mem_iff_getElem?.1 ha
    rw [h k a hk]
    simp)]
  rfl
theorem clear_parts (I : Inn) (x : Rte) : clearM I x = (freeM I x.path && rightM I (x.points ++ x.flank)) := rfl
set_option maxRecDepth 20000 in
set_option maxHeartbeats 4000000 in
theorem RefRight_calls (w : World) (hL : LayV w L A1 A2 A3 A4 n1 c1 n2 c2 n3 c3 n4 c4) (hI : InV w I C D n c m d) (r : Nat) (x : Rte) (hr : L.rtes[r]? = some x) (hx : RteOk I x) :
    Calls Tryd.prog 38 #[.agg #[.slice A1 n1 c1, .slice A2 n2 c2, .slice A3 n3 c3, .slice A4 n4 c4], .int .i64 r, .agg #[.slice C n c, .slice D m d]] w fun e w' => e = .returned (.bool (rightM I (x.points ++ x.flank))) ∧ Below w.heap.size w w' := by
  have hbw : Below w.heap.size w ((w.alloc (.cells #[.slice A1 n1 c1, .slice A2 n2 c2, .slice A3 n3 c3, .slice A4 n4 c4] 26)).alloc (.cells #[.slice C n c, .slice D m d] 30)) := (below_new w _).alloc (by simp) _
  have hB1 := (Blk.new w #[.slice A1 n1 c1, .slice A2 n2 c2, .slice A3 n3 c3, .slice A4 n4 c4] 26 (0, 0)).alloc (.cells #[.slice C n c, .slice D m d] 30)
  have hB2 := (Blk.at_ (w := w.alloc (.cells #[.slice A1 n1 c1, .slice A2 n2 c2, .slice A3 n3 c3, .slice A4 n4 c4] 26)) (g := w.heap.size + 1) (by simp) #[.slice C n c, .slice D m d] 30 (0, 0)).cell 1
  have b0 := hB1.cell 0
  have b1 := hB1.cell 1
  have b2 := hB1.cell 2
  have b3 := hB1.cell 3
  simp only [List.getElem?_toArray, List.getElem?_cons_zero, List.getElem?_cons_succ] at b0 b1 b2 b3 hB2
  have qm := Nat.le_trans hI.lies.le hI.lies.cap
  have HLEN := Lib.hid hI.lies.len
  have HI := Lib.hid (hI.stay hbw)
  have KN := Lib.hid (RNeeds_calls _ L _ _ _ _ _ _ _ _ _ _ _ _ (hL.stay hbw) r x hr hx.few)
  have HX := Lib.hid hx.need
  have HBW := Lib.hid hbw
  clear hL hI hx hr hbw hB1
  generalize x.points ++ x.flank = ns at *
  go_enter Tryd.func38, Tryd.ntmps38
  go_wp2_with fail
  refine KN.out.mono ?_
  rintro e w2 ⟨B, q, qc, rfl, hq, hb2⟩
  have hB2 := cell_stay hb2 hB2
  have HI := Lib.hid (HI.out.stay hb2)
  have HBW := Lib.hid (below_more HBW.out hb2)
  have HQ := Lib.hid hq
  have HQL := Lib.hid hq.len
  have qq := Nat.le_trans hq.le hq.cap
  clear KN b0 b1 b2 b3 hb2 hq
  go_wp2_with fail
  generalize hgn : w.heap.size = gn at *
  have HGN := Lib.hid hgn
  clear hgn
  go_loopw [8] (fun i wr => ∃ k : Nat, k ≤ q ∧ i = .int .i64 k ∧ Hid (Below w2.heap.size w2 wr ∧ ∀ (j : Nat) (a : Need), j < k → ns[j]? = some a → I.lies.getD a.p.toNat 0 = posM a)) (fun i _ => q - (intOf i).toNat)
  case atStart => exact ⟨0, by omega, rfl, Lib.hid ⟨Below.refl _ _, fun j a h => absurd h (by omega)⟩⟩
  case round =>
    obtain ⟨k, hk, rfl, hr⟩ := hrel
    have HB := Lib.hid hr.out.1
    have HR := Lib.hid hr.out.2
    have hB2 := cell_stay HB.out hB2
    have HBG := Lib.hid (below_more (by rw [HGN.out]; exact HBW.out) HB.out)
    clear hr
    by_cases hlt : k < q
    · obtain ⟨b, off, y, rfl, hy, d0, d1⟩ := HQ.out.need hlt
      have hyb := HX.out y (List.mem_of_getElem? hy)
      have HY := Lib.hid hy
      have KS := Lib.hid (fun W : Later wr => RefSide_calls W.w1 y)
      obtain ⟨yp, yr⟩ := y
      simp only at hyb d0 d1 KS
      obtain ⟨u, rfl⟩ : ∃ u : Nat, yp = u := ⟨yp.toNat, by omega⟩
      have hu : u < m := by have := HLEN.out; omega
      obtain ⟨b2, off2, z, rfl, hz, hd⟩ := HI.out.lies.int hu
      have HZ : Hid (I.lies.getD ((u : Int).toNat) 0 = z) := Lib.hid (by rw [Int.toNat_natCast]; exact getD_of hz)
      have L2 := later_cell hB2
      have L3 := later_cell (cell_stay HB.out d0)
      have L4 := later_cell (cell_stay HB.out d1)
      have L5 := later_cell (cell_stay HB.out hd)
      clear hy hyb hz hd d0 d1
      by_cases he : z = posM ⟨(u : Int), yr⟩
      · have HN : Hid (∀ (j : Nat) (a : Need), j < k + 1 → ns[j]? = some a → I.lies.getD a.p.toNat 0 = posM a) := Lib.hid (fun j a hj ha => by
          rcases Nat.lt_or_ge j k with h | h
          · exact HR.out j a h ha
          · obtain rfl : j = k := by omega
            rw [HY.out] at ha
            cases ha
            exact HZ.out.trans he)
        have e1 : (z != posM ⟨(u : Int), yr⟩) = false := by simp [he]
        have e2 : (z == posM ⟨(u : Int), yr⟩) = true := by simp [he]
        clear he
        generalize posM ⟨(u : Int), yr⟩ = v at *
        go_wp2_with fail
        refine wp_region_later (by kernel_rfl) (by kernel_rfl) ?_
        repeat (go_big_quiet_step (first
          | (go_at_call 36; rename_i q; exact later_call q (KS.out q))
          | fail))
        refine wpQuiet_nil ?_
        intro q0
        go_wp2_with fail
        go_roundw
        case rel => exact ⟨k + 1, by omega, by go_num, Lib.hid ⟨below_more HB.out q0.hb, HN.out⟩⟩
        case measure => simp [intOf]; omega
      · have HE := Lib.hid (right_stop HY.out (by show I.lies.getD ((u : Int).toNat) 0 ≠ _; rw [HZ.out]; exact he))
        have e1 : (z != posM ⟨(u : Int), yr⟩) = true := by simp [he]
        have e2 : (z == posM ⟨(u : Int), yr⟩) = false := by simp [he]
        clear he
        generalize posM ⟨(u : Int), yr⟩ = v at *
        go_wp2_with fail
        refine wp_region_later (by kernel_rfl) (by kernel_rfl) ?_
        repeat (go_big_quiet_step (first
          | (go_at_call 36; rename_i q; exact later_call q (KS.out q))
          | fail))
        refine wpQuiet_nil ?_
        intro q0
        go_wp2_with fail
        go_ret
        exact ⟨ret_bool (by rw [HE.out]), below_more HBG.out q0.hb⟩
    · obtain rfl : k = q := by omega
      have HE := Lib.hid (right_all (I := I) (ns := ns) (fun j a ha => HR.out j a (by have := (List.getElem?_eq_some_iff.1 ha).1; have := HQL.out; omega) ha))
      clear hlt
      go_wp2_with fail
      go_ret
      exact ⟨ret_bool (by rw [HE.out]), HBG.out⟩
end
end Go.Proofs.YtmdggodkkkihhaaDoor

/- Contract: the reference's whole. -/
set_option linter.unusedVariables false
set_option linter.unusedSimpArgs false
namespace Go.Proofs.YtmdggodkkkihhaaDoor
open Go.RowKit

section
variable {L : Lay} {I : Inn} {O : Ou} {A1 A2 A3 A4 C D E F : Option Addr} {n1 c1 n2 c2 n3 c3 n4 c4 n c m d p pc q qc : Nat}
def wholeM (L : Lay) (I : Inn) (O : Ou) : Bool := mayInM L I && decide (O.drive.length = L.pts.length) && decide (O.proceed.length = L.sigs.length)
set_option maxRecDepth 20000 in
set_option maxHeartbeats 4000000 in
theorem Whole_calls (w : World) (hL : LayV w L A1 A2 A3 A4 n1 c1 n2 c2 n3 c3 n4 c4) (hI : InV w I C D n c m d) (hO : OuV w O E F p pc q qc) :
    Calls Tryd.prog 25 #[.agg #[.slice A1 n1 c1, .slice A2 n2 c2, .slice A3 n3 c3, .slice A4 n4 c4], .agg #[.slice C n c, .slice D m d], .agg #[.slice E p pc, .slice F q qc]] w fun e w' => e = .returned (.bool (wholeM L I O)) ∧ Below w.heap.size w w' := by
  have hbw : Below w.heap.size w (((w.alloc (.cells #[.slice A1 n1 c1, .slice A2 n2 c2, .slice A3 n3 c3, .slice A4 n4 c4] 26)).alloc (.cells #[.slice C n c, .slice D m d] 30)).alloc (.cells #[.slice E p pc, .slice F q qc] 32)) := ((below_new w _).alloc (by simp) _).alloc (by simp; omega) _
  have KM := Lib.hid (RefMayIn_calls _ (hL.stay hbw) (hI.stay hbw))
  have HM : Hid (wholeM L I O = (mayInM L I && decide (p = n2) && decide (q = n3))) := Lib.hid (by unfold wholeM; rw [hO.drive.len, hO.proceed.len, hL.pts.len, hL.sigs.len])
  have q2 := Nat.le_trans hL.pts.le hL.pts.cap
  have q3 := Nat.le_trans hL.sigs.le hL.sigs.cap
  have qp := Nat.le_trans hO.drive.le hO.drive.cap
  have qq := Nat.le_trans hO.proceed.le hO.proceed.cap
  have hB1 := ((Blk.new w #[.slice A1 n1 c1, .slice A2 n2 c2, .slice A3 n3 c3, .slice A4 n4 c4] 26 (0, 0)).alloc (.cells #[.slice C n c, .slice D m d] 30)).alloc (.cells #[.slice E p pc, .slice F q qc] 32)
  have hB3 := Blk.at_ (w := (w.alloc (.cells #[.slice A1 n1 c1, .slice A2 n2 c2, .slice A3 n3 c3, .slice A4 n4 c4] 26)).alloc (.cells #[.slice C n c, .slice D m d] 30)) (g := w.heap.size + 1 + 1) (by simp) #[.slice E p pc, .slice F q qc] 32 (0, 0)
  have b1 := hB1.cell 1
  have b2 := hB1.cell 2
  have o0 := hB3.cell 0
  have o1 := hB3.cell 1
  simp only [List.getElem?_toArray, List.getElem?_cons_zero, List.getElem?_cons_succ] at b1 b2 o0 o1
  have HBW := Lib.hid hbw
  have KEEP := Lib.hid (fun (W : World) (h : Below _ _ W) => And.intro (cell_stay h b1) (And.intro (cell_stay h b2) (And.intro (cell_stay h o0) (cell_stay h o1))))
  clear hL hI hO hB1 hB3 hbw b1 b2 o0 o1
  generalize mayInM L I = z at *
  cases z with
  | false =>
    go_enter Tryd.func25, Tryd.ntmps25
    go_wp2_with (first
      | (go_at_call 10; refine KM.out.mono ?_; rintro e w2 ⟨rfl, hb2⟩)
      | fail)
    go_ret
    exact ⟨ret_bool (by rw [HM.out]; try rfl), below_more HBW.out hb2⟩
  | true =>
    by_cases e1 : p = n2
    · subst e1
      by_cases e2 : q = n3
      · subst e2
        have HE : Hid (wholeM L I O = true) := Lib.hid (by rw [HM.out]; simp)
        go_enter Tryd.func25, Tryd.ntmps25
        go_wp2_with (first
          | (go_at_call 10; refine KM.out.mono ?_; rintro e w2 ⟨rfl, hb2⟩; obtain ⟨b1, b2, o0, o1⟩ := KEEP.out _ hb2)
          | fail)
        go_ret
        exact ⟨ret_bool (by rw [HE.out]; try (first | rfl | simp)), below_more HBW.out hb2⟩
      · have HE : Hid (wholeM L I O = false) := Lib.hid (by rw [HM.out, decide_eq_false e2]; simp)
        have e3 : ¬ ((q : Int) = (n3 : Int)) := by omega
        have e4 : (q == n3) = false := by simp [e2]
        clear e2
        go_enter Tryd.func25, Tryd.ntmps25
        go_wp2_with (first
          | (go_at_call 10; refine KM.out.mono ?_; rintro e w2 ⟨rfl, hb2⟩; obtain ⟨b1, b2, o0, o1⟩ := KEEP.out _ hb2)
          | fail)
        go_ret
        exact ⟨ret_bool (by rw [HE.out]; try (first | rfl | simpa using e4 | (simp; omega))), below_more HBW.out hb2⟩
    · have HE : Hid (wholeM L I O = false) := Lib.hid (by rw [HM.out, decide_eq_false e1]; simp)
      have e3 : ¬ ((p : Int) = (n2 : Int)) := by omega
      have e4 : (p == n2) = false := by simp [e1]
      clear e1
      go_enter Tryd.func25, Tryd.ntmps25
      go_wp2_with (first
        | (go_at_call 10; refine KM.out.mono ?_; rintro e w2 ⟨rfl, hb2⟩; obtain ⟨b1, b2, o0, o1⟩ := KEEP.out _ hb2)
        | fail)
      go_ret
      exact ⟨ret_bool (by rw [HE.out]; try (first | rfl | simpa using e4 | (simp; omega))), below_more HBW.out hb2⟩
end
end Go.Proofs.YtmdggodkkkihhaaDoor

/- Contract: the reference's Conflict: the same answer as the program's. -/
set_option linter.unusedVariables false
set_option linter.unusedSimpArgs false
namespace Go.Proofs.YtmdggodkkkihhaaDoor
open Go.RowKit

set_option maxRecDepth 20000 in
set_option maxHeartbeats 4000000 in
theorem RefConflict_calls (w : World) (L : Lay) (A1 A2 A3 A4 : Option Addr) (n1 c1 n2 c2 n3 c3 n4 c4 : Nat) (hL : LayV w L A1 A2 A3 A4 n1 c1 n2 c2 n3 c3 n4 c4) (r s : Nat) (x y : Rte) (hr : L.rtes[r]? = some x) (hs : L.rtes[s]? = some y)
    (hx : x.points.length + x.flank.length ≤ 8796093022208) (hy : y.points.length + y.flank.length ≤ 8796093022208) :
    Calls Tryd.prog 43 #[.agg #[.slice A1 n1 c1, .slice A2 n2 c2, .slice A3 n3 c3, .slice A4 n4 c4], .int .i64 r, .int .i64 s] w fun e w' => e = .returned (.bool (conflictM r s x y)) ∧ Below w.heap.size w w' := by
  have hlr : r < n4 := by
    have := hL.rtes.len
    have := (List.getElem?_eq_some_iff.1 hr).1
    omega
  have hls : s < n4 := by
    have := hL.rtes.len
    have := (List.getElem?_eq_some_iff.1 hs).1
    omega
  have hcap := Nat.le_trans hL.rtes.le hL.rtes.cap
  obtain ⟨b, off, x', P, Q, F, p, pc, q, qc, f, fc, rfl, hx', k0, k1, k2, k3, k4, k5, hv⟩ := hL.rtes.at_ hlr
  obtain rfl : x = x' := by rw [hr] at hx'; exact Option.some.inj hx'
  obtain ⟨b2, off2, y', P2, Q2, F2, p2, pc2, q2, qc2, f2, fc2, e2, hy', m0, m1, m2, m3, m4, m5, hu⟩ := hL.rtes.at_ hls
  obtain rfl : y = y' := by rw [hs] at hy'; exact Option.some.inj hy'
  obtain ⟨rfl, rfl⟩ : b = b2 ∧ off = off2 := by simpa using e2
  have hw0 : Below w.heap.size w (w.alloc (.cells #[.slice A1 n1 c1, .slice A2 n2 c2, .slice A3 n3 c3, .slice (some ⟨b, off, none⟩) n4 c4] 26)) := below_new w _
  have hB := Blk.new w #[.slice A1 n1 c1, .slice A2 n2 c2, .slice A3 n3 c3, .slice (some ⟨b, off, none⟩) n4 c4] 26 (0, 0)
  have l0 := hB.cell 0
  have l1 := hB.cell 1
  have l2 := hB.cell 2
  have l3 := hB.cell 3
  simp only [List.getElem?_toArray, List.getElem?_cons_zero, List.getElem?_cons_succ] at l0 l1 l2 l3
  have k0 := cell_stay hw0 k0
  have k1 := cell_stay hw0 k1
  have k2 := cell_stay hw0 k2
  have k3 := cell_stay hw0 k3
  have k4 := cell_stay hw0 k4
  have k5 := cell_stay hw0 k5
  have m0 := cell_stay hw0 m0
  have m1 := cell_stay hw0 m1
  have m2 := cell_stay hw0 m2
  have m3 := cell_stay hw0 m3
  have m4 := cell_stay hw0 m4
  have m5 := cell_stay hw0 m5
  have HL := Lib.hid (hL.stay hw0)
  have HV := Lib.hid (hv.stay hw0)
  have HU := Lib.hid (hu.stay hw0)
  have HR := Lib.hid hr
  have HS := Lib.hid hs
  clear hL hr hs hx' hy' e2 hv hu
  go_enter Tryd.func43, Tryd.ntmps43
  go_upto_region 1 with fail
  have HG := Lib.hid (show w.heap.size = w.heap.size from rfl)
  have hsz : (w.alloc (.cells #[.slice A1 n1 c1, .slice A2 n2 c2, .slice A3 n3 c3, .slice (some ⟨b, off, none⟩) n4 c4] 26)).heap.size = w.heap.size + 1 := by simp
  generalize hW0 : (w.alloc (.cells #[.slice A1 n1 c1, .slice A2 n2 c2, .slice A3 n3 c3, .slice (some ⟨b, off, none⟩) n4 c4] 26)) = W0 at *
  clear hW0
  have HB0 := Lib.hid hw0
  generalize hgn : w.heap.size = gn at *
  clear hw0 hB
  go_cut [7, 8] (fun s7 s8 wx => ∃ g7 g8 : Nat, s7 = .pointer (some ⟨g7, 0, none⟩) ∧ s8 = .pointer (some ⟨g8, 0, none⟩) ∧ Below W0.heap.size W0 wx ∧
    Blk wx g7 #[.string x.name, .int .i64 x.frm, .int .i64 x.dest, .slice P p pc, .slice Q q qc, .slice F f fc] 62 (0, 0) ∧ Blk wx g8 #[.string y.name, .int .i64 y.frm, .int .i64 y.dest, .slice P2 p2 pc2, .slice Q2 q2 qc2, .slice F2 f2 fc2] 62 (0, 0))
  case first =>
    have KEEP := Lib.hid (fun (w' : World) (hb : Below W0.heap.size W0 w') => (⟨cell_stay hb l3, cell_stay hb k0, cell_stay hb k1, cell_stay hb k2, cell_stay hb k3, cell_stay hb k4, cell_stay hb k5, cell_stay hb m0, cell_stay hb m1, cell_stay hb m2, cell_stay hb m3, cell_stay hb m4, cell_stay hb m5⟩ : 
      w'.cell? ⟨gn, 3, none⟩ = some (.slice (some ⟨b, off, none⟩) n4 c4) ∧
      w'.cell? ⟨b, off + r * 6, none⟩ = some (.string x.name) ∧ w'.cell? ⟨b, off + r * 6 + 1, none⟩ = some (.int .i64 x.frm) ∧ w'.cell? ⟨b, off + r * 6 + 2, none⟩ = some (.int .i64 x.dest) ∧ w'.cell? ⟨b, off + r * 6 + 3, none⟩ = some (.slice P p pc) ∧ w'.cell? ⟨b, off + r * 6 + 4, none⟩ = some (.slice Q q qc) ∧ w'.cell? ⟨b, off + r * 6 + 5, none⟩ = some (.slice F f fc) ∧
      w'.cell? ⟨b, off + s * 6, none⟩ = some (.string y.name) ∧ w'.cell? ⟨b, off + s * 6 + 1, none⟩ = some (.int .i64 y.frm) ∧ w'.cell? ⟨b, off + s * 6 + 2, none⟩ = some (.int .i64 y.dest) ∧ w'.cell? ⟨b, off + s * 6 + 3, none⟩ = some (.slice P2 p2 pc2) ∧ w'.cell? ⟨b, off + s * 6 + 4, none⟩ = some (.slice Q2 q2 qc2) ∧ w'.cell? ⟨b, off + s * 6 + 5, none⟩ = some (.slice F2 f2 fc2)))
    clear l0 l1 l2
    go_region_held3 (fun w' => w'.cell? ⟨gn, 3, none⟩ = some (.slice (some ⟨b, off, none⟩) n4 c4) ∧
      w'.cell? ⟨b, off + r * 6, none⟩ = some (.string x.name) ∧ w'.cell? ⟨b, off + r * 6 + 1, none⟩ = some (.int .i64 x.frm) ∧ w'.cell? ⟨b, off + r * 6 + 2, none⟩ = some (.int .i64 x.dest) ∧ w'.cell? ⟨b, off + r * 6 + 3, none⟩ = some (.slice P p pc) ∧ w'.cell? ⟨b, off + r * 6 + 4, none⟩ = some (.slice Q q qc) ∧ w'.cell? ⟨b, off + r * 6 + 5, none⟩ = some (.slice F f fc) ∧
      w'.cell? ⟨b, off + s * 6, none⟩ = some (.string y.name) ∧ w'.cell? ⟨b, off + s * 6 + 1, none⟩ = some (.int .i64 y.frm) ∧ w'.cell? ⟨b, off + s * 6 + 2, none⟩ = some (.int .i64 y.dest) ∧ w'.cell? ⟨b, off + s * 6 + 3, none⟩ = some (.slice P2 p2 pc2) ∧ w'.cell? ⟨b, off + s * 6 + 4, none⟩ = some (.slice Q2 q2 qc2) ∧ w'.cell? ⟨b, off + s * 6 + 5, none⟩ = some (.slice F2 f2 fc2))
      ((refine KEEP.out _ ?_; repeat (first | exact Below.refl _ _ | refine Below.alloc ?_ (by first | (simp; omega) | simp | omega) _ | refine Below.setCell ?_ (by first | (simp; omega) | simp | omega) _ | refine Below.drew ?_)))
      (first | fail | fail)
    all_goals (go_wp2_with fail; go_meet)
    · exact ⟨gn + 1, gn + 1 + 1, rfl, rfl, by (repeat (first | exact Below.refl _ _ | refine Below.alloc ?_ (by first | (simp; omega) | simp | omega) _ | refine Below.drew ?_)), (Blk.at_ hsz.symm _ _ _).alloc _, Blk.at_ (by simp; omega) _ _ _⟩
    · exact ⟨gn + 1 + 1, gn + 1, rfl, rfl, by (repeat (first | exact Below.refl _ _ | refine Below.alloc ?_ (by first | (simp; omega) | simp | omega) _ | refine Below.drew ?_)), Blk.at_ (by simp; omega) _ _ _, (Blk.at_ hsz.symm _ _ _).alloc _⟩
  case rest =>
    obtain ⟨g7, g8, rfl, rfl, hbx, hb7, hb8⟩ := hcut
    have c71 := hb7.cell 1
    have c73 := hb7.cell 3
    have c81 := hb8.cell 1
    have c83 := hb8.cell 3
    simp only [List.getElem?_toArray, List.getElem?_cons_zero, List.getElem?_cons_succ] at c71 c73 c81 c83
    have HBX := Lib.hid (below_more (by rw [hgn]; exact HB0.out) hbx)
    have HGN := Lib.hid hgn
    clear hgn
    have HBX1 := Lib.hid hbx
    have HV := Lib.hid (HV.out.stay hbx)
    have HU := Lib.hid (HU.out.stay hbx)
    have HL := Lib.hid (HL.out.stay hbx)
    have l0 := cell_stay hbx l0
    have l1 := cell_stay hbx l1
    have l2 := cell_stay hbx l2
    have l3 := cell_stay hbx l3
    have qp := Nat.le_trans HV.out.path.le HV.out.path.cap
    have HPL := Lib.hid HV.out.path.len
    clear k0 k1 k2 k3 k4 k5 m0 m1 m2 m3 m4 m5 hb7 hb8 hbx
    by_cases hrs : r = s
    · have HE : Hid (conflictM r s x y = true) := Lib.hid (by unfold conflictM; rw [decide_eq_true (p := (r : Int) = s) (by omega)]; rfl)
      subst hrs
      go_wp2_with fail
      go_ret
      exact ⟨ret_bool (by rw [HE.out]), HBX.out⟩
    have e0 : ¬ ((r : Int) = (s : Int)) := by omega
    by_cases hfr : x.frm = y.frm
    · have HE : Hid (conflictM r s x y = true) := Lib.hid (by unfold conflictM; rw [decide_eq_true hfr]; simp)
      have e1 : (x.frm == y.frm) = true := by simp [hfr]
      have HFR := Lib.hid hfr
      clear hrs hfr
      go_wp2_with fail
      go_ret
      exact ⟨ret_bool (by rw [HE.out]), HBX.out⟩
    have HCM : Hid (conflictM r s x y = ((x.path.any fun a => inB y.path a) || (x.points ++ x.flank).any fun n => (y.points ++ y.flank).any fun m => decide ((⟨n.p, !n.r⟩ : Need) = m))) := Lib.hid (by
      unfold conflictM
      rw [decide_eq_false e0, decide_eq_false hfr]
      rfl)
    have e1 : (x.frm == y.frm) = false := by simp [hfr]
    clear hrs hfr
    go_wp2_with fail
    generalize hw5 : wc = w5 at *
    clear hw5
    go_loopw [9] (fun i wr => ∃ k : Nat, k ≤ p ∧ i = .int .i64 k ∧ Hid (Below w5.heap.size w5 wr ∧ ∀ (j : Nat) (a : Int), j < k → x.path[j]? = some a → inB y.path a = false)) (fun i _ => p - (intOf i).toNat)
    case atStart => exact ⟨0, by omega, rfl, Lib.hid ⟨Below.refl _ _, fun j a h => absurd h (by omega)⟩⟩
    case round =>
      obtain ⟨k, hk, rfl, hr⟩ := hrel
      have HB := Lib.hid hr.out.1
      have HRR := Lib.hid hr.out.2
      have c73 := cell_stay HB.out c73
      have c83 := cell_stay HB.out c83
      have HBG := Lib.hid (below_more HBX.out HB.out)
      clear hr
      by_cases hlt : k < p
      · obtain ⟨b1, off1, v, rfl, hv, hc⟩ := HV.out.path.int hlt
        have KI := Lib.hid (fun q : Later wr => RefInB_calls q.w1 _ _ _ _ ((HU.out.path.stay HB.out).stay q.hb) v)
        have HVV := Lib.hid hv
        have L2 := later_cell c73
        have L3 := later_cell c83
        have L4 := later_cell (cell_stay HB.out hc)
        clear hv hc
        generalize hz : inB y.path v = z at *
        have HZ := Lib.hid hz
        clear hz
        cases z with
        | true =>
          have HE : Hid (conflictM r s x y = true) := Lib.hid (by rw [HCM.out, List.any_eq_true.2 ⟨v, List.mem_of_getElem? HVV.out, HZ.out⟩]; rfl)
          go_wp2_with fail
          refine wp_region_later (by kernel_rfl) (by kernel_rfl) ?_
          repeat (go_big_quiet_step (first
            | (go_at_call 40; rename_i q; exact later_call q (KI.out q))
            | fail))
          refine wpQuiet_nil ?_
          intro q0
          go_wp2_with fail
          go_ret
          exact ⟨ret_bool (by rw [HE.out]), below_more HBG.out q0.hb⟩
        | false =>
          have HN : Hid (∀ (j : Nat) (a : Int), j < k + 1 → x.path[j]? = some a → inB y.path a = false) := Lib.hid (fun j a hj ha => by
            rcases Nat.lt_or_ge j k with h | h
            · exact HRR.out j a h ha
            · obtain rfl : j = k := by omega
              rw [HVV.out] at ha
              cases ha
              exact HZ.out)
          go_wp2_with fail
          refine wp_region_later (by kernel_rfl) (by kernel_rfl) ?_
          repeat (go_big_quiet_step (first
            | (go_at_call 40; rename_i q; exact later_call q (KI.out q))
            | fail))
          refine wpQuiet_nil ?_
          intro q0
          go_wp2_with fail
          go_roundw
          case rel => exact ⟨k + 1, by omega, by go_num, Lib.hid ⟨below_more HB.out q0.hb, HN.out⟩⟩
          case measure => simp [intOf]; omega
      · obtain rfl : k = p := by omega
        have HCM : Hid (conflictM r s x y = (x.points ++ x.flank).any fun n => (y.points ++ y.flank).any fun m => decide ((⟨n.p, !n.r⟩ : Need) = m)) := Lib.hid (by
          rw [HCM.out, List.any_eq_false.2 (fun a ha => by
            obtain ⟨j, hj⟩ := List.mem_iff_getElem?.1 ha
            rw [HRR.out j a (by have := (List.getElem?_eq_some_iff.1 hj).1; have := HPL.out; omega) hj]
            decide)]
          rfl)
        clear hlt HRR
        go_wp2_with fail
        have HLr := Lib.hid (HL.out.stay HB.out)
        have l0 := cell_stay HB.out l0
        have l1 := cell_stay HB.out l1
        have l2 := cell_stay HB.out l2
        have l3 := cell_stay HB.out l3
        clear c71 c73 c81 c83 hk
        have KEEP := Lib.hid (fun (W : World) (hb : Below wr.heap.size wr W) => (⟨cell_stay hb l0, cell_stay hb l1, cell_stay hb l2, cell_stay hb l3⟩ : W.cell? ⟨gn, 0, none⟩ = some (.slice A1 n1 c1) ∧ W.cell? ⟨gn, 1, none⟩ = some (.slice A2 n2 c2) ∧ W.cell? ⟨gn, 2, none⟩ = some (.slice A3 n3 c3) ∧ W.cell? ⟨gn, 3, none⟩ = some (.slice (some ⟨b, off, none⟩) n4 c4)))
        have HD : Hid (Below wr.heap.size wr wr.drew) := Lib.hid (below_drawn (Below.refl wr.heap.size wr) 1)
        go_region_held3 (fun W => W.cell? ⟨gn, 0, none⟩ = some (.slice A1 n1 c1) ∧ W.cell? ⟨gn, 1, none⟩ = some (.slice A2 n2 c2) ∧ W.cell? ⟨gn, 2, none⟩ = some (.slice A3 n3 c3) ∧ W.cell? ⟨gn, 3, none⟩ = some (.slice (some ⟨b, off, none⟩) n4 c4))
          (first | exact KEEP.out _ HD.out | exact KEEP.out _ HB7.out | exact KEEP.out _ HB6.out)
          (first
            | (go_at_call 34; (with_reducible refine (RNeeds_calls _ L A1 A2 A3 _ n1 c1 n2 c2 n3 c3 n4 c4 (HLr.out.stay HD.out) r x HR.out hx).mono ?_); rintro e w6 ⟨A5, n5, c5, rfl, hq5, hb6⟩; have HB6 := Lib.hid (below_more HD.out hb6); have HQ5 := Lib.hid hq5; clear hb6 hq5)
            | (go_at_call 34; (with_reducible refine (RNeeds_calls w6 L A1 A2 A3 _ n1 c1 n2 c2 n3 c3 n4 c4 (HLr.out.stay HB6.out) s y HS.out hy).mono ?_); rintro e w7 ⟨A6, n6, c6, rfl, hq6, hb7⟩; have HB7 := Lib.hid (below_more HB6.out hb7); have HQ5 := Lib.hid (HQ5.out.stay hb7); have HQ6 := Lib.hid hq6; clear hb7 hq6)
            | fail)
        have HBH := Lib.hid (below_more HBG.out HB7.out)
        have HN5 := Lib.hid HQ5.out.len
        have HN6 := Lib.hid HQ6.out.len
        have q5 := Nat.le_trans HQ5.out.le HQ5.out.cap
        have q6 := Nat.le_trans HQ6.out.le HQ6.out.cap
        generalize x.points ++ x.flank = xs at *
        generalize y.points ++ y.flank = ys at *
        clear l0 l1 l2 l3 KEEP
        go_wp2_with fail
        go_loopw [12] (fun i wr => ∃ k : Nat, k ≤ n5 ∧ i = .int .i64 k ∧ Hid (Below w7.heap.size w7 wr ∧ ∀ (j : Nat) (a : Need), j < k → xs[j]? = some a → (ys.any fun m => decide ((⟨a.p, !a.r⟩ : Need) = m)) = false)) (fun i _ => n5 - (intOf i).toNat)
        case atStart => exact ⟨0, by omega, rfl, Lib.hid ⟨Below.refl _ _, fun j a h => absurd h (by omega)⟩⟩
        case round =>
          obtain ⟨k, hk, rfl, hr⟩ := hrel
          have HB2 := Lib.hid hr.out.1
          have HR2 := Lib.hid hr.out.2
          clear hr
          by_cases hlt : k < n5
          · obtain ⟨b5, off5, a, rfl, ha, d0, d1⟩ := HQ5.out.need hlt
            have HAA := Lib.hid ha
            have d0 := cell_stay HB2.out d0
            have d1 := cell_stay HB2.out d1
            obtain ⟨ap, ar⟩ := a
            simp only at d0 d1
            clear ha
            go_wp2_with fail
            generalize hw8 : wr = w8 at *
            clear hw8
            go_loopw [13] (fun i wr => ∃ j : Nat, j ≤ n6 ∧ i = .int .i64 j ∧ Hid (Below w8.heap.size w8 wr ∧ ∀ (i : Nat) (m : Need), i < j → ys[i]? = some m → decide ((⟨ap, !ar⟩ : Need) = m) = false)) (fun i _ => n6 - (intOf i).toNat)
            case atStart => exact ⟨0, by omega, rfl, Lib.hid ⟨Below.refl _ _, fun j a h => absurd h (by omega)⟩⟩
            case round =>
              obtain ⟨j, hj, rfl, hr⟩ := hrel
              have HB3 := Lib.hid hr.out.1
              have HR3 := Lib.hid hr.out.2
              have HBZ := Lib.hid (below_more (below_more HBH.out HB2.out) HB3.out)
              clear hr
              by_cases hlt2 : j < n6
              · obtain ⟨b6, off6, m, rfl, hm, f0, f1⟩ := HQ6.out.need hlt2
                have HM := Lib.hid hm
                obtain ⟨mp, mr⟩ := m
                simp only at f0 f1
                have L1 := later_cell (cell_stay HB3.out d0)
                have L2 := later_cell (cell_stay HB3.out d1)
                have L3 := later_cell (cell_stay HB3.out (cell_stay HB2.out f0))
                have L4 := later_cell (cell_stay HB3.out (cell_stay HB2.out f1))
                clear hm f0 f1
                by_cases hp : ap = mp
                · subst hp
                  have e5 : (ap == ap) = true := by simp
                  by_cases hrr : ar = mr
                  · subst hrr
                    have HNE : decide ((⟨ap, !ar⟩ : Need) = ⟨ap, ar⟩) = false := by cases ar <;> simp
                    have HNE := Lib.hid HNE
                    cases ar
                    all_goals
                      have HN : Hid (∀ (i : Nat) (m : Need), i < j + 1 → ys[i]? = some m → decide ((⟨ap, !_⟩ : Need) = m) = false) := Lib.hid (fun i m hi hm => by
                        rcases Nat.lt_or_ge i j with h | h
                        · exact HR3.out i m h hm
                        · obtain rfl : i = j := by omega
                          rw [HM.out] at hm
                          cases hm
                          exact HNE.out)
                      go_wp2_with fail
                      refine wp_region_later (by kernel_rfl) (by kernel_rfl) ?_
                      repeat (go_big_quiet_step (fail))
                      refine wpQuiet_nil ?_
                      intro q0
                      go_wp2_with fail
                      go_roundw
                      case rel => exact ⟨j + 1, by omega, by go_num, Lib.hid ⟨below_more HB3.out q0.hb, HN.out⟩⟩
                      case measure => simp [intOf]; omega
                  · have HYE : Hid (decide ((⟨ap, !ar⟩ : Need) = ⟨ap, mr⟩) = true) := Lib.hid (by cases ar <;> cases mr <;> simp_all)
                    have HE : Hid (conflictM r s x y = true) := Lib.hid (by rw [HCM.out, List.any_eq_true.2 ⟨_, List.mem_of_getElem? HAA.out, List.any_eq_true.2 ⟨_, List.mem_of_getElem? HM.out, HYE.out⟩⟩])
                    have HRR := Lib.hid hrr
                    clear hrr
                    cases ar <;> cases mr
                    all_goals first
                      | exact absurd rfl HRR.out
                      | (go_wp2_with fail
                         refine wp_region_later (by kernel_rfl) (by kernel_rfl) ?_
                         repeat (go_big_quiet_step (fail))
                         refine wpQuiet_nil ?_
                         intro q0
                         go_wp2_with fail
                         go_ret
                         exact ⟨ret_bool (by rw [HE.out]), below_more HBZ.out q0.hb⟩)
                · have HNE := Lib.hid (show decide ((⟨ap, !ar⟩ : Need) = ⟨mp, mr⟩) = false by simp [hp])
                  have e5 : (ap == mp) = false := by simp [hp]
                  clear hp
                  have HN : Hid (∀ (i : Nat) (m : Need), i < j + 1 → ys[i]? = some m → decide ((⟨ap, !ar⟩ : Need) = m) = false) := Lib.hid (fun i m hi hm => by
                    rcases Nat.lt_or_ge i j with h | h
                    · exact HR3.out i m h hm
                    · obtain rfl : i = j := by omega
                      rw [HM.out] at hm
                      cases hm
                      exact HNE.out)
                  go_wp2_with fail
                  refine wp_region_later (by kernel_rfl) (by kernel_rfl) ?_
                  repeat (go_big_quiet_step (fail))
                  refine wpQuiet_nil ?_
                  intro q0
                  go_wp2_with fail
                  go_roundw
                  case rel => exact ⟨j + 1, by omega, by go_num, Lib.hid ⟨below_more HB3.out q0.hb, HN.out⟩⟩
                  case measure => simp [intOf]; omega
              · obtain rfl : j = n6 := by omega
                have HN : Hid (∀ (j : Nat) (a : Need), j < k + 1 → xs[j]? = some a → (ys.any fun m => decide ((⟨a.p, !a.r⟩ : Need) = m)) = false) := Lib.hid (fun i a hi ha => by
                  rcases Nat.lt_or_ge i k with h | h
                  · exact HR2.out i a h ha
                  · obtain rfl : i = k := by omega
                    rw [HAA.out] at ha
                    cases ha
                    exact List.any_eq_false.2 (fun m hm => by
                      obtain ⟨t, ht⟩ := List.mem_iff_getElem?.1 hm
                      rw [HR3.out t m (by have := (List.getElem?_eq_some_iff.1 ht).1; have := HN6.out; omega) ht]
                      decide))
                clear hlt2
                go_wp2_with fail
                go_roundw
                case rel => exact ⟨k + 1, by omega, by go_num, Lib.hid ⟨below_more HB2.out HB3.out, HN.out⟩⟩
                case measure => simp [intOf]; omega
          · obtain rfl : k = n5 := by omega
            have HE : Hid (conflictM r s x y = false) := Lib.hid (by
              rw [HCM.out]
              exact List.any_eq_false.2 (fun a ha => by
                obtain ⟨t, ht⟩ := List.mem_iff_getElem?.1 ha
                rw [HR2.out t a (by have := (List.getElem?_eq_some_iff.1 ht).1; have := HN5.out; omega) ht]
                decide))
            clear hlt
            go_wp2_with fail
            go_ret
            exact ⟨ret_bool (by rw [HE.out]), below_more HBH.out HB2.out⟩
end Go.Proofs.YtmdggodkkkihhaaDoor
