/- Texts put together for a claim. -/
import Derived.Test.YtmdnmiiggkfnfaaDoorQ20PlanNamesUpto
import Derived.Test.YtmdnmiiggkfnfaaDoorQ21PlanNamesUpto
import Derived.Test.YtmdnmiiggkfnfaaDoorQ16PlanNamesUpto
import Derived.Deep.RegionHeld3
import Derived.Test.YtmdnmiiggkfnfaaDoorQ17PlanNamesUpto
import Derived.Test.YtmdnmiiggkfnfaaDoorQ18PlanNamesUpto
import Derived.Deep.DeepCutAuto
import Derived.Lib.AppendZeros
/- Contracts of plan: pointNames, routeNames; the builder's places, needs. -/
set_option linter.unusedVariables false
set_option linter.unusedSimpArgs false
namespace Go.Proofs.YtmdnmiiggkfnfaaDoor
open Go.RowKit

theorem info_s3 : (Tryd.prog.info? 9).map (fun i => (i.zero, i.size, i.bytes)) = some (some (.string .empty), 1, 16) := by kernel_rfl
theorem info_i3 : (Tryd.prog.info? 3).map (fun i => (i.zero, i.size, i.bytes)) = some (some (.int .i64 0), 1, 8) := by kernel_rfl
theorem info_n3 : (Tryd.prog.info? 46).map (fun i => (i.zero, i.size, i.bytes)) = some (some (.agg #[.int .i64 0, .bool false]), 2, 16) := by kernel_rfl
theorem map_tk {α β : Type} (f : α → β) {xs : List α} {k : Nat} {y : α} (h : xs[k]? = some y) : (xs.take (k + 1)).map f = (xs.take k).map f ++ [f y] := by
  rw [List.take_add_one, h, List.map_append]
  rfl
theorem box_at {α : Type} (f : Fl α) {W : World} {g : Nat} (hg : g = W.heap.size) (cs : Array Value) (t : TypeId) (x : α) (h : cs.toList = f.enc x) : Reads (W.alloc (.cells cs t)) (g + 1) f.sz (some ⟨g, 0, none⟩) 1 (f.enc x) := by
  subst hg
  exact box_reads f W cs t x h
def NamesPost (w : World) (l : List ByteArray) (e : Ending) (w' : World) : Prop := ∃ v, e = .returned v ∧ Ow flS w' w.heap.size 9 v l ∧ Below w.heap.size w w'
section
variable {w : World} {A1 A2 A3 A4 : Option Addr} {n1 c1 n2 c2 n3 c3 n4 c4 : Nat}
set_option maxRecDepth 20000 in
set_option maxHeartbeats 2000000 in
theorem PtNames_calls (xs : List Pt) (hP : Sl flP w A2 n2 c2 xs) (hn : n2 ≤ 1000000) :
    Calls Tryd.prog 64 #[.agg #[.slice A1 n1 c1, .slice A2 n2 c2, .slice A3 n3 c3, .slice A4 n4 c4]] w (NamesPost w (xs.map Pt.name)) := by
  obtain ⟨i0, hi0, hz0, hz1, hz2⟩ := info_parts info_s3
  have hbw : Below w.heap.size w (w.alloc (.cells #[.slice A1 n1 c1, .slice A2 n2 c2, .slice A3 n3 c3, .slice A4 n4 c4] 26)) := below_new w _
  have hB_b := Blk.at_ (w := w) (g := w.heap.size) (by simp) #[.slice A1 n1 c1, .slice A2 n2 c2, .slice A3 n3 c3, .slice A4 n4 c4] 26 (0, 0)
  have b0 := hB_b.cell 0
  have b1 := hB_b.cell 1
  have b2 := hB_b.cell 2
  have b3 := hB_b.cell 3
  simp only [List.getElem?_toArray, List.getElem?_cons_zero, List.getElem?_cons_succ] at b0 b1 b2 b3
  clear hB_b
  have HP := Lib.hid (hP.stay hbw)
  have HL := Lib.hid hP.len
  have HBW := Lib.hid hbw
  have hcap := Nat.le_trans hP.le hP.cap
  clear hP
  go_enter Tryd.func64, Tryd.ntmps64
  go_wp2_with fail
  generalize (w.alloc (.cells #[.slice A1 n1 c1, .slice A2 n2 c2, .slice A3 n3 c3, .slice A4 n4 c4] 26)) = w0 at *
  go_loopw [3, 9] (fun t i wr => ∃ k : Nat, k ≤ n2 ∧ i = .int .i64 k ∧ Hid (Ow flS wr w0.heap.size 9 t ((xs.take k).map Pt.name) ∧ Below w0.heap.size w0 wr)) (fun _ i _ => n2 - (intOf i).toNat)
  case atStart => exact ⟨0, by omega, rfl, Lib.hid ⟨Ow.nil_ _ _ _ _, Below.refl _ _⟩⟩
  case round =>
    obtain ⟨k, hk, rfl, hr⟩ := hrel
    obtain ⟨ho, hb⟩ := hr.out
    obtain ⟨Av, cv, rfl⟩ := row_form ho
    have hnl : ((xs.take k).map Pt.name).length ≤ 1000000 := by rw [List.length_map, List.length_take]; omega
    have HBB := Lib.hid hb
    have hws := hb.size
    by_cases hlt : k < n2
    · obtain ⟨b, off, y, rfl, hy, d1, d2⟩ := HP.out.pt hlt
      have d1 := cell_stay hb d1
      have d2 := cell_stay hb d2
      have HTK := Lib.hid (map_tk Pt.name hy)
      generalize hns : (xs.take k).map Pt.name = ns at *
      have HO := Lib.hid (ho.alloc (.cells #[.string y.name, .int .i64 y.sec] 51))
      clear hns ho hr hy hb
      go_wp2_with (first
        | (at_builtin; refine wpList_append_any _ rfl (.tmp 13) (.tmp 16) _ rfl w0.heap.size 9 i0 _ 1 16 Tryd.underlying22 hi0 hz0 hz1 hz2 rfl (by omega) _ ns.length (ns.flatMap flS.enc) rfl (HO.out.alloc _) (wr.heap.size + 1 + 1) (some ⟨wr.heap.size + 1, 0, none⟩) 1 1 (flS.enc y.name) rfl (box_at flS (by simp) _ _ y.name rfl) (flS.one _) (by simp only [maxLen]; omega) (by omega) (by simp; omega) ?_; intro v1 w1 hown1 hg1 hat1; have HB1 := Lib.hid (((HBB.out.alloc hws (.cells #[.string y.name, .int .i64 y.sec] 51)).alloc (by simp; omega) (.cells #[.string y.name] 9)).grown hg1 (by simp; omega) HO.out.base_); have HO1 := Lib.hid (Ow.snoc hown1); clear hown1 hg1 hat1)
        | fail)
      go_roundw
      case rel => exact ⟨k + 1, by omega, by go_num, Lib.hid ⟨by rw [HTK.out]; exact HO1.out, HB1.out⟩⟩
      case measure => simp [intOf]; omega
    · obtain rfl : k = n2 := by omega
      have HT := Lib.hid (show List.map Pt.name (xs.take k) = xs.map Pt.name by rw [List.take_of_length_le (by rw [HL.out]; omega)])
      have HO := Lib.hid ho
      clear ho hr hlt hb
      go_wp2_with fail
      go_ret
      exact ⟨_, rfl, by have := HO.out; rw [HT.out] at this; rw [← HT.out]; rw [HT.out]; exact this.lower (HBW.out.size), below_more HBW.out HBB.out⟩
theorem Rf.rtc {w : World} {A : Option Addr} {n : Nat} {xs : List RtC} (h : Rf flRc w A n xs) {j : Nat} (hj : j < n) : ∃ b off x, A = some ⟨b, off, none⟩ ∧ xs[j]? = some x ∧ w.cell? ⟨b, off + j * 6, none⟩ = some (.string x.name) ∧ w.cell? ⟨b, off + j * 6 + 1, none⟩ = some (.int .i64 x.frm) ∧ w.cell? ⟨b, off + j * 6 + 2, none⟩ = some (.int .i64 x.dst) ∧
    w.cell? ⟨b, off + j * 6 + 3, none⟩ = some (.slice x.P x.p x.pc) ∧ w.cell? ⟨b, off + j * 6 + 4, none⟩ = some (.slice x.Q x.q x.qc) ∧ w.cell? ⟨b, off + j * 6 + 5, none⟩ = some (.slice x.F x.f x.fc) := by
  obtain ⟨b, off, x, rfl, hx, hc⟩ := h.at_ hj
  exact ⟨b, off, x, rfl, hx, hc 0 _ rfl, hc 1 _ rfl, hc 2 _ rfl, hc 3 _ rfl, hc 4 _ rfl, hc 5 _ rfl⟩
set_option maxRecDepth 20000 in
set_option maxHeartbeats 2000000 in
theorem RtNames_calls (xs : List RtC) (hP : Rf flRc w A4 n4 xs) (hn : n4 ≤ 1000000) :
    Calls Tryd.prog 80 #[.agg #[.slice A1 n1 c1, .slice A2 n2 c2, .slice A3 n3 c3, .slice A4 n4 c4]] w (NamesPost w (xs.map RtC.name)) := by
  obtain ⟨i0, hi0, hz0, hz1, hz2⟩ := info_parts info_s3
  have hbw : Below w.heap.size w (w.alloc (.cells #[.slice A1 n1 c1, .slice A2 n2 c2, .slice A3 n3 c3, .slice A4 n4 c4] 26)) := below_new w _
  have hB_b := Blk.at_ (w := w) (g := w.heap.size) (by simp) #[.slice A1 n1 c1, .slice A2 n2 c2, .slice A3 n3 c3, .slice A4 n4 c4] 26 (0, 0)
  have b0 := hB_b.cell 0
  have b1 := hB_b.cell 1
  have b2 := hB_b.cell 2
  have b3 := hB_b.cell 3
  simp only [List.getElem?_toArray, List.getElem?_cons_zero, List.getElem?_cons_succ] at b0 b1 b2 b3
  clear hB_b
  have HP := Lib.hid (hP.stay hbw)
  have HL := Lib.hid hP.1
  have HBW := Lib.hid hbw
  clear hP
  go_enter Tryd.func80, Tryd.ntmps80
  go_wp2_with fail
  generalize (w.alloc (.cells #[.slice A1 n1 c1, .slice A2 n2 c2, .slice A3 n3 c3, .slice A4 n4 c4] 26)) = w0 at *
  go_loopw [3, 9] (fun t i wr => ∃ k : Nat, k ≤ n4 ∧ i = .int .i64 k ∧ Hid (Ow flS wr w0.heap.size 9 t ((xs.take k).map RtC.name) ∧ Below w0.heap.size w0 wr)) (fun _ i _ => n4 - (intOf i).toNat)
  case atStart => exact ⟨0, by omega, rfl, Lib.hid ⟨Ow.nil_ _ _ _ _, Below.refl _ _⟩⟩
  case round =>
    obtain ⟨k, hk, rfl, hr⟩ := hrel
    obtain ⟨ho, hb⟩ := hr.out
    obtain ⟨Av, cv, rfl⟩ := row_form ho
    have hnl : ((xs.take k).map RtC.name).length ≤ 1000000 := by rw [List.length_map, List.length_take]; omega
    have HBB := Lib.hid hb
    have hws := hb.size
    by_cases hlt : k < n4
    · obtain ⟨b, off, y, rfl, hy, d0, d1, d2, d3, d4, d5⟩ := HP.out.rtc hlt
      have d0 := cell_stay hb d0
      have d1 := cell_stay hb d1
      have d2 := cell_stay hb d2
      have d3 := cell_stay hb d3
      have d4 := cell_stay hb d4
      have d5 := cell_stay hb d5
      have HTK := Lib.hid (map_tk RtC.name hy)
      generalize hns : (xs.take k).map RtC.name = ns at *
      have HO := Lib.hid (ho.alloc (.cells #[.string y.name, .int .i64 y.frm, .int .i64 y.dst, .slice y.P y.p y.pc, .slice y.Q y.q y.qc, .slice y.F y.f y.fc] 44))
      clear hns ho hr hy hb
      go_wp2_with (first
        | (at_builtin; refine wpList_append_any _ rfl (.tmp 13) (.tmp 16) _ rfl w0.heap.size 9 i0 _ 1 16 Tryd.underlying22 hi0 hz0 hz1 hz2 rfl (by omega) _ ns.length (ns.flatMap flS.enc) rfl (HO.out.alloc _) (wr.heap.size + 1 + 1) (some ⟨wr.heap.size + 1, 0, none⟩) 1 1 (flS.enc y.name) rfl (box_at flS (by simp) _ _ y.name rfl) (flS.one _) (by simp only [maxLen]; omega) (by omega) (by simp; omega) ?_; intro v1 w1 hown1 hg1 hat1; have HB1 := Lib.hid (((HBB.out.alloc hws (.cells #[.string y.name, .int .i64 y.frm, .int .i64 y.dst, .slice y.P y.p y.pc, .slice y.Q y.q y.qc, .slice y.F y.f y.fc] 44)).alloc (by simp; omega) (.cells #[.string y.name] 9)).grown hg1 (by simp; omega) HO.out.base_); have HO1 := Lib.hid (Ow.snoc hown1); clear hown1 hg1 hat1)
        | fail)
      go_roundw
      case rel => exact ⟨k + 1, by omega, by go_num, Lib.hid ⟨by rw [HTK.out]; exact HO1.out, HB1.out⟩⟩
      case measure => simp [intOf]; omega
    · obtain rfl : k = n4 := by omega
      have HT := Lib.hid (show List.map RtC.name (xs.take k) = xs.map RtC.name by rw [List.take_of_length_le (by rw [HL.out]; omega)])
      have HO := Lib.hid ho
      clear ho hr hlt hb
      go_wp2_with fail
      go_ret
      exact ⟨_, rfl, by have := HO.out; rw [HT.out] at this; rw [← HT.out]; rw [HT.out]; exact this.lower (HBW.out.size), below_more HBW.out HBB.out⟩
end
section
variable {w0 w w1 : World} {B g : Nat} {v1 v2 v3 v4 : Value} {cs : List RtC} {L : Lay} {e e' : Int}
/-- A row that is newer than the builder's own has been appended to. -/
theorem BdAt.grown {wr : World} {row : Option Nat} (h0 : BdAt w0 w B g v1 v2 v3 v4 cs L e) (h : BdAt w0 wr B g v1 v2 v3 v4 cs L e') (hg : wr.grownBy w1 row) (hrow : ∀ k, row = some k → w.heap.size ≤ k) : BdAt w0 w1 B g v1 v2 v3 v4 cs L e' := by
  have key : ∀ {α : Type} {f : Fl α} {t : TypeId} {v : Value} {xs : List α}, Ow f w B t v xs → Ow f wr B t v xs → Ow f w1 B t v xs := fun {α f t v xs} ho hr => hr.kept hg (by
    rcases hv : v.ownBlock with _ | q
    · exact .inl rfl
    · exact .inr (fun e => by
        have h1 := Ow.lt_ ho q hv
        have h2 := hrow q e.symm
        omega))
  have hlt := h0.blk.lt
  exact ⟨h.tabs, h.hb.grown hg h.hb.size (fun k hk => by have := hrow k hk; have := h0.hb.size; omega), h.lB, h.Bg, h.blk.only (Only.of_grown hg) (fun e => by have := hrow g e; omega), key h0.secs h.secs, key h0.pts h.pts, key h0.sigs h.sigs, key h0.rtes h.rtes,
    ⟨h.rel.len, fun j c x hc hx => by
      have r0 := h0.rel.all j c x hc hx
      have r := h.rel.all j c x hc hx
      exact ⟨r.name, r.frm, r.dst, key r0.path r.path, key r0.points r.points, key r0.flank r.flank⟩⟩, h.ap, h.l1, h.l2, h.l3, h.l4⟩
/-- A row that does not lie in the block. -/
theorem Sl.off {α : Type} {f : Fl α} {w w1 : World} {S : Nat → Prop} {A : Option Addr} {n c : Nat} {xs : List α} (h : Sl f w A n c xs) (ho : Only S w w1) (hn : ∀ a, A = some a → ¬ S a.block) : Sl f w1 A n c xs := by
  refine ⟨⟨h.rf.1, h.rf.2.1, fun h0 => ?_⟩, h.le, h.cap, h.sz⟩
  obtain ⟨b, off, e, hc⟩ := h.rf.2.2 h0
  refine ⟨b, off, e, fun j x hx i v hv => ?_⟩
  have := hc j x hx i v hv
  rw [← this]
  have hb : b < w.heap.size := cell_lt this
  have := ho.block b hb (hn _ e)
  simp only [World.cell?, this]
theorem placesE_snoc (l : List ByteArray) (e : Int) (ss : List ByteArray) (s : ByteArray) : placesE l e (ss ++ [s]) = placeE l (placesE l e ss) s := by
  unfold placesE
  rw [List.foldl_append]
  rfl
theorem take_more {α : Type} {xs : List α} {k : Nat} {y : α} (h : xs[k]? = some y) : xs.take (k + 1) = xs.take k ++ [y] := by
  rw [List.take_add_one, h]
  rfl
def PlacesPost (w0 w : World) (B g : Nat) (v1 v2 v3 v4 : Value) (cs : List RtC) (L : Lay) (l ss : List ByteArray) (e : Int) (en : Ending) (w' : World) : Prop :=
  ∃ v, en = .returned v ∧ Ow flI w' w.heap.size 3 v (ss.map (idxS l)) ∧ BdP w0 w B g v1 v2 v3 v4 cs L (placesE l e ss) w'
set_option maxRecDepth 20000 in
set_option maxHeartbeats 2000000 in
theorem Places_calls (h : BdAt w0 w B g v1 v2 v3 v4 cs L e) (A C : Option Addr) (n c m d : Nat) (l ss : List ByteArray) (hA : Sl flS w A n c l) (hAg : ∀ a, A = some a → a.block ≠ g) (hC : Sl flS w C m d ss) (hCg : ∀ a, C = some a → a.block ≠ g) (hm : m ≤ 3000000) :
    Calls Tryd.prog 81 #[.pointer (some ⟨g, 0, none⟩), .slice A n c, .slice C m d] w (PlacesPost w0 w B g v1 v2 v3 v4 cs L l ss e) := by
  obtain ⟨i0, hi0, hz0, hz1, hz2⟩ := info_parts info_i3
  have H0 := Lib.hid h
  have HA := Lib.hid hA
  have HC := Lib.hid hC
  have HAG := Lib.hid hAg
  have HCG := Lib.hid hCg
  have HL := Lib.hid hC.len
  have hgl := h.blk.lt
  have hcap := Nat.le_trans hC.le hC.cap
  clear h hA hC hAg hCg
  go_enter Tryd.func81, Tryd.ntmps81
  go_wp2_with fail
  go_loopw [7, 12] (fun t i wr => ∃ k : Nat, k ≤ m ∧ i = .int .i64 k ∧ Hid (Ow flI wr w.heap.size 3 t ((ss.take k).map (idxS l)) ∧ BdP w0 w B g v1 v2 v3 v4 cs L (placesE l e (ss.take k)) wr)) (fun _ i _ => m - (intOf i).toNat)
  case atStart => exact ⟨0, by omega, rfl, Lib.hid ⟨Ow.nil_ _ _ _ _, H0.out, Only.refl _ _⟩⟩
  case round =>
    obtain ⟨k, hk, rfl, hr⟩ := hrel
    obtain ⟨ho, hbd, hon⟩ := hr.out
    obtain ⟨Av, cv, rfl⟩ := row_form ho
    have hnl : ((ss.take k).map (idxS l)).length ≤ 3000000 := by rw [List.length_map, List.length_take]; omega
    have hws := hon.size
    by_cases hlt : k < m
    · obtain ⟨b, off, y, rfl, hy, d0⟩ := (HC.out.off hon HCG.out).str hlt
      have KP := Lib.hid (Place_calls hbd A n c l (HA.out.off hon HAG.out) y)
      have HTK := Lib.hid (map_tk (idxS l) hy)
      have HPE : Hid (placeE l (placesE l e (ss.take k)) y = placesE l e (ss.take (k + 1))) := Lib.hid (by rw [take_more hy, placesE_snoc])
      rw [HPE.out] at KP
      generalize hns : (ss.take k).map (idxS l) = ns at *
      have HO := Lib.hid ho
      have HON := Lib.hid hon
      clear hns ho hr hy hon hbd HPE
      generalize hz : idxS l y = z at *
      clear hz
      go_wp2_with (first
        | (go_at_call 65; refine KP.out.mono ?_; rintro en w2 ⟨rfl, hp2⟩; have H2 := Lib.hid hp2; have HO2 := Lib.hid (HO.out.only hp2.2 (fun k hk e => by have := HO.out.base_ k hk; omega)); have hs2 := hp2.2.size; clear hp2)
        | (at_builtin; refine wpList_append_any _ rfl (.tmp 16) (.tmp 21) _ rfl w.heap.size 3 i0 _ 1 8 Tryd.underlying39 hi0 hz0 hz1 hz2 rfl (by omega) _ ns.length (ns.flatMap flI.enc) rfl (HO2.out.alloc _) (w2.heap.size + 1) (some ⟨w2.heap.size, 0, none⟩) 1 1 (flI.enc z) rfl (box_at flI rfl _ _ z rfl) (flI.one _) (by simp only [maxLen]; omega) (by omega) (by simp; omega) ?_; intro v7 w7 hown7 hg7 hat7; have H7 := Lib.hid (H0.out.grown (H2.out.1.stay (below_new w2 (.cells #[.int .i64 z] 3))) hg7 HO2.out.base_); have HN7 := Lib.hid (only_grown (only_b (only_g HON.out H2.out.2) (below_new w2 (.cells #[.int .i64 z] 3))) hg7 HO2.out.base_); have HO7 := Lib.hid (Ow.snoc hown7); clear hown7 hg7 hat7)
        | fail)
      go_roundw
      case rel => exact ⟨k + 1, by omega, by go_num, Lib.hid ⟨by rw [HTK.out]; exact HO7.out, H7.out, HN7.out⟩⟩
      case measure => simp [intOf]; omega
    · obtain rfl : k = m := by omega
      have HT := Lib.hid (show ss.take k = ss from List.take_of_length_le (by rw [HL.out]; omega))
      have HO := Lib.hid hr.out
      clear ho hr hlt hbd hon
      go_wp2_with fail
      go_ret
      have := HO.out
      rw [HT.out] at this
      rw [HT.out]
      exact ⟨_, rfl, this.1, this.2⟩
end
end Go.Proofs.YtmdnmiiggkfnfaaDoor

/- Contract of plan's builder: needs. -/
set_option linter.unusedVariables false
set_option linter.unusedSimpArgs false
namespace Go.Proofs.YtmdnmiiggkfnfaaDoor
open Go.RowKit

theorem sl_of_own {α : Type} {f : Fl α} {w : World} {base n c : Nat} {A : Option Addr} {e : TypeId} {xs : List α} (h : Ow f w base e (.slice A n c) xs) (hs : 0 < f.sz) (hl : xs.length ≤ 10000000) : n = xs.length ∧ Sl f w A n c xs := by
  obtain ⟨A', c', e', hr⟩ := sl_ow h hs (by omega)
  injection e' with a b d
  subst a b d
  exact ⟨rfl, hr⟩
theorem needsP_snoc (l : List ByteArray) (ws : List Wnt) (y : Wnt) : needsP l (ws ++ [y]) = needsP l ws ++ [⟨idxS l y.name, y.rev⟩] := by
  unfold needsP
  rw [List.map_append]
  rfl
theorem Sl.wnt {w : World} {A : Option Addr} {n c : Nat} {xs : List Wnt} (h : Sl flWn w A n c xs) {j : Nat} (hj : j < n) : ∃ b off x, A = some ⟨b, off, none⟩ ∧ xs[j]? = some x ∧ w.cell? ⟨b, off + j * 2, none⟩ = some (.string x.name) ∧ w.cell? ⟨b, off + j * 2 + 1, none⟩ = some (.bool x.rev) := by
  obtain ⟨b, off, x, rfl, hx, hc⟩ := h.rf.at_ hj
  exact ⟨b, off, x, rfl, hx, hc 0 _ rfl, hc 1 _ rfl⟩
def NamesPost2 (w : World) (n : Nat) (l : List ByteArray) (e : Ending) (w' : World) : Prop := ∃ A c, e = .returned (.slice A n c) ∧ Ow flS w' w.heap.size 9 (.slice A n c) l ∧ Sl flS w' A n c l ∧ Below w.heap.size w w'
theorem names_post2 {w : World} {n : Nat} {l : List ByteArray} (hn : l.length = n) (h1 : n ≤ 1000000) {e : Ending} {w' : World} (h : NamesPost w l e w') : NamesPost2 w n l e w' := by
  obtain ⟨v, rfl, ho, hb⟩ := h
  obtain ⟨A, c, rfl⟩ := row_form ho
  subst hn
  exact ⟨A, c, rfl, ho, (sl_of_own ho (by decide) (by omega)).2, hb⟩
theorem PtNames2_calls {w : World} {A1 A2 A3 A4 : Option Addr} {n1 c1 n2 c2 n3 c3 n4 c4 : Nat} (xs : List Pt) (hP : Sl flP w A2 n2 c2 xs) (hn : n2 ≤ 1000000) :
    Calls Tryd.prog 64 #[.agg #[.slice A1 n1 c1, .slice A2 n2 c2, .slice A3 n3 c3, .slice A4 n4 c4]] w (NamesPost2 w n2 (xs.map Pt.name)) := (PtNames_calls xs hP hn).mono fun e w' h => names_post2 (by rw [List.length_map]; exact hP.len) hn h
theorem RtNames2_calls {w : World} {A1 A2 A3 A4 : Option Addr} {n1 c1 n2 c2 n3 c3 n4 c4 : Nat} (xs : List RtC) (hP : Rf flRc w A4 n4 xs) (hn : n4 ≤ 1000000) :
    Calls Tryd.prog 80 #[.agg #[.slice A1 n1 c1, .slice A2 n2 c2, .slice A3 n3 c3, .slice A4 n4 c4]] w (NamesPost2 w n4 (xs.map RtC.name)) := (RtNames_calls xs hP hn).mono fun e w' h => names_post2 (by rw [List.length_map]; exact hP.1) hn h
section
variable {w0 w w1 : World} {B g : Nat} {v1 v2 v3 v4 : Value} {cs : List RtC} {L : Lay} {e e' : Int}
def NeedsP2 (w0 w : World) (B g : Nat) (v1 v2 v3 v4 : Value) (cs : List RtC) (L : Lay) (ws : List Wnt) (e : Int) (en : Ending) (w' : World) : Prop :=
  ∃ v, en = .returned v ∧ Ow flN w' w.heap.size 46 v (needsP (ptNames L) ws) ∧ BdP w0 w B g v1 v2 v3 v4 cs L (placesE (ptNames L) e (ws.map Wnt.name)) w'
set_option maxRecDepth 20000 in
set_option maxHeartbeats 4000000 in
theorem BNeeds_calls (h : BdAt w0 w B g v1 v2 v3 v4 cs L e) (C : Option Addr) (m d : Nat) (ws : List Wnt) (hC : Sl flWn w C m d ws) (hCg : ∀ a, C = some a → a.block ≠ g) (hm : m ≤ 3000000) :
    Calls Tryd.prog 82 #[.pointer (some ⟨g, 0, none⟩), .slice C m d] w (NeedsP2 w0 w B g v1 v2 v3 v4 cs L ws e) := by
  obtain ⟨i0, hi0, hz0, hz1, hz2⟩ := info_parts info_n3
  obtain ⟨A1, d1, rfl⟩ := row_form h.secs
  obtain ⟨A2, d2, rfl⟩ := row_form h.pts
  obtain ⟨A3, d3, rfl⟩ := row_form h.sigs
  obtain ⟨A4, d4, rfl⟩ := row_form h.rtes
  have H0 := Lib.hid h
  have HC := Lib.hid hC
  have HCG := Lib.hid hCg
  have HL := Lib.hid hC.len
  have hgl := h.blk.lt
  have hcap := Nat.le_trans hC.le hC.cap
  have hl2 := h.l2
  clear h hC hCg
  go_enter Tryd.func82, Tryd.ntmps82
  go_wp2_with fail
  generalize hq1 : L.secs.length = q1 at *
  generalize hq2 : L.pts.length = q2 at *
  generalize hq3 : L.sigs.length = q3 at *
  generalize hq4 : cs.length = q4 at *
  have HQ := Lib.hid hq2
  clear hq1 hq2 hq3 hq4
  go_loopw [5, 10] (fun t i wr => ∃ k : Nat, k ≤ m ∧ i = .int .i64 k ∧ Hid (Ow flN wr w.heap.size 46 t (needsP (ptNames L) (ws.take k)) ∧ BdP w0 w B g (.slice A1 q1 d1) (.slice A2 q2 d2) (.slice A3 q3 d3) (.slice A4 q4 d4) cs L (placesE (ptNames L) e ((ws.take k).map Wnt.name)) wr)) (fun _ i _ => m - (intOf i).toNat)
  case atStart => exact ⟨0, by omega, rfl, Lib.hid ⟨Ow.nil_ _ _ _ _, H0.out, Only.refl _ _⟩⟩
  case round =>
    obtain ⟨k, hk, rfl, hr⟩ := hrel
    obtain ⟨ho, hbd, hon⟩ := hr.out
    obtain ⟨Av, cv, rfl⟩ := row_form ho
    have hnl : (needsP (ptNames L) (ws.take k)).length ≤ 3000000 := by unfold needsP; rw [List.length_map, List.length_take]; omega
    have hws := hon.size
    by_cases hlt : k < m
    · obtain ⟨b, off, y, rfl, hy, x0, x1⟩ := (HC.out.off hon HCG.out).wnt hlt
      have HTK : Hid (needsP (ptNames L) (ws.take (k + 1)) = needsP (ptNames L) (ws.take k) ++ [⟨idxS (ptNames L) y.name, y.rev⟩]) := Lib.hid (by rw [take_more hy, needsP_snoc])
      have HPE : Hid (placesE (ptNames L) e ((ws.take (k + 1)).map Wnt.name) = placeE (ptNames L) (placesE (ptNames L) e ((ws.take k).map Wnt.name)) y.name) := Lib.hid (by rw [take_more hy, List.map_append]; exact placesE_snoc _ _ _ _)
      generalize hns : needsP (ptNames L) (ws.take k) = ns at *
      generalize hee : placesE (ptNames L) e ((ws.take k).map Wnt.name) = ee at *
      have HO := Lib.hid ho
      have HON := Lib.hid hon
      have HBD := Lib.hid hbd
      obtain ⟨yn, yr⟩ := y
      clear hns hee ho hr hy hon hbd
      go_wp2_with fail
      have hbx := below_new wr (.cells #[.string yn, .bool yr] 130)
      have hBX := Blk.new wr #[.string yn, .bool yr] 130 (0, 0)
      have hsz : (wr.alloc (.cells #[.string yn, .bool yr] 130)).heap.size = wr.heap.size + 1 := by simp
      have HB1 := Lib.hid (HBD.out.stay hbx)
      have HO1 := Lib.hid (HO.out.stay hbx)
      have HN1 := Lib.hid (only_b HON.out hbx)
      generalize hgx : wr.heap.size = gx at *
      generalize wr.alloc (.cells #[.string yn, .bool yr] 130) = W at *
      have hgg : gx ≠ g := by omega
      have y0 := hBX.cell 0
      have y1 := hBX.cell 1
      simp only [List.getElem?_toArray, List.getElem?_cons_zero, List.getElem?_cons_succ] at y0 y1
      have HSP := Lib.hid (fun (W : World) (q : Int) (hb : BdAt w0 W B g (.slice A1 q1 d1) (.slice A2 q2 d2) (.slice A3 q3 d3) (.slice A4 q4 d4) cs L q) => (sl_of_own hb.pts (by decide) (by have := HQ.out; omega)).2)
      have HX1 := Lib.hid hBX
      have HD := Lib.hid (show Below W.heap.size W W.drew from below_drawn (Below.refl _ _) 1)
      have HS0 : Hid (BdAt w0 W.drew B g (.slice A1 q1 d1) (.slice A2 q2 d2) (.slice A3 q3 d3) (.slice A4 q4 d4) cs L ee ∧ Blk W.drew gx #[.string yn, .bool yr] 130 (0, 0)) := Lib.hid ⟨HB1.out.stay HD.out, HX1.out⟩
      have HSS := Lib.hid (fun (U : World) (q : Int) (h : BdAt w0 U B g (.slice A1 q1 d1) (.slice A2 q2 d2) (.slice A3 q3 d3) (.slice A4 q4 d4) cs L q ∧ Blk U gx #[.string yn, .bool yr] 130 (0, 0)) => (⟨h.1.cells.1, h.1.cells.2.1, h.1.cells.2.2.1, h.1.cells.2.2.2.1, by have := h.2.cell 0; simpa using this, by have := h.2.cell 1; simpa using this⟩ : U.cell? ⟨g, 0, none⟩ = some (.slice A1 q1 d1) ∧ U.cell? ⟨g, 1, none⟩ = some (.slice A2 q2 d2) ∧ U.cell? ⟨g, 2, none⟩ = some (.slice A3 q3 d3) ∧ U.cell? ⟨g, 3, none⟩ = some (.slice A4 q4 d4) ∧ U.cell? ⟨gx, 0, none⟩ = some (.string yn) ∧ U.cell? ⟨gx, 1, none⟩ = some (.bool yr)))
      clear hBX hbx y0 y1 x0 x1 hgx
      go_region_held3 (fun U => U.cell? ⟨g, 0, none⟩ = some (.slice A1 q1 d1) ∧ U.cell? ⟨g, 1, none⟩ = some (.slice A2 q2 d2) ∧ U.cell? ⟨g, 2, none⟩ = some (.slice A3 q3 d3) ∧ U.cell? ⟨g, 3, none⟩ = some (.slice A4 q4 d4) ∧ U.cell? ⟨gx, 0, none⟩ = some (.string yn) ∧ U.cell? ⟨gx, 1, none⟩ = some (.bool yr))
        (first | (with_reducible exact HSS.out _ _ HS7.out) | (with_reducible exact HSS.out _ _ HS6a.out) | (with_reducible exact HSS.out _ _ HS6.out) | (with_reducible exact HSS.out _ _ HS5.out) | (with_reducible exact HSS.out _ _ HS0.out))
        (first
          | (go_at_call 64; refine (PtNames2_calls L.pts (HSP.out _ _ HS0.out.1) (by omega)).mono ?_; rintro en w5 ⟨A5, c5, rfl, ho5, hs5, hb5⟩; have HO5 := Lib.hid hs5; have HS5 := Lib.hid (And.intro (HS0.out.1.stay hb5) (HS0.out.2.below hb5 HS0.out.2.lt)); have HB5 := Lib.hid (below_more HD.out hb5); clear ho5 hs5 hb5)
          | (go_at_call 65; refine (Place_calls HS5.out.1 A5 q2 c5 (ptNames L) HO5.out yn).mono ?_; rintro en w6 ⟨rfl, hp6⟩; have HS6 := Lib.hid (And.intro hp6.1 (HS5.out.2.only hp6.2 hgg)); have HO6 := Lib.hid ((HO1.out.stay HB5.out).only hp6.2 (fun k hk e => by have := HO1.out.base_ k hk; omega)); have HN6 := Lib.hid (only_g (only_b HN1.out HB5.out) hp6.2); have HS6a := Lib.hid (And.intro (HS6.out.1.stay (below_new w6 (.cells #[.int .i64 (idxS (ptNames L) yn), .bool yr] 46))) (HS6.out.2.below (below_new w6 (.cells #[.int .i64 (idxS (ptNames L) yn), .bool yr] 46)) HS6.out.2.lt)); have hs6 := HN6.out.size; clear hp6)
          | (refine step_append_any _ (by rfl) (.tmp 14) (.tmp 27) _ (by rfl) w.heap.size 46 i0 _ 2 16 Tryd.underlying42 hi0 hz0 hz1 hz2 rfl (by omega) (.slice Av ns.length cv) ns.length (ns.flatMap flN.enc) (by rfl) (HO6.out.alloc _) (w6.heap.size + 1) (some ⟨w6.heap.size, 0, none⟩) 1 1 (flN.enc ⟨idxS (ptNames L) yn, yr⟩) (by rfl) (box_at flN rfl _ _ ⟨idxS (ptNames L) yn, yr⟩ rfl) (flN.one _) (by simp only [maxLen]; omega) (by omega) (by simp; omega) ?_; intro v7 w7 hown7 hg7 hat7; obtain ⟨A7, c7, rfl⟩ := row_form hown7; have HS7 := Lib.hid (And.intro (H0.out.grown HS6a.out.1 hg7 HO6.out.base_) (HS6a.out.2.only (Only.of_grown hg7) (fun e => own_not_blk (HO6.out.stay (below_new w6 (.cells #[.int .i64 (idxS (ptNames L) yn), .bool yr] 46))) HS6a.out.2 (by decide) e))); have HN7 := Lib.hid (only_grown (only_b HN6.out (below_new w6 (.cells #[.int .i64 (idxS (ptNames L) yn), .bool yr] 46))) hg7 HO6.out.base_); have HO7 := Lib.hid (Ow.snoc hown7); clear hown7 hg7 hat7)
          | fail)
      all_goals go_wp2_with fail
      all_goals go_roundw
      case rel => exact ⟨k + 1, by omega, by go_num, Lib.hid ⟨by rw [HTK.out]; exact HO7.out, by rw [HPE.out]; exact ⟨HS7.out.1, HN7.out⟩⟩⟩
      case measure => simp [intOf]; omega
    · obtain rfl : k = m := by omega
      have HT := Lib.hid (show ws.take k = ws from List.take_of_length_le (by rw [HL.out]; omega))
      have HO := Lib.hid hr.out
      clear ho hr hlt hbd hon
      go_wp2_with fail
      go_ret
      have := HO.out
      rw [HT.out] at this
      rw [HT.out]
      exact ⟨_, rfl, this.1, this.2⟩
end
end Go.Proofs.YtmdnmiiggkfnfaaDoor

/- plan's printed: words with blanks between, and an end of line. -/
set_option linter.unusedVariables false
set_option linter.unusedSimpArgs false
namespace Go.Proofs.YtmdnmiiggkfnfaaDoor
open Go.RowKit

def joinB (xs : List ByteArray) : ByteArray := ⟨(Lib.join (xs.map (·.data.toList)) [32]).toArray⟩
def lnB (xs : List ByteArray) : ByteArray := joinB xs ++ ⟨#[10]⟩
theorem JoinS_calls {w : World} {A : Option Addr} {n c : Nat} (xs : List ByteArray) (hA : Sl flS w A n c xs) (hz : (joinB xs).size ≤ 140737488355328) :
    Calls Tryd.prog 49 #[.slice A n c, .string ⟨#[32]⟩] w fun e w' => e = .returned (.string (joinB xs)) ∧ Below w.heap.size w w' := by
  have hl := hA.len
  rcases Nat.eq_zero_or_pos n with h0 | h0
  · subst h0
    obtain rfl : xs = [] := List.eq_nil_of_length_eq_zero hl
    exact (Tryd.strings_Join_none A c ⟨#[32]⟩ w).mono fun e w' h => ⟨h.1, by rw [h.2]; exact Below.refl _ _⟩
  · obtain ⟨b, off, rfl, hc⟩ := hA.rf.2.2 h0
    have hcell : ∀ (j : Nat) x, xs[j]? = some x → w.cell? ⟨b, off + j, none⟩ = some (.string x) := fun j x hx => by
      have := hc j x hx 0 _ rfl
      simpa [flS] using this
    have hb : b < w.heap.size := by
      have hj : xs[0]? = some (xs[0]'(by omega)) := List.getElem?_eq_getElem (by omega)
      have h1 := hcell 0 _ hj
      exact cell_lt h1
    subst hl
    exact Tryd.strings_Join b off c xs ⟨#[32]⟩ w hcell hb (by have := hA.sz; omega) hA.le (by simpa [joinB, ByteArray.size] using hz)
theorem Printed_calls {w : World} {A : Option Addr} {n c : Nat} (xs : List ByteArray) (hA : Sl flS w A n c xs) (hz : (joinB xs).size ≤ 100000000000) :
    Calls Tryd.prog 32 #[.slice A n c] w fun e w' => e = .returned (.string (lnB xs)) ∧ Below w.heap.size w w' := by
  have HJ := Lib.hid (JoinS_calls xs hA (by omega))
  have HE : Hid (joinB xs ++ ⟨#[10]⟩ = lnB xs) := Lib.hid rfl
  generalize lnB xs = r at *
  generalize joinB xs = j at *
  clear hA
  go_enter Tryd.func32, Tryd.ntmps32
  go_wp2_with (first
    | (go_at_call 49; with_reducible refine HJ.out.mono ?_; rintro en w1 ⟨rfl, hb1⟩)
    | fail)
  go_ret
  exact ⟨by rw [← HE.out]; rfl, hb1⟩
end Go.Proofs.YtmdnmiiggkfnfaaDoor

/- A builder's rows grow; a builder beside a line. -/
set_option linter.unusedVariables false
set_option linter.unusedSimpArgs false
namespace Go.Proofs.YtmdnmiiggkfnfaaDoor
open Go.RowKit

section
variable {w0 w w1 : World} {B g : Nat} {v1 v2 v3 v4 : Value} {cs : List RtC} {L : Lay} {e : Int}
/-- What is of another type than the row that grew is kept. -/
theorem kept_type {α β : Type} {f : Fl α} {f' : Fl β} {t t' : TypeId} {v u : Value} {xs : List α} {ys : List β} {B' : Nat} (h : Ow f w B' t v xs) (h' : Ow f' w B t' u ys) (hne : t ≠ t') (hg : w.grownBy w1 u.ownBlock) : Ow f w1 B' t v xs :=
  h.kept hg (by
    rcases hv : v.ownBlock with _ | q
    · exact .inl rfl
    · exact .inr (fun e => own_not_own h h' hne q hv e.symm))
theorem rel_kept {β : Type} {f' : Fl β} {t' : TypeId} {u : Value} {ys : List β} {rs : List Rte} (h : RtsR w B cs rs) (h' : Ow f' w B t' u ys) (h1 : 3 ≠ t') (h2 : 46 ≠ t') (hg : w.grownBy w1 u.ownBlock) : RtsR w1 B cs rs :=
  ⟨h.len, fun j c x hc hx => by
    have r := h.all j c x hc hx
    exact ⟨r.name, r.frm, r.dst, kept_type r.path h' h1 hg, kept_type r.points h' h2 hg, kept_type r.flank h' h2 hg⟩⟩
theorem own_ne_bd {α : Type} {f : Fl α} {t : TypeId} {v : Value} {xs : List α} {B' : Nat} (h : BdAt w0 w B g v1 v2 v3 v4 cs L e) (ho : Ow f w B' t v xs) (hne : t ≠ 57) : v.ownBlock ≠ some g := own_not_blk ho h.blk hne
theorem new_ne {v1' v : Value} {g : Nat} (hat : v1'.ownBlock = v.ownBlock ∨ v1'.ownBlock = some w.heap.size) (h1 : v.ownBlock ≠ some g) (h2 : g < w.heap.size) : v1'.ownBlock ≠ some g := by
  rcases hat with e | e
  · rw [e]; exact h1
  · rw [e]; intro e2; injection e2 with e2; omega
theorem ap_new {v1' v u : Value} (hat : v1'.ownBlock = v.ownBlock ∨ v1'.ownBlock = some w.heap.size) (h1 : ∀ k, v.ownBlock = some k → u.ownBlock ≠ some k) (h2 : ∀ k, u.ownBlock = some k → k < w.heap.size) : ∀ k, v1'.ownBlock = some k → u.ownBlock ≠ some k := by
  intro k hk e
  rcases hat with e2 | e2
  · exact h1 k (by rw [← e2]; exact hk) e
  · rw [e2] at hk
    injection hk with hk
    have := h2 k e
    omega
theorem rel_far {rs : List Rte} (h : RtsR w B cs rs) {t : TypeId} {c : Array Value} {fr : Nat × Nat} (hb : Blk w g c t fr) (h1 : 3 ≠ t) (h2 : 46 ≠ t) (i : Nat) (u : Value) : RtsR (w.setCell ⟨g, i, none⟩ u) B cs rs :=
  ⟨h.len, fun j c x hc hx => by
    have r := h.all j c x hc hx
    exact ⟨r.name, r.frm, r.dst, r.path.far_ (own_not_blk r.path hb h1) _ _, r.points.far_ (own_not_blk r.points hb h2) _ _, r.flank.far_ (own_not_blk r.flank hb h2) _ _⟩⟩
theorem secs_app (h : BdAt w0 w B g v1 v2 v3 v4 cs L e) {t : ByteArray} {u : Value} (ho : w1.ownsRow B 9 1 u (L.secs.length + 1) (L.secs.flatMap flS.enc ++ [.string t])) (hg : w.grownBy w1 v1.ownBlock) (hat : u.ownBlock = v1.ownBlock ∨ u.ownBlock = some w.heap.size) (hl : L.secs.length + 1 ≤ 10) :
    BdAt w0 (w1.setCell ⟨g, 0, none⟩ u) B g u v2 v3 v4 cs { L with secs := L.secs ++ [t] } e := by
  have hlt := h.blk.lt
  have hO : Ow flS w1 B 9 u (L.secs ++ [t]) := Ow.snoc ho
  have hblk : Blk w1 g #[v1, v2, v3, v4, .int .i64 e] 57 (0, 0) := h.blk.only (Only.of_grown hg) (fun q => own_ne_bd h h.secs (by decide) q)
  have h2 := kept_type h.pts h.secs (by decide) hg
  have h3 : Ow flS w1 B 9 v3 L.sigs := h.sigs.kept hg (by
    rcases hv : v1.ownBlock with _ | q
    · rcases hv3 : v3.ownBlock with _ | q
      · exact .inl rfl
      · exact .inr (by simp)
    · exact .inr (h.ap q hv))
  have h4 := kept_type h.rtes h.secs (by decide) hg
  have h5 := rel_kept h.rel h.secs (by decide) (by decide) hg
  have hbelow := h.hb.grown hg h.hb.size (fun k hk => Nat.le_trans h.lB (h.secs.base_ k hk))
  exact ⟨h.tabs, hbelow.setCell (p := ⟨g, 0, none⟩) (Nat.le_trans h.lB h.Bg) u, h.lB, h.Bg, by have := hblk.put 0 u; simpa using this, hO.far_ (new_ne hat (own_ne_bd h h.secs (by decide)) hlt) _ _, h2.far_ (own_ne_bd h h.pts (by decide)) _ _, h3.far_ (own_ne_bd h h.sigs (by decide)) _ _, h4.far_ (own_ne_bd h h.rtes (by decide)) _ _, rel_far h5 hblk (by decide) (by decide) _ _,
    ap_new hat h.ap (fun k hk => Ow.lt_ h.sigs k hk), by rw [List.length_append, List.length_singleton]; exact hl, h.l2, h.l3, h.l4⟩
theorem sigs_app (h : BdAt w0 w B g v1 v2 v3 v4 cs L e) {t : ByteArray} {u : Value} (ho : w1.ownsRow B 9 1 u (L.sigs.length + 1) (L.sigs.flatMap flS.enc ++ [.string t])) (hg : w.grownBy w1 v3.ownBlock) (hat : u.ownBlock = v3.ownBlock ∨ u.ownBlock = some w.heap.size) (hl : L.sigs.length + 1 ≤ 6) :
    BdAt w0 (w1.setCell ⟨g, 2, none⟩ u) B g v1 v2 u v4 cs { L with sigs := L.sigs ++ [t] } e := by
  have hlt := h.blk.lt
  have hO : Ow flS w1 B 9 u (L.sigs ++ [t]) := Ow.snoc ho
  have hblk : Blk w1 g #[v1, v2, v3, v4, .int .i64 e] 57 (0, 0) := h.blk.only (Only.of_grown hg) (fun q => own_ne_bd h h.sigs (by decide) q)
  have h2 := kept_type h.pts h.sigs (by decide) hg
  have h3 : Ow flS w1 B 9 v1 L.secs := h.secs.kept hg (by
    rcases hv : v1.ownBlock with _ | q
    · exact .inl rfl
    · exact .inr (fun e => h.ap q hv e.symm))
  have h4 := kept_type h.rtes h.sigs (by decide) hg
  have h5 := rel_kept h.rel h.sigs (by decide) (by decide) hg
  have hbelow := h.hb.grown hg h.hb.size (fun k hk => Nat.le_trans h.lB (h.sigs.base_ k hk))
  refine ⟨h.tabs, hbelow.setCell (p := ⟨g, 2, none⟩) (Nat.le_trans h.lB h.Bg) u, h.lB, h.Bg, by have := hblk.put 2 u; simpa using this, h3.far_ (own_ne_bd h h.secs (by decide)) _ _, h2.far_ (own_ne_bd h h.pts (by decide)) _ _, hO.far_ (new_ne hat (own_ne_bd h h.sigs (by decide)) hlt) _ _, h4.far_ (own_ne_bd h h.rtes (by decide)) _ _, rel_far h5 hblk (by decide) (by decide) _ _,
    ?_, h.l1, h.l2, by rw [List.length_append, List.length_singleton]; exact hl, h.l4⟩
  intro k hk e
  exact ap_new hat (u := v1) (fun q hq e2 => h.ap q e2 hq) (fun q hq => Ow.lt_ h.secs q hq) k e hk
theorem pts_app (h : BdAt w0 w B g v1 v2 v3 v4 cs L e) {t : Pt} {u : Value} (ho : w1.ownsRow B 51 2 u (L.pts.length + 1) (L.pts.flatMap flP.enc ++ flP.enc t)) (hg : w.grownBy w1 v2.ownBlock) (hat : u.ownBlock = v2.ownBlock ∨ u.ownBlock = some w.heap.size) (hl : L.pts.length + 1 ≤ 5) :
    BdAt w0 (w1.setCell ⟨g, 1, none⟩ u) B g v1 u v3 v4 cs { L with pts := L.pts ++ [t] } e := by
  have hlt := h.blk.lt
  have hO : Ow flP w1 B 51 u (L.pts ++ [t]) := Ow.snoc ho
  have hblk : Blk w1 g #[v1, v2, v3, v4, .int .i64 e] 57 (0, 0) := h.blk.only (Only.of_grown hg) (fun q => own_ne_bd h h.pts (by decide) q)
  have h1 := kept_type h.secs h.pts (by decide) hg
  have h3 := kept_type h.sigs h.pts (by decide) hg
  have h4 := kept_type h.rtes h.pts (by decide) hg
  have h5 := rel_kept h.rel h.pts (by decide) (by decide) hg
  have hbelow := h.hb.grown hg h.hb.size (fun k hk => Nat.le_trans h.lB (h.pts.base_ k hk))
  exact ⟨h.tabs, hbelow.setCell (p := ⟨g, 1, none⟩) (Nat.le_trans h.lB h.Bg) u, h.lB, h.Bg, by have := hblk.put 1 u; simpa using this, h1.far_ (own_ne_bd h h.secs (by decide)) _ _, hO.far_ (new_ne hat (own_ne_bd h h.pts (by decide)) hlt) _ _, h3.far_ (own_ne_bd h h.sigs (by decide)) _ _, h4.far_ (own_ne_bd h h.rtes (by decide)) _ _, rel_far h5 hblk (by decide) (by decide) _ _,
    h.ap, h.l1, by rw [List.length_append, List.length_singleton]; exact hl, h.l3, h.l4⟩
theorem rtes_app (h : BdAt w0 w B g v1 v2 v3 v4 cs L e) {c : RtC} {x : Rte} (hr : RtR w B c x) {u : Value} (ho : w1.ownsRow B 44 6 u (cs.length + 1) (cs.flatMap flRc.enc ++ flRc.enc c)) (hg : w.grownBy w1 v4.ownBlock) (hat : u.ownBlock = v4.ownBlock ∨ u.ownBlock = some w.heap.size) (hl : L.rtes.length + 1 ≤ 6) :
    BdAt w0 (w1.setCell ⟨g, 3, none⟩ u) B g v1 v2 v3 u (cs ++ [c]) { L with rtes := L.rtes ++ [x] } e := by
  have hlt := h.blk.lt
  have hO : Ow flRc w1 B 44 u (cs ++ [c]) := Ow.snoc ho
  have hblk : Blk w1 g #[v1, v2, v3, v4, .int .i64 e] 57 (0, 0) := h.blk.only (Only.of_grown hg) (fun q => own_ne_bd h h.rtes (by decide) q)
  have h1 := kept_type h.secs h.rtes (by decide) hg
  have h2 := kept_type h.pts h.rtes (by decide) hg
  have h3 := kept_type h.sigs h.rtes (by decide) hg
  have hrel : RtsR w B (cs ++ [c]) (L.rtes ++ [x]) := by
    refine ⟨by rw [List.length_append, List.length_append, h.rel.len, List.length_singleton, List.length_singleton], fun j c' x' hc hx => ?_⟩
    have hlen := h.rel.len
    rcases Nat.lt_or_ge j cs.length with hj | hj
    · rw [List.getElem?_append_left hj] at hc
      rw [List.getElem?_append_left (by omega)] at hx
      exact h.rel.all j c' x' hc hx
    · rw [List.getElem?_append_right hj] at hc
      rw [List.getElem?_append_right (by omega)] at hx
      have hj0 : j - cs.length = 0 := by
        rcases Nat.eq_zero_or_pos (j - cs.length) with h0 | h0
        · exact h0
        · rw [List.getElem?_eq_none (by simp; omega)] at hc
          cases hc
      rw [hj0] at hc
      rw [← hlen, hj0] at hx
      simp only [List.getElem?_cons_zero, Option.some.injEq] at hc hx
      subst hc hx
      exact hr
  have h5 := rel_kept hrel h.rtes (by decide) (by decide) hg
  have hbelow := h.hb.grown hg h.hb.size (fun k hk => Nat.le_trans h.lB (h.rtes.base_ k hk))
  exact ⟨h.tabs, hbelow.setCell (p := ⟨g, 3, none⟩) (Nat.le_trans h.lB h.Bg) u, h.lB, h.Bg, by have := hblk.put 3 u; simpa using this, h1.far_ (own_ne_bd h h.secs (by decide)) _ _, h2.far_ (own_ne_bd h h.pts (by decide)) _ _, h3.far_ (own_ne_bd h h.sigs (by decide)) _ _, hO.far_ (new_ne hat (own_ne_bd h h.rtes (by decide)) hlt) _ _, rel_far h5 hblk (by decide) (by decide) _ _,
    h.ap, h.l1, h.l2, h.l3, by rw [List.length_append, List.length_singleton]; exact hl⟩
/-- Newer blocks have turned. -/
theorem BdAt.newer {S : Nat → Prop} (h : BdAt w0 w B g v1 v2 v3 v4 cs L e) (ho : Only S w w1) (hS : ∀ k, S k → B ≤ k ∧ k ≠ g) (h1 : ∀ k, S k → v1.ownBlock ≠ some k) (h2 : ∀ k, S k → v2.ownBlock ≠ some k) (h3 : ∀ k, S k → v3.ownBlock ≠ some k) (h4 : ∀ k, S k → v4.ownBlock ≠ some k) (hr : RtsR w1 B cs L.rtes) : BdAt w0 w1 B g v1 v2 v3 v4 cs L e :=
  ⟨h.tabs, h.hb.trans (ho.below h.hb.size (fun q _ hq => Nat.le_trans h.lB (hS q hq).1)), h.lB, h.Bg, h.blk.only ho (fun q => (hS g q).2 rfl), h.secs.only ho (fun k hk q => h1 k q hk), h.pts.only ho (fun k hk q => h2 k q hk), h.sigs.only ho (fun k hk q => h3 k q hk), h.rtes.only ho (fun k hk q => h4 k q hk), hr, h.ap, h.l1, h.l2, h.l3, h.l4⟩
end
/-- A builder, and the line's box beside it. -/
structure RPre (w0 w : World) (B g gx Bx : Nat) (k : ByteArray) (vn vv vs vf : Value) (xn xv : List ByteArray) (xs xf : List Wnt) (v1 v2 v3 v4 : Value) (cs : List RtC) (L : Lay) (U : World) (e : Int) : Prop where
  bd : BdAt w0 U B g v1 v2 v3 v4 cs L e
  bx : Blk U gx #[.string k, vn, vv, vs, vf] 86 (0, 0)
  nm : Ow flS U Bx 9 vn xn
  va : Ow flS U Bx 9 vv xv
  st : Ow flWn U Bx 130 vs xs
  fl : Ow flWn U Bx 130 vf xf
  on : Only (fun b => B ≤ b) w U
  lx : w.heap.size ≤ gx
  BW : B ≤ w.heap.size
section
variable {w0 w : World} {B g gx Bx : Nat} {k : ByteArray} {vn vv vs vf : Value} {xn xv : List ByteArray} {xs xf : List Wnt} {v1 v2 v3 v4 : Value} {cs : List RtC} {L : Lay} {U U1 : World} {e e' : Int}
theorem RPre.step (h : RPre w0 w B g gx Bx k vn vv vs vf xn xv xs xf v1 v2 v3 v4 cs L U e) (hp : BdP w0 U B g v1 v2 v3 v4 cs L e' U1) : RPre w0 w B g gx Bx k vn vv vs vf xn xv xs xf v1 v2 v3 v4 cs L U1 e' := by
  obtain ⟨hb, ho⟩ := hp
  have hne : ∀ {α : Type} {f : Fl α} {t : TypeId} {v : Value} {xs : List α}, Ow f U Bx t v xs → t ≠ 57 → Ow f U1 Bx t v xs := fun hw ht => hw.only ho (fun k hk e => own_not_blk hw h.bd.blk ht (by rw [hk]; exact congrArg some e))
  exact ⟨hb, h.bx.only ho (fun q => blk_not_blk h.bx h.bd.blk (by decide) q), hne h.nm (by decide), hne h.va (by decide), hne h.st (by decide), hne h.fl (by decide), h.on.trans ho (fun _ _ h => h) (fun q _ hq => by have := h.bd.Bg; have e : q = g := hq; omega), h.lx, h.BW⟩
theorem RPre.stay (h : RPre w0 w B g gx Bx k vn vv vs vf xn xv xs xf v1 v2 v3 v4 cs L U e) (hb : Below U.heap.size U U1) : RPre w0 w B g gx Bx k vn vv vs vf xn xv xs xf v1 v2 v3 v4 cs L U1 e :=
  h.step ⟨h.bd.stay hb, Only.of_below hb⟩
theorem RPre.xcells (h : RPre w0 w B g gx Bx k vn vv vs vf xn xv xs xf v1 v2 v3 v4 cs L U e) : U.cell? ⟨gx, 0, none⟩ = some (.string k) ∧ U.cell? ⟨gx, 1, none⟩ = some vn ∧ U.cell? ⟨gx, 2, none⟩ = some vv ∧ U.cell? ⟨gx, 3, none⟩ = some vs ∧ U.cell? ⟨gx, 4, none⟩ = some vf := by
  have c0 := h.bx.cell 0
  have c1 := h.bx.cell 1
  have c2 := h.bx.cell 2
  have c3 := h.bx.cell 3
  have c4 := h.bx.cell 4
  simp only [List.getElem?_toArray, List.getElem?_cons_zero, List.getElem?_cons_succ] at c0 c1 c2 c3 c4
  exact ⟨c0, c1, c2, c3, c4⟩
/-- A name of the line. -/
theorem own_str {w : World} {B : Nat} {t : TypeId} {v : Value} {xs : List ByteArray} (h : Ow flS w B t v xs) (hn : 0 < xs.length) : ∃ b cap, v = .slice (some ⟨b, 0, none⟩) xs.length cap ∧ ∀ (j : Nat) (y : ByteArray), xs[j]? = some y → w.cell? ⟨b, j, none⟩ = some (.string y) := by
  obtain ⟨b, cap, rfl, _, _⟩ := h.form hn
  refine ⟨b, cap, rfl, fun j y hy => ?_⟩
  have := Ow.cell1 h (j := j) (i := 0) hy (by decide) (u := .string y) rfl
  simpa [flS] using this
end
end Go.Proofs.YtmdnmiiggkfnfaaDoor

/- The reference's wants: its Needs as words. -/
set_option linter.unusedVariables false
set_option linter.unusedSimpArgs false
namespace Go.Proofs.YtmdnmiiggkfnfaaDoor
open Go.RowKit

def ptNm (L : Lay) (i : Int) : ByteArray := (L.pts.getD i.toNat ⟨ByteArray.empty, 0⟩).name
def signB (r : Bool) : ByteArray := if r then ⟨#[45]⟩ else ⟨#[43]⟩
def wantsR (L : Lay) (ns : List Need) : ByteArray := ns.foldl (fun s x => ((s ++ ⟨#[32]⟩) ++ ptNm L x.p) ++ signB x.r) ⟨#[]⟩
theorem wantsR_snoc (L : Lay) (ns : List Need) (x : Need) : wantsR L (ns ++ [x]) = ((wantsR L ns ++ ⟨#[32]⟩) ++ ptNm L x.p) ++ signB x.r := by
  unfold wantsR
  rw [List.foldl_append]
  rfl
theorem signB_size (r : Bool) : (signB r).size = 1 := by cases r <;> rfl
theorem wantsR_mono (L : Lay) : ∀ (b a : List Need), (wantsR L a).size ≤ (wantsR L (a ++ b)).size
  | [], a => by simp
  | x :: b, a => by
    have h := wantsR_mono L b (a ++ [x])
    rw [wantsR_snoc, List.append_assoc] at h
    simp only [ByteArray.size_append, List.singleton_append] at h
    omega
theorem wantsR_take (L : Lay) (ns : List Need) (k : Nat) : (wantsR L (ns.take k)).size ≤ (wantsR L ns).size := by
  have := wantsR_mono L (ns.drop k) (ns.take k)
  rwa [List.take_append_drop] at this
theorem pt_nm {L : Lay} {i : Int} {y : Pt} (h : L.pts[i.toNat]? = some y) : ptNm L i = y.name := by
  unfold ptNm
  rw [List.getD_eq_getElem?_getD, h]
  rfl
def InPts (L : Lay) (ns : List Need) : Prop := ∀ x ∈ ns, 0 ≤ x.p ∧ x.p < L.pts.length
section
variable {L : Lay} {A1 A2 A3 A4 Q : Option Addr} {n1 c1 n2 c2 n3 c3 n4 c4 q qc : Nat} {ns : List Need}
set_option maxRecDepth 20000 in
set_option maxHeartbeats 4000000 in
theorem RWants_calls (w : World) (hL : LayV w L A1 A2 A3 A4 n1 c1 n2 c2 n3 c3 n4 c4) (hQ : Sl flN w Q q qc ns) (hP : InPts L ns) (hz : (wantsR L ns).size ≤ 1000000000000) :
    Calls Tryd.prog 26 #[.agg #[.slice A1 n1 c1, .slice A2 n2 c2, .slice A3 n3 c3, .slice A4 n4 c4], .slice Q q qc] w fun e w' => e = .returned (.string (wantsR L ns)) ∧ Below w.heap.size w w' := by
  have hbw : Below w.heap.size w (w.alloc (.cells #[.slice A1 n1 c1, .slice A2 n2 c2, .slice A3 n3 c3, .slice A4 n4 c4] 26)) := below_new w _
  have hB := Blk.new w #[.slice A1 n1 c1, .slice A2 n2 c2, .slice A3 n3 c3, .slice A4 n4 c4] 26 (0, 0)
  have HX : Hid (LayX (w.alloc (.cells #[.slice A1 n1 c1, .slice A2 n2 c2, .slice A3 n3 c3, .slice A4 n4 c4] 26)) w.heap.size L A1 A2 A3 A4 n1 c1 n2 c2 n3 c3 n4 c4) := Lib.hid ⟨hB.cell 0, hB.cell 1, hB.cell 2, hB.cell 3, hL.stay hbw⟩
  have HQ : Hid (Sl flN (w.alloc (.cells #[.slice A1 n1 c1, .slice A2 n2 c2, .slice A3 n3 c3, .slice A4 n4 c4] 26)) Q q qc ns) := Lib.hid (hQ.stay hbw)
  have HL := Lib.hid hQ.len
  have HZ := Lib.hid hz
  have HP := Lib.hid hP
  have HL2 := Lib.hid hL.pts.len
  have HBW := Lib.hid hbw
  have hsz : (w.alloc (.cells #[.slice A1 n1 c1, .slice A2 n2 c2, .slice A3 n3 c3, .slice A4 n4 c4] 26)).heap.size = w.heap.size + 1 := by simp
  have hcap := Nat.le_trans hQ.le hQ.cap
  have hz2 := hL.pts.sz
  have hc2 := Nat.le_trans hL.pts.le hL.pts.cap
  clear hL hQ hP hB hbw hz
  go_enter Tryd.func26, Tryd.ntmps26
  go_wp2_with fail
  generalize hg : w.heap.size = g at *
  generalize w.alloc (.cells #[.slice A1 n1 c1, .slice A2 n2 c2, .slice A3 n3 c3, .slice A4 n4 c4] 26) = W at *
  go_loopw [5, 6] (fun s i wr => ∃ k : Nat, k ≤ q ∧ i = .int .i64 k ∧ s = .string (wantsR L (ns.take k)) ∧ Below W.heap.size W wr) (fun _ i _ => q - (intOf i).toNat)
  case atStart => exact ⟨0, by omega, rfl, rfl, Below.refl _ _⟩
  case round =>
    obtain ⟨k, hk, rfl, rfl, hb⟩ := hrel
    by_cases hlt : k < q
    · obtain ⟨b, off, y, rfl, hy, x0, x1⟩ := (HQ.out.stay hb).need hlt
      obtain ⟨hp0, hp1⟩ := HP.out y (List.mem_of_getElem? hy)
      have HS := Lib.hid (show wantsR L (ns.take (k + 1)) = _ by rw [take_more hy, wantsR_snoc])
      have b1 := (HX.out.stay hb).b1
      obtain ⟨yp, yr⟩ := y
      simp only at hp0 hp1 x0 x1 HS
      have hi : yp.toNat < n2 := by rw [← HL2.out]; omega
      obtain ⟨b2, off2, z, rfl, hz, z0, z1⟩ := (HX.out.v.pts.stay hb).pt hi
      have HN := Lib.hid (pt_nm hz)
      have hyp : ((yp.toNat : Nat) : Int) = yp := by omega
      generalize hyn : yp.toNat = ypn at *
      subst hyp
      rw [HN.out] at HS
      generalize hs0 : wantsR L (ns.take k) = s0 at *
      obtain ⟨zn, zs⟩ := z
      simp only at z0 z1 HS
      have hzs := Nat.le_trans (wantsR_take L ns (k + 1)) HZ.out
      rw [HS.out] at hzs
      simp only [ByteArray.size_append, signB_size] at hzs
      have e32 : (⟨#[32]⟩ : ByteArray).size = 1 := rfl
      rw [e32] at hzs
      clear e32
      have HB := Lib.hid hb
      clear hb hy hz hs0 hyn
      have Lb1 := later_cell b1
      have Lx0 := later_cell x0
      have Lx1 := later_cell x1
      have Lz0 := later_cell z0
      cases yr
      all_goals
        go_wp2_with fail
        refine wp_region_later (by kernel_rfl) (by kernel_rfl) ?_
        repeat (go_big_quiet_step (fail))
        refine wpQuiet_nil ?_
        intro q0
        replace x1 := cell_stay q0.hb x1
        go_wp2_with fail
        go_roundw
      all_goals first
        | exact ⟨k + 1, by omega, by go_num, by rw [HS.out]; rfl, below_more HB.out q0.hb⟩
        | (simp [intOf]; omega)
    · obtain rfl : k = q := by omega
      have HT := Lib.hid (show ns.take k = ns from List.take_of_length_le (by rw [HL.out]; omega))
      go_wp2_with fail
      go_ret
      refine ⟨?_, ?_⟩
      · rw [HT.out]; rfl
      · exact below_more (by rw [hg]; exact HBW.out) hb
end
end Go.Proofs.YtmdnmiiggkfnfaaDoor

/- The reference's Same: are two layouts one? -/
set_option linter.unusedVariables false
set_option linter.unusedSimpArgs false
namespace Go.Proofs.YtmdnmiiggkfnfaaDoor
open Go.RowKit

/-- A row of routes, however it has come to be. -/
structure RtsG (w : World) (A : Option Addr) (n c : Nat) (xs : List Rte) : Prop where
  len : xs.length = n
  le : n ≤ c
  cap : c ≤ 9223372036854775807
  sz : n ≤ 140737488351232
  at_ : ∀ j, j < n → ∃ b off x P Q F p pc q qc f fc, A = some ⟨b, off, none⟩ ∧ xs[j]? = some x ∧
    w.cell? ⟨b, off + j * 6, none⟩ = some (.string x.name) ∧ w.cell? ⟨b, off + j * 6 + 1, none⟩ = some (.int .i64 x.frm) ∧ w.cell? ⟨b, off + j * 6 + 2, none⟩ = some (.int .i64 x.dest) ∧
    w.cell? ⟨b, off + j * 6 + 3, none⟩ = some (.slice P p pc) ∧ w.cell? ⟨b, off + j * 6 + 4, none⟩ = some (.slice Q q qc) ∧ w.cell? ⟨b, off + j * 6 + 5, none⟩ = some (.slice F f fc) ∧ RteV w x P Q F p pc q qc f fc
theorem RtsG.stay {w w1 : World} {A : Option Addr} {n c : Nat} {xs : List Rte} (h : RtsG w A n c xs) (hb : Below w.heap.size w w1) : RtsG w1 A n c xs :=
  ⟨h.len, h.le, h.cap, h.sz, fun j hj => by
    obtain ⟨b, off, x, P, Q, F, p, pc, q, qc, f, fc, e, hx, k0, k1, k2, k3, k4, k5, hv⟩ := h.at_ j hj
    exact ⟨b, off, x, P, Q, F, p, pc, q, qc, f, fc, e, hx, cell_stay hb k0, cell_stay hb k1, cell_stay hb k2, cell_stay hb k3, cell_stay hb k4, cell_stay hb k5, hv.stay hb⟩⟩
theorem Rts.g {w : World} {A : Option Addr} {n c : Nat} {xs : List Rte} (h : Rts w A n c xs) : RtsG w A n c xs := ⟨h.len, h.le, h.cap, h.rd.2.1, fun j hj => h.at_ hj⟩
structure LayG (w : World) (L : Lay) (A1 A2 A3 A4 : Option Addr) (n1 c1 n2 c2 n3 c3 n4 c4 : Nat) : Prop where
  secs : Sl flS w A1 n1 c1 L.secs
  pts : Sl flP w A2 n2 c2 L.pts
  sigs : Sl flS w A3 n3 c3 L.sigs
  rtes : RtsG w A4 n4 c4 L.rtes
section
variable {L M : Lay} {A1 A2 A3 A4 B1 B2 B3 B4 : Option Addr} {n1 c1 n2 c2 n3 c3 n4 c4 m1 d1 m2 d2 m3 d3 m4 d4 : Nat}
theorem LayG.stay {w w1 : World} (h : LayG w L A1 A2 A3 A4 n1 c1 n2 c2 n3 c3 n4 c4) (hb : Below w.heap.size w w1) : LayG w1 L A1 A2 A3 A4 n1 c1 n2 c2 n3 c3 n4 c4 := ⟨h.secs.stay hb, h.pts.stay hb, h.sigs.stay hb, h.rtes.stay hb⟩
theorem LayV.g {w : World} (h : LayV w L A1 A2 A3 A4 n1 c1 n2 c2 n3 c3 n4 c4) : LayG w L A1 A2 A3 A4 n1 c1 n2 c2 n3 c3 n4 c4 := ⟨h.secs, h.pts, h.sigs, h.rtes.g⟩
theorem lay_ne (h : L.secs ≠ M.secs ∨ L.sigs ≠ M.sigs ∨ L.pts ≠ M.pts ∨ L.rtes ≠ M.rtes) : decide (L = M) = false := by
  refine decide_eq_false ?_
  rintro rfl
  rcases h with h | h | h | h <;> exact h rfl
theorem lay_eq (h1 : L.secs = M.secs) (h2 : L.sigs = M.sigs) (h3 : L.pts = M.pts) (h4 : L.rtes = M.rtes) : decide (L = M) = true := by
  refine decide_eq_true ?_
  obtain ⟨a, b, c, d⟩ := L
  obtain ⟨a', b', c', d'⟩ := M
  simp only at h1 h2 h3 h4
  rw [h1, h2, h3, h4]
set_option maxRecDepth 20000 in
set_option maxHeartbeats 8000000 in
theorem Same3_calls (w : World) (hL : LayG w L A1 A2 A3 A4 n1 c1 n2 c2 n3 c3 n4 c4) (hM : LayG w M B1 B2 B3 B4 m1 d1 m2 d2 m3 d3 m4 d4) :
    Calls Tryd.prog 17 #[.agg #[.slice A1 n1 c1, .slice A2 n2 c2, .slice A3 n3 c3, .slice A4 n4 c4], .agg #[.slice B1 m1 d1, .slice B2 m2 d2, .slice B3 m3 d3, .slice B4 m4 d4]] w fun e w' => e = .returned (.bool (decide (L = M))) ∧ Below w.heap.size w w' := by
  have hw0 : Below w.heap.size w ((w.alloc (.cells #[.slice A1 n1 c1, .slice A2 n2 c2, .slice A3 n3 c3, .slice A4 n4 c4] 26)).alloc (.cells #[.slice B1 m1 d1, .slice B2 m2 d2, .slice B3 m3 d3, .slice B4 m4 d4] 26)) := (below_new w _).alloc (by simp) _
  have hB := (Blk.new w #[.slice A1 n1 c1, .slice A2 n2 c2, .slice A3 n3 c3, .slice A4 n4 c4] 26 (0, 0)).alloc (.cells #[.slice B1 m1 d1, .slice B2 m2 d2, .slice B3 m3 d3, .slice B4 m4 d4] 26)
  have hC := Blk.at_ (w := w.alloc (.cells #[.slice A1 n1 c1, .slice A2 n2 c2, .slice A3 n3 c3, .slice A4 n4 c4] 26)) (g := w.heap.size + 1) (by simp) #[.slice B1 m1 d1, .slice B2 m2 d2, .slice B3 m3 d3, .slice B4 m4 d4] 26 (0, 0)
  have a0 := hB.cell 0
  have a1 := hB.cell 1
  have a2 := hB.cell 2
  have a3 := hB.cell 3
  have b0 := hC.cell 0
  have b1 := hC.cell 1
  have b2 := hC.cell 2
  have b3 := hC.cell 3
  simp only [List.getElem?_toArray, List.getElem?_cons_zero, List.getElem?_cons_succ] at a0 a1 a2 a3 b0 b1 b2 b3
  have HL := Lib.hid (hL.stay hw0)
  have HM := Lib.hid (hM.stay hw0)
  have HLN := Lib.hid (And.intro hL.pts.len (And.intro hM.pts.len (And.intro hL.rtes.len hM.rtes.len)))
  have zn2 := Nat.le_trans hL.pts.le hL.pts.cap
  have zm2 := Nat.le_trans hM.pts.le hM.pts.cap
  have zn4 := Nat.le_trans hL.rtes.le hL.rtes.cap
  have zm4 := Nat.le_trans hM.rtes.le hM.rtes.cap
  have sn2 := hL.pts.sz
  have sn4 := hL.rtes.sz
  have HBW := Lib.hid hw0
  clear hL hM hB hC
  go_enter Tryd.func17, Tryd.ntmps17
  go_upto_region 1 with fail
  have hsz : ((w.alloc (.cells #[.slice A1 n1 c1, .slice A2 n2 c2, .slice A3 n3 c3, .slice A4 n4 c4] 26)).alloc (.cells #[.slice B1 m1 d1, .slice B2 m2 d2, .slice B3 m3 d3, .slice B4 m4 d4] 26)).heap.size = w.heap.size + 2 := by simp
  generalize ((w.alloc (.cells #[.slice A1 n1 c1, .slice A2 n2 c2, .slice A3 n3 c3, .slice A4 n4 c4] 26)).alloc (.cells #[.slice B1 m1 d1, .slice B2 m2 d2, .slice B3 m3 d3, .slice B4 m4 d4] 26)) = W at *
  generalize hg : w.heap.size = g at *
  have HG := Lib.hid hg
  clear hg hw0
  have K1 := Lib.hid (Texts3_calls A1 B1 n1 m1 c1 d1 L.secs M.secs W HL.out.secs HM.out.secs)
  have K2 := Lib.hid (fun (U : World) (h : Below W.heap.size W U) => Texts3_calls A3 B3 n3 m3 c3 d3 L.sigs M.sigs U (HL.out.sigs.stay h) (HM.out.sigs.stay h))
  generalize hd1 : decide (L.secs = M.secs) = x1 at *
  generalize hd2 : decide (L.sigs = M.sigs) = x2 at *
  have HD1 := Lib.hid hd1
  have HD2 := Lib.hid hd2
  clear hd1 hd2
  have HA : Hid (W.cell? ⟨g, 1, none⟩ = some (.slice A2 n2 c2) ∧ W.cell? ⟨g + 1, 1, none⟩ = some (.slice B2 m2 d2) ∧ W.cell? ⟨g, 3, none⟩ = some (.slice A4 n4 c4) ∧ W.cell? ⟨g + 1, 3, none⟩ = some (.slice B4 m4 d4)) := Lib.hid ⟨a1, b1, a3, b3⟩
  cases x1 with
  | false =>
    go_wp2_with (first | (go_at_call 29; (with_reducible refine K1.out.mono ?_); rintro en w1 ⟨rfl, hb1⟩; (replace a0 := cell_stay hb1 a0); (replace a1 := cell_stay hb1 a1); (replace a2 := cell_stay hb1 a2); (replace a3 := cell_stay hb1 a3); (replace b0 := cell_stay hb1 b0); (replace b1 := cell_stay hb1 b1); (replace b2 := cell_stay hb1 b2); (replace b3 := cell_stay hb1 b3); have HB1 := Lib.hid hb1; clear hb1) | fail)
    go_ret
    exact ⟨ret_bool (by rw [lay_ne (.inl (of_decide_eq_false HD1.out))]), below_more (by rw [HG.out]; exact HBW.out) HB1.out⟩
  | true =>
  cases x2 with
  | false =>
    go_wp2_with (first | (go_at_call 29; (with_reducible refine K1.out.mono ?_); rintro en w1 ⟨rfl, hb1⟩; (replace a0 := cell_stay hb1 a0); (replace a1 := cell_stay hb1 a1); (replace a2 := cell_stay hb1 a2); (replace a3 := cell_stay hb1 a3); (replace b0 := cell_stay hb1 b0); (replace b1 := cell_stay hb1 b1); (replace b2 := cell_stay hb1 b2); (replace b3 := cell_stay hb1 b3); have HB1 := Lib.hid hb1; clear hb1) | (go_at_call 29; (with_reducible refine (K2.out _ HB1.out).mono ?_); rintro en w2 ⟨rfl, hb2⟩; (replace a0 := cell_stay hb2 a0); (replace a1 := cell_stay hb2 a1); (replace a2 := cell_stay hb2 a2); (replace a3 := cell_stay hb2 a3); (replace b0 := cell_stay hb2 b0); (replace b1 := cell_stay hb2 b1); (replace b2 := cell_stay hb2 b2); (replace b3 := cell_stay hb2 b3); have HB2 := Lib.hid (below_more HB1.out hb2); clear hb2) | fail)
    go_ret
    exact ⟨ret_bool (by rw [lay_ne (.inr (.inl (of_decide_eq_false HD2.out)))]), below_more (by rw [HG.out]; exact HBW.out) HB2.out⟩
  | true =>
  by_cases hn2 : n2 = m2
  case neg =>
    have HNE : Hid (L.pts ≠ M.pts) := Lib.hid (fun e => hn2 (by rw [← HLN.out.1, ← HLN.out.2.1, e]))
    have hb : ((n2 : Int) != (m2 : Int)) = true := by simp; omega
    clear hn2
    go_wp2_with (first | (go_at_call 29; (with_reducible refine K1.out.mono ?_); rintro en w1 ⟨rfl, hb1⟩; (replace a0 := cell_stay hb1 a0); (replace a1 := cell_stay hb1 a1); (replace a2 := cell_stay hb1 a2); (replace a3 := cell_stay hb1 a3); (replace b0 := cell_stay hb1 b0); (replace b1 := cell_stay hb1 b1); (replace b2 := cell_stay hb1 b2); (replace b3 := cell_stay hb1 b3); have HB1 := Lib.hid hb1; clear hb1) | (go_at_call 29; (with_reducible refine (K2.out _ HB1.out).mono ?_); rintro en w2 ⟨rfl, hb2⟩; (replace a0 := cell_stay hb2 a0); (replace a1 := cell_stay hb2 a1); (replace a2 := cell_stay hb2 a2); (replace a3 := cell_stay hb2 a3); (replace b0 := cell_stay hb2 b0); (replace b1 := cell_stay hb2 b1); (replace b2 := cell_stay hb2 b2); (replace b3 := cell_stay hb2 b3); have HB2 := Lib.hid (below_more HB1.out hb2); clear hb2) | fail)
    go_ret
    exact ⟨ret_bool (by rw [lay_ne (.inr (.inr (.inl HNE.out)))]), below_more (by rw [HG.out]; exact HBW.out) HB2.out⟩
  subst hn2
  by_cases hn4 : n4 = m4
  case neg =>
    have HNE : Hid (L.rtes ≠ M.rtes) := Lib.hid (fun e => hn4 (by rw [← HLN.out.2.2.1, ← HLN.out.2.2.2, e]))
    have hb : ((n4 : Int) != (m4 : Int)) = true := by simp; omega
    clear hn4
    go_wp2_with (first | (go_at_call 29; (with_reducible refine K1.out.mono ?_); rintro en w1 ⟨rfl, hb1⟩; (replace a0 := cell_stay hb1 a0); (replace a1 := cell_stay hb1 a1); (replace a2 := cell_stay hb1 a2); (replace a3 := cell_stay hb1 a3); (replace b0 := cell_stay hb1 b0); (replace b1 := cell_stay hb1 b1); (replace b2 := cell_stay hb1 b2); (replace b3 := cell_stay hb1 b3); have HB1 := Lib.hid hb1; clear hb1) | (go_at_call 29; (with_reducible refine (K2.out _ HB1.out).mono ?_); rintro en w2 ⟨rfl, hb2⟩; (replace a0 := cell_stay hb2 a0); (replace a1 := cell_stay hb2 a1); (replace a2 := cell_stay hb2 a2); (replace a3 := cell_stay hb2 a3); (replace b0 := cell_stay hb2 b0); (replace b1 := cell_stay hb2 b1); (replace b2 := cell_stay hb2 b2); (replace b3 := cell_stay hb2 b3); have HB2 := Lib.hid (below_more HB1.out hb2); clear hb2) | fail)
    go_ret
    exact ⟨ret_bool (by rw [lay_ne (.inr (.inr (.inr HNE.out)))]), below_more (by rw [HG.out]; exact HBW.out) HB2.out⟩
  subst hn4
  go_upto_block 0 with (first | (go_at_call 29; (with_reducible refine K1.out.mono ?_); rintro en w1 ⟨rfl, hb1⟩; (replace a0 := cell_stay hb1 a0); (replace a1 := cell_stay hb1 a1); (replace a2 := cell_stay hb1 a2); (replace a3 := cell_stay hb1 a3); (replace b0 := cell_stay hb1 b0); (replace b1 := cell_stay hb1 b1); (replace b2 := cell_stay hb1 b2); (replace b3 := cell_stay hb1 b3); have HB1 := Lib.hid hb1; clear hb1) | (go_at_call 29; (with_reducible refine (K2.out _ HB1.out).mono ?_); rintro en w2 ⟨rfl, hb2⟩; (replace a0 := cell_stay hb2 a0); (replace a1 := cell_stay hb2 a1); (replace a2 := cell_stay hb2 a2); (replace a3 := cell_stay hb2 a3); (replace b0 := cell_stay hb2 b0); (replace b1 := cell_stay hb2 b1); (replace b2 := cell_stay hb2 b2); (replace b3 := cell_stay hb2 b3); have HB2 := Lib.hid (below_more HB1.out hb2); clear hb2) | fail)
  clear a0 a1 a2 a3 b0 b1 b2 b3
  go_cut [5] (fun s5 wx => Hid (L.pts = M.pts) ∧ Below W.heap.size W wx)
  case first =>
    go_wp2_with fail
    go_loopw [5] (fun i wr => ∃ k : Nat, k ≤ n2 ∧ i = .int .i64 k ∧ Hid (L.pts.take k = M.pts.take k) ∧ Below W.heap.size W wr) (fun i _ => n2 - (intOf i).toNat)
    case atStart => exact ⟨0, by omega, rfl, Lib.hid rfl, HB2.out⟩
    case round =>
      obtain ⟨k, hk, rfl, hr, hbr⟩ := hrel
      have a1 := cell_stay hbr HA.out.1
      have b1 := cell_stay hbr HA.out.2.1
      by_cases hlt : k < n2
      · obtain ⟨ba, oa, x, rfl, hx, ca0, ca1⟩ := (HL.out.pts.stay hbr).pt hlt
        obtain ⟨bb, ob, y, rfl, hy, cb0, cb1⟩ := (HM.out.pts.stay hbr).pt hlt
        have HX := Lib.hid hx
        have HY := Lib.hid hy
        have HBR := Lib.hid hbr
        clear hx hy hbr
        have hq := run_neq_of (eqv_pt x y) (by omega)
        by_cases hxy : x = y
        · rw [decide_eq_true hxy] at hq
          have HXY := Lib.hid hxy
          clear hxy
          go_wp2_with fail
          go_quiet (fail)
          go_wp2_with fail
          go_roundw
          case rel => exact ⟨k + 1, by omega, by go_num, Lib.hid (take_eq_step HX.out HY.out hr.out HXY.out), below_drawn HBR.out _⟩
          case measure => simp [intOf]; omega
        · rw [decide_eq_false hxy] at hq
          have HXY := Lib.hid hxy
          clear hxy
          go_wp2_with fail
          go_quiet (fail)
          go_wp2_with fail
          go_ret
          exact ⟨ret_bool (by rw [lay_ne (.inr (.inr (.inl (ne_of_at HX.out HY.out HXY.out))))]), below_more (by rw [HG.out]; exact HBW.out) (below_drawn HBR.out _)⟩
      · have hkn : k = n2 := by omega
        have hfin : L.pts = M.pts := by
          have := hr.out
          rw [hkn, List.take_of_length_le (by have := HLN.out; omega), List.take_of_length_le (by have := HLN.out; omega)] at this
          exact this
        have HF := Lib.hid hfin
        clear hkn hfin
        go_wp2_with fail
        go_meet
        exact ⟨HF, hbr⟩
  case rest =>
  obtain ⟨HPT, hbc⟩ := hcut
  have HBC := Lib.hid hbc
  clear hbc
  go_wp2_with fail
  go_loopw [6] (fun i wr => ∃ k : Nat, k ≤ n4 ∧ i = .int .i64 k ∧ Hid (L.rtes.take k = M.rtes.take k) ∧ Below W.heap.size W wr) (fun i _ => n4 - (intOf i).toNat)
  case atStart => exact ⟨0, by omega, rfl, Lib.hid rfl, HBC.out⟩
  case round =>
    obtain ⟨k, hk, rfl, hr, hbr⟩ := hrel
    have a3 := cell_stay hbr HA.out.2.2.1
    have b3 := cell_stay hbr HA.out.2.2.2
    by_cases hlt : k < n4
    · obtain ⟨b, off, x, P, Q, F, p, pc, q, qc, f, fc, rfl, hx, k0, k1, k2, k3, k4, k5, hv⟩ := (HL.out.rtes.stay hbr).at_ k hlt
      obtain ⟨b', off', y, P2, Q2, F2, p2, pc2, q2, qc2, f2, fc2, rfl, hy, j0, j1, j2, j3, j4, j5, hu⟩ := (HM.out.rtes.stay hbr).at_ k hlt
      have HX := Lib.hid hx
      have HY := Lib.hid hy
      have HV := Lib.hid hv
      have HU := Lib.hid hu
      have HBR := Lib.hid hbr
      obtain ⟨xn, xf, xd, xp, xq, xl⟩ := x
      obtain ⟨yn, yf, yd, yp, yq, yl⟩ := y
      simp only at k0 k1 k2 j0 j1 j2
      clear hx hy hbr hv hu
      go_upto_region 11 with fail
      generalize hgw : wr.heap.size = gw at *
      go_cut [7, 8] (fun s7 s8 wx => ∃ g7 g8 : Nat, s7 = .pointer (some ⟨g7, 0, none⟩) ∧ s8 = .pointer (some ⟨g8, 0, none⟩) ∧ Below wr.heap.size wr wx ∧ Blk wx g7 #[.string xn, .int .i64 xf, .int .i64 xd, .slice P p pc, .slice Q q qc, .slice F f fc] 44 (0, 0) ∧ Blk wx g8 #[.string yn, .int .i64 yf, .int .i64 yd, .slice P2 p2 pc2, .slice Q2 q2 qc2, .slice F2 f2 fc2] 44 (0, 0))
      case first =>
        have KEEP := Lib.hid (fun (U : World) (hb : Below wr.heap.size wr U) => (⟨cell_stay hb a3, cell_stay hb b3, cell_stay hb k0, cell_stay hb k1, cell_stay hb k2, cell_stay hb k3, cell_stay hb k4, cell_stay hb k5, cell_stay hb j0, cell_stay hb j1, cell_stay hb j2, cell_stay hb j3, cell_stay hb j4, cell_stay hb j5⟩ : U.cell? ⟨g, 3, none⟩ = some (.slice (some ⟨b, off, none⟩) n4 c4) ∧ U.cell? ⟨g + 1, 3, none⟩ = some (.slice (some ⟨b', off', none⟩) n4 d4) ∧ U.cell? ⟨b, off + k * 6, none⟩ = some (.string xn) ∧ U.cell? ⟨b, off + k * 6 + 1, none⟩ = some (.int .i64 xf) ∧ U.cell? ⟨b, off + k * 6 + 2, none⟩ = some (.int .i64 xd) ∧ U.cell? ⟨b, off + k * 6 + 3, none⟩ = some (.slice P p pc) ∧ U.cell? ⟨b, off + k * 6 + 4, none⟩ = some (.slice Q q qc) ∧ U.cell? ⟨b, off + k * 6 + 5, none⟩ = some (.slice F f fc) ∧ U.cell? ⟨b', off' + k * 6, none⟩ = some (.string yn) ∧ U.cell? ⟨b', off' + k * 6 + 1, none⟩ = some (.int .i64 yf) ∧ U.cell? ⟨b', off' + k * 6 + 2, none⟩ = some (.int .i64 yd) ∧ U.cell? ⟨b', off' + k * 6 + 3, none⟩ = some (.slice P2 p2 pc2) ∧ U.cell? ⟨b', off' + k * 6 + 4, none⟩ = some (.slice Q2 q2 qc2) ∧ U.cell? ⟨b', off' + k * 6 + 5, none⟩ = some (.slice F2 f2 fc2)))
        go_region_held3 (fun U => U.cell? ⟨g, 3, none⟩ = some (.slice (some ⟨b, off, none⟩) n4 c4) ∧ U.cell? ⟨g + 1, 3, none⟩ = some (.slice (some ⟨b', off', none⟩) n4 d4) ∧ U.cell? ⟨b, off + k * 6, none⟩ = some (.string xn) ∧ U.cell? ⟨b, off + k * 6 + 1, none⟩ = some (.int .i64 xf) ∧ U.cell? ⟨b, off + k * 6 + 2, none⟩ = some (.int .i64 xd) ∧ U.cell? ⟨b, off + k * 6 + 3, none⟩ = some (.slice P p pc) ∧ U.cell? ⟨b, off + k * 6 + 4, none⟩ = some (.slice Q q qc) ∧ U.cell? ⟨b, off + k * 6 + 5, none⟩ = some (.slice F f fc) ∧ U.cell? ⟨b', off' + k * 6, none⟩ = some (.string yn) ∧ U.cell? ⟨b', off' + k * 6 + 1, none⟩ = some (.int .i64 yf) ∧ U.cell? ⟨b', off' + k * 6 + 2, none⟩ = some (.int .i64 yd) ∧ U.cell? ⟨b', off' + k * 6 + 3, none⟩ = some (.slice P2 p2 pc2) ∧ U.cell? ⟨b', off' + k * 6 + 4, none⟩ = some (.slice Q2 q2 qc2) ∧ U.cell? ⟨b', off' + k * 6 + 5, none⟩ = some (.slice F2 f2 fc2))
          ((refine KEEP.out _ ?_; rw [hgw]; repeat (first | exact Below.refl _ _ | refine Below.alloc ?_ (by first | (simp; omega) | simp | omega) _ | refine Below.setCell ?_ (by first | (simp; omega) | simp | omega) _ | refine Below.drew ?_)))
          (first | fail | fail)
        all_goals (go_wp2_with fail; go_meet)
        · exact ⟨gw, gw + 1, rfl, rfl, by (rw [hgw]; repeat (first | exact Below.refl _ _ | refine Below.alloc ?_ (by first | (simp; omega) | simp | omega) _ | refine Below.setCell ?_ (by first | (simp; omega) | simp | omega) _ | refine Below.drew ?_)), (Blk.at_ hgw.symm _ _ _).alloc _, Blk.at_ (by simp; omega) _ _ _⟩
        · exact ⟨gw + 1, gw, rfl, rfl, by (rw [hgw]; repeat (first | exact Below.refl _ _ | refine Below.alloc ?_ (by first | (simp; omega) | simp | omega) _ | refine Below.setCell ?_ (by first | (simp; omega) | simp | omega) _ | refine Below.drew ?_)), Blk.at_ (by simp; omega) _ _ _, (Blk.at_ hgw.symm _ _ _).alloc _⟩
      case rest =>
      obtain ⟨g7, g8, rfl, rfl, hbx, hb7, hb8⟩ := hcut
      have c70 := hb7.cell 0
      have c80 := hb8.cell 0
      have c71 := hb7.cell 1
      have c81 := hb8.cell 1
      have c72 := hb7.cell 2
      have c82 := hb8.cell 2
      have c73 := hb7.cell 3
      have c83 := hb8.cell 3
      have c74 := hb7.cell 4
      have c84 := hb8.cell 4
      have c75 := hb7.cell 5
      have c85 := hb8.cell 5
      simp only [List.getElem?_toArray, List.getElem?_cons_zero, List.getElem?_cons_succ] at c70 c71 c72 c73 c74 c75 c80 c81 c82 c83 c84 c85
      have HBX := Lib.hid (below_more HBR.out hbx)
      have K3 := Lib.hid (fun (U : World) (h : Below wc.heap.size wc U) => Ints3_calls P P2 p p2 pc pc2 xp yp U ((HV.out.path.stay hbx).stay h) ((HU.out.path.stay hbx).stay h))
      have K4 := Lib.hid (fun (U : World) (h : Below wc.heap.size wc U) => Needs3_calls Q Q2 q q2 qc qc2 xq yq U ((HV.out.points.stay hbx).stay h) ((HU.out.points.stay hbx).stay h))
      have K5 := Lib.hid (fun (U : World) (h : Below wc.heap.size wc U) => Needs3_calls F F2 f f2 fc fc2 xl yl U ((HV.out.flank.stay hbx).stay h) ((HU.out.flank.stay hbx).stay h))
      clear a3 b3 k0 k1 k2 k3 k4 k5 j0 j1 j2 j3 j4 j5 hb7 hb8 hbx HV HU hgw
      generalize hv3 : decide (xp = yp) = v3 at *
      have HV3 := Lib.hid hv3
      clear hv3
      generalize hv4 : decide (xq = yq) = v4 at *
      have HV4 := Lib.hid hv4
      clear hv4
      generalize hv5 : decide (xl = yl) = v5 at *
      have HV5 := Lib.hid hv5
      clear hv5
      by_cases h1 : xn = yn
      case neg =>
        have H1 := Lib.hid h1
        have hq : (xn.toList == yn.toList) = false := by rw [str_eq]; exact decide_eq_false h1
        clear h1
        go_wp2_with fail
        go_ret
        exact ⟨ret_bool (by rw [lay_ne (.inr (.inr (.inr (ne_of_at HX.out HY.out (fun e => H1.out (congrArg Rte.name e))))))]), below_more (by rw [HG.out]; exact HBW.out) HBX.out⟩
      subst h1
      by_cases h2 : xf = yf
      case neg =>
        have H1 := Lib.hid h2
        have hq : (xf != yf) = true := by simp [h2]
        clear h2
        go_wp2_with fail
        go_ret
        exact ⟨ret_bool (by rw [lay_ne (.inr (.inr (.inr (ne_of_at HX.out HY.out (fun e => H1.out (congrArg Rte.frm e))))))]), below_more (by rw [HG.out]; exact HBW.out) HBX.out⟩
      subst h2
      by_cases h2 : xd = yd
      case neg =>
        have H1 := Lib.hid h2
        have hq : (xd != yd) = true := by simp [h2]
        clear h2
        go_wp2_with fail
        go_ret
        exact ⟨ret_bool (by rw [lay_ne (.inr (.inr (.inr (ne_of_at HX.out HY.out (fun e => H1.out (congrArg Rte.dest e))))))]), below_more (by rw [HG.out]; exact HBW.out) HBX.out⟩
      subst h2
      cases v3 with
      | false =>
        go_wp2_with (first | (go_at_call 30; (with_reducible refine (K3.out _ (Below.refl _ _)).mono ?_); rintro en w3 ⟨rfl, hb3⟩; (replace c74 := cell_stay hb3 c74); (replace c75 := cell_stay hb3 c75); (replace c84 := cell_stay hb3 c84); (replace c85 := cell_stay hb3 c85); have H3 := Lib.hid hb3; clear hb3) | fail)
        go_ret
        exact ⟨ret_bool (by rw [lay_ne (.inr (.inr (.inr (ne_of_at HX.out HY.out (fun e => of_decide_eq_false HV3.out (congrArg Rte.path e))))))]), below_more (by rw [HG.out]; exact HBW.out) (below_more HBX.out H3.out)⟩
      | true =>
      cases v4 with
      | false =>
        go_wp2_with (first | (go_at_call 30; (with_reducible refine (K3.out _ (Below.refl _ _)).mono ?_); rintro en w3 ⟨rfl, hb3⟩; (replace c74 := cell_stay hb3 c74); (replace c75 := cell_stay hb3 c75); (replace c84 := cell_stay hb3 c84); (replace c85 := cell_stay hb3 c85); have H3 := Lib.hid hb3; clear hb3) | (go_at_call 31; (with_reducible refine (K4.out _ H3.out).mono ?_); rintro en w4 ⟨rfl, hb4⟩; (replace c75 := cell_stay hb4 c75); (replace c85 := cell_stay hb4 c85); have H4 := Lib.hid (below_more H3.out hb4); clear hb4) | fail)
        go_ret
        exact ⟨ret_bool (by rw [lay_ne (.inr (.inr (.inr (ne_of_at HX.out HY.out (fun e => of_decide_eq_false HV4.out (congrArg Rte.points e))))))]), below_more (by rw [HG.out]; exact HBW.out) (below_more HBX.out H4.out)⟩
      | true =>
      cases v5 with
      | false =>
        go_wp2_with (first | (go_at_call 30; (with_reducible refine (K3.out _ (Below.refl _ _)).mono ?_); rintro en w3 ⟨rfl, hb3⟩; (replace c74 := cell_stay hb3 c74); (replace c75 := cell_stay hb3 c75); (replace c84 := cell_stay hb3 c84); (replace c85 := cell_stay hb3 c85); have H3 := Lib.hid hb3; clear hb3) | (go_at_call 31; (with_reducible refine (K4.out _ H3.out).mono ?_); rintro en w4 ⟨rfl, hb4⟩; (replace c75 := cell_stay hb4 c75); (replace c85 := cell_stay hb4 c85); have H4 := Lib.hid (below_more H3.out hb4); clear hb4) | (go_at_call 31; (with_reducible refine (K5.out _ H4.out).mono ?_); rintro en w5 ⟨rfl, hb5⟩; have H5 := Lib.hid (below_more H4.out hb5); clear hb5) | fail)
        go_ret
        exact ⟨ret_bool (by rw [lay_ne (.inr (.inr (.inr (ne_of_at HX.out HY.out (fun e => of_decide_eq_false HV5.out (congrArg Rte.flank e))))))]), below_more (by rw [HG.out]; exact HBW.out) (below_more HBX.out H5.out)⟩
      | true =>
        go_wp2_with (first | (go_at_call 30; (with_reducible refine (K3.out _ (Below.refl _ _)).mono ?_); rintro en w3 ⟨rfl, hb3⟩; (replace c74 := cell_stay hb3 c74); (replace c75 := cell_stay hb3 c75); (replace c84 := cell_stay hb3 c84); (replace c85 := cell_stay hb3 c85); have H3 := Lib.hid hb3; clear hb3) | (go_at_call 31; (with_reducible refine (K4.out _ H3.out).mono ?_); rintro en w4 ⟨rfl, hb4⟩; (replace c75 := cell_stay hb4 c75); (replace c85 := cell_stay hb4 c85); have H4 := Lib.hid (below_more H3.out hb4); clear hb4) | (go_at_call 31; (with_reducible refine (K5.out _ H4.out).mono ?_); rintro en w5 ⟨rfl, hb5⟩; have H5 := Lib.hid (below_more H4.out hb5); clear hb5) | fail)
        go_roundw
        case rel => exact ⟨k + 1, by omega, by go_num, Lib.hid (take_eq_step HX.out HY.out hr.out (by rw [of_decide_eq_true HV3.out, of_decide_eq_true HV4.out, of_decide_eq_true HV5.out])), below_more HBX.out H5.out⟩
        case measure => simp [intOf]; omega
    · have hkn : k = n4 := by omega
      have hfin : L.rtes = M.rtes := by
        have := hr.out
        rw [hkn, List.take_of_length_le (by have := HLN.out; omega), List.take_of_length_le (by have := HLN.out; omega)] at this
        exact this
      have HF := Lib.hid hfin
      clear hkn hfin
      go_wp2_with fail
      go_ret
      exact ⟨ret_bool (by rw [lay_eq (of_decide_eq_true HD1.out) (of_decide_eq_true HD2.out) HPT.out HF.out]), below_more (by rw [HG.out]; exact HBW.out) hbr⟩
end
end Go.Proofs.YtmdnmiiggkfnfaaDoor

/- slices.Grow and slices.Concat at texts. -/
set_option linter.unusedVariables false
set_option linter.unusedSimpArgs false
namespace Go.Proofs.YtmdnmiiggkfnfaaDoor
open Go.RowKit

theorem zeros_rowS (w : World) (n : Nat) (hn : n ≤ 17592186044416) (e : TypeId) : Ow flS (w.drew.alloc (.cells (Builtin.zeroCells (Value.string .empty).cells n ++ Builtin.zeroCells (Value.string .empty).cells (grownCap w n 0 e - n)) e)) w.heap.size e (.slice (some ⟨w.heap.size, 0, none⟩) 0 (grownCap w n 0 e)) [] := by
  have h1 := grownCap_ge w n 0 e
  have h2 := grownCap_le_maxLen w n 0 e (by simp only [maxLen]; omega)
  refine ⟨rfl, .inr ⟨w.heap.size, _, _, rfl, Nat.le_refl _, heap_alloc_new w.drew _, Nat.zero_le _, h2, ?_, by simp⟩⟩
  simp only [Array.size_append, size_zeroCells, flS]
  have h3 : (Value.string .empty).cells.size = 1 := rfl
  rw [h3]
  simp only [Nat.mul_one]
  omega
set_option maxRecDepth 20000 in
set_option maxHeartbeats 2000000 in
theorem GrowS_calls (w : World) (n : Nat) (hn : n ≤ 17592186044416) :
    Calls Tryd.prog 50 #[.slice none 0 0, .int .i64 n] w fun e w' => ∃ v, e = .returned v ∧ Ow flS w' w.heap.size 9 v [] ∧ Below w.heap.size w w' := by
  obtain ⟨i0, hi0, hz0, hz1, hz2⟩ := info_parts info_str
  by_cases h0 : n = 0
  · subst h0
    go_enter Tryd.func50, Tryd.ntmps50
    go_wp2_with fail
    go_ret
    exact ⟨_, rfl, Ow.nil_ _ _ _ _, Below.refl _ _⟩
  · have hpos : 0 < n := by omega
    have HZ := Lib.hid (zeros_rowS w n hn 9)
    have HR := Lib.hid (Lib.run_append_nil_zeros (P := Tryd.prog) w 22 3 22 9 i0 _ .i64 .i64 Tryd.underlying22 Tryd.underlying3 hi0 hz0 n hpos (by omega) (by omega) (by rw [hz2]; omega))
    have h1 : decide ((0 : Int) < n) = true := decide_eq_true (by omega)
    have h1' : decide ((n : Int) < 0) = false := decide_eq_false (by omega)
    have hle : n ≤ grownCap w n 0 9 := grownCap_ge w n 0 9
    clear h0
    go_enter Tryd.func50, Tryd.ntmps50
    go_wp2_with (at_builtin; refine Lib.wpList_append_run _ rfl (.tmp 20) (.tmp 21) _ _ rfl _ _ rfl rfl _ _ HR.out ?_)
    go_ret
    exact ⟨_, rfl, HZ.out, (below_drawn (Below.refl _ w) 1).alloc (Nat.le_refl _) _⟩
end Go.Proofs.YtmdnmiiggkfnfaaDoor

/- Contract of plan's builder: route. -/
set_option linter.unusedVariables false
set_option linter.unusedSimpArgs false
namespace Go.Proofs.YtmdnmiiggkfnfaaDoor
open Go.RowKit

theorem Blk.put6 {w : World} {g : Nat} {a b c d e f : Value} {t : TypeId} {fr : Nat × Nat} (h : Blk w g #[a, b, c, d, e, f] t fr) (x y z u v s : Value) :
    Blk ((((((w.setCell ⟨g, 0, none⟩ x).setCell ⟨g, 1, none⟩ y).setCell ⟨g, 2, none⟩ z).setCell ⟨g, 3, none⟩ u).setCell ⟨g, 4, none⟩ v).setCell ⟨g, 5, none⟩ s) g #[x, y, z, u, v, s] t fr := by
  have := (((((h.put 0 x).put 1 y).put 2 z).put 3 u).put 4 v).put 5 s
  simpa using this
theorem Blk.set6 {w : World} {g : Nat} {a b c d e f : Value} {t : TypeId} {fr : Nat × Nat} (h : Blk w g #[a, b, c, d, e, f] t fr) (u : Value) :
    Blk (w.setCell ⟨g, 3, none⟩ u) g #[a, b, c, u, e, f] t fr ∧ Blk (w.setCell ⟨g, 4, none⟩ u) g #[a, b, c, d, u, f] t fr ∧ Blk (w.setCell ⟨g, 5, none⟩ u) g #[a, b, c, d, e, u] t fr := by
  refine ⟨?_, ?_, ?_⟩
  · have := h.put 3 u; simpa using this
  · have := h.put 4 u; simpa using this
  · have := h.put 5 u; simpa using this
theorem names_rel {w : World} {B : Nat} {cs : List RtC} {xs : List Rte} (h : RtsR w B cs xs) : cs.map RtC.name = xs.map Rte.name := by
  refine List.ext_getElem (by rw [List.length_map, List.length_map, h.len]) (fun j h1 h2 => ?_)
  rw [List.length_map] at h1 h2
  rw [List.getElem_map, List.getElem_map]
  exact (h.all j _ _ (List.getElem?_eq_getElem h1) (List.getElem?_eq_getElem h2)).name
theorem info_rt : (Tryd.prog.info? 44).map (fun i => (i.zero, i.size, i.bytes)) = some (some (.agg #[.string .empty, .int .i64 0, .int .i64 0, .slice none 0 0, .slice none 0 0, .slice none 0 0]), 6, 104) := by kernel_rfl
theorem ow_addr {α : Type} {f : Fl α} {w : World} {B : Nat} {t : TypeId} {A : Option Addr} {n c : Nat} {xs : List α} (h : Ow f w B t (.slice A n c) xs) : ∀ a, A = some a → (Value.slice A n c).ownBlock = some a.block := by
  intro a ha
  subst ha
  rcases h.2 with ⟨e, _⟩ | ⟨g, cap, cur, e, _⟩
  · cases e
  · injection e with e1 e2 e3
    injection e1 with e1
    subst e1
    rfl
theorem addr_ne {α : Type} {f : Fl α} {w w0 : World} {B B' g : Nat} {t : TypeId} {A : Option Addr} {n c : Nat} {xs : List α} {v1 v2 v3 v4 : Value} {cs : List RtC} {L : Lay} {e : Int} (hb : BdAt w0 w B g v1 v2 v3 v4 cs L e) (h : Ow f w B' t (.slice A n c) xs) (hne : t ≠ 57) : ∀ a, A = some a → a.block ≠ g := fun a ha e2 => by
  have h1 := ow_addr h a ha
  rw [e2] at h1
  exact own_ne_bd hb h hne h1
/-- A route under way, at block gr, beside builder and line. -/
structure RRt (w0 w : World) (B g gx Bx : Nat) (k : ByteArray) (vn vv vs vf : Value) (xn xv : List ByteArray) (xs xf : List Wnt) (v1 v2 v3 v4 : Value) (cs : List RtC) (L : Lay) (gr : Nat) (r0 r1 r2 r3 r4 r5 : Value) (U : World) (e : Int) : Prop where
  pre : RPre w0 w B g gx Bx k vn vv vs vf xn xv xs xf v1 v2 v3 v4 cs L U e
  br : Blk U gr #[r0, r1, r2, r3, r4, r5] 44 (0, 0)
  n4 : v4.ownBlock ≠ some gr
  lr : B ≤ gr
section
variable {w0 w : World} {B g gx Bx gr : Nat} {k : ByteArray} {vn vv vs vf r0 r1 r2 r3 r4 r5 : Value} {xn xv : List ByteArray} {xs xf : List Wnt} {v1 v2 v3 v4 : Value} {cs : List RtC} {L : Lay} {U U1 : World} {e e' : Int}
theorem RPre.far (h : RPre w0 w B g gx Bx k vn vv vs vf xn xv xs xf v1 v2 v3 v4 cs L U e) {c : Array Value} (hb : Blk U gr c 44 (0, 0)) (h4 : v4.ownBlock ≠ some gr) (hB : B ≤ gr) (i : Nat) (u : Value) : RPre w0 w B g gx Bx k vn vv vs vf xn xv xs xf v1 v2 v3 v4 cs L (U.setCell ⟨gr, i, none⟩ u) e := by
  have ho : Only (fun b => b = gr) U (U.setCell ⟨gr, i, none⟩ u) := Only.put ⟨gr, i, none⟩ u
  have hne : ∀ {α : Type} {f : Fl α} {t : TypeId} {v : Value} {xs : List α} {B' : Nat}, Ow f U B' t v xs → t ≠ 44 → v.ownBlock ≠ some gr := fun hw ht => own_not_blk hw hb ht
  have hg : gr ≠ g := blk_not_blk hb h.bd.blk (by decide)
  have hx : gr ≠ gx := blk_not_blk hb h.bx (by decide)
  exact ⟨h.bd.newer ho (fun k hk => by have e : k = gr := hk; subst e; exact ⟨hB, hg⟩) (fun k hk => by have e : k = gr := hk; subst e; exact hne h.bd.secs (by decide)) (fun k hk => by have e : k = gr := hk; subst e; exact hne h.bd.pts (by decide)) (fun k hk => by have e : k = gr := hk; subst e; exact hne h.bd.sigs (by decide)) (fun k hk => by have e : k = gr := hk; subst e; exact h4) (rel_far h.bd.rel hb (by decide) (by decide) i u),
    h.bx.only ho (fun e => hx e.symm), h.nm.far_ (hne h.nm (by decide)) _ _, h.va.far_ (hne h.va (by decide)) _ _, h.st.far_ (hne h.st (by decide)) _ _, h.fl.far_ (hne h.fl (by decide)) _ _, h.on.trans ho (fun _ _ h => h) (fun q _ hq => by have e : q = gr := hq; omega), h.lx, h.BW⟩
theorem RRt.mk6 (h : RPre w0 w B g gx Bx k vn vv vs vf xn xv xs xf v1 v2 v3 v4 cs L U e) {a b c d e1 f : Value} (hb : Blk U gr #[a, b, c, d, e1, f] 44 (0, 0)) (h4 : v4.ownBlock ≠ some gr) (hB : B ≤ gr) (x y z u v s : Value) :
    RRt w0 w B g gx Bx k vn vv vs vf xn xv xs xf v1 v2 v3 v4 cs L gr x y z u v s ((((((U.setCell ⟨gr, 0, none⟩ x).setCell ⟨gr, 1, none⟩ y).setCell ⟨gr, 2, none⟩ z).setCell ⟨gr, 3, none⟩ u).setCell ⟨gr, 4, none⟩ v).setCell ⟨gr, 5, none⟩ s) e := by
  have b0 := hb.put 0 x
  have b1 := b0.put 1 y
  have b2 := b1.put 2 z
  have b3 := b2.put 3 u
  have b4 := b3.put 4 v
  exact ⟨(((((h.far hb h4 hB 0 x).far b0 h4 hB 1 y).far b1 h4 hB 2 z).far b2 h4 hB 3 u).far b3 h4 hB 4 v).far b4 h4 hB 5 s, hb.put6 x y z u v s, h4, hB⟩
theorem RRt.step (h : RRt w0 w B g gx Bx k vn vv vs vf xn xv xs xf v1 v2 v3 v4 cs L gr r0 r1 r2 r3 r4 r5 U e) (hp : BdP w0 U B g v1 v2 v3 v4 cs L e' U1) : RRt w0 w B g gx Bx k vn vv vs vf xn xv xs xf v1 v2 v3 v4 cs L gr r0 r1 r2 r3 r4 r5 U1 e' :=
  ⟨h.pre.step hp, h.br.only hp.2 (fun q => blk_not_blk h.br h.pre.bd.blk (by decide) q), h.n4, h.lr⟩
theorem RRt.stay (h : RRt w0 w B g gx Bx k vn vv vs vf xn xv xs xf v1 v2 v3 v4 cs L gr r0 r1 r2 r3 r4 r5 U e) (hb : Below U.heap.size U U1) : RRt w0 w B g gx Bx k vn vv vs vf xn xv xs xf v1 v2 v3 v4 cs L gr r0 r1 r2 r3 r4 r5 U1 e :=
  h.step ⟨h.pre.bd.stay hb, Only.of_below hb⟩
theorem RRt.put3 (h : RRt w0 w B g gx Bx k vn vv vs vf xn xv xs xf v1 v2 v3 v4 cs L gr r0 r1 r2 r3 r4 r5 U e) (u : Value) : RRt w0 w B g gx Bx k vn vv vs vf xn xv xs xf v1 v2 v3 v4 cs L gr r0 r1 r2 u r4 r5 (U.setCell ⟨gr, 3, none⟩ u) e := ⟨h.pre.far h.br h.n4 h.lr 3 u, (h.br.set6 u).1, h.n4, h.lr⟩
theorem RRt.put4 (h : RRt w0 w B g gx Bx k vn vv vs vf xn xv xs xf v1 v2 v3 v4 cs L gr r0 r1 r2 r3 r4 r5 U e) (u : Value) : RRt w0 w B g gx Bx k vn vv vs vf xn xv xs xf v1 v2 v3 v4 cs L gr r0 r1 r2 r3 u r5 (U.setCell ⟨gr, 4, none⟩ u) e := ⟨h.pre.far h.br h.n4 h.lr 4 u, (h.br.set6 u).2.1, h.n4, h.lr⟩
theorem RRt.put5 (h : RRt w0 w B g gx Bx k vn vv vs vf xn xv xs xf v1 v2 v3 v4 cs L gr r0 r1 r2 r3 r4 r5 U e) (u : Value) : RRt w0 w B g gx Bx k vn vv vs vf xn xv xs xf v1 v2 v3 v4 cs L gr r0 r1 r2 r3 r4 u (U.setCell ⟨gr, 5, none⟩ u) e := ⟨h.pre.far h.br h.n4 h.lr 5 u, (h.br.set6 u).2.2, h.n4, h.lr⟩
/-- Behind a step of a builder: its layout, its error. -/
def PutP (w0 w : World) (B g : Nat) (L : Lay) (e : Int) (w' : World) : Prop := ∃ v1 v2 v3 v4 cs, BdAt w0 w' B g v1 v2 v3 v4 cs L e ∧ Only (fun b => B ≤ b) w w'
theorem rtes_step {ops : Array Oper} {o : Oper} {a : Act} {K : Act → World → Prop} {Q : Exit → Act → World → Prop} {E : Prop} {A4 : Option Addr} {q4 d4 : Nat} {c : RtC} {x : Rte} (h : RRt w0 w B g gx Bx k vn vv vs vf xn xv xs xf v1 v2 v3 (.slice A4 q4 d4) cs L gr r0 r1 r2 r3 r4 r5 U e) (hr : RtR U B c x) (hq : cs.length = q4) (hl : L.rtes.length + 1 ≤ 6) (hgd : o.guard = none) (s y : Operand)
    (ho : o.op = .call { callee := .builtin .append, args := #[s, y], argTypes := #[24, 24] }) (hs : a.eval s = .slice A4 q4 d4) (W : World) (hW : W = U.alloc (.cells #[.string c.name, .int .i64 c.frm, .int .i64 c.dst, .slice c.P c.p c.pc, .slice c.Q c.q c.qc, .slice c.F c.f c.fc] 44)) (hx : a.eval y = .slice (some ⟨U.heap.size, 0, none⟩) 1 1)
    (hK : ∀ A8 c8 w8, World.frozen? w8 ⟨g, 3, none⟩ = false → World.cell? w8 ⟨g, 3, none⟩ = some (.slice A4 q4 d4) → Hid (PutP w0 w B g { L with rtes := L.rtes ++ [x] } e (w8.setCell ⟨g, 3, none⟩ (.slice A8 (q4 + 1) c8))) → K (a.put o.dst (.slice A8 (q4 + 1) c8)) w8) :
    if Region.wanted o (yielded ops a.tmps) = true then Oper.wp Tryd.prog o a W K Q else E := by
  subst hW hq
  obtain ⟨i0, hi0, hz0, hz1, hz2⟩ := info_parts info_rt
  have hb := below_new U (.cells #[.string c.name, .int .i64 c.frm, .int .i64 c.dst, .slice c.P c.p c.pc, .slice c.Q c.q c.qc, .slice c.F c.f c.fc] 44)
  have h1 := h.stay hb
  have hBU := Nat.le_trans h.pre.BW h.pre.on.size
  have hcl := h.pre.bd.rel.len
  refine step_append_any (P := Tryd.prog) _ hgd s y 24 ho B 44 i0 _ 6 104 Tryd.underlying24 hi0 hz0 hz1 hz2 rfl (by omega) (.slice A4 cs.length d4) cs.length (cs.flatMap flRc.enc) hs h1.pre.bd.rtes _ (some ⟨U.heap.size, 0, none⟩) 1 1 (flRc.enc c) hx (box_reads flRc U _ 44 c rfl) (flRc.one c) (by simp only [maxLen]; omega) (by omega) (by rw [size_new]; omega) ?_
  intro v8 w8 hown hg hat
  obtain ⟨A8, c8, rfl⟩ := row_form hown
  have hA := rtes_app h1.pre.bd (hr.stay hb) hown hg hat hl
  have hb8 := h1.pre.bd.blk.only (Only.of_grown hg) (fun e => own_ne_bd h1.pre.bd h1.pre.bd.rtes (by decide) e)
  have c3 := hb8.cell 3
  simp only [List.getElem?_toArray, List.getElem?_cons_zero, List.getElem?_cons_succ] at c3
  refine hK A8 c8 w8 (hb8.free 3) c3 (Lib.hid ⟨_, _, _, _, _, hA, ?_⟩)
  have h2 : Only (fun b => B ≤ b) w w8 := h1.pre.on.trans (Only.of_grown hg) (fun _ _ h => h) (fun q _ hq => h1.pre.bd.rtes.base_ q hq)
  exact h2.trans (Only.put ⟨g, 3, none⟩ _) (fun _ _ h => h) (fun q _ hq => by have e : q = g := hq; have := h.pre.bd.Bg; omega)
end
section
variable {w0 w : World} {B g Bx : Nat} {k : ByteArray} {xn xv : List ByteArray} {xs xf : List Wnt} {v1 v2 v3 v4 : Value} {cs : List RtC} {L : Lay} {U U1 : World} {e e' : Int}
set_option maxRecDepth 20000 in
set_option maxHeartbeats 8000000 in
theorem PRoute_calls (h : BdAt w0 w B g v1 v2 v3 v4 cs L 0) (hBW : B ≤ w.heap.size) {C1 C2 C3 C4 : Option Addr} {m1 f1 m2 f2 m3 f3 m4 f4 : Nat} (h1 : Ow flS w Bx 9 (.slice C1 m1 f1) xn) (h2 : Ow flS w Bx 9 (.slice C2 m2 f2) xv) (h3 : Ow flWn w Bx 130 (.slice C3 m3 f3) xs) (h4 : Ow flWn w Bx 130 (.slice C4 m4 f4) xf)
    (hn : 3 ≤ xn.length) (hl1 : xn.length ≤ 100) (hl2 : xv.length ≤ 3000000) (hl3 : xs.length ≤ 3000000) (hl4 : xf.length ≤ 3000000) :
    Calls Tryd.prog 66 #[.pointer (some ⟨g, 0, none⟩), .agg #[.string k, .slice C1 m1 f1, .slice C2 m2 f2, .slice C3 m3 f3, .slice C4 m4 f4]] w fun en w' => en = .returned (.tuple #[]) ∧
      PutP w0 w B g (if routeG L ⟨k, xn, xv, xs, xf⟩ = 0 then { L with rtes := L.rtes ++ [routeV L ⟨k, xn, xv, xs, xf⟩] } else L) (routeG L ⟨k, xn, xv, xs, xf⟩) w' := by
  obtain ⟨bn, nc, en1, hnc⟩ := own_str h1 (by omega)
  obtain ⟨s0, hs0⟩ : ∃ s, xn[0]? = some s := ⟨_, List.getElem?_eq_getElem (by omega)⟩
  obtain ⟨s1, hs1⟩ : ∃ s, xn[1]? = some s := ⟨_, List.getElem?_eq_getElem (by omega)⟩
  obtain ⟨s2, hs2⟩ : ∃ s, xn[2]? = some s := ⟨_, List.getElem?_eq_getElem (by omega)⟩
  obtain ⟨A1, d1, rfl⟩ := row_form h.secs
  obtain ⟨A2, d2, rfl⟩ := row_form h.pts
  obtain ⟨A3, d3, rfl⟩ := row_form h.sigs
  obtain ⟨A4, d4, rfl⟩ := row_form h.rtes
  have hz2 := (sl_of_own h2 (by decide) (by omega)).1
  have hz3 := (sl_of_own h3 (by decide) (by omega)).1
  have hz4 := (sl_of_own h4 (by decide) (by omega)).1
  injection en1 with ea eb ec
  subst ea eb ec
  have HNX : Hid (∀ (U : World), Ow flS U Bx 9 (.slice (some ⟨bn, 0, none⟩) xn.length f1) xn → U.cell? ⟨bn, 0, none⟩ = some (.string s0) ∧ U.cell? ⟨bn, 1, none⟩ = some (.string s1) ∧ U.cell? ⟨bn, 2, none⟩ = some (.string s2)) := Lib.hid (fun U hU => by
    obtain ⟨b', c', e', hc'⟩ := own_str hU (by omega)
    injection e' with ea eb ec
    injection ea with ea
    injection ea with ea
    subst ea
    exact ⟨hc' 0 _ hs0, hc' 1 _ hs1, hc' 2 _ hs2⟩)
  have HN0 : Hid (nth xn 0 = s0 ∧ nth xn 1 = s1 ∧ nth xn 2 = s2) := Lib.hid (by
    unfold nth
    rw [List.getD_eq_getElem?_getD, List.getD_eq_getElem?_getD, List.getD_eq_getElem?_getD, hs0, hs1, hs2]
    exact ⟨rfl, rfl, rfl⟩)
  have HQ := Lib.hid (And.intro h.l1 (And.intro h.l2 (And.intro h.l3 (And.intro h.l4 (And.intro h.rel.len (And.intro hz2 (And.intro hz3 hz4)))))))
  have hcs : cs.length ≤ 6 := by have := h.rel.len; have := h.l4; omega
  have hq1' := h.l1
  have hq2' := h.l2
  have hq3' := h.l3
  have hw1 := below_new w (.cells #[.string k, .slice (some ⟨bn, 0, none⟩) xn.length f1, .slice C2 m2 f2, .slice C3 m3 f3, .slice C4 m4 f4] 86)
  have HP0 := Lib.hid (show RPre w0 w B g w.heap.size Bx k (.slice (some ⟨bn, 0, none⟩) xn.length f1) (.slice C2 m2 f2) (.slice C3 m3 f3) (.slice C4 m4 f4) xn xv xs xf _ _ _ _ cs L (w.alloc (.cells #[.string k, .slice (some ⟨bn, 0, none⟩) xn.length f1, .slice C2 m2 f2, .slice C3 m3 f3, .slice C4 m4 f4] 86)) 0 from
    ⟨h.stay hw1, Blk.new w _ _ _, h1.stay hw1, h2.stay hw1, h3.stay hw1, h4.stay hw1, Only.of_below hw1, Nat.le_refl _, hBW⟩)
  have HV4 := Lib.hid (fun q (hq : Value.ownBlock (.slice A4 cs.length d4) = some q) => Ow.lt_ h.rtes q hq)
  generalize hq1 : L.secs.length = q1 at *
  generalize hq2 : L.pts.length = q2 at *
  generalize hq3 : L.sigs.length = q3 at *
  generalize hq4 : cs.length = q4 at *
  generalize hq5 : xn.length = nq at *
  have HQ5 := Lib.hid (And.intro hq1 (And.intro hq2 (And.intro hq3 (And.intro hq4 hq5))))
  clear h h1 h2 h3 h4 hw1 hs0 hs1 hs2 hq1 hq2 hq3 hq4 hq5 hz2 hz3 hz4 hnc
  generalize hrg : routeG L ⟨k, xn, xv, xs, xf⟩ = eg at *
  generalize hrv : routeV L ⟨k, xn, xv, xs, xf⟩ = rv at *
  generalize hlf : (if eg = 0 then { L with rtes := L.rtes ++ [rv] } else L) = LF at *
  have HRG0 := Lib.hid hrg
  have HRV0 := Lib.hid hrv
  have HLF := Lib.hid hlf
  clear hrg hrv hlf
  go_enter Tryd.func66, Tryd.ntmps66
  go_wp2_with fail
  have hgx0 : w.heap.size ≤ w.heap.size := Nat.le_refl _
  generalize (w.alloc (.cells #[.string k, .slice (some ⟨bn, 0, none⟩) nq f1, .slice C2 m2 f2, .slice C3 m3 f3, .slice C4 m4 f4] 86)) = W1 at *
  generalize hgx : w.heap.size = gx at HP0 ⊢
  have HGL := Lib.hid (show w.heap.size ≤ gx by omega)
  clear hgx hgx0
  have HCL := Lib.hid (fun (U : World) (q : Int) (h : RPre w0 w B g gx Bx k (.slice (some ⟨bn, 0, none⟩) nq f1) (.slice C2 m2 f2) (.slice C3 m3 f3) (.slice C4 m4 f4) xn xv xs xf (.slice A1 q1 d1) (.slice A2 q2 d2) (.slice A3 q3 d3) (.slice A4 q4 d4) cs L U q) => (⟨h.bd.cells.1, h.bd.cells.2.1, h.bd.cells.2.2.1, h.bd.cells.2.2.2.1, h.xcells.2.1, h.xcells.2.2.1, (HNX.out U h.nm).1, (HNX.out U h.nm).2.1, (HNX.out U h.nm).2.2⟩ : U.cell? ⟨g, 0, none⟩ = some (.slice A1 q1 d1) ∧ U.cell? ⟨g, 1, none⟩ = some (.slice A2 q2 d2) ∧ U.cell? ⟨g, 2, none⟩ = some (.slice A3 q3 d3) ∧ U.cell? ⟨g, 3, none⟩ = some (.slice A4 q4 d4) ∧ U.cell? ⟨gx, 1, none⟩ = some (.slice (some ⟨bn, 0, none⟩) nq f1) ∧ U.cell? ⟨gx, 2, none⟩ = some (.slice C2 m2 f2) ∧ U.cell? ⟨bn, 0, none⟩ = some (.string s0) ∧ U.cell? ⟨bn, 1, none⟩ = some (.string s1) ∧ U.cell? ⟨bn, 2, none⟩ = some (.string s2)))
  have HSG := Lib.hid (fun (U : World) (q : Int) (h : RPre w0 w B g gx Bx k (.slice (some ⟨bn, 0, none⟩) nq f1) (.slice C2 m2 f2) (.slice C3 m3 f3) (.slice C4 m4 f4) xn xv xs xf (.slice A1 q1 d1) (.slice A2 q2 d2) (.slice A3 q3 d3) (.slice A4 q4 d4) cs L U q) => (sl_of_own h.bd.sigs (by decide) (by have := HQ5.out; omega)).2)
  have HRF := Lib.hid (fun (U : World) (q : Int) (h : RPre w0 w B g gx Bx k (.slice (some ⟨bn, 0, none⟩) nq f1) (.slice C2 m2 f2) (.slice C3 m3 f3) (.slice C4 m4 f4) xn xv xs xf (.slice A1 q1 d1) (.slice A2 q2 d2) (.slice A3 q3 d3) (.slice A4 q4 d4) cs L U q) => (sl_of_own h.bd.rtes (by decide) (by have := HQ5.out; omega)).2.rf)
  have hnq0 : (0 : Int) < nq := by omega
  have hnq1 : (1 : Int) < nq := by omega
  have hnq2 : (2 : Int) < nq := by omega
  have hnqa : 0 < nq := by omega
  have hnqb : 1 < nq := by omega
  have hnqc : 2 < nq := by omega
  have HD1 := Lib.hid (HP0.out.stay (show Below W1.heap.size W1 W1.drew from below_drawn (Below.refl _ _) 1))
  go_region_held3 (fun U => U.cell? ⟨g, 0, none⟩ = some (.slice A1 q1 d1) ∧ U.cell? ⟨g, 1, none⟩ = some (.slice A2 q2 d2) ∧ U.cell? ⟨g, 2, none⟩ = some (.slice A3 q3 d3) ∧ U.cell? ⟨g, 3, none⟩ = some (.slice A4 q4 d4) ∧ U.cell? ⟨gx, 1, none⟩ = some (.slice (some ⟨bn, 0, none⟩) nq f1) ∧ U.cell? ⟨gx, 2, none⟩ = some (.slice C2 m2 f2) ∧ U.cell? ⟨bn, 0, none⟩ = some (.string s0) ∧ U.cell? ⟨bn, 1, none⟩ = some (.string s1) ∧ U.cell? ⟨bn, 2, none⟩ = some (.string s2))
    (first | (with_reducible exact HCL.out _ _ HP6.out) | (with_reducible exact HCL.out _ _ HP5.out) | (with_reducible exact HCL.out _ _ HD1.out))
    (first
      | (go_at_call 80; refine (RtNames2_calls cs (HRF.out _ _ HD1.out) (by omega)).mono ?_; rintro en w5 ⟨A5, c5, rfl, ho5, hs5, hb5⟩; have HN5 := Lib.hid hs5; have HP5 := Lib.hid (HD1.out.stay hb5); clear ho5 hs5 hb5)
      | (go_at_call 62; refine (IsNew_calls HP5.out.bd A5 q4 c5 (cs.map RtC.name) HN5.out s0).mono ?_; rintro en w6 ⟨rfl, hp6⟩; have HP6 := Lib.hid (HP5.out.step hp6); clear hp6)
      | fail)
  have HE1 : Hid (newE (cs.map RtC.name) s0 0 = newE (rtNames L) (nth xn 0) 0) := Lib.hid (by rw [names_rel HP6.out.bd.rel, HN0.out.1]; rfl)
  generalize newE (cs.map RtC.name) s0 0 = e1 at *
  clear HD1 HP0 HP5 HN5
  go_wp2_with fail
  have HD6 := Lib.hid (HP6.out.stay (show Below w6.heap.size w6 w6.drew from below_drawn (Below.refl _ _) 1))
  generalize hz1 : idxS L.sigs s1 = z1 at *
  generalize hz2 : idxS L.sigs s2 = z2 at *
  generalize he2 : placeE L.sigs e1 s1 = e2 at *
  generalize he3 : placeE L.sigs e2 s2 = e3 at *
  have HZ := Lib.hid (And.intro hz1 (And.intro hz2 (And.intro he2 he3)))
  have K1 : Hid (∀ U, RPre w0 w B g gx Bx k (.slice (some ⟨bn, 0, none⟩) nq f1) (.slice C2 m2 f2) (.slice C3 m3 f3) (.slice C4 m4 f4) xn xv xs xf (.slice A1 q1 d1) (.slice A2 q2 d2) (.slice A3 q3 d3) (.slice A4 q4 d4) cs L U e1 → Calls Tryd.prog 65 #[.pointer (some ⟨g, 0, none⟩), .slice A3 q3 d3, .string s1] U fun v w' => v = .returned (.int .i64 z1) ∧ BdP w0 U B g (.slice A1 q1 d1) (.slice A2 q2 d2) (.slice A3 q3 d3) (.slice A4 q4 d4) cs L e2 w') := Lib.hid (fun U hU => by
    have := Place_calls hU.bd A3 q3 d3 L.sigs (HSG.out U e1 hU) s1
    rw [hz1, he2] at this
    exact this)
  have K2 : Hid (∀ U, RPre w0 w B g gx Bx k (.slice (some ⟨bn, 0, none⟩) nq f1) (.slice C2 m2 f2) (.slice C3 m3 f3) (.slice C4 m4 f4) xn xv xs xf (.slice A1 q1 d1) (.slice A2 q2 d2) (.slice A3 q3 d3) (.slice A4 q4 d4) cs L U e2 → Calls Tryd.prog 65 #[.pointer (some ⟨g, 0, none⟩), .slice A3 q3 d3, .string s2] U fun v w' => v = .returned (.int .i64 z2) ∧ BdP w0 U B g (.slice A1 q1 d1) (.slice A2 q2 d2) (.slice A3 q3 d3) (.slice A4 q4 d4) cs L e3 w') := Lib.hid (fun U hU => by
    have := Place_calls hU.bd A3 q3 d3 L.sigs (HSG.out U e2 hU) s2
    rw [hz2, he3] at this
    exact this)
  clear hz1 hz2 he2 he3
  have HRES : Hid (∀ (U : World) (a b c d e f : Value) (gr : Nat), RPre w0 w B g gx Bx k (.slice (some ⟨bn, 0, none⟩) nq f1) (.slice C2 m2 f2) (.slice C3 m3 f3) (.slice C4 m4 f4) xn xv xs xf (.slice A1 q1 d1) (.slice A2 q2 d2) (.slice A3 q3 d3) (.slice A4 q4 d4) cs L U e3 → Blk U gr #[a, b, c, d, e, f] 44 (0, 0) → w.heap.size ≤ gr → RRt w0 w B g gx Bx k (.slice (some ⟨bn, 0, none⟩) nq f1) (.slice C2 m2 f2) (.slice C3 m3 f3) (.slice C4 m4 f4) xn xv xs xf (.slice A1 q1 d1) (.slice A2 q2 d2) (.slice A3 q3 d3) (.slice A4 q4 d4) cs L gr (.string s0) (.int .i64 z1) (.int .i64 z2) (.slice none 0 0) (.slice none 0 0) (.slice none 0 0) ((((((U.setCell ⟨gr, 0, none⟩ (.string s0)).setCell ⟨gr, 1, none⟩ (.int .i64 z1)).setCell ⟨gr, 2, none⟩ (.int .i64 z2)).setCell ⟨gr, 3, none⟩ (.slice none 0 0)).setCell ⟨gr, 4, none⟩ (.slice none 0 0)).setCell ⟨gr, 5, none⟩ (.slice none 0 0)) e3) :=
    Lib.hid (fun U a b c d e f gr hU hb hgr => RRt.mk6 hU hb (fun q => by have := HV4.out gr q; omega) (Nat.le_trans hU.BW hgr) _ _ _ _ _ _)
  have HREN : Hid (∀ U : World, RPre w0 w B g gx Bx k (.slice (some ⟨bn, 0, none⟩) nq f1) (.slice C2 m2 f2) (.slice C3 m3 f3) (.slice C4 m4 f4) xn xv xs xf (.slice A1 q1 d1) (.slice A2 q2 d2) (.slice A3 q3 d3) (.slice A4 q4 d4) cs L U e3 → RRt w0 w B g gx Bx k (.slice (some ⟨bn, 0, none⟩) nq f1) (.slice C2 m2 f2) (.slice C3 m3 f3) (.slice C4 m4 f4) xn xv xs xf (.slice A1 q1 d1) (.slice A2 q2 d2) (.slice A3 q3 d3) (.slice A4 q4 d4) cs L U.heap.size (.string s0) (.int .i64 z1) (.int .i64 z2) (.slice none 0 0) (.slice none 0 0) (.slice none 0 0) (U.alloc (.cells #[.string s0, .int .i64 z1, .int .i64 z2, .slice none 0 0, .slice none 0 0, .slice none 0 0] 44)) e3) := Lib.hid (fun U hU => ⟨hU.stay (below_new _ _), Blk.new _ _ _ _, (fun q => by have := HV4.out U.heap.size q; have := hU.on.size; omega), by have := hU.BW; have := hU.on.size; omega⟩)
  have HD6a := Lib.hid ((HP6.out.stay (below_new w6 (.cells #[.string ⟨#[]⟩, .int .i64 0, .int .i64 0, .slice none 0 0, .slice none 0 0, .slice none 0 0] 44))).stay (show Below (w6.alloc (.cells #[.string ⟨#[]⟩, .int .i64 0, .int .i64 0, .slice none 0 0, .slice none 0 0, .slice none 0 0] 44)).heap.size (w6.alloc (.cells #[.string ⟨#[]⟩, .int .i64 0, .int .i64 0, .slice none 0 0, .slice none 0 0, .slice none 0 0] 44)) (w6.alloc (.cells #[.string ⟨#[]⟩, .int .i64 0, .int .i64 0, .slice none 0 0, .slice none 0 0, .slice none 0 0] 44)).drew from below_drawn (Below.refl _ _) 1))
  have HB6a := Lib.hid ((Blk.new w6 #[.string ⟨#[]⟩, .int .i64 0, .int .i64 0, .slice none 0 0, .slice none 0 0, .slice none 0 0] 44 (0, 0)).drew)
  go_cut [4] (fun s4 wx => ∃ gr : Nat, s4 = .pointer (some ⟨gr, 0, none⟩) ∧ Hid (RRt w0 w B g gx Bx k (.slice (some ⟨bn, 0, none⟩) nq f1) (.slice C2 m2 f2) (.slice C3 m3 f3) (.slice C4 m4 f4) xn xv xs xf (.slice A1 q1 d1) (.slice A2 q2 d2) (.slice A3 q3 d3) (.slice A4 q4 d4) cs L gr (.string s0) (.int .i64 z1) (.int .i64 z2) (.slice none 0 0) (.slice none 0 0) (.slice none 0 0) wx e3))
  case first =>
    go_region_held3 (fun U => U.cell? ⟨g, 0, none⟩ = some (.slice A1 q1 d1) ∧ U.cell? ⟨g, 1, none⟩ = some (.slice A2 q2 d2) ∧ U.cell? ⟨g, 2, none⟩ = some (.slice A3 q3 d3) ∧ U.cell? ⟨g, 3, none⟩ = some (.slice A4 q4 d4) ∧ U.cell? ⟨gx, 1, none⟩ = some (.slice (some ⟨bn, 0, none⟩) nq f1) ∧ U.cell? ⟨gx, 2, none⟩ = some (.slice C2 m2 f2) ∧ U.cell? ⟨bn, 0, none⟩ = some (.string s0) ∧ U.cell? ⟨bn, 1, none⟩ = some (.string s1) ∧ U.cell? ⟨bn, 2, none⟩ = some (.string s2))
      (first | (with_reducible exact HCL.out _ _ HF8.out.pre) | (with_reducible exact HCL.out _ _ HP8.out) | (with_reducible exact HCL.out _ _ (HP8.out.stay (below_new _ _))) | (with_reducible exact HCL.out _ _ HP7.out) | (with_reducible exact HCL.out _ _ (HP7.out.stay (below_new _ _))) | (with_reducible exact HCL.out _ _ HD6.out) | (with_reducible exact HCL.out _ _ HD6a.out))
      (first
        | (go_at_call 65; (with_reducible refine (K2.out (w7.alloc (.cells #[.string ⟨#[]⟩, .int .i64 0, .int .i64 0, .slice none 0 0, .slice none 0 0, .slice none 0 0] 44)) (HP7.out.stay (below_new _ _))).mono ?_); rintro en w8 ⟨rfl, hp8⟩; have HP8 := Lib.hid ((HP7.out.stay (below_new w7 (.cells #[.string ⟨#[]⟩, .int .i64 0, .int .i64 0, .slice none 0 0, .slice none 0 0, .slice none 0 0] 44))).step hp8); have HB8 := Lib.hid ((Blk.new w7 _ _ _).only hp8.2 (fun q => absurd (show w7.heap.size = g from q) (by have := HP7.out.bd.blk.lt; omega))); have f0 := HB8.out.free 0; have f1' := HB8.out.free 1; have f2' := HB8.out.free 2; have f3' := HB8.out.free 3; have f4' := HB8.out.free 4; have f5' := HB8.out.free 5; have y0 := HB8.out.cell 0; have y1 := HB8.out.cell 1; have y2 := HB8.out.cell 2; have y3 := HB8.out.cell 3; have y4 := HB8.out.cell 4; have y5 := HB8.out.cell 5; simp only [List.getElem?_toArray, List.getElem?_cons_zero, List.getElem?_cons_succ] at y0 y1 y2 y3 y4 y5; have HF8 := Lib.hid (HRES.out _ _ _ _ _ _ _ _ HP8.out HB8.out (by have := HP7.out.on.size; omega)); clear hp8)
        | (go_at_call 65; (with_reducible refine (K2.out w7 HP7.out).mono ?_); rintro en w8 ⟨rfl, hp8⟩; have HP8 := Lib.hid (HP7.out.step hp8); first | (have HB8 := Lib.hid (HB7.out.only hp8.2 (blk_not_blk HB7.out HP7.out.bd.blk (by decide))); have f0 := HB8.out.free 0; have f1' := HB8.out.free 1; have f2' := HB8.out.free 2; have f3' := HB8.out.free 3; have f4' := HB8.out.free 4; have f5' := HB8.out.free 5; have y0 := HB8.out.cell 0; have y1 := HB8.out.cell 1; have y2 := HB8.out.cell 2; have y3 := HB8.out.cell 3; have y4 := HB8.out.cell 4; have y5 := HB8.out.cell 5; simp only [List.getElem?_toArray, List.getElem?_cons_zero, List.getElem?_cons_succ] at y0 y1 y2 y3 y4 y5; have HF8 := Lib.hid (HRES.out _ _ _ _ _ _ _ _ HP8.out HB8.out HGR.out); clear hp8) | (have HF8 := Lib.hid (HREN.out w8 HP8.out); clear hp8))
        | (go_at_call 65; (with_reducible refine (K1.out (w6.alloc (.cells #[.string ⟨#[]⟩, .int .i64 0, .int .i64 0, .slice none 0 0, .slice none 0 0, .slice none 0 0] 44)).drew HD6a.out).mono ?_); rintro en w7 ⟨rfl, hp7⟩; have HP7 := Lib.hid (HD6a.out.step hp7); have HB7 := Lib.hid (HB6a.out.only hp7.2 (blk_not_blk HB6a.out HD6a.out.bd.blk (by decide))); have HGR := Lib.hid HP6.out.on.size; clear hp7)
        | (go_at_call 65; (with_reducible refine (K1.out w6.drew HD6.out).mono ?_); rintro en w7 ⟨rfl, hp7⟩; have HP7 := Lib.hid (HD6.out.step hp7); clear hp7)
        | fail)
    all_goals go_wp2_with fail
    all_goals go_meet
    all_goals exact ⟨_, rfl, HF8⟩
  case rest =>
  obtain ⟨gr, rfl, hR⟩ := hcut
  clear K1 K2 HRES HREN HD6 HD6a HB6a HP6
  have HL8 : Hid ((xv.map (idxS L.secs)).length = m2) := Lib.hid (by rw [List.length_map]; have := HQ.out; omega)
  have HL9 : Hid ((needsP (ptNames L) xs).length = m3) := Lib.hid (by unfold needsP; rw [List.length_map]; have := HQ.out; omega)
  have HL10 : Hid ((needsP (ptNames L) xf).length = m4) := Lib.hid (by unfold needsP; rw [List.length_map]; have := HQ.out; omega)
  have hm2 : m2 ≤ 3000000 := by have := HQ.out; omega
  have hm3 : m3 ≤ 3000000 := by have := HQ.out; omega
  have hm4 : m4 ≤ 3000000 := by have := HQ.out; omega
  have HR3 := Lib.hid (hR.out.stay (show Below wc.heap.size wc wc.drew from below_drawn (Below.refl _ _) 1))
  have KP : Hid (∀ (U : World) (q : Int), RPre w0 w B g gx Bx k (.slice (some ⟨bn, 0, none⟩) nq f1) (.slice C2 m2 f2) (.slice C3 m3 f3) (.slice C4 m4 f4) xn xv xs xf (.slice A1 q1 d1) (.slice A2 q2 d2) (.slice A3 q3 d3) (.slice A4 q4 d4) cs L U q → Calls Tryd.prog 81 #[.pointer (some ⟨g, 0, none⟩), .slice A1 q1 d1, .slice C2 m2 f2] U (PlacesPost w0 U B g (.slice A1 q1 d1) (.slice A2 q2 d2) (.slice A3 q3 d3) (.slice A4 q4 d4) cs L L.secs xv q)) := Lib.hid (fun U q hU => Places_calls hU.bd A1 C2 q1 d1 m2 f2 L.secs xv (sl_of_own hU.bd.secs (by decide) (by have := HQ5.out; omega)).2 (addr_ne hU.bd hU.bd.secs (by decide)) (sl_of_own hU.va (by decide) (by omega)).2 (addr_ne hU.bd hU.va (by decide)) hm2)
  have KN : Hid (∀ (U : World) (q : Int), RPre w0 w B g gx Bx k (.slice (some ⟨bn, 0, none⟩) nq f1) (.slice C2 m2 f2) (.slice C3 m3 f3) (.slice C4 m4 f4) xn xv xs xf (.slice A1 q1 d1) (.slice A2 q2 d2) (.slice A3 q3 d3) (.slice A4 q4 d4) cs L U q → Calls Tryd.prog 82 #[.pointer (some ⟨g, 0, none⟩), .slice C3 m3 f3] U (NeedsP2 w0 U B g (.slice A1 q1 d1) (.slice A2 q2 d2) (.slice A3 q3 d3) (.slice A4 q4 d4) cs L xs q)) := Lib.hid (fun U q hU => BNeeds_calls hU.bd C3 m3 f3 xs (sl_of_own hU.st (by decide) (by omega)).2 (addr_ne hU.bd hU.st (by decide)) hm3)
  have KM : Hid (∀ (U : World) (q : Int), RPre w0 w B g gx Bx k (.slice (some ⟨bn, 0, none⟩) nq f1) (.slice C2 m2 f2) (.slice C3 m3 f3) (.slice C4 m4 f4) xn xv xs xf (.slice A1 q1 d1) (.slice A2 q2 d2) (.slice A3 q3 d3) (.slice A4 q4 d4) cs L U q → Calls Tryd.prog 82 #[.pointer (some ⟨g, 0, none⟩), .slice C4 m4 f4] U (NeedsP2 w0 U B g (.slice A1 q1 d1) (.slice A2 q2 d2) (.slice A3 q3 d3) (.slice A4 q4 d4) cs L xf q)) := Lib.hid (fun U q hU => BNeeds_calls hU.bd C4 m4 f4 xf (sl_of_own hU.fl (by decide) (by omega)).2 (addr_ne hU.bd hU.fl (by decide)) hm4)
  generalize he4 : placesE L.secs e3 xv = e4 at *
  generalize he5 : placesE (ptNames L) e4 (xs.map Wnt.name) = e5 at *
  generalize he6 : placesE (ptNames L) e5 (xf.map Wnt.name) = e6 at *
  have HZ2 := Lib.hid (And.intro he4 (And.intro he5 he6))
  have cg0 := HR3.out.pre.bd.cells.1
  have cx2 := HR3.out.pre.xcells.2.2.1
  clear hR HRF HSG
  go_wp2_with fail
  go_cut [] (fun wx => ∃ (P : Option Addr) (p pc : Nat), Hid (RRt w0 w B g gx Bx k (.slice (some ⟨bn, 0, none⟩) nq f1) (.slice C2 m2 f2) (.slice C3 m3 f3) (.slice C4 m4 f4) xn xv xs xf (.slice A1 q1 d1) (.slice A2 q2 d2) (.slice A3 q3 d3) (.slice A4 q4 d4) cs L gr (.string s0) (.int .i64 z1) (.int .i64 z2) (.slice P p pc) (.slice none 0 0) (.slice none 0 0) wx e4 ∧ Ow flI wx B 3 (.slice P p pc) (xv.map (idxS L.secs))))
  case first =>
    go_region_law (go_simp; go_at_call 81; refine (KP.out _ _ HR3.out.pre).mono ?_; rintro en w8 ⟨v8, rfl, ho8, hp8⟩; obtain ⟨P8, p8, hv8⟩ := row_form ho8; rw [HL8.out] at hv8; subst hv8; have HR8 := Lib.hid (HR3.out.step hp8); have HO8 := Lib.hid (ho8.lower (Nat.le_trans HR3.out.pre.BW HR3.out.pre.on.size)); have f3' := HR8.out.br.free 3; have y3 := HR8.out.br.cell 3; simp only [List.getElem?_toArray, List.getElem?_cons_zero, List.getElem?_cons_succ] at y3; clear ho8 hp8)
    all_goals go_wp2_with fail
    all_goals go_meet
    all_goals (refine ⟨P8, m2, p8, Lib.hid ⟨?_, ?_⟩⟩)
    all_goals first
      | (have := HR8.out.put3 (.slice P8 m2 p8); rw [he4] at this; simpa using this)
      | (have := HO8.out.far_ (own_not_blk HO8.out HR8.out.br (by decide)) 3 (.slice P8 m2 p8); simpa using this)
  case rest =>
  obtain ⟨P, p, pc, h4⟩ := hcut
  have HR4 := Lib.hid (h4.out.1.stay (show Below wc.heap.size wc wc.drew from below_drawn (Below.refl _ _) 1))
  have HO4 := Lib.hid (h4.out.2.stay (show Below wc.heap.size wc wc.drew from below_drawn (Below.refl _ _) 1))
  have cx3 := HR4.out.pre.xcells.2.2.2.1
  have cx4 := HR4.out.pre.xcells.2.2.2.2
  clear h4 cg0 cx2 HR3
  go_wp2_with fail
  go_cut [] (fun wx => ∃ (Q : Option Addr) (q qc : Nat) (F : Option Addr) (f fc : Nat), Hid (RRt w0 w B g gx Bx k (.slice (some ⟨bn, 0, none⟩) nq f1) (.slice C2 m2 f2) (.slice C3 m3 f3) (.slice C4 m4 f4) xn xv xs xf (.slice A1 q1 d1) (.slice A2 q2 d2) (.slice A3 q3 d3) (.slice A4 q4 d4) cs L gr (.string s0) (.int .i64 z1) (.int .i64 z2) (.slice P p pc) (.slice Q q qc) (.slice F f fc) wx e6 ∧ Ow flI wx B 3 (.slice P p pc) (xv.map (idxS L.secs)) ∧ Ow flN wx B 46 (.slice Q q qc) (needsP (ptNames L) xs) ∧ Ow flN wx B 46 (.slice F f fc) (needsP (ptNames L) xf)))
  case first =>
    go_region_law (first
      | (go_simp; go_at_call 82; (with_reducible refine (KN.out _ _ HR4.out.pre).mono ?_); rintro en w8 ⟨v8, rfl, ho8, hp8⟩; obtain ⟨P8, p8, hv8⟩ := row_form ho8; rw [HL9.out] at hv8; subst hv8; rw [he5] at hp8; have HR8 := Lib.hid (HR4.out.step hp8); have HO8 := Lib.hid (ho8.lower (Nat.le_trans HR4.out.pre.BW HR4.out.pre.on.size)); have HI8 := Lib.hid (HO4.out.only hp8.2 (fun k hk e => own_ne_bd HR4.out.pre.bd HO4.out (by decide) (by rw [hk]; exact congrArg some e))); (replace cx3 := HR8.out.pre.xcells.2.2.2.1); (replace cx4 := HR8.out.pre.xcells.2.2.2.2); clear ho8 hp8)
      | (go_simp; go_at_call 82; (with_reducible refine (KM.out _ _ HR8.out.pre).mono ?_); rintro en w9 ⟨v9, rfl, ho9, hp9⟩; obtain ⟨P9, p9, hv9⟩ := row_form ho9; rw [HL10.out] at hv9; subst hv9; rw [he6] at hp9; have HR9 := Lib.hid (HR8.out.step hp9); have HO9 := Lib.hid (ho9.lower (Nat.le_trans HR8.out.pre.BW HR8.out.pre.on.size)); have HI9 := Lib.hid (HI8.out.only hp9.2 (fun k hk e => own_ne_bd HR8.out.pre.bd HI8.out (by decide) (by rw [hk]; exact congrArg some e))); have HN9 := Lib.hid (HO8.out.only hp9.2 (fun k hk e => own_ne_bd HR8.out.pre.bd HO8.out (by decide) (by rw [hk]; exact congrArg some e))); have f4' := HR9.out.br.free 4; have y4 := HR9.out.br.cell 4; have f5' := HR9.out.br.free 5; have y5 := HR9.out.br.cell 5; simp only [List.getElem?_toArray, List.getElem?_cons_zero, List.getElem?_cons_succ] at y4 y5; clear ho9 hp9))
    all_goals go_wp2_with fail
    all_goals go_meet
    all_goals (refine ⟨P8, m3, p8, P9, m4, p9, Lib.hid ⟨(HR9.out.put4 _).put5 _, ?_, ?_, ?_⟩⟩)
    all_goals first
      | exact (HI9.out.far_ (own_not_blk HI9.out HR9.out.br (by decide)) 4 _).far_ (own_not_blk HI9.out HR9.out.br (by decide)) 5 _
      | exact (HN9.out.far_ (own_not_blk HN9.out HR9.out.br (by decide)) 4 _).far_ (own_not_blk HN9.out HR9.out.br (by decide)) 5 _
      | exact (HO9.out.far_ (own_not_blk HO9.out HR9.out.br (by decide)) 4 _).far_ (own_not_blk HO9.out HR9.out.br (by decide)) 5 _
  case rest =>
  obtain ⟨Q, q, qc, F, f, fc, h5⟩ := hcut
  have HR5 := Lib.hid h5.out.1
  have HO5 := Lib.hid h5.out.2
  clear h5 HR4 HO4 KN KM KP cx3 cx4
  have HROUTE : Hid (routeE L ⟨k, xn, xv, xs, xf⟩ = e6) := Lib.hid (by
    unfold routeE
    dsimp only
    rw [HN0.out.1, HN0.out.2.1, HN0.out.2.2, ← HZ2.out.2.2, ← HZ2.out.2.1, ← HZ2.out.1, ← HZ.out.2.2.2, ← HZ.out.2.2.1, HE1.out, HN0.out.1])
  have HRV : Hid (rv = ⟨s0, z1, z2, xv.map (idxS L.secs), needsP (ptNames L) xs, needsP (ptNames L) xf⟩) := Lib.hid (by
    rw [← HRV0.out]
    unfold routeV
    dsimp only
    rw [HN0.out.1, HN0.out.2.1, HN0.out.2.2, ← HZ.out.1, ← HZ.out.2.1])
  have hq4l : ((L.rtes.length : Nat) : Int) + 1 = (q4 : Int) + 1 := by have := HQ.out; omega
  have HRG : Hid (eg = fitE (max (m3 : Int) m4) 5 (fitE m2 5 (fitE ((q4 : Int) + 1) 6 e6))) := Lib.hid (by
    have hh := HQ.out
    rw [← HRG0.out]
    unfold routeG routeF
    dsimp only
    rw [HROUTE.out, hq4l, ← hh.2.2.2.2.2.1, ← hh.2.2.2.2.2.2.1, ← hh.2.2.2.2.2.2.2])
  clear HROUTE hq4l
  have cg3 := HR5.out.pre.bd.cells.2.2.2.1
  have HK1 := Lib.hid (Fits_calls HR5.out.pre.bd ((q4 : Int) + 1) 6)
  generalize he7 : fitE ((q4 : Int) + 1) 6 e6 = e7 at *
  cases hb1 : decide (e7 = 0) with
  | false =>
    rw [hb1] at HK1
    have HX : Hid (eg = e7) := Lib.hid (by
      have h0 : e7 ≠ 0 := by simpa using hb1
      rw [HRG.out]
      unfold fitE or0
      rw [if_neg h0, if_neg h0])
    have HX0 : Hid (¬ eg = 0) := Lib.hid (by rw [HX.out]; simpa using hb1)
    clear hb1
    go_wp2_with (first
      | (go_at_call 63; refine HK1.out.mono ?_; rintro en w7 ⟨rfl, hp7⟩; have HP7 := Lib.hid (HR5.out.pre.step hp7); clear hp7)
      | fail)
    go_end0
    rw [← HLF.out, if_neg HX0.out, HX.out]
    exact ⟨rfl, _, _, _, _, _, HP7.out.bd, HP7.out.on⟩
  | true =>
  have h70 : e7 = 0 := by simpa using hb1
  rw [hb1] at HK1
  clear hb1
  have HK2 := Lib.hid (fun (U : World) (hU : RRt w0 w B g gx Bx k (.slice (some ⟨bn, 0, none⟩) nq f1) (.slice C2 m2 f2) (.slice C3 m3 f3) (.slice C4 m4 f4) xn xv xs xf (.slice A1 q1 d1) (.slice A2 q2 d2) (.slice A3 q3 d3) (.slice A4 q4 d4) cs L gr (.string s0) (.int .i64 z1) (.int .i64 z2) (.slice P p pc) (.slice Q q qc) (.slice F f fc) U e7) => Fits_calls hU.pre.bd (m2 : Int) 5)
  generalize he8 : fitE (m2 : Int) 5 e7 = e8 at *
  cases hb2 : decide (e8 = 0) with
  | false =>
    rw [hb2] at HK2
    have HX : Hid (eg = e8) := Lib.hid (by
      have h0 : e8 ≠ 0 := by simpa using hb2
      rw [HRG.out]
      unfold fitE or0
      rw [if_neg h0])
    have HX0 : Hid (¬ eg = 0) := Lib.hid (by rw [HX.out]; simpa using hb2)
    clear hb2 h70
    go_wp2_with (first
      | (go_at_call 63; (with_reducible refine HK1.out.mono ?_); rintro en w7 ⟨rfl, hp7⟩; have HP7 := Lib.hid (HR5.out.step hp7); have cx2 := HP7.out.pre.xcells.2.2.1; clear hp7)
      | (go_at_call 63; (with_reducible refine (HK2.out _ HP7.out).mono ?_); rintro en w8 ⟨rfl, hp8⟩; have HP8 := Lib.hid (HP7.out.step hp8); clear hp8)
      | fail)
    go_end0
    rw [← HLF.out, if_neg HX0.out, HX.out]
    exact ⟨rfl, _, _, _, _, _, HP8.out.pre.bd, HP8.out.pre.on⟩
  | true =>
  have h80 : e8 = 0 := by simpa using hb2
  rw [hb2] at HK2
  clear hb2
  have HK3 := Lib.hid (fun (U : World) (hU : RRt w0 w B g gx Bx k (.slice (some ⟨bn, 0, none⟩) nq f1) (.slice C2 m2 f2) (.slice C3 m3 f3) (.slice C4 m4 f4) xn xv xs xf (.slice A1 q1 d1) (.slice A2 q2 d2) (.slice A3 q3 d3) (.slice A4 q4 d4) cs L gr (.string s0) (.int .i64 z1) (.int .i64 z2) (.slice P p pc) (.slice Q q qc) (.slice F f fc) U e8) => Fits_calls hU.pre.bd (max (m3 : Int) m4) 5)
  generalize he9 : fitE (max (m3 : Int) m4) 5 e8 = e9 at *
  cases hb3 : decide (e9 = 0) with
  | false =>
    rw [hb3] at HK3
    have HX0 : Hid (¬ eg = 0) := Lib.hid (by rw [HRG.out]; simpa using hb3)
    clear hb3 h70 h80
    go_wp2_with (first
      | (go_at_call 63; (with_reducible refine HK1.out.mono ?_); rintro en w7 ⟨rfl, hp7⟩; have HP7 := Lib.hid (HR5.out.step hp7); have cx2 := HP7.out.pre.xcells.2.2.1; clear hp7)
      | (go_at_call 63; (with_reducible refine (HK2.out _ HP7.out).mono ?_); rintro en w8 ⟨rfl, hp8⟩; have HP8 := Lib.hid (HP7.out.step hp8); have cx3 := HP8.out.pre.xcells.2.2.2.1; have cx4 := HP8.out.pre.xcells.2.2.2.2; clear hp8)
      | (go_at_call 63; refine (HK3.out _ HP8.out).mono ?_; rintro en w9 ⟨rfl, hp9⟩; have HP9 := Lib.hid (HP8.out.step hp9); clear hp9)
      | fail)
    go_end0
    rw [← HLF.out, if_neg HX0.out, HRG.out]
    exact ⟨rfl, _, _, _, _, _, HP9.out.pre.bd, HP9.out.pre.on⟩
  | true =>
  have HX0 : Hid (eg = 0) := Lib.hid (by rw [HRG.out]; simpa using hb3)
  have he90 : e9 = 0 := by simpa using hb3
  have HQ4 : Hid (L.rtes.length + 1 ≤ 6) := Lib.hid (by
    have e : fitE ((q4 : Int) + 1) 6 e6 = 0 := by rw [he7]; exact h70
    unfold fitE or0 at e
    have hh := HQ.out
    split at e
    · split at e
      · cases e
      · omega
    · rename_i h; exact absurd e h)
  rw [hb3] at HK3
  clear hb3 h70 h80
  go_wp2_with (first
    | (go_at_call 63; (with_reducible refine HK1.out.mono ?_); rintro en w7 ⟨rfl, hp7⟩; have HP7 := Lib.hid (HR5.out.step hp7); have cx2 := HP7.out.pre.xcells.2.2.1; have HJ7 := Lib.hid (HO5.out.1.only hp7.2 (fun k hk e => own_ne_bd HR5.out.pre.bd HO5.out.1 (by decide) (by rw [hk]; exact congrArg some e))); have HN7 := Lib.hid (HO5.out.2.1.only hp7.2 (fun k hk e => own_ne_bd HR5.out.pre.bd HO5.out.2.1 (by decide) (by rw [hk]; exact congrArg some e))); have HM7 := Lib.hid (HO5.out.2.2.only hp7.2 (fun k hk e => own_ne_bd HR5.out.pre.bd HO5.out.2.2 (by decide) (by rw [hk]; exact congrArg some e))); clear hp7)
    | (go_at_call 63; (with_reducible refine (HK2.out _ HP7.out).mono ?_); rintro en w8 ⟨rfl, hp8⟩; have HP8 := Lib.hid (HP7.out.step hp8); have cx3 := HP8.out.pre.xcells.2.2.2.1; have cx4 := HP8.out.pre.xcells.2.2.2.2; have HJ8 := Lib.hid (HJ7.out.only hp8.2 (fun k hk e => own_ne_bd HP7.out.pre.bd HJ7.out (by decide) (by rw [hk]; exact congrArg some e))); have HN8 := Lib.hid (HN7.out.only hp8.2 (fun k hk e => own_ne_bd HP7.out.pre.bd HN7.out (by decide) (by rw [hk]; exact congrArg some e))); have HM8 := Lib.hid (HM7.out.only hp8.2 (fun k hk e => own_ne_bd HP7.out.pre.bd HM7.out (by decide) (by rw [hk]; exact congrArg some e))); clear hp8)
    | (go_at_call 63; refine (HK3.out _ HP8.out).mono ?_; rintro en w9 ⟨rfl, hp9⟩; have HP9 := Lib.hid (HP8.out.step hp9); have HJ9 := Lib.hid (HJ8.out.only hp9.2 (fun k hk e => own_ne_bd HP8.out.pre.bd HJ8.out (by decide) (by rw [hk]; exact congrArg some e))); have HN9 := Lib.hid (HN8.out.only hp9.2 (fun k hk e => own_ne_bd HP8.out.pre.bd HN8.out (by decide) (by rw [hk]; exact congrArg some e))); have HM9 := Lib.hid (HM8.out.only hp9.2 (fun k hk e => own_ne_bd HP8.out.pre.bd HM8.out (by decide) (by rw [hk]; exact congrArg some e))); clear hp9)
    | fail)
  have HT9 := Lib.hid (HP9.out.stay (show Below w9.heap.size w9 w9.drew from below_drawn (Below.refl _ _) 1))
  have HRR : Hid (RtR w9.drew B ⟨s0, z1, z2, P, p, pc, Q, q, qc, F, f, fc⟩ rv) := Lib.hid (by
    rw [HRV.out]
    have hd := show Below w9.heap.size w9 w9.drew from below_drawn (Below.refl _ _) 1
    exact ⟨rfl, rfl, rfl, HJ9.out.stay hd, HN9.out.stay hd, HM9.out.stay hd⟩)
  have cg3 := HT9.out.pre.bd.cells.2.2.2.1
  have r0 := HT9.out.br.cell 0
  have r1 := HT9.out.br.cell 1
  have r2 := HT9.out.br.cell 2
  have r3 := HT9.out.br.cell 3
  have r4 := HT9.out.br.cell 4
  have r5 := HT9.out.br.cell 5
  simp only [List.getElem?_toArray, List.getElem?_cons_zero, List.getElem?_cons_succ] at r0 r1 r2 r3 r4 r5
  have lg9 := HP9.out.pre.bd.blk.lt
  have cg9 := HP9.out.pre.bd.cells.2.2.2.1
  have HQQ := Lib.hid (HQ5.out.2.2.2.1)
  have HBW9 := Lib.hid (Nat.le_trans HT9.out.pre.BW HT9.out.pre.on.size)
  clear cx2 cx3 cx4
  go_region_law (refine rtes_step (c := ⟨s0, z1, z2, P, p, pc, Q, q, qc, F, f, fc⟩) HT9.out HRR.out HQQ.out HQ4.out (by rfl) (.tmp 97) (.tmp 99) (by rfl) (by rfl) _ (by rfl) (by rfl) ?_; intro A8 c8 w8 fg3 hcg3 HA; (replace cg3 := hcg3))
  all_goals go_wp2_with fail
  all_goals go_end0
  all_goals rw [← HLF.out, if_pos HX0.out, HX0.out]
  all_goals exact ⟨rfl, by have := HA.out; rw [he90] at this; exact this⟩
end
end Go.Proofs.YtmdnmiiggkfnfaaDoor

/- Contract of plan's builder: puts. -/
set_option linter.unusedVariables false
set_option linter.unusedSimpArgs false
namespace Go.Proofs.YtmdnmiiggkfnfaaDoor
open Go.RowKit

theorem info_secs : (Tryd.prog.info? 9).map (fun i => (i.zero, i.size, i.bytes)) = some (some (.string .empty), 1, 16) := by kernel_rfl
theorem info_sigs : (Tryd.prog.info? 9).map (fun i => (i.zero, i.size, i.bytes)) = some (some (.string .empty), 1, 16) := by kernel_rfl
theorem info_pts : (Tryd.prog.info? 51).map (fun i => (i.zero, i.size, i.bytes)) = some (some (.agg #[.string .empty, .int .i64 0]), 2, 24) := by kernel_rfl
theorem fit_le {q most : Nat} {e : Int} (h : fitE ((q : Int) + 1) most e = 0) : q + 1 ≤ most := by
  unfold fitE or0 at h
  split at h
  · split at h
    · cases h
    · omega
  · rename_i h2; exact absurd h h2
theorem nm_at {w : World} {B : Nat} {t : TypeId} {b n c j : Nat} {xs : List ByteArray} {s : ByteArray} (h : Ow flS w B t (.slice (some ⟨b, 0, none⟩) n c) xs) (hs : xs[j]? = some s) : w.cell? ⟨b, j, none⟩ = some (.string s) := by
  obtain ⟨b', c', e', hc'⟩ := own_str h (by have := (List.getElem?_eq_some_iff.1 hs).1; omega)
  injection e' with ea eb ec
  injection ea with ea
  injection ea with ea
  subst ea
  exact hc' j s hs
section
variable {w0 w : World} {B g gx Bx : Nat} {k : ByteArray} {vn vv vs vf : Value} {xn xv : List ByteArray} {xs xf : List Wnt} {v1 v2 v3 v4 : Value} {cs : List RtC} {L : Lay} {U U1 : World} {e e' : Int}
theorem secs_step {ops : Array Oper} {o : Oper} {a : Act} {K : Act → World → Prop} {Q : Exit → Act → World → Prop} {E : Prop} {A1 : Option Addr} {q1 d1 : Nat} {t : ByteArray} (h : RPre w0 w B g gx Bx k vn vv vs vf xn xv xs xf (.slice A1 q1 d1) v2 v3 v4 cs L U e) (hq : L.secs.length = q1) (hl : q1 + 1 ≤ 10) (hgd : o.guard = none) (s y : Operand)
    (ho : o.op = .call { callee := .builtin .append, args := #[s, y], argTypes := #[22, 22] }) (hs : a.eval s = .slice A1 q1 d1) (W : World) (hW : W = U.alloc (.cells #[.string t] 9)) (hx : a.eval y = .slice (some ⟨U.heap.size, 0, none⟩) 1 1)
    (hK : ∀ A8 c8 w8, World.frozen? w8 ⟨g, 0, none⟩ = false → World.cell? w8 ⟨g, 0, none⟩ = some (.slice A1 q1 d1) → Hid (PutP w0 w B g { L with secs := L.secs ++ [t] } e (w8.setCell ⟨g, 0, none⟩ (.slice A8 (q1 + 1) c8))) → K (a.put o.dst (.slice A8 (q1 + 1) c8)) w8) :
    if Region.wanted o (yielded ops a.tmps) = true then Oper.wp Tryd.prog o a W K Q else E := by
  subst hW hq
  obtain ⟨i0, hi0, hz0, hz1, hz2⟩ := info_parts info_secs
  have hb := below_new U (.cells #[.string t] 9)
  have h1 := h.stay hb
  have hBU := Nat.le_trans h.BW h.on.size
  refine step_append_any (P := Tryd.prog) _ hgd s y 22 ho B 9 i0 _ 1 16 Tryd.underlying22 hi0 hz0 hz1 hz2 rfl (by omega) (.slice A1 L.secs.length d1) L.secs.length (L.secs.flatMap flS.enc) hs h1.bd.secs _ (some ⟨U.heap.size, 0, none⟩) 1 1 (flS.enc t) hx (box_reads flS U _ 9 t rfl) (flS.one t) (by simp only [maxLen]; omega) (by omega) (by rw [size_new]; omega) ?_
  intro v8 w8 hown hg hat
  obtain ⟨A8, c8, rfl⟩ := row_form hown
  have hA := secs_app h1.bd hown hg hat hl
  have hb8 := h1.bd.blk.only (Only.of_grown hg) (fun e => own_ne_bd h1.bd h1.bd.secs (by decide) e)
  have c3 := hb8.cell 0
  simp only [List.getElem?_toArray, List.getElem?_cons_zero, List.getElem?_cons_succ] at c3
  refine hK A8 c8 w8 (hb8.free 0) c3 (Lib.hid ⟨_, _, _, _, _, hA, ?_⟩)
  have h2 : Only (fun b => B ≤ b) w w8 := h1.on.trans (Only.of_grown hg) (fun _ _ h => h) (fun q _ hq => h1.bd.secs.base_ q hq)
  exact h2.trans (Only.put ⟨g, 0, none⟩ _) (fun _ _ h => h) (fun q _ hq => by have e : q = g := hq; have := h.bd.Bg; omega)
theorem sigs_step {ops : Array Oper} {o : Oper} {a : Act} {K : Act → World → Prop} {Q : Exit → Act → World → Prop} {E : Prop} {A3 : Option Addr} {q3 d3 : Nat} {t : ByteArray} (h : RPre w0 w B g gx Bx k vn vv vs vf xn xv xs xf v1 v2 (.slice A3 q3 d3) v4 cs L U e) (hq : L.sigs.length = q3) (hl : q3 + 1 ≤ 6) (hgd : o.guard = none) (s y : Operand)
    (ho : o.op = .call { callee := .builtin .append, args := #[s, y], argTypes := #[22, 22] }) (hs : a.eval s = .slice A3 q3 d3) (W : World) (hW : W = U.alloc (.cells #[.string t] 9)) (hx : a.eval y = .slice (some ⟨U.heap.size, 0, none⟩) 1 1)
    (hK : ∀ A8 c8 w8, World.frozen? w8 ⟨g, 2, none⟩ = false → World.cell? w8 ⟨g, 2, none⟩ = some (.slice A3 q3 d3) → Hid (PutP w0 w B g { L with sigs := L.sigs ++ [t] } e (w8.setCell ⟨g, 2, none⟩ (.slice A8 (q3 + 1) c8))) → K (a.put o.dst (.slice A8 (q3 + 1) c8)) w8) :
    if Region.wanted o (yielded ops a.tmps) = true then Oper.wp Tryd.prog o a W K Q else E := by
  subst hW hq
  obtain ⟨i0, hi0, hz0, hz1, hz2⟩ := info_parts info_sigs
  have hb := below_new U (.cells #[.string t] 9)
  have h1 := h.stay hb
  have hBU := Nat.le_trans h.BW h.on.size
  refine step_append_any (P := Tryd.prog) _ hgd s y 22 ho B 9 i0 _ 1 16 Tryd.underlying22 hi0 hz0 hz1 hz2 rfl (by omega) (.slice A3 L.sigs.length d3) L.sigs.length (L.sigs.flatMap flS.enc) hs h1.bd.sigs _ (some ⟨U.heap.size, 0, none⟩) 1 1 (flS.enc t) hx (box_reads flS U _ 9 t rfl) (flS.one t) (by simp only [maxLen]; omega) (by omega) (by rw [size_new]; omega) ?_
  intro v8 w8 hown hg hat
  obtain ⟨A8, c8, rfl⟩ := row_form hown
  have hA := sigs_app h1.bd hown hg hat hl
  have hb8 := h1.bd.blk.only (Only.of_grown hg) (fun e => own_ne_bd h1.bd h1.bd.sigs (by decide) e)
  have c3 := hb8.cell 2
  simp only [List.getElem?_toArray, List.getElem?_cons_zero, List.getElem?_cons_succ] at c3
  refine hK A8 c8 w8 (hb8.free 2) c3 (Lib.hid ⟨_, _, _, _, _, hA, ?_⟩)
  have h2 : Only (fun b => B ≤ b) w w8 := h1.on.trans (Only.of_grown hg) (fun _ _ h => h) (fun q _ hq => h1.bd.sigs.base_ q hq)
  exact h2.trans (Only.put ⟨g, 2, none⟩ _) (fun _ _ h => h) (fun q _ hq => by have e : q = g := hq; have := h.bd.Bg; omega)
theorem pts_step {ops : Array Oper} {o : Oper} {a : Act} {K : Act → World → Prop} {Q : Exit → Act → World → Prop} {E : Prop} {A2 : Option Addr} {q2 d2 : Nat} {t : Pt} (h : RPre w0 w B g gx Bx k vn vv vs vf xn xv xs xf v1 (.slice A2 q2 d2) v3 v4 cs L U e) (hq : L.pts.length = q2) (hl : q2 + 1 ≤ 5) (hgd : o.guard = none) (s y : Operand)
    (ho : o.op = .call { callee := .builtin .append, args := #[s, y], argTypes := #[23, 23] }) (hs : a.eval s = .slice A2 q2 d2) (W : World) (hW : W = U.alloc (.cells #[.string t.name, .int .i64 t.sec] 51)) (hx : a.eval y = .slice (some ⟨U.heap.size, 0, none⟩) 1 1)
    (hK : ∀ A8 c8 w8, World.frozen? w8 ⟨g, 1, none⟩ = false → World.cell? w8 ⟨g, 1, none⟩ = some (.slice A2 q2 d2) → Hid (PutP w0 w B g { L with pts := L.pts ++ [t] } e (w8.setCell ⟨g, 1, none⟩ (.slice A8 (q2 + 1) c8))) → K (a.put o.dst (.slice A8 (q2 + 1) c8)) w8) :
    if Region.wanted o (yielded ops a.tmps) = true then Oper.wp Tryd.prog o a W K Q else E := by
  subst hW hq
  obtain ⟨i0, hi0, hz0, hz1, hz2⟩ := info_parts info_pts
  have hb := below_new U (.cells #[.string t.name, .int .i64 t.sec] 51)
  have h1 := h.stay hb
  have hBU := Nat.le_trans h.BW h.on.size
  refine step_append_any (P := Tryd.prog) _ hgd s y 23 ho B 51 i0 _ 2 24 Tryd.underlying23 hi0 hz0 hz1 hz2 rfl (by omega) (.slice A2 L.pts.length d2) L.pts.length (L.pts.flatMap flP.enc) hs h1.bd.pts _ (some ⟨U.heap.size, 0, none⟩) 1 1 (flP.enc t) hx (box_reads flP U _ 51 t rfl) (flP.one t) (by simp only [maxLen]; omega) (by omega) (by rw [size_new]; omega) ?_
  intro v8 w8 hown hg hat
  obtain ⟨A8, c8, rfl⟩ := row_form hown
  have hA := pts_app h1.bd hown hg hat hl
  have hb8 := h1.bd.blk.only (Only.of_grown hg) (fun e => own_ne_bd h1.bd h1.bd.pts (by decide) e)
  have c3 := hb8.cell 1
  simp only [List.getElem?_toArray, List.getElem?_cons_zero, List.getElem?_cons_succ] at c3
  refine hK A8 c8 w8 (hb8.free 1) c3 (Lib.hid ⟨_, _, _, _, _, hA, ?_⟩)
  have h2 : Only (fun b => B ≤ b) w w8 := h1.on.trans (Only.of_grown hg) (fun _ _ h => h) (fun q _ hq => h1.bd.pts.base_ q hq)
  exact h2.trans (Only.put ⟨g, 1, none⟩ _) (fun _ _ h => h) (fun q _ hq => by have e : q = g := hq; have := h.bd.Bg; omega)
end
theorem puts_route {L : Lay} {k : ByteArray} {xn xv : List ByteArray} {xs xf : List Wnt} (h1 : k ≠ secW) (h2 : k ≠ sigW) (h3 : k ≠ ptW) : putsM L ⟨k, xn, xv, xs, xf⟩ = (if routeG L ⟨k, xn, xv, xs, xf⟩ = 0 then { L with rtes := L.rtes ++ [routeV L ⟨k, xn, xv, xs, xf⟩] } else L, routeG L ⟨k, xn, xv, xs, xf⟩) := (if_neg h1).trans ((if_neg h2).trans (if_neg h3))
/-- So many names a line must have. -/
def enough (k : ByteArray) (n : Nat) : Prop := 1 ≤ n ∧ (k = ptW → 2 ≤ n) ∧ (k ≠ secW → k ≠ sigW → k ≠ ptW → 3 ≤ n)
section
variable {w0 w : World} {B g Bx : Nat} {k : ByteArray} {xn xv : List ByteArray} {xs xf : List Wnt} {v1 v2 v3 v4 : Value} {cs : List RtC} {L : Lay}
set_option maxRecDepth 20000 in
set_option maxHeartbeats 8000000 in
theorem Puts_calls (h : BdAt w0 w B g v1 v2 v3 v4 cs L 0) (hBW : B ≤ w.heap.size) {C1 C2 C3 C4 : Option Addr} {m1 f1 m2 f2 m3 f3 m4 f4 : Nat} (h1 : Ow flS w Bx 9 (.slice C1 m1 f1) xn) (h2 : Ow flS w Bx 9 (.slice C2 m2 f2) xv) (h3 : Ow flWn w Bx 130 (.slice C3 m3 f3) xs) (h4 : Ow flWn w Bx 130 (.slice C4 m4 f4) xf)
    (hn : enough k xn.length) (hl1 : xn.length ≤ 100) (hl2 : xv.length ≤ 3000000) (hl3 : xs.length ≤ 3000000) (hl4 : xf.length ≤ 3000000) :
    Calls Tryd.prog 48 #[.pointer (some ⟨g, 0, none⟩), .agg #[.string k, .slice C1 m1 f1, .slice C2 m2 f2, .slice C3 m3 f3, .slice C4 m4 f4]] w fun en w' => en = .returned (.tuple #[]) ∧
      PutP w0 w B g (putsM L ⟨k, xn, xv, xs, xf⟩).1 (putsM L ⟨k, xn, xv, xs, xf⟩).2 w' := by
  obtain ⟨A1, d1, rfl⟩ := row_form h.secs
  obtain ⟨A2, d2, rfl⟩ := row_form h.pts
  obtain ⟨A3, d3, rfl⟩ := row_form h.sigs
  obtain ⟨A4, d4, rfl⟩ := row_form h.rtes
  obtain rfl := (sl_of_own h1 (by decide) (by omega)).1
  have hcs : cs.length ≤ 6 := by have := h.rel.len; have := h.l4; omega
  have hq1' := h.l1
  have hq2' := h.l2
  have hq3' := h.l3
  have hw1 := below_new w (.cells #[.string k, .slice C1 xn.length f1, .slice C2 m2 f2, .slice C3 m3 f3, .slice C4 m4 f4] 86)
  have HP0 := Lib.hid (show RPre w0 w B g w.heap.size Bx k (.slice C1 xn.length f1) (.slice C2 m2 f2) (.slice C3 m3 f3) (.slice C4 m4 f4) xn xv xs xf _ _ _ _ cs L (w.alloc (.cells #[.string k, .slice C1 xn.length f1, .slice C2 m2 f2, .slice C3 m3 f3, .slice C4 m4 f4] 86)) 0 from
    ⟨h.stay hw1, Blk.new w _ _ _, h1.stay hw1, h2.stay hw1, h3.stay hw1, h4.stay hw1, Only.of_below hw1, Nat.le_refl _, hBW⟩)
  have KR := Lib.hid (fun (hk3 : 3 ≤ xn.length) => PRoute_calls (k := k) (h.stay hw1) (show B ≤ (w.alloc (.cells #[.string k, .slice C1 xn.length f1, .slice C2 m2 f2, .slice C3 m3 f3, .slice C4 m4 f4] 86)).heap.size by rw [size_new]; omega) (h1.stay hw1) (h2.stay hw1) (h3.stay hw1) (h4.stay hw1) hk3 hl1 hl2 hl3 hl4)
  have HW1 := Lib.hid hw1
  generalize hq1 : L.secs.length = q1 at h hq1' HP0 KR
  generalize hq2 : L.pts.length = q2 at h hq2' HP0 KR
  generalize hq3 : L.sigs.length = q3 at h hq3' HP0 KR
  generalize hq4 : cs.length = q4 at h hcs HP0 KR
  generalize hq5 : xn.length = nq at h1 HP0 hw1 KR HW1 ⊢
  have HQ5 := Lib.hid (And.intro hq1 (And.intro hq2 (And.intro hq3 (And.intro hq4 hq5))))
  have HLN := Lib.hid (And.intro hn.1 hl1)
  have HNN := Lib.hid hn
  clear h h1 h2 h3 h4 hw1 hq1 hq2 hq3 hq4 hq5 hn hl1
  generalize hpt : putsM L ⟨k, xn, xv, xs, xf⟩ = pt at *
  obtain ⟨LF, eg⟩ := pt
  dsimp only
  have HPT : Hid (((LF, eg) : Lay × Int) = putsM L ⟨k, xn, xv, xs, xf⟩) := Lib.hid hpt.symm
  clear hpt
  go_enter Tryd.func48, Tryd.ntmps48
  go_upto_region 1 with fail
  generalize (w.alloc (.cells #[.string k, .slice C1 nq f1, .slice C2 m2 f2, .slice C3 m3 f3, .slice C4 m4 f4] 86)) = W1 at *
  generalize hgx : w.heap.size = gx at HP0 ⊢
  have HGL := Lib.hid (show w.heap.size ≤ gx by omega)
  clear hgx
  have cx0 := HP0.out.xcells.1
  rcases kinds k with ⟨hk, e1, e2, e3, e4⟩ | ⟨hk, e1, e2, e3, e4⟩ | ⟨hk, e1, e2, e3, e4⟩ | ⟨hk, e1, e2, e3, e4⟩ | ⟨hk, e1, e2, e3, e4⟩
  ·
    obtain ⟨bn, nc, en1, hnc⟩ := own_str HP0.out.nm (by have := HLN.out; omega)
    obtain ⟨s0, hs0⟩ : ∃ s, xn[0]? = some s := ⟨_, List.getElem?_eq_getElem (by have := HLN.out; omega)⟩
    injection en1 with ea eb ec
    subst ea ec
    clear eb hnc
    have hn0 : nth xn 0 = s0 := by unfold nth; rw [List.getD_eq_getElem?_getD, hs0]; rfl
    have HCL := Lib.hid (fun (U : World) (q : Int) (h : RPre w0 w B g gx Bx k (.slice (some ⟨bn, 0, none⟩) nq f1) (.slice C2 m2 f2) (.slice C3 m3 f3) (.slice C4 m4 f4) xn xv xs xf (.slice A1 q1 d1) (.slice A2 q2 d2) (.slice A3 q3 d3) (.slice A4 q4 d4) cs L U q) => (⟨h.bd.cells.1, h.bd.cells.2.1, h.bd.cells.2.2.1, h.bd.cells.2.2.2.1, h.xcells.2.1, nm_at h.nm hs0⟩ : U.cell? ⟨g, 0, none⟩ = some (.slice A1 q1 d1) ∧ U.cell? ⟨g, 1, none⟩ = some (.slice A2 q2 d2) ∧ U.cell? ⟨g, 2, none⟩ = some (.slice A3 q3 d3) ∧ U.cell? ⟨g, 3, none⟩ = some (.slice A4 q4 d4) ∧ U.cell? ⟨gx, 1, none⟩ = some (.slice (some ⟨bn, 0, none⟩) nq f1) ∧ U.cell? ⟨bn, 0, none⟩ = some (.string s0)))
    have HSL := Lib.hid (fun (U : World) (q : Int) (h : RPre w0 w B g gx Bx k (.slice (some ⟨bn, 0, none⟩) nq f1) (.slice C2 m2 f2) (.slice C3 m3 f3) (.slice C4 m4 f4) xn xv xs xf (.slice A1 q1 d1) (.slice A2 q2 d2) (.slice A3 q3 d3) (.slice A4 q4 d4) cs L U q) => (sl_of_own h.bd.secs (by decide) (by have := HQ5.out; omega)).2)
    have HPM := Lib.hid (show putsM L ⟨k, xn, xv, xs, xf⟩ = (if fitE (L.secs.length + 1) 10 (newE L.secs s0 0) = 0 then { L with secs := L.secs ++ [s0] } else L, fitE (L.secs.length + 1) 10 (newE L.secs s0 0)) by rw [← hn0]; subst hk; rfl)
    have hnq0 : (0 : Int) < nq := by have := HLN.out; have := HQ5.out; omega
    have hnqa : 0 < nq := by omega
    have HK := Lib.hid hk
    clear hk hs0 hn0
    have HD1 := Lib.hid (HP0.out.stay (show Below W1.heap.size W1 W1.drew from below_drawn (Below.refl _ _) 1))
    go_wp2_with fail
    go_region_held3 (fun U => U.cell? ⟨g, 0, none⟩ = some (.slice A1 q1 d1) ∧ U.cell? ⟨g, 1, none⟩ = some (.slice A2 q2 d2) ∧ U.cell? ⟨g, 2, none⟩ = some (.slice A3 q3 d3) ∧ U.cell? ⟨g, 3, none⟩ = some (.slice A4 q4 d4) ∧ U.cell? ⟨gx, 1, none⟩ = some (.slice (some ⟨bn, 0, none⟩) nq f1) ∧ U.cell? ⟨bn, 0, none⟩ = some (.string s0))
      (first | (with_reducible exact HCL.out _ _ HP6.out) | (with_reducible exact HCL.out _ _ HD1.out))
      (first
        | (go_at_call 62; refine (IsNew_calls HD1.out.bd A1 q1 d1 L.secs (HSL.out _ _ HD1.out) s0).mono ?_; rintro en w6 ⟨rfl, hp6⟩; have HP6 := Lib.hid (HD1.out.step hp6); clear hp6)
        | fail)
    generalize newE L.secs s0 0 = e1 at *
    have cg := HP6.out.bd.cells.1
    have hqc : ((L.secs.length : Nat) : Int) + 1 = (q1 : Int) + 1 := by have := HQ5.out; omega
    rw [hqc] at HPM
    have HK2 := Lib.hid (Fits_calls HP6.out.bd ((q1 : Int) + 1) 10)
    generalize he7 : fitE ((q1 : Int) + 1) 10 e1 = e7 at *
    cases hb1 : decide (e7 = 0) with
    | false =>
      rw [hb1] at HK2
      have HX := Lib.hid (show ((LF, eg) : Lay × Int) = (L, e7) by rw [HPT.out, HPM.out, if_neg (by simpa using hb1)])
      clear hb1
      go_wp2_with (first
        | (go_at_call 63; refine HK2.out.mono ?_; rintro en w7 ⟨rfl, hp7⟩; have HP7 := Lib.hid (HP6.out.step hp7); clear hp7)
        | fail)
      go_end0
      rw [(Prod.mk.inj HX.out).1, (Prod.mk.inj HX.out).2]
      exact ⟨rfl, _, _, _, _, _, HP7.out.bd, HP7.out.on⟩
    | true =>
      have h70 : e7 = 0 := by simpa using hb1
      rw [hb1] at HK2
      have HX := Lib.hid (show ((LF, eg) : Lay × Int) = ({ L with secs := L.secs ++ [s0] }, e7) by rw [HPT.out, HPM.out, if_pos h70])
      have HQ4 : Hid (q1 + 1 ≤ 10) := Lib.hid (fit_le (e := e1) (he7.trans h70))
      clear hb1 h70
      go_wp2_with (first
        | (go_at_call 63; refine HK2.out.mono ?_; rintro en w7 ⟨rfl, hp7⟩; have HP7 := Lib.hid (HP6.out.step hp7); clear hp7)
        | fail)
      have HT7 := Lib.hid (HP7.out.stay (show Below w7.heap.size w7 w7.drew from below_drawn (Below.refl _ _) 1))
      have cg9 := HP7.out.bd.cells.1
      have cgT := HT7.out.bd.cells.1
      have lg9 := HP7.out.bd.blk.lt
      have cx1 := (HCL.out _ _ HP7.out).2.2.2.2.1
      have cx2 := (HCL.out _ _ HP7.out).2.2.2.2.2
      have HQQ := Lib.hid HQ5.out
      go_region_law (refine secs_step (t := s0) HT7.out (by have := HQQ.out; omega) HQ4.out (by rfl) (.tmp 37) (.tmp 42) (by rfl) (by rfl) _ (by rfl) (by rfl) ?_; intro A8 c8 w8 fg3 hcg3 HA; (replace cg9 := hcg3))
      all_goals go_wp2_with fail
      all_goals go_end0
      all_goals rw [(Prod.mk.inj HX.out).1, (Prod.mk.inj HX.out).2]
      all_goals exact ⟨rfl, HA.out⟩
  ·
    obtain ⟨bn, nc, en1, hnc⟩ := own_str HP0.out.nm (by have := HLN.out; omega)
    obtain ⟨s0, hs0⟩ : ∃ s, xn[0]? = some s := ⟨_, List.getElem?_eq_getElem (by have := HLN.out; omega)⟩
    injection en1 with ea eb ec
    subst ea ec
    clear eb hnc
    have hn0 : nth xn 0 = s0 := by unfold nth; rw [List.getD_eq_getElem?_getD, hs0]; rfl
    have HCL := Lib.hid (fun (U : World) (q : Int) (h : RPre w0 w B g gx Bx k (.slice (some ⟨bn, 0, none⟩) nq f1) (.slice C2 m2 f2) (.slice C3 m3 f3) (.slice C4 m4 f4) xn xv xs xf (.slice A1 q1 d1) (.slice A2 q2 d2) (.slice A3 q3 d3) (.slice A4 q4 d4) cs L U q) => (⟨h.bd.cells.1, h.bd.cells.2.1, h.bd.cells.2.2.1, h.bd.cells.2.2.2.1, h.xcells.2.1, nm_at h.nm hs0⟩ : U.cell? ⟨g, 0, none⟩ = some (.slice A1 q1 d1) ∧ U.cell? ⟨g, 1, none⟩ = some (.slice A2 q2 d2) ∧ U.cell? ⟨g, 2, none⟩ = some (.slice A3 q3 d3) ∧ U.cell? ⟨g, 3, none⟩ = some (.slice A4 q4 d4) ∧ U.cell? ⟨gx, 1, none⟩ = some (.slice (some ⟨bn, 0, none⟩) nq f1) ∧ U.cell? ⟨bn, 0, none⟩ = some (.string s0)))
    have HSL := Lib.hid (fun (U : World) (q : Int) (h : RPre w0 w B g gx Bx k (.slice (some ⟨bn, 0, none⟩) nq f1) (.slice C2 m2 f2) (.slice C3 m3 f3) (.slice C4 m4 f4) xn xv xs xf (.slice A1 q1 d1) (.slice A2 q2 d2) (.slice A3 q3 d3) (.slice A4 q4 d4) cs L U q) => (sl_of_own h.bd.sigs (by decide) (by have := HQ5.out; omega)).2)
    have HPM := Lib.hid (show putsM L ⟨k, xn, xv, xs, xf⟩ = (if fitE (L.sigs.length + 1) 6 (newE L.sigs s0 0) = 0 then { L with sigs := L.sigs ++ [s0] } else L, fitE (L.sigs.length + 1) 6 (newE L.sigs s0 0)) by rw [← hn0]; subst hk; rfl)
    have hnq0 : (0 : Int) < nq := by have := HLN.out; have := HQ5.out; omega
    have hnqa : 0 < nq := by omega
    have HK := Lib.hid hk
    clear hk hs0 hn0
    have HD1 := Lib.hid (HP0.out.stay (show Below W1.heap.size W1 W1.drew from below_drawn (Below.refl _ _) 1))
    go_wp2_with fail
    go_region_held3 (fun U => U.cell? ⟨g, 0, none⟩ = some (.slice A1 q1 d1) ∧ U.cell? ⟨g, 1, none⟩ = some (.slice A2 q2 d2) ∧ U.cell? ⟨g, 2, none⟩ = some (.slice A3 q3 d3) ∧ U.cell? ⟨g, 3, none⟩ = some (.slice A4 q4 d4) ∧ U.cell? ⟨gx, 1, none⟩ = some (.slice (some ⟨bn, 0, none⟩) nq f1) ∧ U.cell? ⟨bn, 0, none⟩ = some (.string s0))
      (first | (with_reducible exact HCL.out _ _ HP6.out) | (with_reducible exact HCL.out _ _ HD1.out))
      (first
        | (go_at_call 62; refine (IsNew_calls HD1.out.bd A3 q3 d3 L.sigs (HSL.out _ _ HD1.out) s0).mono ?_; rintro en w6 ⟨rfl, hp6⟩; have HP6 := Lib.hid (HD1.out.step hp6); clear hp6)
        | fail)
    generalize newE L.sigs s0 0 = e1 at *
    have cg := HP6.out.bd.cells.2.2.1
    have hqc : ((L.sigs.length : Nat) : Int) + 1 = (q3 : Int) + 1 := by have := HQ5.out; omega
    rw [hqc] at HPM
    have HK2 := Lib.hid (Fits_calls HP6.out.bd ((q3 : Int) + 1) 6)
    generalize he7 : fitE ((q3 : Int) + 1) 6 e1 = e7 at *
    cases hb1 : decide (e7 = 0) with
    | false =>
      rw [hb1] at HK2
      have HX := Lib.hid (show ((LF, eg) : Lay × Int) = (L, e7) by rw [HPT.out, HPM.out, if_neg (by simpa using hb1)])
      clear hb1
      go_wp2_with (first
        | (go_at_call 63; refine HK2.out.mono ?_; rintro en w7 ⟨rfl, hp7⟩; have HP7 := Lib.hid (HP6.out.step hp7); clear hp7)
        | fail)
      go_end0
      rw [(Prod.mk.inj HX.out).1, (Prod.mk.inj HX.out).2]
      exact ⟨rfl, _, _, _, _, _, HP7.out.bd, HP7.out.on⟩
    | true =>
      have h70 : e7 = 0 := by simpa using hb1
      rw [hb1] at HK2
      have HX := Lib.hid (show ((LF, eg) : Lay × Int) = ({ L with sigs := L.sigs ++ [s0] }, e7) by rw [HPT.out, HPM.out, if_pos h70])
      have HQ4 : Hid (q3 + 1 ≤ 6) := Lib.hid (fit_le (e := e1) (he7.trans h70))
      clear hb1 h70
      go_wp2_with (first
        | (go_at_call 63; refine HK2.out.mono ?_; rintro en w7 ⟨rfl, hp7⟩; have HP7 := Lib.hid (HP6.out.step hp7); clear hp7)
        | fail)
      have HT7 := Lib.hid (HP7.out.stay (show Below w7.heap.size w7 w7.drew from below_drawn (Below.refl _ _) 1))
      have cg9 := HP7.out.bd.cells.2.2.1
      have cgT := HT7.out.bd.cells.2.2.1
      have lg9 := HP7.out.bd.blk.lt
      have cx1 := (HCL.out _ _ HP7.out).2.2.2.2.1
      have cx2 := (HCL.out _ _ HP7.out).2.2.2.2.2
      have HQQ := Lib.hid HQ5.out
      go_region_law (refine sigs_step (t := s0) HT7.out (by have := HQQ.out; omega) HQ4.out (by rfl) (.tmp 74) (.tmp 79) (by rfl) (by rfl) _ (by rfl) (by rfl) ?_; intro A8 c8 w8 fg3 hcg3 HA; (replace cg9 := hcg3))
      all_goals go_wp2_with fail
      all_goals go_end0
      all_goals rw [(Prod.mk.inj HX.out).1, (Prod.mk.inj HX.out).2]
      all_goals exact ⟨rfl, HA.out⟩
  ·
    obtain ⟨bn, nc, en1, hnc⟩ := own_str HP0.out.nm (by have := HLN.out; omega)
    have hnl : 2 ≤ xn.length := by have := HNN.out.2.1 hk; have := HQ5.out; omega
    obtain ⟨s0, hs0⟩ : ∃ s, xn[0]? = some s := ⟨_, List.getElem?_eq_getElem (by omega)⟩
    obtain ⟨s1, hs1⟩ : ∃ s, xn[1]? = some s := ⟨_, List.getElem?_eq_getElem (by omega)⟩
    injection en1 with ea eb ec
    subst ea ec
    clear eb hnc
    have hn0 : nth xn 0 = s0 := by unfold nth; rw [List.getD_eq_getElem?_getD, hs0]; rfl
    have hn1 : nth xn 1 = s1 := by unfold nth; rw [List.getD_eq_getElem?_getD, hs1]; rfl
    have HCL := Lib.hid (fun (U : World) (q : Int) (h : RPre w0 w B g gx Bx k (.slice (some ⟨bn, 0, none⟩) nq f1) (.slice C2 m2 f2) (.slice C3 m3 f3) (.slice C4 m4 f4) xn xv xs xf (.slice A1 q1 d1) (.slice A2 q2 d2) (.slice A3 q3 d3) (.slice A4 q4 d4) cs L U q) => (⟨h.bd.cells.1, h.bd.cells.2.1, h.bd.cells.2.2.1, h.bd.cells.2.2.2.1, h.xcells.2.1, nm_at h.nm hs0, nm_at h.nm hs1⟩ : U.cell? ⟨g, 0, none⟩ = some (.slice A1 q1 d1) ∧ U.cell? ⟨g, 1, none⟩ = some (.slice A2 q2 d2) ∧ U.cell? ⟨g, 2, none⟩ = some (.slice A3 q3 d3) ∧ U.cell? ⟨g, 3, none⟩ = some (.slice A4 q4 d4) ∧ U.cell? ⟨gx, 1, none⟩ = some (.slice (some ⟨bn, 0, none⟩) nq f1) ∧ U.cell? ⟨bn, 0, none⟩ = some (.string s0) ∧ U.cell? ⟨bn, 1, none⟩ = some (.string s1)))
    have HSL := Lib.hid (fun (U : World) (q : Int) (h : RPre w0 w B g gx Bx k (.slice (some ⟨bn, 0, none⟩) nq f1) (.slice C2 m2 f2) (.slice C3 m3 f3) (.slice C4 m4 f4) xn xv xs xf (.slice A1 q1 d1) (.slice A2 q2 d2) (.slice A3 q3 d3) (.slice A4 q4 d4) cs L U q) => (sl_of_own h.bd.pts (by decide) (by have := HQ5.out; omega)).2)
    have HSS := Lib.hid (fun (U : World) (q : Int) (h : RPre w0 w B g gx Bx k (.slice (some ⟨bn, 0, none⟩) nq f1) (.slice C2 m2 f2) (.slice C3 m3 f3) (.slice C4 m4 f4) xn xv xs xf (.slice A1 q1 d1) (.slice A2 q2 d2) (.slice A3 q3 d3) (.slice A4 q4 d4) cs L U q) => (sl_of_own h.bd.secs (by decide) (by have := HQ5.out; omega)).2)
    have HPM := Lib.hid (show putsM L ⟨k, xn, xv, xs, xf⟩ = (if fitE (L.pts.length + 1) 5 (placeE L.secs (newE (ptNames L) s0 0) s1) = 0 then { L with pts := L.pts ++ [⟨s0, idxS L.secs s1⟩] } else L, fitE (L.pts.length + 1) 5 (placeE L.secs (newE (ptNames L) s0 0) s1)) by rw [← hn0, ← hn1]; subst hk; rfl)
    have hnqa : 0 < nq := by have := HQ5.out; omega
    have hnqb : 1 < nq := by have := HQ5.out; omega
    have hnq0 : (0 : Int) < nq := by omega
    have hnq1 : (1 : Int) < nq := by omega
    clear hk hs0 hn0 hs1 hn1 hnl
    have HD1 := Lib.hid (HP0.out.stay (show Below W1.heap.size W1 W1.drew from below_drawn (Below.refl _ _) 1))
    go_wp2_with fail
    go_region_held3 (fun U => U.cell? ⟨g, 0, none⟩ = some (.slice A1 q1 d1) ∧ U.cell? ⟨g, 1, none⟩ = some (.slice A2 q2 d2) ∧ U.cell? ⟨g, 2, none⟩ = some (.slice A3 q3 d3) ∧ U.cell? ⟨g, 3, none⟩ = some (.slice A4 q4 d4) ∧ U.cell? ⟨gx, 1, none⟩ = some (.slice (some ⟨bn, 0, none⟩) nq f1) ∧ U.cell? ⟨bn, 0, none⟩ = some (.string s0) ∧ U.cell? ⟨bn, 1, none⟩ = some (.string s1))
      (first | (with_reducible exact HCL.out _ _ HP6.out) | (with_reducible exact HCL.out _ _ HP5.out) | (with_reducible exact HCL.out _ _ HD1.out))
      (first
        | (go_at_call 64; refine (PtNames2_calls L.pts (HSL.out _ _ HD1.out) (by omega)).mono ?_; rintro en w5 ⟨A5, c5, rfl, ho5, hs5, hb5⟩; have HN5 := Lib.hid hs5; have HP5 := Lib.hid (HD1.out.stay hb5); clear ho5 hs5 hb5)
        | (go_at_call 62; refine (IsNew_calls HP5.out.bd A5 q2 c5 (ptNames L) HN5.out s0).mono ?_; rintro en w6 ⟨rfl, hp6⟩; have HP6 := Lib.hid (HP5.out.step hp6); clear hp6)
        | fail)
    generalize newE (ptNames L) s0 0 = e1 at *
    go_wp2_with fail
    have HD6 := Lib.hid (HP6.out.stay (show Below w6.heap.size w6 w6.drew from below_drawn (Below.refl _ _) 1))
    go_region_held3 (fun U => U.cell? ⟨g, 0, none⟩ = some (.slice A1 q1 d1) ∧ U.cell? ⟨g, 1, none⟩ = some (.slice A2 q2 d2) ∧ U.cell? ⟨g, 2, none⟩ = some (.slice A3 q3 d3) ∧ U.cell? ⟨g, 3, none⟩ = some (.slice A4 q4 d4) ∧ U.cell? ⟨gx, 1, none⟩ = some (.slice (some ⟨bn, 0, none⟩) nq f1) ∧ U.cell? ⟨bn, 0, none⟩ = some (.string s0) ∧ U.cell? ⟨bn, 1, none⟩ = some (.string s1))
      (first | (with_reducible exact HCL.out _ _ HP7.out) | (with_reducible exact HCL.out _ _ HD6.out))
      (first
        | (go_at_call 65; refine (Place_calls HD6.out.bd A1 q1 d1 L.secs (HSS.out _ _ HD6.out) s1).mono ?_; rintro en w7 ⟨rfl, hp7⟩; have HP7 := Lib.hid (HD6.out.step hp7); clear hp7)
        | fail)
    generalize placeE L.secs e1 s1 = e2 at *
    generalize idxS L.secs s1 = z1 at *
    have cg := HP7.out.bd.cells.2.1
    have hqc : ((L.pts.length : Nat) : Int) + 1 = (q2 : Int) + 1 := by have := HQ5.out; omega
    rw [hqc] at HPM
    have HK2 := Lib.hid (Fits_calls HP7.out.bd ((q2 : Int) + 1) 5)
    generalize he7 : fitE ((q2 : Int) + 1) 5 e2 = e7 at *
    cases hb1 : decide (e7 = 0) with
    | false =>
      rw [hb1] at HK2
      have HX := Lib.hid (show ((LF, eg) : Lay × Int) = (L, e7) by rw [HPT.out, HPM.out, if_neg (by simpa using hb1)])
      clear hb1
      go_wp2_with (first
        | (go_at_call 63; refine HK2.out.mono ?_; rintro en w8 ⟨rfl, hp8⟩; have HP8 := Lib.hid (HP7.out.step hp8); clear hp8)
        | fail)
      go_end0
      rw [(Prod.mk.inj HX.out).1, (Prod.mk.inj HX.out).2]
      exact ⟨rfl, _, _, _, _, _, HP8.out.bd, HP8.out.on⟩
    | true =>
      have h70 : e7 = 0 := by simpa using hb1
      rw [hb1] at HK2
      have HX := Lib.hid (show ((LF, eg) : Lay × Int) = ({ L with pts := L.pts ++ [⟨s0, z1⟩] }, e7) by rw [HPT.out, HPM.out, if_pos h70])
      have HQ4 : Hid (q2 + 1 ≤ 5) := Lib.hid (fit_le (e := e2) (he7.trans h70))
      clear hb1 h70
      go_wp2_with (first
        | (go_at_call 63; refine HK2.out.mono ?_; rintro en w8 ⟨rfl, hp8⟩; have HP8 := Lib.hid (HP7.out.step hp8); clear hp8)
        | fail)
      have HT8 := Lib.hid (HP8.out.stay (show Below w8.heap.size w8 w8.drew from below_drawn (Below.refl _ _) 1))
      have cg9 := HP8.out.bd.cells.2.1
      have cgT := HT8.out.bd.cells.2.1
      have lg9 := HP8.out.bd.blk.lt
      have cx1 := (HCL.out _ _ HP8.out).2.2.2.2.1
      have cx2 := (HCL.out _ _ HP8.out).2.2.2.2.2.1
      have HQQ := Lib.hid HQ5.out
      go_region_law (refine pts_step (t := ⟨s0, z1⟩) HT8.out (by have := HQQ.out; omega) HQ4.out (by rfl) (.tmp 122) (.tmp 129) (by rfl) (by rfl) _ (by rfl) (by rfl) ?_; intro A8 c8 w9 fg3 hcg3 HA; (replace cg9 := hcg3))
      all_goals go_wp2_with fail
      all_goals go_end0
      all_goals rw [(Prod.mk.inj HX.out).1, (Prod.mk.inj HX.out).2]
      all_goals exact ⟨rfl, HA.out⟩
  ·
    have HR3 := Lib.hid (KR.out (by have h := HNN.out.2.2 (by subst hk; decide) (by subst hk; decide) (by subst hk; decide); have := HQ5.out; omega))
    have HPM : Hid (putsM L ⟨k, xn, xv, xs, xf⟩ = (if routeG L ⟨k, xn, xv, xs, xf⟩ = 0 then { L with rtes := L.rtes ++ [routeV L ⟨k, xn, xv, xs, xf⟩] } else L, routeG L ⟨k, xn, xv, xs, xf⟩)) := Lib.hid (puts_route (by subst hk; decide) (by subst hk; decide) (by subst hk; decide))
    rw [← HPT.out] at HPM
    obtain ⟨ha, hb⟩ := Prod.mk.inj HPM.out
    rw [← ha, ← hb] at HR3
    have cx1 := HP0.out.xcells.2.1
    have cx2 := HP0.out.xcells.2.2.1
    have cx3 := HP0.out.xcells.2.2.2.1
    have cx4 := HP0.out.xcells.2.2.2.2
    clear ha hb HPM hk
    go_wp2_with (first
      | (go_at_call 66; refine HR3.out.mono ?_; rintro en w3 ⟨rfl, h3⟩; have H3 := Lib.hid h3; clear h3)
      | fail)
    go_end0
    obtain ⟨a1, a2, a3, a4, a5, hb, ho⟩ := H3.out
    exact ⟨rfl, a1, a2, a3, a4, a5, hb, (Only.of_below HW1.out).trans ho (fun _ _ h => h) (fun _ _ h => h)⟩
  ·
    have HR3 := Lib.hid (KR.out (by have h := HNN.out.2.2 hk.1 hk.2.1 hk.2.2.1; have := HQ5.out; omega))
    have HPM : Hid (putsM L ⟨k, xn, xv, xs, xf⟩ = (if routeG L ⟨k, xn, xv, xs, xf⟩ = 0 then { L with rtes := L.rtes ++ [routeV L ⟨k, xn, xv, xs, xf⟩] } else L, routeG L ⟨k, xn, xv, xs, xf⟩)) := Lib.hid (puts_route hk.1 hk.2.1 hk.2.2.1)
    rw [← HPT.out] at HPM
    obtain ⟨ha, hb⟩ := Prod.mk.inj HPM.out
    rw [← ha, ← hb] at HR3
    have cx1 := HP0.out.xcells.2.1
    have cx2 := HP0.out.xcells.2.2.1
    have cx3 := HP0.out.xcells.2.2.2.1
    have cx4 := HP0.out.xcells.2.2.2.2
    clear ha hb HPM hk
    go_wp2_with (first
      | (go_at_call 66; refine HR3.out.mono ?_; rintro en w3 ⟨rfl, h3⟩; have H3 := Lib.hid h3; clear h3)
      | fail)
    go_end0
    obtain ⟨a1, a2, a3, a4, a5, hb, ho⟩ := H3.out
    exact ⟨rfl, a1, a2, a3, a4, a5, hb, (Only.of_below HW1.out).trans ho (fun _ _ h => h) (fun _ _ h => h)⟩
end
end Go.Proofs.YtmdnmiiggkfnfaaDoor
