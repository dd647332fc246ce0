/- Texts put together for a claim. -/
import Derived.Test.YtmdggodkkkihhaaDoorQ22JudgeLocks
import Derived.Test.YtmdggodkkkihhaaDoorQ23JudgeLocks
import Derived.Test.YtmdggodkkkihhaaDoorRes
import Derived.Deep.RegionHeld3
/- Contracts: the reference's Lock: New, Safe. -/
set_option linter.unusedVariables false
set_option linter.unusedSimpArgs false
namespace Go.Proofs.YtmdggodkkkihhaaDoor
open Go.RowKit

def mkI (n : Nat) : Array Value := ((List.replicate n (0 : Int)).flatMap flI.enc).toArray
def mkT (n : Nat) : Array Value := ((List.replicate n false).flatMap flT.enc).toArray
def mkR (n : Nat) : Array Value := ((List.replicate n (⟨0, 0, 0, false⟩ : Rs)).flatMap flR.enc).toArray
theorem upto6 {n : Nat} (h : n ≤ 6) : n = 0 ∨ n = 1 ∨ n = 2 ∨ n = 3 ∨ n = 4 ∨ n = 5 ∨ n = 6 := by omega
theorem make_i {n : Nat} (h : n ≤ 6) (w : World) : (Instr.makeSlice 28 (.int .i64 n) (.int .i64 n)).run Tryd.prog w = .ok (.slice (some ⟨w.heap.size, 0, none⟩) n n) (w.alloc (.cells (mkI n) 3)) := by
  rcases upto6 h with rfl | rfl | rfl | rfl | rfl | rfl | rfl <;> kernel_rfl
theorem make_t {n : Nat} (h : n ≤ 6) (w : World) : (Instr.makeSlice 27 (.int .i64 n) (.int .i64 n)).run Tryd.prog w = .ok (.slice (some ⟨w.heap.size, 0, none⟩) n n) (w.alloc (.cells (mkT n) 4)) := by
  rcases upto6 h with rfl | rfl | rfl | rfl | rfl | rfl | rfl <;> kernel_rfl
theorem make_r {n : Nat} (h : n ≤ 6) (w : World) : (Instr.makeSlice 33 (.int .i64 n) (.int .i64 n)).run Tryd.prog w = .ok (.slice (some ⟨w.heap.size, 0, none⟩) n n) (w.alloc (.cells (mkR n) 69)) := by
  rcases upto6 h with rfl | rfl | rfl | rfl | rfl | rfl | rfl <;> kernel_rfl
theorem out_ret {fn : Func} {tmps : Array Value} {w : World} {p : Tmp} {g : Nat} {x y : Value} {t : TypeId} {fr : Nat × Nat} (h : fn.results = #[.cell p 32]) (hp : tmps.getD p undef = .pointer (some ⟨g, 0, none⟩)) (hg : Blk w g #[x, y] t fr) :
    (results fn tmps).run Tryd.prog w = .ok (.agg #[x, y]) w :=
  results_single (r := .cell p 32) h (.cell g t #[x, y] fr _ hp hg Tryd.underlying32 rfl (by kernel_rfl) .nil)
/-- What a Lock says where it tells nothing: two new rows. -/
def SafePost (w : World) (n2 n3 : Nat) (e : Ending) (w' : World) : Prop :=
  ∃ gd gp, e = .returned (.agg #[.slice (some ⟨gd, 0, none⟩) n2 n2, .slice (some ⟨gp, 0, none⟩) n3 n3]) ∧ Blk w' gd (mkI n2) 3 (0, 0) ∧ Blk w' gp (mkT n3) 4 (0, 0) ∧ w.heap.size ≤ gd ∧ w.heap.size ≤ gp ∧ Below w.heap.size w w'
section
variable {L : Lay} {A1 A2 A3 A4 : Option Addr} {n1 c1 n2 c2 n3 c3 n4 c4 kc : Nat} {rs : List Rs} {tl : List Value}
set_option maxRecDepth 20000 in
set_option maxHeartbeats 8000000 in
theorem RefLockSafe_calls (w0 w : World) (g rb : Nat) (h : Lk 52 w0 w g rb L A1 A2 A3 A4 n1 c1 n2 c2 n3 c3 n4 c4 kc rs tl) (h2 : n2 ≤ 6) (h3 : n3 ≤ 6) :
    Calls Tryd.prog 20 #[.pointer (some ⟨g, 0, none⟩)] w (SafePost w n2 n3) := by
  have g1 := h.blk.cell 1
  have g2 := h.blk.cell 2
  simp only [List.getElem?_toArray, List.getElem?_cons_zero, List.getElem?_cons_succ] at g1 g2
  have hk1 := make_i h2
  have hk2 := make_t h3
  have hgl := h.blk.lt
  have KEEP := Lib.hid (fun (W : World) (hb : Below w.heap.size w W) => And.intro (cell_stay hb g1) (cell_stay hb g2))
  have HN := Lib.hid (below_new w (.cells #[.slice none 0 0, .slice none 0 0] 32))
  clear h
  go_enter Tryd.func20, Tryd.ntmps20
  go_wp2_with fail
  go_region_held3 (fun W => W.cell? ⟨g, 1, none⟩ = some (.slice A2 n2 c2) ∧ W.cell? ⟨g, 2, none⟩ = some (.slice A3 n3 c3))
    ((refine KEEP.out _ ?_; repeat (first | exact Below.refl _ _ | refine Below.alloc ?_ (by first | (simp; omega) | simp | omega) _ | refine Below.setCell ?_ (by first | (simp; omega) | simp | omega) _ | refine Below.drew ?_)))
    (first | fail | fail)
  all_goals (go_wp2_with fail)
  · exact bodyPost_ret (out_ret rfl rfl (((Blk.new w _ _ (0, 0)).alloc (.cells (mkI n2) 3)).alloc (.cells (mkT n3) 4)).drew) rfl
      ⟨w.heap.size + 1, w.heap.size + 1 + 1, rfl, ((Blk.at_ (w := w.alloc _) (g := w.heap.size + 1) (by simp) (mkI n2) 3 (0, 0)).alloc (.cells (mkT n3) 4)).drew, (Blk.at_ (w := (w.alloc _).alloc _) (g := w.heap.size + 1 + 1) (by simp) (mkT n3) 4 (0, 0)).drew, by omega, by omega, below_drawn (((below_new w _).alloc (by simp) _).alloc (by simp; omega) _) 1⟩
  · exact bodyPost_ret (out_ret rfl rfl (((Blk.new w _ _ (0, 0)).alloc (.cells (mkT n3) 4)).alloc (.cells (mkI n2) 3)).drew) rfl
      ⟨w.heap.size + 1 + 1, w.heap.size + 1, rfl, (Blk.at_ (w := (w.alloc _).alloc _) (g := w.heap.size + 1 + 1) (by simp) (mkI n2) 3 (0, 0)).drew, ((Blk.at_ (w := w.alloc _) (g := w.heap.size + 1) (by simp) (mkT n3) 4 (0, 0)).alloc (.cells (mkI n2) 3)).drew, by omega, by omega, below_drawn (((below_new w _).alloc (by simp) _).alloc (by simp; omega) _) 1⟩
/-- A new Lock. -/
def NewPost (w : World) (L : Lay) (A1 A2 A3 A4 : Option Addr) (n1 c1 n2 c2 n3 c3 n4 c4 : Nat) (e : Ending) (w' : World) : Prop :=
  ∃ g rb, e = .returned (.tuple #[.pointer (some ⟨g, 0, none⟩), .int .i64 0]) ∧ Lk 52 w w' g rb L A1 A2 A3 A4 n1 c1 n2 c2 n3 c3 n4 c4 n4 (List.replicate n4 ⟨0, 0, 0, false⟩) []
set_option maxRecDepth 20000 in
set_option maxHeartbeats 8000000 in
theorem RefLockNew_calls (w : World) (hT : Tabs w) (hL : LayV w L A1 A2 A3 A4 n1 c1 n2 c2 n3 c3 n4 c4) (hN : NmOk L 4000000) (his : isM L = true) :
    Calls Tryd.prog 16 #[.agg #[.slice A1 n1 c1, .slice A2 n2 c2, .slice A3 n3 c3, .slice A4 n4 c4]] w (NewPost w L A1 A2 A3 A4 n1 c1 n2 c2 n3 c3 n4 c4) := by
  have hbw : Below w.heap.size w (w.alloc (.cells #[.slice A1 n1 c1, .slice A2 n2 c2, .slice A3 n3 c3, .slice A4 n4 c4] 26)) := below_new w _
  have hB_l := Blk.at_ (w := w) (g := w.heap.size) (by simp) #[.slice A1 n1 c1, .slice A2 n2 c2, .slice A3 n3 c3, .slice A4 n4 c4] 26 (0, 0)
  have l0 := hB_l.cell 0
  have l1 := hB_l.cell 1
  have l2 := hB_l.cell 2
  have l3 := hB_l.cell 3
  simp only [List.getElem?_toArray, List.getElem?_cons_zero, List.getElem?_cons_succ] at l0 l1 l2 l3
  clear hB_l
  have KI := Lib.hid (RefIs_calls _ (hT.stay hbw) (hL.stay hbw) hN)
  rw [his] at KI
  have h4 : n4 ≤ 6 := by have := (is_ok his).sz; have := hL.rtes.len; omega
  have hk := make_r h4
  have HL := Lib.hid hL
  have HB := Lib.hid hbw
  have H4 := Lib.hid h4
  clear hL hT hN his hbw h4
  go_enter Tryd.func16, Tryd.ntmps16
  go_wp2_with (first
    | (go_at_call 8; refine KI.out.mono ?_; rintro e w2 ⟨rfl, hb2⟩; have HB2 := Lib.hid (below_more HB.out hb2); (replace l0 := cell_stay hb2 l0); (replace l1 := cell_stay hb2 l1); (replace l2 := cell_stay hb2 l2); (replace l3 := cell_stay hb2 l3); clear hb2)
    | fail)
  have KEEP := Lib.hid (fun (W : World) (hb : Below w2.heap.size w2 W) => (⟨cell_stay hb l0, cell_stay hb l1, cell_stay hb l2, cell_stay hb l3⟩ : W.cell? ⟨w.heap.size, 0, none⟩ = some (.slice A1 n1 c1) ∧ W.cell? ⟨w.heap.size, 1, none⟩ = some (.slice A2 n2 c2) ∧ W.cell? ⟨w.heap.size, 2, none⟩ = some (.slice A3 n3 c3) ∧ W.cell? ⟨w.heap.size, 3, none⟩ = some (.slice A4 n4 c4)))
  clear l0 l1 l2 l3
  go_region_held3 (fun W => W.cell? ⟨w.heap.size, 0, none⟩ = some (.slice A1 n1 c1) ∧ W.cell? ⟨w.heap.size, 1, none⟩ = some (.slice A2 n2 c2) ∧ W.cell? ⟨w.heap.size, 2, none⟩ = some (.slice A3 n3 c3) ∧ W.cell? ⟨w.heap.size, 3, none⟩ = some (.slice A4 n4 c4))
    ((refine KEEP.out _ ?_; repeat (first | exact Below.refl _ _ | refine Below.alloc ?_ (by first | (simp; omega) | simp | omega) _ | refine Below.setCell ?_ (by first | (simp; omega) | simp | omega) _ | refine Below.drew ?_)))
    (first | fail | fail)
  go_wp2_with fail
  go_ret2
  have hsz := HB2.out.size
  exact ⟨w2.heap.size + 1, w2.heap.size, rfl, ⟨HL.out, below_more HB2.out (below_drawn ((below_new w2 _).alloc (by simp) _) 1), (Blk.at_ (w := w2.alloc _) (g := w2.heap.size + 1) (by simp) _ _ (0, 0)).drew, by rw [List.append_nil]; exact ((Blk.new w2 (mkR n4) 69 (0, 0)).alloc _).drew, by simp, ⟨Nat.le_refl _, by have := H4.out; omega⟩, by omega, hsz, by omega⟩⟩
end
end Go.Proofs.YtmdggodkkkihhaaDoor

/- Plain words for the reference's Lock's Cycle. -/
set_option linter.unusedVariables false
set_option linter.unusedSimpArgs false
namespace Go.Proofs.YtmdggodkkkihhaaDoor
open Go.RowKit

/-- How a route may stand, each. -/
def OnesOk (L : Lay) (rs : List Rs) : Prop := ∀ (i : Nat) (x : Rte) (r : Rs), L.rtes[i]? = some x → rs[i]? = some r → oneM r x.path.length = true
theorem OnesOk.used {L : Lay} {rs : List Rs} (h : OnesOk L rs) : ∀ (i : Nat) (x : Rte) (r : Rs), L.rtes[i]? = some x → rs[i]? = some r → UsedOk r x := fun i x r hx hr => one_used (h i x r hx hr)
theorem step_one {I : Inn} {x : Rte} {y : Rs} (h : oneM y x.path.length = true) (hp : 1 ≤ x.path.length) : oneM (stepM I x y) x.path.length = true := by
  have hz : oneM rz x.path.length = true := rfl
  obtain ⟨m, t, g, s⟩ := y
  unfold stepM
  split
  · rename_i m1
    simp only at m1
    subst m1
    unfold oneM at h
    rw [if_pos rfl] at h
    simp only [Bool.and_eq_true, decide_eq_true_eq, Bool.not_eq_true'] at h
    split
    · rfl
    · split
      · exact hz
      · rename_i h8
        simp only at h8
        unfold oneM
        rw [if_pos rfl]
        simp only [Bool.and_eq_true, decide_eq_true_eq, Bool.not_eq_true']
        exact ⟨⟨⟨by omega, by omega⟩, h.1.2⟩, h.2⟩
  · split
    · unfold oneM
      rw [if_neg (show ¬ ((3 : Int) = 1) by decide), if_neg (show ¬ ((3 : Int) = 4) by decide), if_pos rfl]
      simp only [Bool.and_eq_true, decide_eq_true_eq]
      exact ⟨⟨trivial, by omega⟩, by omega⟩
    · split
      · rename_i m4
        simp only at m4
        subst m4
        unfold oneM at h
        rw [if_neg (show ¬ ((4 : Int) = 1) by decide), if_pos rfl] at h
        simp only [Bool.and_eq_true, decide_eq_true_eq, Bool.not_eq_true'] at h
        split
        · exact hz
        · rename_i h6
          simp only at h6
          unfold oneM
          rw [if_neg (show ¬ ((4 : Int) = 1) by decide), if_pos rfl]
          simp only [Bool.and_eq_true, decide_eq_true_eq, Bool.not_eq_true']
          exact ⟨⟨⟨by omega, by omega⟩, h.1.2⟩, h.2⟩
      · split
        · rename_i m3
          simp only at m3
          subst m3
          have h' := h
          unfold oneM at h'
          rw [if_neg (show ¬ ((3 : Int) = 1) by decide), if_neg (show ¬ ((3 : Int) = 4) by decide), if_pos rfl] at h'
          simp only [Bool.and_eq_true, decide_eq_true_eq] at h'
          split
          · exact h
          · split
            · split
              · exact hz
              · rename_i hge
                simp only at hge
                unfold oneM
                rw [if_neg (show ¬ ((3 : Int) = 1) by decide), if_neg (show ¬ ((3 : Int) = 4) by decide), if_pos rfl]
                simp only [Bool.and_eq_true, decide_eq_true_eq]
                exact ⟨⟨h'.1.1, by omega⟩, by omega⟩
            · exact h
        · exact h
/-- The routes, the first k of them one step on. -/
def stepsTo (L : Lay) (I : Inn) (rs : List Rs) : Nat → List Rs
  | 0 => rs
  | k + 1 => match L.rtes[k]?, rs[k]? with
    | some x, some y => (stepsTo L I rs k).set k (stepM I x y)
    | _, _ => stepsTo L I rs k
theorem steps_len {L : Lay} {I : Inn} {rs : List Rs} : ∀ k, (stepsTo L I rs k).length = rs.length
  | 0 => rfl
  | k + 1 => by
    rw [stepsTo]
    split
    · rw [List.length_set]; exact steps_len k
    · exact steps_len k
theorem steps_next {L : Lay} {I : Inn} {rs : List Rs} {k : Nat} {x : Rte} {y : Rs} (hx : L.rtes[k]? = some x) (hy : rs[k]? = some y) : stepsTo L I rs (k + 1) = (stepsTo L I rs k).set k (stepM I x y) := by
  rw [stepsTo, hx, hy]
theorem steps_at {L : Lay} {I : Inn} {rs : List Rs} : ∀ (k j : Nat), (stepsTo L I rs k)[j]? = if j < k then (match L.rtes[j]?, rs[j]? with | some x, some y => some (stepM I x y) | _, r => r) else rs[j]?
  | 0, j => by rw [if_neg (by omega)]; rfl
  | k + 1, j => by
    have ih := steps_at (L := L) (I := I) (rs := rs) k j
    have hl := steps_len (L := L) (I := I) (rs := rs) k
    rw [stepsTo]
    by_cases hjk : j = k
    · subst hjk
      rw [if_neg (by omega)] at ih
      rw [if_pos (by omega)]
      split
      · rename_i x y hx hy
        rw [List.getElem?_set_self (by rw [hl]; exact (List.getElem?_eq_some_iff.1 hy).1)]
      · rename_i h
        rw [ih]
    · have hset : ∀ v, ((stepsTo L I rs k).set k v)[j]? = (stepsTo L I rs k)[j]? := fun v => List.getElem?_set_ne (fun e => hjk e.symm)
      have e : (if j < k + 1 then (match L.rtes[j]?, rs[j]? with | some x, some y => some (stepM I x y) | _, r => r) else rs[j]?) = (if j < k then (match L.rtes[j]?, rs[j]? with | some x, some y => some (stepM I x y) | _, r => r) else rs[j]?) := by
        by_cases h : j < k
        · rw [if_pos h, if_pos (by omega)]
        · rw [if_neg h, if_neg (by omega)]
      rw [e, ← ih]
      split
      · exact hset _
      · rfl
theorem steps_rest {L : Lay} {I : Inn} {rs : List Rs} {k j : Nat} (h : k ≤ j) : (stepsTo L I rs k)[j]? = rs[j]? := by rw [steps_at, if_neg (by omega)]
/-- How all stand behind a cycle. -/
def nextM (L : Lay) (I : Inn) (rs : List Rs) : List Rs := stepsTo L I rs rs.length
theorem next_at {L : Lay} {I : Inn} {rs : List Rs} {j : Nat} {x : Rte} {y : Rs} (hx : L.rtes[j]? = some x) (hy : rs[j]? = some y) : (nextM L I rs)[j]? = some (stepM I x y) := by
  unfold nextM
  rw [steps_at, if_pos (List.getElem?_eq_some_iff.1 hy).1, hx, hy]
theorem next_ones {L : Lay} {I : Inn} {rs : List Rs} (h : OnesOk L rs) (hp : ∀ x ∈ L.rtes, 1 ≤ x.path.length) : OnesOk L (nextM L I rs) := by
  intro i x r hx hr
  have hl : i < rs.length := by
    have := (List.getElem?_eq_some_iff.1 hr).1
    unfold nextM at this
    rw [steps_len] at this
    exact this
  obtain ⟨y, hy⟩ : ∃ y, rs[i]? = some y := ⟨_, List.getElem?_eq_getElem hl⟩
  rw [next_at hx hy] at hr
  cases hr
  exact step_one (h i x y hx hy) (hp x (List.mem_of_getElem? hx))
/-- Is a point driven for a route? -/
def drives (L : Lay) (I : Inn) (rs : List Rs) (i : Nat) (n : Need) : Bool :=
  !(I.lies.getD n.p.toNat 0 == posM n) && !(I.occ.getD (secOf L n.p).toNat false) && (decide (holderM L rs (secOf L n.p) < 0) || decide (holderM L rs (secOf L n.p) = (i : Int)))
def driveOne (L : Lay) (I : Inn) (rs : List Rs) (i : Nat) (dr : List Int) (n : Need) : List Int := if drives L I rs i n = true then dr.set n.p.toNat (posM n) else dr
def driveAll (L : Lay) (I : Inn) (rs : List Rs) (i : Nat) (dr : List Int) (ns : List Need) : List Int := ns.foldl (driveOne L I rs i) dr
theorem drive_snoc {L : Lay} {I : Inn} {rs : List Rs} {i : Nat} {dr : List Int} {ns : List Need} {s : Nat} {n : Need} (h : ns[s]? = some n) : driveAll L I rs i dr (ns.take (s + 1)) = driveOne L I rs i (driveAll L I rs i dr (ns.take s)) n := by
  unfold driveAll
  rw [List.take_add_one, h]
  simp
def driveOf (L : Lay) (I : Inn) (rs : List Rs) (i : Nat) (dr : List Int) : List Int := match L.rtes[i]?, rs[i]? with
  | some x, some r => if r.m = 1 then driveAll L I rs i dr (x.points ++ x.flank) else dr
  | _, _ => dr
def goesOf (L : Lay) (I : Inn) (rs : List Rs) (i : Nat) (pr : List Bool) : List Bool := match L.rtes[i]?, rs[i]? with
  | some x, some r => if r.m = 2 ∧ freeM I x.path = true ∧ rightM I (x.points ++ x.flank) = true then pr.set x.frm.toNat true else pr
  | _, _ => pr
/-- What the field is told, by the first k routes. -/
def outTo (L : Lay) (I : Inn) (rs : List Rs) : Nat → Ou
  | 0 => ⟨List.replicate L.pts.length 0, List.replicate L.sigs.length false⟩
  | k + 1 => ⟨driveOf L I rs k (outTo L I rs k).drive, goesOf L I rs k (outTo L I rs k).proceed⟩
theorem driveAll_len {L : Lay} {I : Inn} {rs : List Rs} {i : Nat} : ∀ (ns : List Need) (dr : List Int), (driveAll L I rs i dr ns).length = dr.length
  | [], _ => rfl
  | n :: ns, dr => by
    show (driveAll L I rs i (driveOne L I rs i dr n) ns).length = _
    rw [driveAll_len ns]
    unfold driveOne
    split
    · rw [List.length_set]
    · rfl
theorem out_len {L : Lay} {I : Inn} {rs : List Rs} : ∀ k, (outTo L I rs k).drive.length = L.pts.length ∧ (outTo L I rs k).proceed.length = L.sigs.length
  | 0 => by simp [outTo]
  | k + 1 => by
    obtain ⟨h1, h2⟩ := out_len (L := L) (I := I) (rs := rs) k
    rw [outTo]
    constructor
    · show (driveOf L I rs k _).length = _
      unfold driveOf
      split
      · split
        · rw [driveAll_len]; exact h1
        · exact h1
      · exact h1
    · show (goesOf L I rs k _).length = _
      unfold goesOf
      split
      · split
        · rw [List.length_set]; exact h2
        · exact h2
      · exact h2
/-- What a cycle does, and says. -/
def cycleOut (L : Lay) (I : Inn) (rs : List Rs) : Ou := outTo L I (nextM L I rs) rs.length
end Go.Proofs.YtmdggodkkkihhaaDoor
