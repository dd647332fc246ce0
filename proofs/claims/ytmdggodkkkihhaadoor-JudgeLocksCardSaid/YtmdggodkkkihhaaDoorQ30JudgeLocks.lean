/- Texts put together for a claim. -/
import Derived.Test.YtmdggodkkkihhaaDoorQ28JudgeLocks
import Derived.Test.YtmdggodkkkihhaaDoorQ29JudgeLocks
import Derived.Test.YtmdggodkkkihhaaDoorQ20JudgeLocks
/- Walk of JudgeLocks. -/
set_option linter.unusedVariables false
set_option linter.unusedSimpArgs false
namespace Go.Proofs.YtmdggodkkkihhaaDoor
open Go.RowKit

/-- A command. -/
structure Cm where
  k : Int
  r : Int
def flM : Fl Cm := ⟨2, fun x => [.int .i64 x.k, .int .i64 x.r], fun _ => rfl, fun _ u hu => two_one hu rfl rfl⟩
def kCm : Kd Cm := Kd.iso (Kd.pair (Kd.int .i64) (Kd.pair (Kd.int .i64) Kd.unit)) fun c => (c.k, c.r, ())
theorem kM_enc (w : World) (x : Cm) (cs : List Value) (h : kCm.K w x cs) : cs = flM.enc x := by
  obtain ⟨_, _, rfl, ⟨rfl, _⟩, _, _, rfl, ⟨rfl, _⟩, rfl⟩ := h
  rfl
theorem Sl.cm {w : World} {A : Option Addr} {n c : Nat} {xs : List Cm} (h : Sl flM w A n c xs) {j : Nat} (hj : j < n) : ∃ b off x, A = some ⟨b, off, none⟩ ∧ xs[j]? = some x ∧ w.cell? ⟨b, off + j * 2, none⟩ = some (.int .i64 x.k) ∧ w.cell? ⟨b, off + j * 2 + 1, none⟩ = some (.int .i64 x.r) := by
  obtain ⟨b, off, x, rfl, hx, hc⟩ := h.rf.at_ hj
  exact ⟨b, off, x, rfl, hx, hc 0 _ rfl, hc 1 _ rfl⟩
/-- A row of what the field tells. -/
structure Ins (w : World) (A : Option Addr) (n c : Nat) (xs : List Inn) : Prop where
  rd : RdS kIn w A n xs
  le : n ≤ c
  cap : c ≤ 9223372036854775807
theorem Ins.stay {w w1 : World} {A : Option Addr} {n c : Nat} {xs : List Inn} (h : Ins w A n c xs) (hb : Below w.heap.size w w1) : Ins w1 A n c xs := ⟨h.rd.stay hb, h.le, h.cap⟩
theorem Ins.at_ {w : World} {A : Option Addr} {n c : Nat} {xs : List Inn} (h : Ins w A n c xs) {j : Nat} (hj : j < n) : ∃ b off I C D p pc q qc, A = some ⟨b, off, none⟩ ∧ xs[j]? = some I ∧
    w.cell? ⟨b, off + j * 2, none⟩ = some (.slice C p pc) ∧ w.cell? ⟨b, off + j * 2 + 1, none⟩ = some (.slice D q qc) ∧ InV w I C D p pc q qc := by
  obtain ⟨h1, h2, h3⟩ := h.rd
  obtain ⟨b, off, e, hc⟩ := h3 (by omega)
  obtain ⟨I, hI⟩ : ∃ x, xs[j]? = some x := ⟨xs[j]'(by omega), List.getElem?_eq_getElem (by omega)⟩
  obtain ⟨cs, hk, hcs⟩ := hc j I hI
  obtain ⟨C, D, p, pc, q, qc, rfl, hv⟩ := in_open hk
  exact ⟨b, off, I, C, D, p, pc, q, qc, e, hI, hcs 0 _ rfl, hcs 1 _ rfl, hv⟩
theorem inv_old {w0 w w1 : World} {rb : Nat} {I : Inn} {C D : Option Addr} {n c m d : Nat} (h : InV w0 I C D n c m d) (hb : Below w0.heap.size w0 w) (hr : w0.heap.size ≤ rb) (ho : Only (fun b => b = rb) w w1) : InV w1 I C D n c m d := by
  have h1 := h.stay hb
  have ne : ∀ {A : Option Addr} {p pc : Nat}, (0 < p → ∀ a, A = some a → a.block < w0.heap.size) → 0 < p → ∀ a, A = some a → ¬ a.block = rb := fun hh hp a ha e => by have := hh hp a ha; omega
  refine ⟨h1.occ.only0 ho (ne (p := n) (pc := c) (fun hp a ha => ?_)), h1.lies.only0 ho (ne (p := m) (pc := d) (fun hp a ha => ?_))⟩
  · obtain ⟨b, off, x, e, _, hc⟩ := h.occ.tru hp
    rw [ha] at e
    cases e
    exact cell_lt hc
  · obtain ⟨b, off, x, e, _, hc⟩ := h.lies.int hp
    rw [ha] at e
    cases e
    exact cell_lt hc
theorem below_of_only {w0 w w1 : World} {rb : Nat} (hb : Below w0.heap.size w0 w) (hr : w0.heap.size ≤ rb) (ho : Only (fun b => b = rb) w w1) : Below w0.heap.size w0 w1 :=
  hb.trans (ho.below hb.size (fun q _ h => by have : q = rb := h; omega))
/-- Between two cycles. -/
structure LkS (w0 wr : World) (g rb : Nat) (L : Lay) (A1 A2 A3 A4 : Option Addr) (n1 c1 n2 c2 n3 c3 n4 c4 : Nat) (rs : List Rs) : Prop where
  lk : Lk 52 w0 wr g rb L A1 A2 A3 A4 n1 c1 n2 c2 n3 c3 n4 c4 n4 rs []
  ones : OnesOk L rs
  clash : NoClash L rs
theorem new_ones {L : Lay} {n : Nat} : OnesOk L (List.replicate n ⟨0, 0, 0, false⟩) := by
  intro i x r hx hr
  rw [List.getElem?_replicate] at hr
  split at hr
  · cases hr; rfl
  · cases hr
theorem new_none {L : Lay} {n : Nat} : NoClash L (List.replicate n ⟨0, 0, 0, false⟩) := by
  intro i k x y r z _ _ _ hr _ h _
  rw [List.getElem?_replicate] at hr
  split at hr
  · cases hr; exact absurd rfl h
  · cases hr
theorem path_one {L : Lay} (h : IsOk L) : ∀ x ∈ L.rtes, 1 ≤ x.path.length := by
  intro x hx
  have := (route_ok (h.rts x hx)).2.2.2
  unfold endsOk at this
  simp only [Bool.and_eq_true, decide_eq_true_eq] at this
  exact this.1.2
theorem frm_ok {L : Lay} (h : IsOk L) : ∀ x ∈ L.rtes, 0 ≤ x.frm ∧ x.frm < L.sigs.length := by
  intro x hx
  have := (route_ok (h.rts x hx)).2.2.2
  unfold endsOk at this
  simp only [Bool.and_eq_true, decide_eq_true_eq] at this
  exact ⟨this.1.1.1.1.1.1, this.1.1.1.1.1.2⟩
set_option maxRecDepth 100000 in
theorem opens_ins : Opens Tryd.prog 42 (Kd.slice kIn) :=
  opens_slice Tryd.underlying42 (by kernel_rfl) (by decide) (of_decide_eq_true (by kernel_rfl)) opens_in
set_option maxRecDepth 100000 in
theorem opens_cms : Opens Tryd.prog 43 (Kd.slice kCm) :=
  opens_slice Tryd.underlying43 (by kernel_rfl) (by decide) (of_decide_eq_true (by kernel_rfl)) (opens_iso _ (fun a => ⟨a.1, a.2.1⟩) (fun _ => rfl) (opens_struct Tryd.underlying49 (by kernel_rfl)
    (opensF_cons rfl (opens_int Tryd.underlying3 (by kernel_rfl)) (opensF_cons rfl (opens_int Tryd.underlying3 (by kernel_rfl)) opensF_nil))))
section
variable {L : Lay} {A1 A2 A3 A4 P Q : Option Addr} {n1 c1 n2 c2 n3 c3 n4 c4 p pc q qc : Nat} {ins : List Inn} {cms : List Cm}
set_option maxRecDepth 20000 in
set_option maxHeartbeats 16000000 in
theorem judgeLocks_calls (w : World) (hT : Tabs w) (hL : LayV w L A1 A2 A3 A4 n1 c1 n2 c2 n3 c3 n4 c4) (hN : NmOk L 140737488351232) (hP : Ins w P p pc ins) (hQ : Sl flM w Q q qc cms) :
    Calls Tryd.prog 4 #[.agg #[.slice A1 n1 c1, .slice A2 n2 c2, .slice A3 n3 c3, .slice A4 n4 c4], .slice P p pc, .slice Q q qc] w fun e w' => e = .returned (.bool true) ∧ Below w.heap.size w w' := by
  have hbw : Below w.heap.size w (w.alloc (.cells #[.slice A1 n1 c1, .slice A2 n2 c2, .slice A3 n3 c3, .slice A4 n4 c4] 26)) := below_new w _
  have hB_l := Blk.at_ (w := w) (g := w.heap.size) (by simp) #[.slice A1 n1 c1, .slice A2 n2 c2, .slice A3 n3 c3, .slice A4 n4 c4] 26 (0, 0)
  have l0 := hB_l.cell 0
  have l1 := hB_l.cell 1
  have l2 := hB_l.cell 2
  have l3 := hB_l.cell 3
  simp only [List.getElem?_toArray, List.getElem?_cons_zero, List.getElem?_cons_succ] at l0 l1 l2 l3
  clear hB_l
  have HT := Lib.hid (hT.stay hbw)
  have HL := Lib.hid (hL.stay hbw)
  have HP := Lib.hid (hP.stay hbw)
  have HQ := Lib.hid (hQ.stay hbw)
  have HN := Lib.hid hN
  have HBW := Lib.hid hbw
  have HLN := Lib.hid (And.intro hL.rtes.len (And.intro hL.pts.len hL.sigs.len))
  have qp := Nat.le_trans hP.le hP.cap
  have qq := Nat.le_trans hQ.le hQ.cap
  clear hT hL hN hP hQ
  go_enter Tryd.func4, Tryd.ntmps4
  go_wp2_with fail
  generalize hgn : w.heap.size = gn at *
  have HGN := Lib.hid hgn
  clear hgn hbw
  generalize (w.alloc (.cells #[.slice A1 n1 c1, .slice A2 n2 c2, .slice A3 n3 c3, .slice A4 n4 c4] 26)) = W0 at *
  refine (size_calls _ L _ _ _ _ _ _ _ _ _ _ _ _ HL.out HN.out).mono ?_
  rintro e w2 ⟨sz, rfl, hsz, hb2⟩
  have HB2 := Lib.hid hb2
  have HSZ := Lib.hid hsz
  replace l0 := cell_stay hb2 l0
  replace l1 := cell_stay hb2 l1
  replace l2 := cell_stay hb2 l2
  replace l3 := cell_stay hb2 l3
  clear hsz hb2
  by_cases hlt : sz < 3000
  case neg =>
    go_wp2_with fail
    go_ret
    exact ⟨rfl, below_more (by rw [HGN.out]; exact HBW.out) HB2.out⟩
  case pos =>
  have HOKS := Lib.hid (HSZ.out hlt)
  go_wp2_with fail
  refine (RefIs_calls _ (HT.out.stay HB2.out) (HL.out.stay HB2.out) (HOKS.out.nm.more (by omega))).mono ?_
  rintro e w4 ⟨rfl, hb4⟩
  have HB4 := Lib.hid (below_more HB2.out hb4)
  replace l0 := cell_stay hb4 l0
  replace l1 := cell_stay hb4 l1
  replace l2 := cell_stay hb4 l2
  replace l3 := cell_stay hb4 l3
  clear hb4
  generalize his : isM L = is
  have HIS := Lib.hid his
  clear his
  cases is with
  | false =>
    go_wp2_with fail
    go_ret
    exact ⟨rfl, below_more (by rw [HGN.out]; exact HBW.out) HB4.out⟩
  | true =>
  have HIK := Lib.hid (is_ok HIS.out)
  have HLO := Lib.hid HIK.out.lay
  have HB4G := Lib.hid (below_more (by rw [HGN.out]; exact HBW.out) HB4.out)
  by_cases hp60 : 60 < p
  · have hp61 : (60 : Int) < p := by omega
    go_wp2_with fail
    go_ret
    exact ⟨rfl, HB4G.out⟩
  by_cases hq60 : 60 < q
  · have hq61 : (60 : Int) < q := by omega
    go_wp2_with fail
    go_ret
    exact ⟨rfl, HB4G.out⟩
  have KNW := Lib.hid (RefLockNew_calls w4 (HT.out.stay HB4.out) (HL.out.stay HB4.out) (HOKS.out.nm.more (by omega)) HIS.out)
  have KEEP := Lib.hid (fun (W : World) (hb : Below w4.heap.size w4 W) => (⟨cell_stay hb l0, cell_stay hb l1, cell_stay hb l2, cell_stay hb l3⟩ : W.cell? ⟨gn, 0, none⟩ = some (.slice A1 n1 c1) ∧ W.cell? ⟨gn, 1, none⟩ = some (.slice A2 n2 c2) ∧ W.cell? ⟨gn, 2, none⟩ = some (.slice A3 n3 c3) ∧ W.cell? ⟨gn, 3, none⟩ = some (.slice A4 n4 c4)))
  go_wp2_with (first
    | (go_at_call 16; refine KNW.out.mono ?_; rintro e w5 ⟨g, rb, rfl, hk⟩; have HK := Lib.hid hk; clear hk)
    | fail)
  have HLV := Lib.hid (HL.out.stay HB4.out)
  have HPV := Lib.hid (HP.out.stay HB4.out)
  have HQV := Lib.hid (HQ.out.stay HB4.out)
  have h26 : n2 ≤ 6 ∧ n3 ≤ 6 := by have := HIK.out.sz; have := HLN.out; omega
  have H26 := Lib.hid h26
  have HS0 : Hid (LkS w4 w5 g rb L A1 A2 A3 A4 n1 c1 n2 c2 n3 c3 n4 c4 (List.replicate n4 ⟨0, 0, 0, false⟩)) := Lib.hid ⟨HK.out, new_ones, new_none⟩
  clear l0 l1 l2 l3 KNW HK h26 HSZ HL HP HQ HT
  go_loopw [9] (fun i wr => ∃ j : Nat, j ≤ p ∧ i = .int .i64 j ∧ Hid (∃ rs, LkS w4 wr g rb L A1 A2 A3 A4 n1 c1 n2 c2 n3 c3 n4 c4 rs)) (fun i _ => p - (intOf i).toNat)
  case atStart => exact ⟨0, by omega, rfl, Lib.hid ⟨_, HS0.out⟩⟩
  case round =>
    obtain ⟨j, hj, rfl, hr⟩ := hrel
    obtain ⟨rs, hs⟩ := hr.out
    have HS := Lib.hid hs
    obtain ⟨l0, l1, l2, l3⟩ := KEEP.out _ hs.lk.hb
    clear hr hs
    by_cases hlt : j < p
    · obtain ⟨b, off, I, C, D, n, c, m, d, rfl, hi, i0, i1, hv⟩ := HPV.out.at_ hlt
      have HV := Lib.hid hv
      have hjp : (j : Int) < p := by omega
      have KI := Lib.hid (fun (W : World) (hb : Below w4.heap.size w4 W) => And.intro (cell_stay hb i0) (cell_stay hb i1))
      replace i0 := cell_stay HS.out.lk.hb i0
      replace i1 := cell_stay HS.out.lk.hb i1
      have KM := Lib.hid (fun z : Later wr => RefMayIn_calls z.w1 (HS.out.lk.layv.stay z.hb) ((HV.out.stay HS.out.lk.hb).stay z.hb))
      generalize hmi : mayInM L I = mi at *
      have HMI := Lib.hid hmi
      clear hmi hi hv
      have Ll0 := later_cell l0
      have Ll1 := later_cell l1
      have Ll2 := later_cell l2
      have Ll3 := later_cell l3
      have Li0 := later_cell i0
      have Li1 := later_cell i1
      cases mi with
      | false =>
        go_wp2_with fail
        refine wp_region_later (by kernel_rfl) (by kernel_rfl) ?_
        repeat (go_big_quiet_step ((first | (go_at_call 10; rename_i z; exact later_call z (KM.out z)) | fail)))
        refine wpQuiet_nil ?_
        intro q0
        go_wp2_with fail
        go_ret
        exact ⟨rfl, below_more HB4G.out (below_more HS.out.lk.hb q0.hb)⟩
      | true =>
        go_wp2_with fail
        refine wp_region_later (by kernel_rfl) (by kernel_rfl) ?_
        repeat (go_big_quiet_step ((first | (go_at_call 10; rename_i z; exact later_call z (KM.out z)) | fail)))
        refine wpQuiet_nil ?_
        intro q0
        have HS1 : Hid (LkS w4 q0.w1 g rb L A1 A2 A3 A4 n1 c1 n2 c2 n3 c3 n4 c4 rs) := Lib.hid ⟨HS.out.lk.stay q0.hb, HS.out.ones, HS.out.clash⟩
        clear KM Ll0 Ll1 Ll2 Ll3 Li0 Li1 HS
        generalize q0.w1 = w6 at *
        clear l0 l1 l2 l3 i0 i1
        obtain ⟨i0, i1⟩ := KI.out _ HS1.out.lk.hb
        go_upto_if 50 with fail
        go_cut [] (fun wx => ∃ rs', Hid (LkS w4 wx g rb L A1 A2 A3 A4 n1 c1 n2 c2 n3 c3 n4 c4 rs'))
        case first =>
          by_cases hc : j < q
          case neg =>
            have hc' : ¬ (j : Int) < q := by omega
            go_wp2_with fail
            go_meet
            exact ⟨_, HS1⟩
          case pos =>
            obtain ⟨bc, oc, cm, rfl, _, k0, k1⟩ := HQV.out.cm hc
            obtain ⟨ck, cr⟩ := cm
            simp only at k0 k1
            have hjq : (j : Int) < q := by omega
            have KEEPS := Lib.hid (fun (W : World) (hb : Below w4.heap.size w4 W) => And.intro (KI.out W hb).1 (And.intro (KI.out W hb).2 (And.intro (cell_stay hb k0) (cell_stay hb k1))))
            have HD := Lib.hid (HS1.out.lk.stay (below_drawn (Below.refl w6.heap.size w6) 1))
            clear k0 k1 i0 i1
            go_wp2_with fail
            refine wp_region_held_drew (S := (fun W => W.cell? ⟨b, off + j * 2, none⟩ = some (.slice C n c) ∧ W.cell? ⟨b, off + j * 2 + 1, none⟩ = some (.slice D m d) ∧ W.cell? ⟨bc, oc + j * 2, none⟩ = some (.int .i64 ck) ∧ W.cell? ⟨bc, oc + j * 2 + 1, none⟩ = some (.int .i64 cr))) (by kernel_rfl) ?_ (fun hHeld => ?_)
            · exact KEEPS.out _ HD.out.hb
            refine wpAnyH_take (i := 0) (oi := { dst := some 51, op := Op.move (Operand.tmp 7), type := 44, pos := "law.go:80", after := #[], guard := none }) (v := ?_) rfl (by kernel_rfl) (by kernel_rfl) (by kernel_rfl) (fun _ _ _ h => h) (Or.inl ⟨by rfl, ?_⟩) (by assumption) ?_
            rotate_left
            · intro w hSw; (try dsimp only at hSw); go_simp; (try (with_reducible rfl))
            (try simp only [Act.put, List.setIfInBounds_toArray, List.set_cons_zero, List.set_cons_succ])
            refine wpAnyH_take (i := 1) (oi := { dst := some 52, op := Op.move (Operand.tmp 1), type := 42, pos := "law.go:80", after := #[], guard := none }) (v := ?_) rfl (by kernel_rfl) (by kernel_rfl) (by kernel_rfl) (fun _ _ _ h => h) (Or.inl ⟨by rfl, ?_⟩) (by assumption) ?_
            rotate_left
            · intro w hSw; (try dsimp only at hSw); go_simp; (try (with_reducible rfl))
            (try simp only [Act.put, List.setIfInBounds_toArray, List.set_cons_zero, List.set_cons_succ])
            refine wpAnyH_take (i := 2) (oi := { dst := some 53, op := Op.move (Operand.tmp 9), type := 3, pos := "law.go:80", after := #[], guard := none }) (v := ?_) rfl (by kernel_rfl) (by kernel_rfl) (by kernel_rfl) (fun _ _ _ h => h) (Or.inl ⟨by rfl, ?_⟩) (by assumption) ?_
            rotate_left
            · intro w hSw; (try dsimp only at hSw); go_simp; (try (with_reducible rfl))
            (try simp only [Act.put, List.setIfInBounds_toArray, List.set_cons_zero, List.set_cons_succ])
            refine wpAnyH_take (i := 3) (oi := { dst := some 54, op := Op.indexAddr 42 (Operand.tmp 52) (Operand.tmp 53), type := 0, pos := "law.go:80", after := #[{ on := 1, ground := Ground.data }, { on := 2, ground := Ground.data }], guard := none }) (v := ?_) rfl (by kernel_rfl) (by kernel_rfl) (by kernel_rfl) (fun _ _ _ h => h) (Or.inl ⟨by rfl, ?_⟩) (by assumption) ?_
            rotate_left
            · intro w hSw; (try dsimp only at hSw); go_simp; (try (with_reducible rfl))
            (try simp only [Act.put, List.setIfInBounds_toArray, List.set_cons_zero, List.set_cons_succ])
            refine wpAnyH_take (i := 4) (oi := { dst := some 55, op := Op.load 30 (Operand.tmp 54), type := 30, pos := "law.go:80", after := #[{ on := 3, ground := Ground.data }], guard := none }) (v := ?_) rfl (by kernel_rfl) (by kernel_rfl) (by kernel_rfl) (fun _ _ _ h => h) (Or.inl ⟨by rfl, ?_⟩) (by assumption) ?_
            rotate_left
            · intro w hSw; (try dsimp only at hSw); go_simp; (try (with_reducible rfl))
            (try simp only [Act.put, List.setIfInBounds_toArray, List.set_cons_zero, List.set_cons_succ])
            refine wpAnyH_take (i := 5) (oi := { dst := some 56, op := Op.move (Operand.tmp 2), type := 43, pos := "law.go:80", after := #[], guard := none }) (v := ?_) rfl (by kernel_rfl) (by kernel_rfl) (by kernel_rfl) (fun _ _ _ h => h) (Or.inl ⟨by rfl, ?_⟩) (by assumption) ?_
            rotate_left
            · intro w hSw; (try dsimp only at hSw); go_simp; (try (with_reducible rfl))
            (try simp only [Act.put, List.setIfInBounds_toArray, List.set_cons_zero, List.set_cons_succ])
            refine wpAnyH_take (i := 6) (oi := { dst := some 57, op := Op.move (Operand.tmp 9), type := 3, pos := "law.go:80", after := #[], guard := none }) (v := ?_) rfl (by kernel_rfl) (by kernel_rfl) (by kernel_rfl) (fun _ _ _ h => h) (Or.inl ⟨by rfl, ?_⟩) (by assumption) ?_
            rotate_left
            · intro w hSw; (try dsimp only at hSw); go_simp; (try (with_reducible rfl))
            (try simp only [Act.put, List.setIfInBounds_toArray, List.set_cons_zero, List.set_cons_succ])
            refine wpAnyH_take (i := 7) (oi := { dst := some 58, op := Op.indexAddr 43 (Operand.tmp 56) (Operand.tmp 57), type := 0, pos := "law.go:80", after := #[{ on := 5, ground := Ground.data }, { on := 6, ground := Ground.data }], guard := none }) (v := ?_) rfl (by kernel_rfl) (by kernel_rfl) (by kernel_rfl) (fun _ _ _ h => h) (Or.inl ⟨by rfl, ?_⟩) (by assumption) ?_
            rotate_left
            · intro w hSw; (try dsimp only at hSw); go_simp; (try (with_reducible rfl))
            (try simp only [Act.put, List.setIfInBounds_toArray, List.set_cons_zero, List.set_cons_succ])
            refine wpAnyH_take (i := 8) (oi := { dst := some 59, op := Op.load 49 (Operand.tmp 58), type := 49, pos := "law.go:80", after := #[{ on := 7, ground := Ground.data }], guard := none }) (v := ?_) rfl (by kernel_rfl) (by kernel_rfl) (by kernel_rfl) (fun _ _ _ h => h) (Or.inl ⟨by rfl, ?_⟩) (by assumption) ?_
            rotate_left
            · intro w hSw; (try dsimp only at hSw); go_simp; (try (with_reducible rfl))
            (try simp only [Act.put, List.setIfInBounds_toArray, List.set_cons_zero, List.set_cons_succ])
            refine wpAnyH_ready (rs := [9]) (by kernel_rfl) (by simp) ?_
            refine AllReadyH.cons (o := { dst := some 60, op := Op.call { callee := Callee.value (Operand.func 17), args := #[Operand.tmp 51, Operand.tmp 55, Operand.tmp 59], argTypes := #[44, 30, 49] }, type := 3, pos := "law.go:80", after := #[{ on := 0, ground := Ground.data }, { on := 4, ground := Ground.data }, { on := 8, ground := Ground.data }], guard := none }) rfl (fun K hK => ?_) ?_
            ·
              go_simp
              (go_at_call 17; refine (RefCommand_calls w4 _ g rb HD.out (HV.out.stay HD.out.hb) HLO.out HMI.out HS1.out.ones.used ck cr).mono ?_; rintro e w7 ⟨rfl, hk7, ho7⟩; have HK7 := Lib.hid hk7; clear hk7 ho7)
              refine hK.out _ _ (by exact KEEPS.out _ HK7.out.hb) (fun hHeld => ?_)
              clear hK K
              (try simp only [Act.put, List.setIfInBounds_toArray, List.set_cons_zero, List.set_cons_succ])
              refine wpAnyH_done (by kernel_rfl) ?_ _
              go_wp2_with fail
              go_meet
              exact ⟨_, Lib.hid ⟨HK7.out, command_ones HS1.out.ones, command_none (HS1.out.lk.len.trans HS1.out.lk.lay.rtes.len.symm) HS1.out.clash⟩⟩
            exact AllReadyH.nil
        case rest =>
          obtain ⟨rs', hs'⟩ := hcut
          have HS2 := Lib.hid hs'.out
          clear hs' HS1 i0 i1
          have KCY := Lib.hid (RefCycle_calls w4 wc g rb HS2.out.lk (fun w' ho => inv_old HV.out HS2.out.lk.hb HS2.out.lk.lr ho) HLO.out H26.out.1 H26.out.2 HMI.out HS2.out.ones (path_one HIK.out) (frm_ok HIK.out))
          obtain ⟨i0, i1⟩ := KI.out _ HS2.out.lk.hb
          go_upto_region 12 with (first
            | (go_at_call 18; refine KCY.out.mono ?_; rintro e w8 ⟨gd, gp, rfl, hk8, ho8, hO8, hz1, hz2⟩; have HK8 := Lib.hid hk8; have HO8 := Lib.hid hO8; clear hk8 ho8 hO8 hz1 hz2)
            | fail)
          have hn9 := below_new w8 (.cells #[.slice (some ⟨gd, 0, none⟩) n2 n2, .slice (some ⟨gp, 0, none⟩) n3 n3] 32)
          have hob := Blk.new w8 #[.slice (some ⟨gd, 0, none⟩) n2 n2, .slice (some ⟨gp, 0, none⟩) n3 n3] 32 (0, 0)
          have HK9 := Lib.hid (HK8.out.stay hn9)
          have HO9 := Lib.hid (HO8.out.stay hn9)
          have HOB := Lib.hid hob
          have HN2 := Lib.hid (next_none (I := I) HS2.out.clash)
          have HON2 := Lib.hid (next_ones (I := I) HS2.out.ones (path_one HIK.out))
          have HSAFE : Hid (safeM L I (cycleOut L I rs') = true) := Lib.hid (lock_safe (fun x hx => (frm_ok HIK.out x hx).1) HMI.out HN2.out _)
          have HHELD : Hid (heldM L I (cycleOut L I rs') (nextM L I rs') = true) := Lib.hid (lock_held HIK.out (fun x hx => (frm_ok HIK.out x hx).1) HMI.out (by rw [next_len]; exact HS2.out.lk.len.trans HS2.out.lk.lay.rtes.len.symm) HN2.out _)
          have HATM : Hid (atmostM ⟨List.replicate n2 0, List.replicate n3 false⟩ (cycleOut L I rs') = true) := Lib.hid (lock_atmost (((out_len (L := L) (I := I) (rs := nextM L I rs') rs'.length).1).trans HLN.out.2.1) (((out_len (L := L) (I := I) (rs := nextM L I rs') rs'.length).2).trans HLN.out.2.2))
          clear HK8 HO8 hn9 hob KCY HS2 i0 i1
          generalize (w8.alloc (.cells #[.slice (some ⟨gd, 0, none⟩) n2 n2, .slice (some ⟨gp, 0, none⟩) n3 n3] 32)) = w9 at *
          generalize w8.heap.size = gO at *
          generalize cycleOut L I rs' = O at *
          generalize nextM L I rs' = rn at *
          have o0 := HOB.out.cell 0
          have o1 := HOB.out.cell 1
          have g4 := HK9.out.blk.cell 4
          simp only [List.getElem?_toArray, List.getElem?_cons_zero, List.getElem?_cons_succ] at o0 o1 g4
          have KEEP2 := Lib.hid (fun (W : World) (hb : Below w9.heap.size w9 W) => And.intro (KEEP.out W (below_more HK9.out.hb hb)) (And.intro (KI.out W (below_more HK9.out.hb hb)) (And.intro (cell_stay hb o0) (And.intro (cell_stay hb o1) (cell_stay hb g4)))))
          have HD := Lib.hid (below_drawn (Below.refl w9.heap.size w9) 1)
          clear o0 o1 g4
          go_region_held3 (fun W => (W.cell? ⟨gn, 0, none⟩ = some (.slice A1 n1 c1) ∧ W.cell? ⟨gn, 1, none⟩ = some (.slice A2 n2 c2) ∧ W.cell? ⟨gn, 2, none⟩ = some (.slice A3 n3 c3) ∧ W.cell? ⟨gn, 3, none⟩ = some (.slice A4 n4 c4)) ∧ (W.cell? ⟨b, off + j * 2, none⟩ = some (.slice C n c) ∧ W.cell? ⟨b, off + j * 2 + 1, none⟩ = some (.slice D m d)) ∧
              W.cell? ⟨gO, 0, none⟩ = some (.slice (some ⟨gd, 0, none⟩) n2 n2) ∧ W.cell? ⟨gO, 1, none⟩ = some (.slice (some ⟨gp, 0, none⟩) n3 n3) ∧ W.cell? ⟨g, 4, none⟩ = some (.slice (some ⟨rb, 0, none⟩) n4 n4))
            (first | exact KEEP2.out _ HD.out | exact KEEP2.out _ HBD.out | exact KEEP2.out _ HBC.out | exact KEEP2.out _ HBB.out | exact KEEP2.out _ HBA.out)
            (first
              | (go_at_call 11; refine (Safe_calls _ (HK9.out.layv.stay HD.out) (HV.out.stay (below_more HK9.out.hb HD.out)) (HO9.out.stay HD.out) HLO.out).mono ?_; rw [HSAFE.out]; rintro e wA ⟨rfl, hbA⟩; have HBA := Lib.hid (below_more HD.out hbA); clear hbA)
              | (go_at_call 13; refine (Held_calls wA (HK9.out.layv.stay HBA.out) (HV.out.stay (below_more HK9.out.hb HBA.out)) (HO9.out.stay HBA.out) (HK9.out.stay HBA.out).sl HLO.out).mono ?_; rw [HHELD.out]; rintro e wB ⟨rfl, hbB⟩; have HBB := Lib.hid (below_more HBA.out hbB); clear hbB)
              | (go_at_call 20; refine (RefLockSafe_calls w4 wB g rb (HK9.out.stay HBB.out) H26.out.1 H26.out.2).mono ?_; rintro e wC ⟨gd', gp', rfl, hbd, hbp, _, _, hbC⟩; have HBC := Lib.hid (below_more HBB.out hbC); have HOC := Lib.hid (OuV.mk (O := ⟨List.replicate n2 0, List.replicate n3 false⟩) (sl_lit flI _ n2 (by simp) hbd rfl (by have := H26.out; omega)) (sl_lit flT _ n3 (by simp) hbp rfl (by have := H26.out; omega))); clear hbC hbd hbp)
              | (go_at_call 19; refine (Atmost_calls wC HOC.out (HO9.out.stay HBC.out)).mono ?_; rw [HATM.out]; rintro e wD ⟨rfl, hbD⟩; have HBD := Lib.hid (below_more HBC.out hbD); clear hbD)
              | fail)
          go_wp2_with fail
          go_roundw
          case rel => exact ⟨j + 1, by omega, by go_num, Lib.hid ⟨rn, ⟨HK9.out.stay HBD.out, HON2.out, HN2.out⟩⟩⟩
          case measure => simp [intOf]; omega
    · obtain rfl : j = p := by omega
      clear hlt
      go_wp2_with (first
        | (go_at_call 15; refine (known_calls wr).mono ?_; rintro e w10 ⟨rfl, hb10⟩)
        | fail)
      go_ret
      exact ⟨rfl, below_more HB4G.out (below_more HS.out.lk.hb hb10)⟩
end
end Go.Proofs.YtmdggodkkkihhaaDoor
