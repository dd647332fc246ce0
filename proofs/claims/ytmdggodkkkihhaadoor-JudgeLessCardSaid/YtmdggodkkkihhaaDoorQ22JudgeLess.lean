/- Texts put together for a claim. -/
import Derived.Test.YtmdggodkkkihhaaDoorQ21JudgeLess
import Derived.Test.YtmdggodkkkihhaaDoorQ20JudgeLess
import Derived.Test.YtmdggodkkkihhaaDoorQ8JudgeLess
/- Contract: the reference's ways: the same answer as the program's. -/
set_option linter.unusedVariables false
set_option linter.unusedSimpArgs false
namespace Go.Proofs.YtmdggodkkkihhaaDoor
open Go.RowKit

/-- An append onto a row of the call's own, as a step under a guard that holds. -/
theorem step_append_want {P : Program} {w : World} {ops : Array Oper} {o : Oper} {a : Act} {K : Act → World → Prop} {Q : Exit → Act → World → Prop} {E : Prop} (hw : Region.wanted o (yielded ops a.tmps) = true) (s x : Operand) (t : TypeId)
    (ho : o.op = .call { callee := .builtin .append, args := #[s, x], argTypes := #[t, t] })
    (base : Nat) (e : TypeId) (i : TypeInfo) (z : Value) (size bytes : Nat) (ht : P.underlying t = some (.slice e)) (hi : P.info? e = some i) (hz : i.zero = some z)
    (hsize : i.size = size) (hby : i.bytes = bytes) (hzs : z.cells.size = size) (hsz : 0 < size)
    (v : Value) (n : Nat) (xs : List Value) (hs : a.eval s = v) (hown : w.ownsRow base e size v n xs)
    (B : Nat) (A : Option Addr) (m c : Nat) (news : List Value) (hx : a.eval x = .slice A m c) (hr : Reads w B size A m news) (h1 : ∀ u ∈ news, u.oneCell' = true)
    (h63 : n + m ≤ maxLen) (hbytes : (n + m) * bytes ≤ 140737488355328) (hbase : base ≤ w.heap.size)
    (h : ∀ v' w', w'.ownsRow base e size v' (n + m) (xs ++ news) → w.grownBy w' v.ownBlock → (v'.ownBlock = v.ownBlock ∨ v'.ownBlock = some w.heap.size) → K (a.put o.dst v') w') :
    if Region.wanted o (yielded ops a.tmps) = true then Oper.wp P o a w K Q else E := by
  rw [if_pos hw]
  exact wp_append_any w s x t ho base e i z size bytes ht hi hz hsize hby hzs hsz v n xs hs hown B A m c news hx hr h1 h63 hbytes hbase h
theorem ints_snoc {w : World} {base : Nat} {e : TypeId} {v : Value} {xs : List Int} {y : Int} {q : Nat} (hq : xs.length = q) (h : w.ownsRow base e flI.sz v (q + 1) ([] ++ xs.flatMap flI.enc ++ flI.enc y)) : Ow flI w base e v (xs ++ [y]) := by
  subst hq
  refine Ow.snoc ?_
  simpa using h
theorem box_kept {w w1 : World} {g : Nat} {y : Int} {t : TypeId} {k : Option Nat} (hb : Blk w g #[.int .i64 y] t (0, 0)) (hg : w.grownBy w1 k) (hk : k ≠ some g) : Reads w1 w1.heap.size 1 (some ⟨g, 0, none⟩) 1 (flI.enc y) := by
  have h := hb.only (Only.of_grown hg) hk
  exact (lit_reads flI [y] h rfl (by simp)).reads (by decide)
/-- May a way be taken? -/
def wayOk (L : Lay) (I : Inn) (s : Nat) (t : List Bool) (ch : List Int) (r : Int) : Bool := !(ch.any fun q => conflictI L r q) && clearI L I r && waysM L I (s + 1) t (ch ++ [r])
theorem ways_true {L : Lay} {I : Inn} {s : Nat} {t : List Bool} {ch : List Int} : waysM L I s (true :: t) ch = (entryTo L.rtes s L.rtes.length).any (wayOk L I s t ch) := by
  rw [waysM, if_pos rfl]
  rfl
theorem any_take_succ {α : Type} {p : α → Bool} {xs : List α} {k : Nat} {x : α} (h : xs[k]? = some x) : (xs.take (k + 1)).any p = ((xs.take k).any p || p x) := by
  rw [List.take_add_one, h]
  simp
theorem any_none {α : Type} {p : α → Bool} {xs : List α} {n : Nat} (hn : xs.length = n) (h : ∀ (j : Nat) (x : α), j < n → xs[j]? = some x → p x = false) : xs.any p = false := by
  rw [List.any_eq_false]
  intro x hx
  obtain ⟨j, hj⟩ := List.mem_iff_getElem?.1 hx
  rw [h j x (by have := (List.getElem?_eq_some_iff.1 hj).1; omega) hj]
  decide
theorem none_more {α : Type} {p : α → Bool} {xs : List α} {k : Nat} {y : α} (hy : xs[k]? = some y) (h : ∀ (j : Nat) (x : α), j < k → xs[j]? = some x → p x = false) (hp : p y = false) : ∀ (j : Nat) (x : α), j < k + 1 → xs[j]? = some x → p x = false := by
  intro j x hj hx
  rcases Nat.lt_or_ge j k with h' | h'
  · exact h j x h' hx
  · obtain rfl : j = k := by omega
    rw [hy] at hx
    cases hx
    exact hp
def RWaysAt (w : World) (L : Lay) (A1 A2 A3 A4 : Option Addr) (n1 c1 n2 c2 n3 c3 n4 c4 : Nat) (I : Inn) (C D : Option Addr) (n c m d : Nat) (E F : Option Addr) (p pc q qc : Nat) (s : Nat) (t : List Bool) (K : Nat) : Prop :=
  ∀ (W : World) (X : Option Addr) (x xc : Nat) (ch : List Int), Below w.heap.size w W → Sl flI W X x xc ch → ChOk L ch → x ≤ K →
    Calls Tryd.prog 26 #[.agg #[.slice A1 n1 c1, .slice A2 n2 c2, .slice A3 n3 c3, .slice A4 n4 c4], .agg #[.slice C n c, .slice D m d], .agg #[.slice E p pc, .slice F q qc], .int .i64 s, .slice X x xc] W fun e w' => e = .returned (.bool (waysM L I s t ch)) ∧ Below W.heap.size W w'
section
variable {L : Lay} {A1 A2 A3 A4 : Option Addr} {n1 c1 n2 c2 n3 c3 n4 c4 : Nat} {I : Inn} {C D : Option Addr} {n c m d : Nat} {O : Ou} {E F : Option Addr} {p pc q qc : Nat}
set_option maxRecDepth 20000 in
set_option maxHeartbeats 8000000 in
theorem RWays_calls (w : World) (hL : LayV w L A1 A2 A3 A4 n1 c1 n2 c2 n3 c3 n4 c4) (hI : InV w I C D n c m d) (hO : OuV w O E F p pc q qc) (hok : AllOk L I) (hq3 : q = n3) (hq : q ≤ 1000000) :
    ∀ (t : List Bool) (s : Nat), O.proceed.drop s = t → s ≤ q → ∀ K, K + t.length ≤ 1000000 → RWaysAt w L A1 A2 A3 A4 n1 c1 n2 c2 n3 c3 n4 c4 I C D n c m d E F p pc q qc s t K := by
  have hn4 : n4 ≤ 1000000 := by
    have := hL.rtes.len
    have := hok.few
    omega
  intro t
  induction t with
  | nil =>
    intro s hs hsp K hK W X x xc ch hW hch hco hx
    have hpl := hO.proceed.len
    have hge : q ≤ s := by
      have := congrArg List.length hs
      rw [List.length_drop, List.length_nil] at this
      omega
    obtain rfl : s = q := by omega
    subst hq3
    have hb : Below W.heap.size W (((W.alloc (.cells #[.slice A1 n1 c1, .slice A2 n2 c2, .slice A3 s c3, .slice A4 n4 c4] 26)).alloc (.cells #[.slice C n c, .slice D m d] 30)).alloc (.cells #[.slice E p pc, .slice F s qc] 32)) :=
      ((below_new W _).alloc (by simp) _).alloc (by simp; omega) _
    have hB1 := ((Blk.new W #[.slice A1 n1 c1, .slice A2 n2 c2, .slice A3 s c3, .slice A4 n4 c4] 26 (0, 0)).alloc (.cells #[.slice C n c, .slice D m d] 30)).alloc (.cells #[.slice E p pc, .slice F s qc] 32)
    have l2 := hB1.cell 2
    simp only [List.getElem?_toArray, List.getElem?_cons_zero, List.getElem?_cons_succ] at l2
    clear hL hI hok hO hs hge hch hco hpl hsp hB1
    go_enter Tryd.func26, Tryd.ntmps26
    go_wp2_with fail
    go_ret
    exact ⟨rfl, hb⟩
  | cons b t ih =>
    intro s hs hsp K hK W X x xc ch hW hch hco hx
    have hpl := hO.proceed.len
    have hlt : s < q := by
      have := congrArg List.length hs
      rw [List.length_drop, List.length_cons] at this
      omega
    have hcap := Nat.le_trans hO.proceed.le hO.proceed.cap
    obtain ⟨bb, off, y, rfl, hy, cy⟩ := hO.proceed.tru hlt
    obtain ⟨e1, e2⟩ : y = b ∧ O.proceed.drop (s + 1) = t := by
      have h1 : O.proceed.drop s = y :: O.proceed.drop (s + 1) := by
        rw [List.drop_eq_getElem_cons (by omega)]
        have := (List.getElem?_eq_some_iff.1 hy).2
        rw [this]
      rw [h1] at hs
      injection hs with h2 h3
      exact ⟨h2, h3⟩
    subst e1
    rw [List.length_cons] at hK
    have ih0 := Lib.hid (ih (s + 1) e2 (by omega) K (by omega))
    have ih1 := Lib.hid (ih (s + 1) e2 (by omega) (K + 1) (by omega))
    have hb : Below W.heap.size W (((W.alloc (.cells #[.slice A1 n1 c1, .slice A2 n2 c2, .slice A3 n3 c3, .slice A4 n4 c4] 26)).alloc (.cells #[.slice C n c, .slice D m d] 30)).alloc (.cells #[.slice E p pc, .slice (some ⟨bb, off, none⟩) q qc] 32)) :=
      ((below_new W _).alloc (by simp) _).alloc (by simp; omega) _
    have hB1 := ((Blk.new W #[.slice A1 n1 c1, .slice A2 n2 c2, .slice A3 n3 c3, .slice A4 n4 c4] 26 (0, 0)).alloc (.cells #[.slice C n c, .slice D m d] 30)).alloc (.cells #[.slice E p pc, .slice (some ⟨bb, off, none⟩) q qc] 32)
    have hB2 := (Blk.at_ (w := W.alloc (.cells #[.slice A1 n1 c1, .slice A2 n2 c2, .slice A3 n3 c3, .slice A4 n4 c4] 26)) (g := W.heap.size + 1) (by simp) #[.slice C n c, .slice D m d] 30 (0, 0)).alloc (.cells #[.slice E p pc, .slice (some ⟨bb, off, none⟩) q qc] 32)
    have hB3 := Blk.at_ (w := (W.alloc (.cells #[.slice A1 n1 c1, .slice A2 n2 c2, .slice A3 n3 c3, .slice A4 n4 c4] 26)).alloc (.cells #[.slice C n c, .slice D m d] 30)) (g := W.heap.size + 2) (by simp) #[.slice E p pc, .slice (some ⟨bb, off, none⟩) q qc] 32 (0, 0)
    have l0 := hB1.cell 0
    have l1 := hB1.cell 1
    have l2 := hB1.cell 2
    have l3 := hB1.cell 3
    have i0 := hB2.cell 0
    have i1 := hB2.cell 1
    have o0 := hB3.cell 0
    have o1 := hB3.cell 1
    simp only [List.getElem?_toArray, List.getElem?_cons_zero, List.getElem?_cons_succ] at l0 l1 l2 l3 i0 i1 o0 o1
    have cy := cell_stay (below_more hW hb) cy
    have HL := Lib.hid (LayB.mk l0 l1 l2 l3 (hL.stay (below_more hW hb)))
    have HI := Lib.hid (InB.mk i0 i1 (hI.stay (below_more hW hb)))
    have HC := Lib.hid (hch.stay hb)
    have HO := Lib.hid hco
    have HK := Lib.hid hok
    have HWW := Lib.hid (below_more hW hb)
    have HB := Lib.hid hb
    have HRL := Lib.hid (show n4 = L.rtes.length from hL.rtes.len.symm)
    have hsn3 : s < n3 := by omega
    have hw1 : IntKind.i64.wrap ((s : Int) + 1) = (s : Int) + 1 := by rw [IntKind.wrap_i64]; omega
    have HW1 := Lib.hid hw1
    clear hL hI hok hO hs hch hco hpl hB1 hB2 hB3 hW hy ih hw1 hq3
    go_enter Tryd.func26, Tryd.ntmps26
    go_upto_region 1 with fail
    generalize (((W.alloc (.cells #[.slice A1 n1 c1, .slice A2 n2 c2, .slice A3 n3 c3, .slice A4 n4 c4] 26)).alloc (.cells #[.slice C n c, .slice D m d] 30)).alloc (.cells #[.slice E p pc, .slice (some ⟨bb, off, none⟩) q qc] 32)) = W0 at *
    generalize hgn : W.heap.size = gn at *
    have HGN := Lib.hid hgn
    clear hgn hb
    cases y with
    | false =>
      go_wp2_with (first
        | (go_at_call 26; refine (ih0.out W0 X x xc ch HWW.out HC.out HO.out hx).mono ?_; rintro e w7 ⟨rfl, hb7⟩)
        | fail)
      go_ret
      exact ⟨ret_bool (by rw [waysM]; rfl), below_more (by rw [HGN.out]; exact HB.out) hb7⟩
    | true =>
      have KE := Lib.hid (RefEntry_calls W0 HL.out.v hn4 s)
      have HM : Hid (waysM L I s (true :: t) ch = (entryTo L.rtes s n4).any (wayOk L I s t ch)) := Lib.hid (by rw [ways_true, ← HRL.out])
      have HMEM : Hid (∀ y ∈ entryTo L.rtes s n4, 0 ≤ y ∧ y < L.rtes.length) := Lib.hid (fun y hy => by
        obtain ⟨j, _, rfl, hj, _, _⟩ := entryTo_mem hy
        have := HRL.out
        omega)
      generalize entryTo L.rtes s n4 = es at *
      go_wp2_with (first
        | (go_at_call 50; refine KE.out.mono ?_; rintro e w2 ⟨A5, n5, c5, rfl, hq5, hb5⟩; have HB5 := Lib.hid hb5; have HQ5 := Lib.hid hq5; have l0 := cell_stay hb5 l0; have l1 := cell_stay hb5 l1; have l2 := cell_stay hb5 l2; have l3 := cell_stay hb5 l3; have i0 := cell_stay hb5 i0; have i1 := cell_stay hb5 i1; have o0 := cell_stay hb5 o0; have o1 := cell_stay hb5 o1; clear hb5 hq5)
        | fail)
      have q5 := Nat.le_trans HQ5.out.le HQ5.out.cap
      have qx := Nat.le_trans HC.out.le HC.out.cap
      have HLN5 := Lib.hid HQ5.out.len
      have HLNX := Lib.hid HC.out.len
      have HV := Lib.hid (HL.out.v.stay HB5.out)
      have HIV := Lib.hid (HI.out.v.stay HB5.out)
      have HCV := Lib.hid (HC.out.stay HB5.out)
      have HBX := Lib.hid (below_more (by rw [HGN.out]; exact HB.out) HB5.out)
      have HWX := Lib.hid (below_more HWW.out HB5.out)
      go_loopw [12] (fun i wr => ∃ k : Nat, k ≤ n5 ∧ i = .int .i64 k ∧ Hid (Below w2.heap.size w2 wr ∧ ∀ (j : Nat) (a : Int), j < k → es[j]? = some a → wayOk L I s t ch a = false)) (fun i _ => n5 - (intOf i).toNat)
      case atStart => exact ⟨0, by omega, rfl, Lib.hid ⟨Below.refl _ _, fun j a h => absurd h (by omega)⟩⟩
      case round =>
        obtain ⟨k, hk, rfl, hr⟩ := hrel
        have HB2 := Lib.hid hr.out.1
        have HR2 := Lib.hid hr.out.2
        have l0 := cell_stay HB2.out l0
        have l1 := cell_stay HB2.out l1
        have l2 := cell_stay HB2.out l2
        have l3 := cell_stay HB2.out l3
        have i0 := cell_stay HB2.out i0
        have i1 := cell_stay HB2.out i1
        have o0 := cell_stay HB2.out o0
        have o1 := cell_stay HB2.out o1
        clear hr
        by_cases hlt : k < n5
        · obtain ⟨b5, off5, a, rfl, ha, ca⟩ := HQ5.out.int hlt
          obtain ⟨ha0, ha1⟩ := HMEM.out a (List.mem_of_getElem? ha)
          obtain ⟨r, rfl⟩ : ∃ r : Nat, a = r := ⟨a.toNat, by omega⟩
          have hr : r < L.rtes.length := by omega
          have hxr := List.getElem?_eq_getElem hr
          have ca := cell_stay HB2.out ca
          have HA := Lib.hid ha
          have HRR := Lib.hid hr
          have KC := Lib.hid (fun z : Later wr => RefClear_calls z.w1 ((HV.out.stay HB2.out).stay z.hb) ((HIV.out.stay HB2.out).stay z.hb) r _ hxr (HK.out.all _ (List.getElem_mem hr)))
          have KR := Lib.hid (fun z : Later wr => RefRight_calls z.w1 ((HV.out.stay HB2.out).stay z.hb) ((HIV.out.stay HB2.out).stay z.hb) r _ hxr (HK.out.all _ (List.getElem_mem hr)))
          have HCL : Hid (clearI L I r = (freeM I (L.rtes[r]).path && rightM I ((L.rtes[r]).points ++ (L.rtes[r]).flank))) := Lib.hid (by
            unfold clearI
            rw [Int.toNat_natCast, hxr]
            rfl)
          generalize freeM I (L.rtes[r]).path = z1 at *
          generalize rightM I ((L.rtes[r]).points ++ (L.rtes[r]).flank) = z2 at *
          clear ha ha0 ha1 hxr hr
          go_wp2_with fail
          go_cut [13] (fun s13 wx => s13 = .bool (z1 && z2) ∧ Below wr.heap.size wr wx)
          case first =>
            have L0 := later_cell l0
            have L1 := later_cell l1
            have L2 := later_cell l2
            have L3 := later_cell l3
            have L4 := later_cell i0
            have L5 := later_cell i1
            have L6 := later_cell ca
            clear l0 l1 l2 l3 i0 i1 o0 o1 ca
            cases z1
            all_goals
              refine wp_region_later (by kernel_rfl) (by kernel_rfl) ?_
              repeat (go_big_quiet_step (first
                | (go_at_call 37; rename_i q; exact later_call q (KC.out q))
                | (go_at_call 38; rename_i q; exact later_call q (KR.out q))
                | fail))
              refine wpQuiet_nil ?_
              intro q0
              go_wp2_with fail
              go_meet
              exact ⟨rfl, q0.hb⟩
          case rest =>
            obtain ⟨rfl, hbc⟩ := hcut
            have HB3 := Lib.hid (below_more HB2.out hbc)
            have l0 := cell_stay hbc l0
            have l1 := cell_stay hbc l1
            have l2 := cell_stay hbc l2
            have l3 := cell_stay hbc l3
            have i0 := cell_stay hbc i0
            have i1 := cell_stay hbc i1
            have o0 := cell_stay hbc o0
            have o1 := cell_stay hbc o1
            have ca := cell_stay hbc ca
            clear hbc
            generalize (z1 && z2) = u at *
            clear KC KR
            go_wp2_with fail
            generalize hwc : wc = w3 at *
            clear hwc
            go_loopw [13, 14] (fun v j wr => ∃ k2 : Nat, k2 ≤ x ∧ v = .bool (u && !((ch.take k2).any fun q => conflictI L r q)) ∧ j = .int .i64 k2 ∧ Hid (Below w3.heap.size w3 wr)) (fun _ j _ => x - (intOf j).toNat)
            case atStart => exact ⟨0, by omega, by simp, rfl, Lib.hid (Below.refl _ _)⟩
            case round =>
              obtain ⟨k2, hk2, rfl, rfl, hr⟩ := hrel
              have HB4 := Lib.hid hr.out
              have HB24 := Lib.hid (below_more HB3.out HB4.out)
              have l0 := cell_stay HB4.out l0
              have l1 := cell_stay HB4.out l1
              have l2 := cell_stay HB4.out l2
              have l3 := cell_stay HB4.out l3
              have i0 := cell_stay HB4.out i0
              have i1 := cell_stay HB4.out i1
              have o0 := cell_stay HB4.out o0
              have o1 := cell_stay HB4.out o1
              have ca := cell_stay HB4.out ca
              generalize hu2 : (u && !((ch.take k2).any fun q => conflictI L r q)) = u2 at *
              have HU2 := Lib.hid hu2
              clear hu2 hr
              by_cases hlt2 : k2 < x
              · obtain ⟨b6, off6, a2, rfl, ha2, ca2⟩ := HCV.out.int hlt2
                obtain ⟨hb0, hb1⟩ := HO.out a2 (List.mem_of_getElem? ha2)
                obtain ⟨sN, rfl⟩ : ∃ sN : Nat, a2 = sN := ⟨a2.toNat, by omega⟩
                have hsN : sN < L.rtes.length := by omega
                have hxr := List.getElem?_eq_getElem HRR.out
                have hys := List.getElem?_eq_getElem hsN
                have ca2 := cell_stay HB24.out ca2
                have KX := Lib.hid (fun z : Later wr => RefConflict_calls z.w1 L A1 A2 A3 A4 n1 c1 n2 c2 n3 c3 n4 c4 ((HV.out.stay HB24.out).stay z.hb) r sN _ _ hxr hys (HK.out.all _ (List.getElem_mem HRR.out)).few (HK.out.all _ (List.getElem_mem hsN)).few)
                have HCI : Hid (conflictI L r sN = conflictM r sN (L.rtes[r]'HRR.out) (L.rtes[sN])) := Lib.hid (by
                  unfold conflictI
                  rw [Int.toNat_natCast, Int.toNat_natCast, hxr, hys])
                generalize conflictM r sN (L.rtes[r]'HRR.out) (L.rtes[sN]) = cz at *
                have HNX : Hid ((u && !((ch.take (k2 + 1)).any fun q => conflictI L r q)) = (u2 && !cz)) := Lib.hid (by
                  rw [any_take_succ ha2, ← HU2.out, ← HCI.out]
                  cases u <;> cases ((ch.take k2).any fun q => conflictI L r q) <;> cases conflictI L r sN <;> rfl)
                have L0 := later_cell l0
                have L1 := later_cell l1
                have L2 := later_cell l2
                have L3 := later_cell l3
                have L6 := later_cell ca
                have L7 := later_cell ca2
                clear ha2 hb0 hb1 hsN hxr hys ca2 l0 l1 l2 l3 i0 i1 o0 o1 ca
                cases u2
                all_goals
                  go_wp2_with fail
                  refine wp_region_later (by kernel_rfl) (by kernel_rfl) ?_
                  repeat (go_big_quiet_step (first
                    | (go_at_call 43; rename_i q; exact later_call q (KX.out q))
                    | fail))
                  refine wpQuiet_nil ?_
                  intro q0
                  go_wp2_with fail
                  go_roundw
                  case rel => exact ⟨k2 + 1, by omega, by rw [HNX.out]; first | rfl | simp, by go_num, Lib.hid (below_more HB4.out q0.hb)⟩
                  case measure => simp [intOf]; omega
              · obtain rfl : k2 = x := by omega
                have HU3 : Hid (u2 = (clearI L I r && !(ch.any fun q => conflictI L r q))) := Lib.hid (by rw [← HU2.out, HCL.out, List.take_of_length_le (by rw [HLNX.out]; exact Nat.le_refl _)])
                clear hlt2 HU2
                cases u2 with
                | false =>
                  have HN := Lib.hid (none_more HA.out HR2.out (show wayOk L I s t ch r = false by
                    unfold wayOk
                    have := HU3.out
                    revert this
                    cases clearI L I r <;> cases (ch.any fun q => conflictI L r q) <;> simp))
                  go_wp2_with fail
                  refine wp_region_later (by kernel_rfl) (by kernel_rfl) ?_
                  repeat (go_big_quiet_step (fail))
                  refine wpQuiet_nil ?_
                  intro q0
                  go_wp2_with fail
                  go_roundw
                  case rel => exact ⟨k + 1, by omega, by go_num, Lib.hid ⟨below_more HB24.out q0.hb, HN.out⟩⟩
                  case measure => simp [intOf]; omega
                | true =>
                  generalize hwz : wr = w4 at *
                  clear hwz
                  obtain ⟨e0, he0, hz0, hz1, hz2⟩ := info_parts info_int
                  have HX4 := Lib.hid (HCV.out.stay HB24.out)
                  have hw1 := HW1.out
                  have HD := Lib.hid (below_drawn (Below.refl w4.heap.size w4) 1)
                  have HAL := Lib.hid (HD.out.alloc (Nat.le_refl _) (.cells #[] 3))
                  have HAR := Lib.hid ((HD.out.alloc (Nat.le_refl _) (.cells #[] 3)).alloc (by simp) (.cells #[.int .i64 (r : Int)] 3))
                  have HR0 := Lib.hid (HD.out.alloc (Nat.le_refl _) (.cells #[.int .i64 (r : Int)] 3))
                  have HRA := Lib.hid ((HD.out.alloc (Nat.le_refl _) (.cells #[.int .i64 (r : Int)] 3)).alloc (by simp) (.cells #[] 3))
                  have HEA := Lib.hid (own_empty flI w4.drew w4.heap.size 3 (Nat.le_refl _))
                  have HEAR := Lib.hid (World.ownsRow.alloc (own_empty flI w4.drew w4.heap.size 3 (Nat.le_refl _)) (.cells #[.int .i64 (r : Int)] 3))
                  have HERA : Hid (World.ownsRow ((w4.drew.alloc (.cells #[.int .i64 (r : Int)] 3)).alloc (.cells #[] 3)) w4.heap.size 3 1 (.slice (some ⟨w4.heap.size + 1, 0, none⟩) 0 0) 0 []) := Lib.hid (by have h := own_empty flI (w4.drew.alloc (.cells #[.int .i64 (r : Int)] 3)) w4.heap.size 3 (by simp); rw [size_new] at h; exact h)
                  have KEEP := Lib.hid (fun (W : World) (hb : Below w4.heap.size w4 W) => (⟨cell_stay hb l0, cell_stay hb l1, cell_stay hb l2, cell_stay hb l3, cell_stay hb i0, cell_stay hb i1, cell_stay hb o0, cell_stay hb o1, cell_stay hb ca⟩ :
                    W.cell? ⟨gn, 0, none⟩ = some (.slice A1 n1 c1) ∧ W.cell? ⟨gn, 1, none⟩ = some (.slice A2 n2 c2) ∧ W.cell? ⟨gn, 2, none⟩ = some (.slice A3 n3 c3) ∧ W.cell? ⟨gn, 3, none⟩ = some (.slice A4 n4 c4) ∧
                    W.cell? ⟨gn + 1, 0, none⟩ = some (.slice C n c) ∧ W.cell? ⟨gn + 1, 1, none⟩ = some (.slice D m d) ∧ W.cell? ⟨gn + 2, 0, none⟩ = some (.slice E p pc) ∧ W.cell? ⟨gn + 2, 1, none⟩ = some (.slice (some ⟨bb, off, none⟩) q qc) ∧ W.cell? ⟨b5, off5 + k, none⟩ = some (.int .i64 (r : Int))))
                  have K6 : Hid (∀ (W : World) (X : Option Addr) (x xc : Nat) (ch : List Int), Below w.heap.size w W → Sl flI W X x xc ch → ChOk L ch → x ≤ K + 1 →
                    Calls Tryd.prog 26 #[.agg #[.slice A1 n1 c1, .slice A2 n2 c2, .slice A3 n3 c3, .slice A4 n4 c4], .agg #[.slice C n c, .slice D m d], .agg #[.slice E p pc, .slice (some ⟨bb, off, none⟩) q qc], .int .i64 ((s : Int) + 1), .slice X x xc] W fun e w' => e = .returned (.bool (waysM L I (s + 1) t ch)) ∧ Below W.heap.size W w') := Lib.hid ih1.out
                  have HOK : Hid (ChOk L (ch ++ [(r : Int)])) := Lib.hid (by
                    intro q hq
                    rcases List.mem_append.1 hq with h | h
                    · exact HO.out q h
                    · rw [List.mem_singleton.1 h]
                      have := HRR.out
                      omega)
                  have HWO : Hid (wayOk L I s t ch r = waysM L I (s + 1) t (ch ++ [(r : Int)])) := Lib.hid (by
                    unfold wayOk
                    have := HU3.out
                    revert this
                    cases clearI L I r <;> cases (ch.any fun q => conflictI L r q) <;> simp)
                  have HWB := Lib.hid (below_more HWX.out HB24.out)
                  generalize hz : waysM L I (s + 1) t (ch ++ [(r : Int)]) = zz at *
                  have HZ := Lib.hid hz
                  clear hz l0 l1 l2 l3 i0 i1 o0 o1 ca HU3
                  go_wp2_with fail
                  go_region_held3 (fun W => W.cell? ⟨gn, 0, none⟩ = some (.slice A1 n1 c1) ∧ W.cell? ⟨gn, 1, none⟩ = some (.slice A2 n2 c2) ∧ W.cell? ⟨gn, 2, none⟩ = some (.slice A3 n3 c3) ∧ W.cell? ⟨gn, 3, none⟩ = some (.slice A4 n4 c4) ∧
                    W.cell? ⟨gn + 1, 0, none⟩ = some (.slice C n c) ∧ W.cell? ⟨gn + 1, 1, none⟩ = some (.slice D m d) ∧ W.cell? ⟨gn + 2, 0, none⟩ = some (.slice E p pc) ∧ W.cell? ⟨gn + 2, 1, none⟩ = some (.slice (some ⟨bb, off, none⟩) q qc) ∧ W.cell? ⟨b5, off5 + k, none⟩ = some (.int .i64 (r : Int)))
                    (first | exact KEEP.out _ HD.out | exact KEEP.out _ HB9.out | exact KEEP.out _ HB8.out | exact KEEP.out _ (HB7.out.alloc HB7.out.size _) | exact KEEP.out _ HB7.out | exact KEEP.out _ HAL.out | exact KEEP.out _ HAR.out | exact KEEP.out _ HR0.out | exact KEEP.out _ HRA.out)
                    (first
                      | (refine step_append_want (by rfl) (.tmp 85) (.tmp 86) _ (by rfl) w4.heap.size 3 e0 _ 1 8 Tryd.underlying28 he0 hz0 hz1 hz2 rfl (by omega) _ 0 [] (by rfl) HEA.out w4.heap.size X k2 xc (ch.flatMap flI.enc) (by rfl) ((HX4.out.rf.reads (by decide)).below HAL.out) (flat_one flI _) (by simp only [maxLen]; omega) (by omega) (by simp) ?_; intro v7 w7 hown7 hg7 hat7; rw [Nat.zero_add] at hown7; obtain ⟨A7, c7, rfl⟩ := row_form hown7; have HO7 := Lib.hid hown7; have HB7 := Lib.hid (HAL.out.grown hg7 (by simp) (fun k hk => by simp [Value.ownBlock] at hk; omega)); clear hown7 hg7 hat7)
                      | (refine step_append_want (by rfl) (.tmp 85) (.tmp 86) _ (by rfl) w4.heap.size 3 e0 _ 1 8 Tryd.underlying28 he0 hz0 hz1 hz2 rfl (by omega) _ 0 [] (by rfl) HEAR.out w4.heap.size X k2 xc (ch.flatMap flI.enc) (by rfl) ((HX4.out.rf.reads (by decide)).below HAR.out) (flat_one flI _) (by simp only [maxLen]; omega) (by omega) (by simp; omega) ?_; intro v7 w7 hown7 hg7 hat7; rw [Nat.zero_add] at hown7; obtain ⟨A7, c7, rfl⟩ := row_form hown7; have HO7 := Lib.hid hown7; have HB7 := Lib.hid (HAR.out.grown hg7 (by simp; omega) (fun k hk => by simp [Value.ownBlock] at hk; omega)); have HRD := Lib.hid (box_kept (Blk.at_ (w := w4.drew.alloc (.cells #[] 3)) (g := w4.heap.size + 1) (by simp) #[.int .i64 (r : Int)] 3 (0, 0)) hg7 (by simp [Value.ownBlock])); clear hown7 hg7 hat7)
                      | (refine step_append_want (by rfl) (.tmp 85) (.tmp 86) _ (by rfl) w4.heap.size 3 e0 _ 1 8 Tryd.underlying28 he0 hz0 hz1 hz2 rfl (by omega) _ 0 [] (by rfl) HERA.out w4.heap.size X k2 xc (ch.flatMap flI.enc) (by rfl) ((HX4.out.rf.reads (by decide)).below HRA.out) (flat_one flI _) (by simp only [maxLen]; omega) (by omega) (by simp; omega) ?_; intro v7 w7 hown7 hg7 hat7; rw [Nat.zero_add] at hown7; obtain ⟨A7, c7, rfl⟩ := row_form hown7; have HO7 := Lib.hid hown7; have HB7 := Lib.hid (HRA.out.grown hg7 (by simp; omega) (fun k hk => by simp [Value.ownBlock] at hk; omega)); have HRD := Lib.hid (box_kept ((Blk.new w4.drew #[.int .i64 (r : Int)] 3 (0, 0)).alloc (.cells #[] 3)) hg7 (by simp [Value.ownBlock])); clear hown7 hg7 hat7)
                      | (refine step_append_want (by rfl) (.tmp 87) (.tmp 92) _ (by rfl) w4.heap.size 3 e0 _ 1 8 Tryd.underlying28 he0 hz0 hz1 hz2 rfl (by omega) (.slice A7 k2 c7) k2 ([] ++ ch.flatMap flI.enc) (by rfl) (World.ownsRow.alloc HO7.out (.cells #[.int .i64 (r : Int)] 3)) (w7.heap.size + 1) (some ⟨w7.heap.size, 0, none⟩) 1 1 (flI.enc (r : Int)) (by rfl) (box_reads flI w7 #[.int .i64 (r : Int)] 3 (r : Int) rfl) (flI.one _) (by simp only [maxLen]; omega) (by omega) (by have := HB7.out.size; simp; omega) ?_; intro v8 w8 hown8 hg8 hat8; obtain ⟨A8, c8, rfl⟩ := row_form hown8; have HB8 := Lib.hid ((HB7.out.alloc HB7.out.size (.cells #[.int .i64 (r : Int)] 3)).grown hg8 (by have := HB7.out.size; simp; omega) (World.ownsRow.lt (World.ownsRow.alloc HO7.out (.cells #[.int .i64 (r : Int)] 3)) · · |>.1)); have HO8 := Lib.hid (sl_ow (ints_snoc HLNX.out hown8) (by decide) (by rw [List.length_append, HLNX.out]; simp; omega)); clear hown8 hg8 hat8)
                      | (refine step_append_want (by rfl) (.tmp 87) (.tmp 92) _ (by rfl) w4.heap.size 3 e0 _ 1 8 Tryd.underlying28 he0 hz0 hz1 hz2 rfl (by omega) (.slice A7 k2 c7) k2 ([] ++ ch.flatMap flI.enc) (by rfl) HO7.out w7.heap.size _ 1 1 (flI.enc (r : Int)) (by rfl) HRD.out (flI.one _) (by simp only [maxLen]; omega) (by omega) HB7.out.size ?_; intro v8 w8 hown8 hg8 hat8; obtain ⟨A8, c8, rfl⟩ := row_form hown8; have HB8 := Lib.hid (HB7.out.grown hg8 HB7.out.size (World.ownsRow.lt HO7.out · · |>.1)); have HO8 := Lib.hid (sl_ow (ints_snoc HLNX.out hown8) (by decide) (by rw [List.length_append, HLNX.out]; simp; omega)); clear hown8 hg8 hat8)
                      | (go_at_call 26; obtain ⟨A9, c9, e9, hs9⟩ := HO8.out; rw [List.length_append, HLNX.out, List.length_singleton] at e9 hs9; injection e9 with e91 e92 e93; subst e91 e93; refine (K6.out w8 A8 (k2 + 1) c8 (ch ++ [(r : Int)]) (below_more HWB.out HB8.out) hs9 HOK.out (by omega)).mono ?_; rintro e w9 ⟨rfl, hb9⟩; rw [HZ.out]; have HB9 := Lib.hid (below_more HB8.out hb9); clear hb9 hs9 e92)
                      | fail)
                  all_goals
                    cases zz
                    · have HN := Lib.hid (none_more HA.out HR2.out HWO.out)
                      go_wp2_with fail
                      go_roundw
                      case rel => exact ⟨k + 1, by omega, by go_num, Lib.hid ⟨below_more HB24.out HB9.out, HN.out⟩⟩
                      case measure => simp [intOf]; omega
                    · have HE : Hid (waysM L I s (true :: t) ch = true) := Lib.hid (by rw [HM.out]; exact List.any_eq_true.2 ⟨_, List.mem_of_getElem? HA.out, HWO.out⟩)
                      go_wp2_with fail
                      go_ret
                      exact ⟨ret_bool (by rw [HE.out]), below_more (below_more HBX.out HB24.out) HB9.out⟩
        · obtain rfl : k = n5 := by omega
          have HE : Hid (waysM L I s (true :: t) ch = false) := Lib.hid (by rw [HM.out]; exact any_none HLN5.out HR2.out)
          clear hlt
          go_wp2_with fail
          go_ret
          exact ⟨ret_bool (by rw [HE.out]), below_more HBX.out HB2.out⟩
end
end Go.Proofs.YtmdggodkkkihhaaDoor

/- Contract: the reference's Safe. -/
set_option linter.unusedVariables false
set_option linter.unusedSimpArgs false
namespace Go.Proofs.YtmdggodkkkihhaaDoor
open Go.RowKit

/-- The document's answer: what the field tells may be, and it is safe. -/
def rsafeM (L : Lay) (I : Inn) (O : Ou) : Bool := mayInM L I && safeM L I O
theorem rsafe_no {L : Lay} {I : Inn} {O : Ou} (h : wholeM L I O = false) : rsafeM L I O = false := by
  unfold wholeM at h
  unfold rsafeM safeM
  revert h
  cases mayInM L I <;> cases decide (O.drive.length = L.pts.length) <;> cases decide (O.proceed.length = L.sigs.length) <;> simp
theorem whole_parts {L : Lay} {I : Inn} {O : Ou} (h : wholeM L I O = true) : mayInM L I = true ∧ I.occ.length = L.secs.length ∧ I.lies.length = L.pts.length ∧ O.drive.length = L.pts.length ∧ O.proceed.length = L.sigs.length := by
  unfold wholeM at h
  simp only [Bool.and_eq_true, decide_eq_true_eq] at h
  obtain ⟨⟨h1, h2⟩, h3⟩ := h
  have h4 := h1
  unfold mayInM at h4
  simp only [Bool.and_eq_true, decide_eq_true_eq] at h4
  exact ⟨h1, h4.1.2, h4.2, h2, h3⟩
theorem rsafe_yes {L : Lay} {I : Inn} {O : Ou} (h : wholeM L I O = true) : rsafeM L I O = (!((List.range O.drive.length).any (dBad L I O)) && waysM L I 0 O.proceed []) := by
  obtain ⟨h1, h2, h3, h4, h5⟩ := whole_parts h
  unfold rsafeM safeM
  rw [h1, decide_eq_true h2, decide_eq_true h3, decide_eq_true h4, decide_eq_true h5]
  simp
section
variable {L : Lay} {A1 A2 A3 A4 : Option Addr} {n1 c1 n2 c2 n3 c3 n4 c4 : Nat} {I : Inn} {C D : Option Addr} {n c m d : Nat} {O : Ou} {E F : Option Addr} {p pc q qc : Nat}
set_option maxRecDepth 20000 in
set_option maxHeartbeats 8000000 in
theorem RSafe_calls (w : World) (hL : LayV w L A1 A2 A3 A4 n1 c1 n2 c2 n3 c3 n4 c4) (hI : InV w I C D n c m d) (hO : OuV w O E F p pc q qc) (hok : LayOk L) :
    Calls Tryd.prog 12 #[.agg #[.slice A1 n1 c1, .slice A2 n2 c2, .slice A3 n3 c3, .slice A4 n4 c4], .agg #[.slice C n c, .slice D m d], .agg #[.slice E p pc, .slice F q qc]] w fun e w' => e = .returned (.bool (rsafeM L I O)) ∧ Below w.heap.size w w' := by
  have hbw : Below w.heap.size w (((w.alloc (.cells #[.slice A1 n1 c1, .slice A2 n2 c2, .slice A3 n3 c3, .slice A4 n4 c4] 26)).alloc (.cells #[.slice C n c, .slice D m d] 30)).alloc (.cells #[.slice E p pc, .slice F q qc] 32)) :=
    ((below_new w _).alloc (by simp) _).alloc (by simp; omega) _
  have hB1 := (((Blk.new w #[.slice A1 n1 c1, .slice A2 n2 c2, .slice A3 n3 c3, .slice A4 n4 c4] 26 (0, 0)).alloc (.cells #[.slice C n c, .slice D m d] 30)).alloc (.cells #[.slice E p pc, .slice F q qc] 32))
  have hB2 := ((Blk.at_ (w := w.alloc (.cells #[.slice A1 n1 c1, .slice A2 n2 c2, .slice A3 n3 c3, .slice A4 n4 c4] 26)) (g := w.heap.size + 1) (by simp) #[.slice C n c, .slice D m d] 30 (0, 0))).alloc (.cells #[.slice E p pc, .slice F q qc] 32)
  have hB3 := Blk.at_ (w := (w.alloc (.cells #[.slice A1 n1 c1, .slice A2 n2 c2, .slice A3 n3 c3, .slice A4 n4 c4] 26)).alloc (.cells #[.slice C n c, .slice D m d] 30)) (g := w.heap.size + 1 + 1) (by simp) #[.slice E p pc, .slice F q qc] 32 (0, 0)
  have l0 := hB1.cell 0
  have l1 := hB1.cell 1
  have l2 := hB1.cell 2
  have l3 := hB1.cell 3
  have i0 := hB2.cell 0
  have i1 := hB2.cell 1
  have o0 := hB3.cell 0
  have o1 := hB3.cell 1
  simp only [List.getElem?_toArray, List.getElem?_cons_zero, List.getElem?_cons_succ] at l0 l1 l2 l3 i0 i1 o0 o1
  have HL := Lib.hid (hL.stay hbw)
  have HI := Lib.hid (hI.stay hbw)
  have HO := Lib.hid (hO.stay hbw)
  have KW := Lib.hid (Whole_calls _ (hL.stay hbw) (hI.stay hbw) (hO.stay hbw))
  have HK := Lib.hid hok
  have HE := Lib.hid (And.intro hL.secs.len (And.intro hL.pts.len (And.intro hL.sigs.len (And.intro hI.occ.len (And.intro hI.lies.len (And.intro hO.drive.len hO.proceed.len))))))
  have HBW := Lib.hid hbw
  have hpc := Nat.le_trans hO.drive.le hO.drive.cap
  have hnn := Nat.le_trans hI.occ.le hI.occ.cap
  have hn2 := Nat.le_trans hL.pts.le hL.pts.cap
  have HNO := Lib.hid (rsafe_no (L := L) (I := I) (O := O))
  have HYES := Lib.hid (rsafe_yes (L := L) (I := I) (O := O))
  have HP := Lib.hid (whole_parts (L := L) (I := I) (O := O))
  clear hL hI hO hok hB1 hB2 hB3 hbw
  generalize hz : wholeM L I O = z at *
  clear hz
  cases z with
  | false =>
    have HF := Lib.hid (HNO.out rfl)
    clear HYES HP HNO
    go_enter Tryd.func12, Tryd.ntmps12
    go_wp2_with (first
      | (go_at_call 25; refine KW.out.mono ?_; rintro e w2 ⟨rfl, hb2⟩)
      | fail)
    go_ret
    exact ⟨ret_bool (by rw [HF.out]), below_more HBW.out hb2⟩
  | true =>
    have HF := Lib.hid (HYES.out rfl)
    have HPP := Lib.hid (HP.out rfl)
    clear HYES HNO HP
    go_enter Tryd.func12, Tryd.ntmps12
    go_wp2_with (first
      | (go_at_call 25; refine KW.out.mono ?_; rintro e w2 ⟨rfl, hb2⟩; have HB2 := Lib.hid hb2; replace l0 := cell_stay hb2 l0; replace l1 := cell_stay hb2 l1; replace l2 := cell_stay hb2 l2; replace l3 := cell_stay hb2 l3; replace i0 := cell_stay hb2 i0; replace i1 := cell_stay hb2 i1; replace o0 := cell_stay hb2 o0; replace o1 := cell_stay hb2 o1; clear hb2)
      | fail)
    generalize hgn : w.heap.size = gn at *
    have HGN := Lib.hid hgn
    clear hgn KW
    go_loopw [7] (fun i wr => ∃ k : Nat, k ≤ p ∧ i = .int .i64 k ∧ Hid (Below w2.heap.size w2 wr ∧ ∀ j, j < k → dBad L I O j = false)) (fun i _ => p - (intOf i).toNat)
    case atStart => exact ⟨0, by omega, rfl, Lib.hid ⟨Below.refl _ _, fun j hj => absurd hj (by omega)⟩⟩
    case round =>
      obtain ⟨k, hk, rfl, hr⟩ := hrel
      have HB3 := Lib.hid (below_more HB2.out hr.out.1)
      replace l0 := cell_stay hr.out.1 l0
      replace l1 := cell_stay hr.out.1 l1
      replace l2 := cell_stay hr.out.1 l2
      replace l3 := cell_stay hr.out.1 l3
      replace i0 := cell_stay hr.out.1 i0
      replace i1 := cell_stay hr.out.1 i1
      replace o0 := cell_stay hr.out.1 o0
      replace o1 := cell_stay hr.out.1 o1
      by_cases hlt : k < p
      · obtain ⟨be, oe, v, rfl, hv, ce⟩ := HO.out.drive.int hlt
        obtain ⟨bp, op, x, rfl, hx, _, cx⟩ := HL.out.pts.pt (j := k) (by have := HE.out; have := HPP.out.2; omega)
        have hxm := HK.out.pts x (List.mem_of_getElem? hx)
        obtain ⟨se, hse⟩ : ∃ se : Nat, x.sec = se := ⟨x.sec.toNat, by omega⟩
        obtain ⟨bo, oo, y, rfl, hy, cy⟩ := HI.out.occ.tru (j := se) (by have := HE.out; have := HPP.out.2; omega)
        have hkn2 : (k : Int) < n2 := by have := HE.out; have := HPP.out.2; omega
        have hsn : (se : Int) < n := by have := HE.out; have := HPP.out.2; omega
        have hd : dBad L I O k = (decide (v ≠ 0) && y) := by
          unfold dBad
          rw [getD_of hv, hx, Option.map_some, Option.getD_some, hse, Int.toNat_natCast, getD_of hy]
        have HD := Lib.hid hd
        rw [hse] at cx
        have L0 := later_cell l0
        have L1 := later_cell l1
        have L4 := later_cell i0
        have L5 := later_cell o0
        have L6 := later_cell (cell_stay HB3.out ce)
        have L7 := later_cell (cell_stay HB3.out cx)
        have L8 := later_cell (cell_stay HB3.out cy)
        clear hv hx hxm hse hy hd ce cx cy
        by_cases hv0 : v = 0
        · have HN := Lib.hid (no_more hr.out.2 (by rw [HD.out, hv0]; rfl))
          have hv1 : (v != 0) = false := by simp [hv0]
          clear hv0
          go_wp2_with fail
          refine wp_region_later (by kernel_rfl) (by kernel_rfl) ?_
          repeat (go_big_quiet_step (fail))
          refine wpQuiet_nil ?_
          intro q0
          go_wp2_with fail
          go_roundw
          case rel => exact ⟨k + 1, by omega, by go_num, Lib.hid ⟨below_more hr.out.1 q0.hb, HN.out⟩⟩
          case measure => simp [intOf]; omega
        · have hv1 : (v != 0) = true := by simp [hv0]
          cases y with
          | false =>
            have HN := Lib.hid (no_more hr.out.2 (by rw [HD.out]; simp))
            clear hv0
            go_wp2_with fail
            refine wp_region_later (by kernel_rfl) (by kernel_rfl) ?_
            repeat (go_big_quiet_step (fail))
            refine wpQuiet_nil ?_
            intro q0
            go_wp2_with fail
            go_roundw
            case rel => exact ⟨k + 1, by omega, by go_num, Lib.hid ⟨below_more hr.out.1 q0.hb, HN.out⟩⟩
            case measure => simp [intOf]; omega
          | true =>
            have HY := Lib.hid (range_any_at (n := O.drive.length) (by have := HE.out; omega) (show dBad L I O k = true by rw [HD.out]; simp [hv0]))
            clear hv0
            go_wp2_with fail
            refine wp_region_later (by kernel_rfl) (by kernel_rfl) ?_
            repeat (go_big_quiet_step (fail))
            refine wpQuiet_nil ?_
            intro q0
            go_wp2_with fail
            go_ret
            exact ⟨ret_bool (by rw [HF.out, HY.out]; rfl), below_more (by rw [HGN.out]; exact HBW.out) (below_more HB3.out q0.hb)⟩
      · obtain rfl : k = p := by omega
        have HY := Lib.hid (range_any_no (n := O.drive.length) (by rw [HE.out.2.2.2.2.2.1]; exact hr.out.2))
        have hq3 : q = n3 := by have := HE.out; have := HPP.out.2; omega
        have hq : q ≤ 1000000 := by have := HK.out.sigs; have := HE.out; omega
        have K := Lib.hid (RWays_calls wr (HL.out.stay HB3.out) (HI.out.stay HB3.out) (HO.out.stay HB3.out) (HK.out.all (by have := HE.out; have := HPP.out.2; omega) (by have := HE.out; have := HPP.out.2; omega)) hq3 hq O.proceed 0 rfl (by omega) 0 (by have := HE.out; omega) wr none 0 0 [] (Below.refl _ _) ⟨⟨rfl, by omega, fun h => absurd h (by omega)⟩, by omega, by omega, by omega⟩ (fun q hq => by cases hq) (by omega))
        clear hlt hq3 hq
        go_wp2_with (first
          | (go_at_call 26; refine K.out.mono ?_; rintro e w7 ⟨rfl, hb7⟩)
          | fail)
        go_ret
        exact ⟨ret_bool (by rw [HF.out, HY.out]; rfl), below_more (by rw [HGN.out]; exact HBW.out) (below_more HB3.out hb7)⟩
end
end Go.Proofs.YtmdggodkkkihhaaDoor
