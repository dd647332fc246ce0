/- Texts put together for a claim. -/
import Derived.Test.YtmdggodkkkihhaaDoorQ21JudgeLocks
import Derived.Test.YtmdggodkkkihhaaDoorQ20JudgeLocks
import Derived.Test.YtmdggodkkkihhaaDoorQ8JudgeLocks
import Derived.Test.YtmdggodkkkihhaaDoorQ17JudgeLocks
import Derived.Test.YtmdggodkkkihhaaDoorLater
/- Contract: the reference's ways: the same answer as the program's. -/
set_option linter.unusedVariables false
set_option linter.unusedSimpArgs false
namespace Go.Proofs.YtmdggodkkkihhaaDoor
open Go.RowKit

/-- An append onto a row of the call's own, as a step under a guard that holds. -/
theorem step_append_want {P : Program} {w : World} {ops : Array Oper} {o : Oper} {a : Act} {K : Act → World → Prop} {Q : Exit → Act → World → Prop} {E : Prop} (hw : Region.wanted o (yielded ops a.tmps) = true) (s x : Operand) (t : TypeId)
    (ho : o.op = .call { callee := .builtin .append, args := #[s, x], argTypes := #[t, t] })
    (base : Nat) (e : TypeId) (i : TypeInfo) (z : Value) (size bytes : Nat) (ht : P.underlying t = some (.slice e)) (hi : P.info? e = some i) (hz : i.zero = some z)
    (hsize : i.size = size) (hby : i.bytes = bytes) (hzs : z.cells.size = size) (hsz : 0 < size)
    (v : Value) (n : Nat) (xs : List Value) (hs : a.eval s = v) (hown : w.ownsRow base e size v n xs)
    (B : Nat) (A : Option Addr) (m c : Nat) (news : List Value) (hx : a.eval x = .slice A m c) (hr : Reads w B size A m news) (h1 : ∀ u ∈ news, u.oneCell' = true)
    (h63 : n + m ≤ maxLen) (hbytes : (n + m) * bytes ≤ 140737488355328) (hbase : base ≤ w.heap.size)
    (h : ∀ v' w', w'.ownsRow base e size v' (n + m) (xs ++ news) → w.grownBy w' v.ownBlock → (v'.ownBlock = v.ownBlock ∨ v'.ownBlock = some w.heap.size) → K (a.put o.dst v') w') :
    if Region.wanted o (yielded ops a.tmps) = true then Oper.wp P o a w K Q else E := by
  rw [if_pos hw]
  exact wp_append_any w s x t ho base e i z size bytes ht hi hz hsize hby hzs hsz v n xs hs hown B A m c news hx hr h1 h63 hbytes hbase h
theorem ints_snoc {w : World} {base : Nat} {e : TypeId} {v : Value} {xs : List Int} {y : Int} {q : Nat} (hq : xs.length = q) (h : w.ownsRow base e flI.sz v (q + 1) ([] ++ xs.flatMap flI.enc ++ flI.enc y)) : Ow flI w base e v (xs ++ [y]) := by
  subst hq
  refine Ow.snoc ?_
  simpa using h
theorem box_kept {w w1 : World} {g : Nat} {y : Int} {t : TypeId} {k : Option Nat} (hb : Blk w g #[.int .i64 y] t (0, 0)) (hg : w.grownBy w1 k) (hk : k ≠ some g) : Reads w1 w1.heap.size 1 (some ⟨g, 0, none⟩) 1 (flI.enc y) := by
  have h := hb.only (Only.of_grown hg) hk
  exact (lit_reads flI [y] h rfl (by simp)).reads (by decide)
/-- May a way be taken? -/
def wayOk (L : Lay) (I : Inn) (s : Nat) (t : List Bool) (ch : List Int) (r : Int) : Bool := !(ch.any fun q => conflictI L r q) && clearI L I r && waysM L I (s + 1) t (ch ++ [r])
theorem ways_true {L : Lay} {I : Inn} {s : Nat} {t : List Bool} {ch : List Int} : waysM L I s (true :: t) ch = (entryTo L.rtes s L.rtes.length).any (wayOk L I s t ch) := by
  rw [waysM, if_pos rfl]
  rfl
theorem any_take_succ {α : Type} {p : α → Bool} {xs : List α} {k : Nat} {x : α} (h : xs[k]? = some x) : (xs.take (k + 1)).any p = ((xs.take k).any p || p x) := by
  rw [List.take_add_one, h]
  simp
theorem any_none {α : Type} {p : α → Bool} {xs : List α} {n : Nat} (hn : xs.length = n) (h : ∀ (j : Nat) (x : α), j < n → xs[j]? = some x → p x = false) : xs.any p = false := by
  rw [List.any_eq_false]
  intro x hx
  obtain ⟨j, hj⟩ := List.mem_iff_getElem?.1 hx
  rw [h j x (by have := (List.getElem?_eq_some_iff.1 hj).1; omega) hj]
  decide
theorem none_more {α : Type} {p : α → Bool} {xs : List α} {k : Nat} {y : α} (hy : xs[k]? = some y) (h : ∀ (j : Nat) (x : α), j < k → xs[j]? = some x → p x = false) (hp : p y = false) : ∀ (j : Nat) (x : α), j < k + 1 → xs[j]? = some x → p x = false := by
  intro j x hj hx
  rcases Nat.lt_or_ge j k with h' | h'
  · exact h j x h' hx
  · obtain rfl : j = k := by omega
    rw [hy] at hx
    cases hx
    exact hp
def RWaysAt (w : World) (L : Lay) (A1 A2 A3 A4 : Option Addr) (n1 c1 n2 c2 n3 c3 n4 c4 : Nat) (I : Inn) (C D : Option Addr) (n c m d : Nat) (E F : Option Addr) (p pc q qc : Nat) (s : Nat) (t : List Bool) (K : Nat) : Prop :=
  ∀ (W : World) (X : Option Addr) (x xc : Nat) (ch : List Int), Below w.heap.size w W → Sl flI W X x xc ch → ChOk L ch → x ≤ K →
    Calls Tryd.prog 26 #[.agg #[.slice A1 n1 c1, .slice A2 n2 c2, .slice A3 n3 c3, .slice A4 n4 c4], .agg #[.slice C n c, .slice D m d], .agg #[.slice E p pc, .slice F q qc], .int .i64 s, .slice X x xc] W fun e w' => e = .returned (.bool (waysM L I s t ch)) ∧ Below W.heap.size W w'
section
variable {L : Lay} {A1 A2 A3 A4 : Option Addr} {n1 c1 n2 c2 n3 c3 n4 c4 : Nat} {I : Inn} {C D : Option Addr} {n c m d : Nat} {O : Ou} {E F : Option Addr} {p pc q qc : Nat}
set_option maxRecDepth 20000 in
set_option maxHeartbeats 8000000 in
theorem RWays_calls (w : World) (hL : LayV w L A1 A2 A3 A4 n1 c1 n2 c2 n3 c3 n4 c4) (hI : InV w I C D n c m d) (hO : OuV w O E F p pc q qc) (hok : AllOk L I) (hq3 : q = n3) (hq : q ≤ 1000000) :
    ∀ (t : List Bool) (s : Nat), O.proceed.drop s = t → s ≤ q → ∀ K, K + t.length ≤ 1000000 → RWaysAt w L A1 A2 A3 A4 n1 c1 n2 c2 n3 c3 n4 c4 I C D n c m d E F p pc q qc s t K := by
  have hn4 : n4 ≤ 1000000 := by
    have := hL.rtes.len
    have := hok.few
    omega
  intro t
  induction t with
  | nil =>
    intro s hs hsp K hK W X x xc ch hW hch hco hx
    have hpl := hO.proceed.len
    have hge : q ≤ s := by
      have := congrArg List.length hs
      rw [List.length_drop, List.length_nil] at this
      omega
    obtain rfl : s = q := by omega
    subst hq3
    have hb : Below W.heap.size W (((W.alloc (.cells #[.slice A1 n1 c1, .slice A2 n2 c2, .slice A3 s c3, .slice A4 n4 c4] 26)).alloc (.cells #[.slice C n c, .slice D m d] 30)).alloc (.cells #[.slice E p pc, .slice F s qc] 32)) :=
      ((below_new W _).alloc (by simp) _).alloc (by simp; omega) _
    have hB1 := ((Blk.new W #[.slice A1 n1 c1, .slice A2 n2 c2, .slice A3 s c3, .slice A4 n4 c4] 26 (0, 0)).alloc (.cells #[.slice C n c, .slice D m d] 30)).alloc (.cells #[.slice E p pc, .slice F s qc] 32)
    have l2 := hB1.cell 2
    simp only [List.getElem?_toArray, List.getElem?_cons_zero, List.getElem?_cons_succ] at l2
    clear hL hI hok hO hs hge hch hco hpl hsp hB1
    go_enter Tryd.func26, Tryd.ntmps26
    go_wp2_with fail
    go_ret
    exact ⟨rfl, hb⟩
  | cons b t ih =>
    intro s hs hsp K hK W X x xc ch hW hch hco hx
    have hpl := hO.proceed.len
    have hlt : s < q := by
      have := congrArg List.length hs
      rw [List.length_drop, List.length_cons] at this
      omega
    have hcap := Nat.le_trans hO.proceed.le hO.proceed.cap
    obtain ⟨bb, off, y, rfl, hy, cy⟩ := hO.proceed.tru hlt
    obtain ⟨e1, e2⟩ : y = b ∧ O.proceed.drop (s + 1) = t := by
      have h1 : O.proceed.drop s = y :: O.proceed.drop (s + 1) := by
        rw [List.drop_eq_getElem_cons (by omega)]
        have := (List.getElem?_eq_some_iff.1 hy).2
        rw [this]
      rw [h1] at hs
      injection hs with h2 h3
      exact ⟨h2, h3⟩
    subst e1
    rw [List.length_cons] at hK
    have ih0 := Lib.hid (ih (s + 1) e2 (by omega) K (by omega))
    have ih1 := Lib.hid (ih (s + 1) e2 (by omega) (K + 1) (by omega))
    have hb : Below W.heap.size W (((W.alloc (.cells #[.slice A1 n1 c1, .slice A2 n2 c2, .slice A3 n3 c3, .slice A4 n4 c4] 26)).alloc (.cells #[.slice C n c, .slice D m d] 30)).alloc (.cells #[.slice E p pc, .slice (some ⟨bb, off, none⟩) q qc] 32)) :=
      ((below_new W _).alloc (by simp) _).alloc (by simp; omega) _
    have hB1 := ((Blk.new W #[.slice A1 n1 c1, .slice A2 n2 c2, .slice A3 n3 c3, .slice A4 n4 c4] 26 (0, 0)).alloc (.cells #[.slice C n c, .slice D m d] 30)).alloc (.cells #[.slice E p pc, .slice (some ⟨bb, off, none⟩) q qc] 32)
    have hB2 := (Blk.at_ (w := W.alloc (.cells #[.slice A1 n1 c1, .slice A2 n2 c2, .slice A3 n3 c3, .slice A4 n4 c4] 26)) (g := W.heap.size + 1) (by simp) #[.slice C n c, .slice D m d] 30 (0, 0)).alloc (.cells #[.slice E p pc, .slice (some ⟨bb, off, none⟩) q qc] 32)
    have hB3 := Blk.at_ (w := (W.alloc (.cells #[.slice A1 n1 c1, .slice A2 n2 c2, .slice A3 n3 c3, .slice A4 n4 c4] 26)).alloc (.cells #[.slice C n c, .slice D m d] 30)) (g := W.heap.size + 2) (by simp) #[.slice E p pc, .slice (some ⟨bb, off, none⟩) q qc] 32 (0, 0)
    have l0 := hB1.cell 0
    have l1 := hB1.cell 1
    have l2 := hB1.cell 2
    have l3 := hB1.cell 3
    have i0 := hB2.cell 0
    have i1 := hB2.cell 1
    have o0 := hB3.cell 0
    have o1 := hB3.cell 1
    simp only [List.getElem?_toArray, List.getElem?_cons_zero, List.getElem?_cons_succ] at l0 l1 l2 l3 i0 i1 o0 o1
    have cy := cell_stay (below_more hW hb) cy
    have HL := Lib.hid (LayB.mk l0 l1 l2 l3 (hL.stay (below_more hW hb)))
    have HI := Lib.hid (InB.mk i0 i1 (hI.stay (below_more hW hb)))
    have HC := Lib.hid (hch.stay hb)
    have HO := Lib.hid hco
    have HK := Lib.hid hok
    have HWW := Lib.hid (below_more hW hb)
    have HB := Lib.hid hb
    have HRL := Lib.hid (show n4 = L.rtes.length from hL.rtes.len.symm)
    have hsn3 : s < n3 := by omega
    have hw1 : IntKind.i64.wrap ((s : Int) + 1) = (s : Int) + 1 := by rw [IntKind.wrap_i64]; omega
    have HW1 := Lib.hid hw1
    clear hL hI hok hO hs hch hco hpl hB1 hB2 hB3 hW hy ih hw1 hq3
    go_enter Tryd.func26, Tryd.ntmps26
    go_upto_region 1 with fail
    generalize (((W.alloc (.cells #[.slice A1 n1 c1, .slice A2 n2 c2, .slice A3 n3 c3, .slice A4 n4 c4] 26)).alloc (.cells #[.slice C n c, .slice D m d] 30)).alloc (.cells #[.slice E p pc, .slice (some ⟨bb, off, none⟩) q qc] 32)) = W0 at *
    generalize hgn : W.heap.size = gn at *
    have HGN := Lib.hid hgn
    clear hgn hb
    cases y with
    | false =>
      go_wp2_with (first
        | (go_at_call 26; refine (ih0.out W0 X x xc ch HWW.out HC.out HO.out hx).mono ?_; rintro e w7 ⟨rfl, hb7⟩)
        | fail)
      go_ret
      exact ⟨ret_bool (by rw [waysM]; rfl), below_more (by rw [HGN.out]; exact HB.out) hb7⟩
    | true =>
      have KE := Lib.hid (RefEntry_calls W0 HL.out.v hn4 s)
      have HM : Hid (waysM L I s (true :: t) ch = (entryTo L.rtes s n4).any (wayOk L I s t ch)) := Lib.hid (by rw [ways_true, ← HRL.out])
      have HMEM : Hid (∀ y ∈ entryTo L.rtes s n4, 0 ≤ y ∧ y < L.rtes.length) := Lib.hid (fun y hy => by
        obtain ⟨j, _, rfl, hj, _, _⟩ := entryTo_mem hy
        have := HRL.out
        omega)
      generalize entryTo L.rtes s n4 = es at *
      go_wp2_with (first
        | (go_at_call 50; refine KE.out.mono ?_; rintro e w2 ⟨A5, n5, c5, rfl, hq5, hb5⟩; have HB5 := Lib.hid hb5; have HQ5 := Lib.hid hq5; have l0 := cell_stay hb5 l0; have l1 := cell_stay hb5 l1; have l2 := cell_stay hb5 l2; have l3 := cell_stay hb5 l3; have i0 := cell_stay hb5 i0; have i1 := cell_stay hb5 i1; have o0 := cell_stay hb5 o0; have o1 := cell_stay hb5 o1; clear hb5 hq5)
        | fail)
      have q5 := Nat.le_trans HQ5.out.le HQ5.out.cap
      have qx := Nat.le_trans HC.out.le HC.out.cap
      have HLN5 := Lib.hid HQ5.out.len
      have HLNX := Lib.hid HC.out.len
      have HV := Lib.hid (HL.out.v.stay HB5.out)
      have HIV := Lib.hid (HI.out.v.stay HB5.out)
      have HCV := Lib.hid (HC.out.stay HB5.out)
      have HBX := Lib.hid (below_more (by rw [HGN.out]; exact HB.out) HB5.out)
      have HWX := Lib.hid (below_more HWW.out HB5.out)
      go_loopw [12] (fun i wr => ∃ k : Nat, k ≤ n5 ∧ i = .int .i64 k ∧ Hid (Below w2.heap.size w2 wr ∧ ∀ (j : Nat) (a : Int), j < k → es[j]? = some a → wayOk L I s t ch a = false)) (fun i _ => n5 - (intOf i).toNat)
      case atStart => exact ⟨0, by omega, rfl, Lib.hid ⟨Below.refl _ _, fun j a h => absurd h (by omega)⟩⟩
      case round =>
        obtain ⟨k, hk, rfl, hr⟩ := hrel
        have HB2 := Lib.hid hr.out.1
        have HR2 := Lib.hid hr.out.2
        have l0 := cell_stay HB2.out l0
        have l1 := cell_stay HB2.out l1
        have l2 := cell_stay HB2.out l2
        have l3 := cell_stay HB2.out l3
        have i0 := cell_stay HB2.out i0
        have i1 := cell_stay HB2.out i1
        have o0 := cell_stay HB2.out o0
        have o1 := cell_stay HB2.out o1
        clear hr
        by_cases hlt : k < n5
        · obtain ⟨b5, off5, a, rfl, ha, ca⟩ := HQ5.out.int hlt
          obtain ⟨ha0, ha1⟩ := HMEM.out a (List.mem_of_getElem? ha)
          obtain ⟨r, rfl⟩ : ∃ r : Nat, a = r := ⟨a.toNat, by omega⟩
          have hr : r < L.rtes.length := by omega
          have hxr := List.getElem?_eq_getElem hr
          have ca := cell_stay HB2.out ca
          have HA := Lib.hid ha
          have HRR := Lib.hid hr
          have KC := Lib.hid (fun z : Later wr => RefClear_calls z.w1 ((HV.out.stay HB2.out).stay z.hb) ((HIV.out.stay HB2.out).stay z.hb) r _ hxr (HK.out.all _ (List.getElem_mem hr)))
          have KR := Lib.hid (fun z : Later wr => RefRight_calls z.w1 ((HV.out.stay HB2.out).stay z.hb) ((HIV.out.stay HB2.out).stay z.hb) r _ hxr (HK.out.all _ (List.getElem_mem hr)))
          have HCL : Hid (clearI L I r = (freeM I (L.rtes[r]).path && rightM I ((L.rtes[r]).points ++ (L.rtes[r]).flank))) := Lib.hid (by
            unfold clearI
            rw [Int.toNat_natCast, hxr]
            rfl)
          generalize freeM I (L.rtes[r]).path = z1 at *
          generalize rightM I ((L.rtes[r]).points ++ (L.rtes[r]).flank) = z2 at *
          clear ha ha0 ha1 hxr hr
          go_wp2_with fail
          go_cut [13] (fun s13 wx => s13 = .bool (z1 && z2) ∧ Below wr.heap.size wr wx)
          case first =>
            have L0 := later_cell l0
            have L1 := later_cell l1
            have L2 := later_cell l2
            have L3 := later_cell l3
            have L4 := later_cell i0
            have L5 := later_cell i1
            have L6 := later_cell ca
            clear l0 l1 l2 l3 i0 i1 o0 o1 ca
            cases z1
            all_goals
              refine wp_region_later (by kernel_rfl) (by kernel_rfl) ?_
              repeat (go_big_quiet_step (first
                | (go_at_call 37; rename_i q; exact later_call q (KC.out q))
                | (go_at_call 38; rename_i q; exact later_call q (KR.out q))
                | fail))
              refine wpQuiet_nil ?_
              intro q0
              go_wp2_with fail
              go_meet
              exact ⟨rfl, q0.hb⟩
          case rest =>
            obtain ⟨rfl, hbc⟩ := hcut
            have HB3 := Lib.hid (below_more HB2.out hbc)
            have l0 := cell_stay hbc l0
            have l1 := cell_stay hbc l1
            have l2 := cell_stay hbc l2
            have l3 := cell_stay hbc l3
            have i0 := cell_stay hbc i0
            have i1 := cell_stay hbc i1
            have o0 := cell_stay hbc o0
            have o1 := cell_stay hbc o1
            have ca := cell_stay hbc ca
            clear hbc
            generalize (z1 && z2) = u at *
            clear KC KR
            go_wp2_with fail
            generalize hwc : wc = w3 at *
            clear hwc
            go_loopw [13, 14] (fun v j wr => ∃ k2 : Nat, k2 ≤ x ∧ v = .bool (u && !((ch.take k2).any fun q => conflictI L r q)) ∧ j = .int .i64 k2 ∧ Hid (Below w3.heap.size w3 wr)) (fun _ j _ => x - (intOf j).toNat)
            case atStart => exact ⟨0, by omega, by simp, rfl, Lib.hid (Below.refl _ _)⟩
            case round =>
              obtain ⟨k2, hk2, rfl, rfl, hr⟩ := hrel
              have HB4 := Lib.hid hr.out
              have HB24 := Lib.hid (below_more HB3.out HB4.out)
              have l0 := cell_stay HB4.out l0
              have l1 := cell_stay HB4.out l1
              have l2 := cell_stay HB4.out l2
              have l3 := cell_stay HB4.out l3
              have i0 := cell_stay HB4.out i0
              have i1 := cell_stay HB4.out i1
              have o0 := cell_stay HB4.out o0
              have o1 := cell_stay HB4.out o1
              have ca := cell_stay HB4.out ca
              generalize hu2 : (u && !((ch.take k2).any fun q => conflictI L r q)) = u2 at *
              have HU2 := Lib.hid hu2
              clear hu2 hr
              by_cases hlt2 : k2 < x
              · obtain ⟨b6, off6, a2, rfl, ha2, ca2⟩ := HCV.out.int hlt2
                obtain ⟨hb0, hb1⟩ := HO.out a2 (List.mem_of_getElem? ha2)
                obtain ⟨sN, rfl⟩ : ∃ sN : Nat, a2 = sN := ⟨a2.toNat, by omega⟩
                have hsN : sN < L.rtes.length := by omega
                have hxr := List.getElem?_eq_getElem HRR.out
                have hys := List.getElem?_eq_getElem hsN
                have ca2 := cell_stay HB24.out ca2
                have KX := Lib.hid (fun z : Later wr => RefConflict_calls z.w1 L A1 A2 A3 A4 n1 c1 n2 c2 n3 c3 n4 c4 ((HV.out.stay HB24.out).stay z.hb) r sN _ _ hxr hys (HK.out.all _ (List.getElem_mem HRR.out)).few (HK.out.all _ (List.getElem_mem hsN)).few)
                have HCI : Hid (conflictI L r sN = conflictM r sN (L.rtes[r]'HRR.out) (L.rtes[sN])) := Lib.hid (by
                  unfold conflictI
                  rw [Int.toNat_natCast, Int.toNat_natCast, hxr, hys])
                generalize conflictM r sN (L.rtes[r]'HRR.out) (L.rtes[sN]) = cz at *
                have HNX : Hid ((u && !((ch.take (k2 + 1)).any fun q => conflictI L r q)) = (u2 && !cz)) := Lib.hid (by
                  rw [any_take_succ ha2, ← HU2.out, ← HCI.out]
                  cases u <;> cases ((ch.take k2).any fun q => conflictI L r q) <;> cases conflictI L r sN <;> rfl)
                have L0 := later_cell l0
                have L1 := later_cell l1
                have L2 := later_cell l2
                have L3 := later_cell l3
                have L6 := later_cell ca
                have L7 := later_cell ca2
                clear ha2 hb0 hb1 hsN hxr hys ca2 l0 l1 l2 l3 i0 i1 o0 o1 ca
                cases u2
                all_goals
                  go_wp2_with fail
                  refine wp_region_later (by kernel_rfl) (by kernel_rfl) ?_
                  repeat (go_big_quiet_step (first
                    | (go_at_call 43; rename_i q; exact later_call q (KX.out q))
                    | fail))
                  refine wpQuiet_nil ?_
                  intro q0
                  go_wp2_with fail
                  go_roundw
                  case rel => exact ⟨k2 + 1, by omega, by rw [HNX.out]; first | rfl | simp, by go_num, Lib.hid (below_more HB4.out q0.hb)⟩
                  case measure => simp [intOf]; omega
              · obtain rfl : k2 = x := by omega
                have HU3 : Hid (u2 = (clearI L I r && !(ch.any fun q => conflictI L r q))) := Lib.hid (by rw [← HU2.out, HCL.out, List.take_of_length_le (by rw [HLNX.out]; exact Nat.le_refl _)])
                clear hlt2 HU2
                cases u2 with
                | false =>
                  have HN := Lib.hid (none_more HA.out HR2.out (show wayOk L I s t ch r = false by
                    unfold wayOk
                    have := HU3.out
                    revert this
                    cases clearI L I r <;> cases (ch.any fun q => conflictI L r q) <;> simp))
                  go_wp2_with fail
                  refine wp_region_later (by kernel_rfl) (by kernel_rfl) ?_
                  repeat (go_big_quiet_step (fail))
                  refine wpQuiet_nil ?_
                  intro q0
                  go_wp2_with fail
                  go_roundw
                  case rel => exact ⟨k + 1, by omega, by go_num, Lib.hid ⟨below_more HB24.out q0.hb, HN.out⟩⟩
                  case measure => simp [intOf]; omega
                | true =>
                  generalize hwz : wr = w4 at *
                  clear hwz
                  obtain ⟨e0, he0, hz0, hz1, hz2⟩ := info_parts info_int
                  have HX4 := Lib.hid (HCV.out.stay HB24.out)
                  have hw1 := HW1.out
                  have HD := Lib.hid (below_drawn (Below.refl w4.heap.size w4) 1)
                  have HAL := Lib.hid (HD.out.alloc (Nat.le_refl _) (.cells #[] 3))
                  have HAR := Lib.hid ((HD.out.alloc (Nat.le_refl _) (.cells #[] 3)).alloc (by simp) (.cells #[.int .i64 (r : Int)] 3))
                  have HR0 := Lib.hid (HD.out.alloc (Nat.le_refl _) (.cells #[.int .i64 (r : Int)] 3))
                  have HRA := Lib.hid ((HD.out.alloc (Nat.le_refl _) (.cells #[.int .i64 (r : Int)] 3)).alloc (by simp) (.cells #[] 3))
                  have HEA := Lib.hid (own_empty flI w4.drew w4.heap.size 3 (Nat.le_refl _))
                  have HEAR := Lib.hid (World.ownsRow.alloc (own_empty flI w4.drew w4.heap.size 3 (Nat.le_refl _)) (.cells #[.int .i64 (r : Int)] 3))
                  have HERA : Hid (World.ownsRow ((w4.drew.alloc (.cells #[.int .i64 (r : Int)] 3)).alloc (.cells #[] 3)) w4.heap.size 3 1 (.slice (some ⟨w4.heap.size + 1, 0, none⟩) 0 0) 0 []) := Lib.hid (by have h := own_empty flI (w4.drew.alloc (.cells #[.int .i64 (r : Int)] 3)) w4.heap.size 3 (by simp); rw [size_new] at h; exact h)
                  have KEEP := Lib.hid (fun (W : World) (hb : Below w4.heap.size w4 W) => (⟨cell_stay hb l0, cell_stay hb l1, cell_stay hb l2, cell_stay hb l3, cell_stay hb i0, cell_stay hb i1, cell_stay hb o0, cell_stay hb o1, cell_stay hb ca⟩ :
                    W.cell? ⟨gn, 0, none⟩ = some (.slice A1 n1 c1) ∧ W.cell? ⟨gn, 1, none⟩ = some (.slice A2 n2 c2) ∧ W.cell? ⟨gn, 2, none⟩ = some (.slice A3 n3 c3) ∧ W.cell? ⟨gn, 3, none⟩ = some (.slice A4 n4 c4) ∧
                    W.cell? ⟨gn + 1, 0, none⟩ = some (.slice C n c) ∧ W.cell? ⟨gn + 1, 1, none⟩ = some (.slice D m d) ∧ W.cell? ⟨gn + 2, 0, none⟩ = some (.slice E p pc) ∧ W.cell? ⟨gn + 2, 1, none⟩ = some (.slice (some ⟨bb, off, none⟩) q qc) ∧ W.cell? ⟨b5, off5 + k, none⟩ = some (.int .i64 (r : Int))))
                  have K6 : Hid (∀ (W : World) (X : Option Addr) (x xc : Nat) (ch : List Int), Below w.heap.size w W → Sl flI W X x xc ch → ChOk L ch → x ≤ K + 1 →
                    Calls Tryd.prog 26 #[.agg #[.slice A1 n1 c1, .slice A2 n2 c2, .slice A3 n3 c3, .slice A4 n4 c4], .agg #[.slice C n c, .slice D m d], .agg #[.slice E p pc, .slice (some ⟨bb, off, none⟩) q qc], .int .i64 ((s : Int) + 1), .slice X x xc] W fun e w' => e = .returned (.bool (waysM L I (s + 1) t ch)) ∧ Below W.heap.size W w') := Lib.hid ih1.out
                  have HOK : Hid (ChOk L (ch ++ [(r : Int)])) := Lib.hid (by
                    intro q hq
                    rcases List.mem_append.1 hq with h | h
                    · exact HO.out q h
                    · rw [List.mem_singleton.1 h]
                      have := HRR.out
                      omega)
                  have HWO : Hid (wayOk L I s t ch r = waysM L I (s + 1) t (ch ++ [(r : Int)])) := Lib.hid (by
                    unfold wayOk
                    have := HU3.out
                    revert this
                    cases clearI L I r <;> cases (ch.any fun q => conflictI L r q) <;> simp)
                  have HWB := Lib.hid (below_more HWX.out HB24.out)
                  generalize hz : waysM L I (s + 1) t (ch ++ [(r : Int)]) = zz at *
                  have HZ := Lib.hid hz
                  clear hz l0 l1 l2 l3 i0 i1 o0 o1 ca HU3
                  go_wp2_with fail
                  go_region_held3 (fun W => W.cell? ⟨gn, 0, none⟩ = some (.slice A1 n1 c1) ∧ W.cell? ⟨gn, 1, none⟩ = some (.slice A2 n2 c2) ∧ W.cell? ⟨gn, 2, none⟩ = some (.slice A3 n3 c3) ∧ W.cell? ⟨gn, 3, none⟩ = some (.slice A4 n4 c4) ∧
                    W.cell? ⟨gn + 1, 0, none⟩ = some (.slice C n c) ∧ W.cell? ⟨gn + 1, 1, none⟩ = some (.slice D m d) ∧ W.cell? ⟨gn + 2, 0, none⟩ = some (.slice E p pc) ∧ W.cell? ⟨gn + 2, 1, none⟩ = some (.slice (some ⟨bb, off, none⟩) q qc) ∧ W.cell? ⟨b5, off5 + k, none⟩ = some (.int .i64 (r : Int)))
                    (first | exact KEEP.out _ HD.out | exact KEEP.out _ HB9.out | exact KEEP.out _ HB8.out | exact KEEP.out _ (HB7.out.alloc HB7.out.size _) | exact KEEP.out _ HB7.out | exact KEEP.out _ HAL.out | exact KEEP.out _ HAR.out | exact KEEP.out _ HR0.out | exact KEEP.out _ HRA.out)
                    (first
                      | (refine step_append_want (by rfl) (.tmp 85) (.tmp 86) _ (by rfl) w4.heap.size 3 e0 _ 1 8 Tryd.underlying28 he0 hz0 hz1 hz2 rfl (by omega) _ 0 [] (by rfl) HEA.out w4.heap.size X k2 xc (ch.flatMap flI.enc) (by rfl) ((HX4.out.rf.reads (by decide)).below HAL.out) (flat_one flI _) (by simp only [maxLen]; omega) (by omega) (by simp) ?_; intro v7 w7 hown7 hg7 hat7; rw [Nat.zero_add] at hown7; obtain ⟨A7, c7, rfl⟩ := row_form hown7; have HO7 := Lib.hid hown7; have HB7 := Lib.hid (HAL.out.grown hg7 (by simp) (fun k hk => by simp [Value.ownBlock] at hk; omega)); clear hown7 hg7 hat7)
                      | (refine step_append_want (by rfl) (.tmp 85) (.tmp 86) _ (by rfl) w4.heap.size 3 e0 _ 1 8 Tryd.underlying28 he0 hz0 hz1 hz2 rfl (by omega) _ 0 [] (by rfl) HEAR.out w4.heap.size X k2 xc (ch.flatMap flI.enc) (by rfl) ((HX4.out.rf.reads (by decide)).below HAR.out) (flat_one flI _) (by simp only [maxLen]; omega) (by omega) (by simp; omega) ?_; intro v7 w7 hown7 hg7 hat7; rw [Nat.zero_add] at hown7; obtain ⟨A7, c7, rfl⟩ := row_form hown7; have HO7 := Lib.hid hown7; have HB7 := Lib.hid (HAR.out.grown hg7 (by simp; omega) (fun k hk => by simp [Value.ownBlock] at hk; omega)); have HRD := Lib.hid (box_kept (Blk.at_ (w := w4.drew.alloc (.cells #[] 3)) (g := w4.heap.size + 1) (by simp) #[.int .i64 (r : Int)] 3 (0, 0)) hg7 (by simp [Value.ownBlock])); clear hown7 hg7 hat7)
                      | (refine step_append_want (by rfl) (.tmp 85) (.tmp 86) _ (by rfl) w4.heap.size 3 e0 _ 1 8 Tryd.underlying28 he0 hz0 hz1 hz2 rfl (by omega) _ 0 [] (by rfl) HERA.out w4.heap.size X k2 xc (ch.flatMap flI.enc) (by rfl) ((HX4.out.rf.reads (by decide)).below HRA.out) (flat_one flI _) (by simp only [maxLen]; omega) (by omega) (by simp; omega) ?_; intro v7 w7 hown7 hg7 hat7; rw [Nat.zero_add] at hown7; obtain ⟨A7, c7, rfl⟩ := row_form hown7; have HO7 := Lib.hid hown7; have HB7 := Lib.hid (HRA.out.grown hg7 (by simp; omega) (fun k hk => by simp [Value.ownBlock] at hk; omega)); have HRD := Lib.hid (box_kept ((Blk.new w4.drew #[.int .i64 (r : Int)] 3 (0, 0)).alloc (.cells #[] 3)) hg7 (by simp [Value.ownBlock])); clear hown7 hg7 hat7)
                      | (refine step_append_want (by rfl) (.tmp 87) (.tmp 92) _ (by rfl) w4.heap.size 3 e0 _ 1 8 Tryd.underlying28 he0 hz0 hz1 hz2 rfl (by omega) (.slice A7 k2 c7) k2 ([] ++ ch.flatMap flI.enc) (by rfl) (World.ownsRow.alloc HO7.out (.cells #[.int .i64 (r : Int)] 3)) (w7.heap.size + 1) (some ⟨w7.heap.size, 0, none⟩) 1 1 (flI.enc (r : Int)) (by rfl) (box_reads flI w7 #[.int .i64 (r : Int)] 3 (r : Int) rfl) (flI.one _) (by simp only [maxLen]; omega) (by omega) (by have := HB7.out.size; simp; omega) ?_; intro v8 w8 hown8 hg8 hat8; obtain ⟨A8, c8, rfl⟩ := row_form hown8; have HB8 := Lib.hid ((HB7.out.alloc HB7.out.size (.cells #[.int .i64 (r : Int)] 3)).grown hg8 (by have := HB7.out.size; simp; omega) (World.ownsRow.lt (World.ownsRow.alloc HO7.out (.cells #[.int .i64 (r : Int)] 3)) · · |>.1)); have HO8 := Lib.hid (sl_ow (ints_snoc HLNX.out hown8) (by decide) (by rw [List.length_append, HLNX.out]; simp; omega)); clear hown8 hg8 hat8)
                      | (refine step_append_want (by rfl) (.tmp 87) (.tmp 92) _ (by rfl) w4.heap.size 3 e0 _ 1 8 Tryd.underlying28 he0 hz0 hz1 hz2 rfl (by omega) (.slice A7 k2 c7) k2 ([] ++ ch.flatMap flI.enc) (by rfl) HO7.out w7.heap.size _ 1 1 (flI.enc (r : Int)) (by rfl) HRD.out (flI.one _) (by simp only [maxLen]; omega) (by omega) HB7.out.size ?_; intro v8 w8 hown8 hg8 hat8; obtain ⟨A8, c8, rfl⟩ := row_form hown8; have HB8 := Lib.hid (HB7.out.grown hg8 HB7.out.size (World.ownsRow.lt HO7.out · · |>.1)); have HO8 := Lib.hid (sl_ow (ints_snoc HLNX.out hown8) (by decide) (by rw [List.length_append, HLNX.out]; simp; omega)); clear hown8 hg8 hat8)
                      | (go_at_call 26; obtain ⟨A9, c9, e9, hs9⟩ := HO8.out; rw [List.length_append, HLNX.out, List.length_singleton] at e9 hs9; injection e9 with e91 e92 e93; subst e91 e93; refine (K6.out w8 A8 (k2 + 1) c8 (ch ++ [(r : Int)]) (below_more HWB.out HB8.out) hs9 HOK.out (by omega)).mono ?_; rintro e w9 ⟨rfl, hb9⟩; rw [HZ.out]; have HB9 := Lib.hid (below_more HB8.out hb9); clear hb9 hs9 e92)
                      | fail)
                  all_goals
                    cases zz
                    · have HN := Lib.hid (none_more HA.out HR2.out HWO.out)
                      go_wp2_with fail
                      go_roundw
                      case rel => exact ⟨k + 1, by omega, by go_num, Lib.hid ⟨below_more HB24.out HB9.out, HN.out⟩⟩
                      case measure => simp [intOf]; omega
                    · have HE : Hid (waysM L I s (true :: t) ch = true) := Lib.hid (by rw [HM.out]; exact List.any_eq_true.2 ⟨_, List.mem_of_getElem? HA.out, HWO.out⟩)
                      go_wp2_with fail
                      go_ret
                      exact ⟨ret_bool (by rw [HE.out]), below_more (below_more HBX.out HB24.out) HB9.out⟩
        · obtain rfl : k = n5 := by omega
          have HE : Hid (waysM L I s (true :: t) ch = false) := Lib.hid (by rw [HM.out]; exact any_none HLN5.out HR2.out)
          clear hlt
          go_wp2_with fail
          go_ret
          exact ⟨ret_bool (by rw [HE.out]), below_more HBX.out HB2.out⟩
end
end Go.Proofs.YtmdggodkkkihhaaDoor

/- Contracts: the references' one, Holds. -/
set_option linter.unusedVariables false
set_option linter.unusedSimpArgs false
namespace Go.Proofs.YtmdggodkkkihhaaDoor
open Go.RowKit

/-- May a route with so many sections stand so? -/
def oneM (r : Rs) (n : Nat) : Bool :=
  if r.m = 1 then decide (0 ≤ r.t) && decide (r.t ≤ 8) && decide (r.g = 0) && !r.s
  else if r.m = 4 then decide (0 ≤ r.t) && decide (r.t < 6) && decide (r.g = 0) && !r.s
  else if r.m = 3 then decide (r.t = 0) && decide (0 ≤ r.g) && decide (r.g < n)
  else if r.m = 0 ∨ r.m = 2 then decide (r.t = 0) && decide (r.g = 0) && !r.s
  else false
set_option maxRecDepth 20000 in
set_option maxHeartbeats 4000000 in
theorem RefOne_calls (w : World) (r : Rs) (P : Option Addr) (p pc : Nat) :
    Calls Tryd.prog 42 #[.agg #[.int .i64 r.m, .int .i64 r.t, .int .i64 r.g, .bool r.s], .slice P p pc] w fun e w' => e = .returned (.bool (oneM r p)) ∧ Below w.heap.size w w' := by
  have hbw := below_new w (.cells #[.int .i64 r.m, .int .i64 r.t, .int .i64 r.g, .bool r.s] 69)
  obtain ⟨m, t, g, s⟩ := r
  simp only at hbw ⊢
  by_cases h1 : m = 1
  · have HF : Hid (oneM ⟨m, t, g, s⟩ p = (decide (0 ≤ t) && decide (t ≤ 8) && (g == 0) && !s)) := Lib.hid (by unfold oneM; rw [if_pos h1]; rfl)
    subst h1
    by_cases g1 : 0 ≤ t <;> by_cases g2 : t ≤ 8 <;> cases k3 : (g == 0) <;> cases s
    all_goals try (exfalso; omega)
    all_goals
      go_enter Tryd.func42, Tryd.ntmps42
      go_wp2_with fail
      go_ret
      exact ⟨ret_bool (by rw [HF.out]; simp [g1, g2, k3]), hbw⟩
  by_cases h4 : m = 4
  · have HF : Hid (oneM ⟨m, t, g, s⟩ p = (decide (0 ≤ t) && decide (t < 6) && (g == 0) && !s)) := Lib.hid (by unfold oneM; rw [if_neg h1, if_pos h4]; rfl)
    subst h4
    clear h1
    by_cases g1 : 0 ≤ t <;> by_cases g2 : t < 6 <;> cases k3 : (g == 0) <;> cases s
    all_goals try (exfalso; omega)
    all_goals
      go_enter Tryd.func42, Tryd.ntmps42
      go_wp2_with fail
      go_ret
      exact ⟨ret_bool (by rw [HF.out]; simp [g1, g2, k3]), hbw⟩
  by_cases h3 : m = 3
  · have HF : Hid (oneM ⟨m, t, g, s⟩ p = ((t == 0) && decide (0 ≤ g) && decide (g < p))) := Lib.hid (by unfold oneM; rw [if_neg h1, if_neg h4, if_pos h3]; rfl)
    subst h3
    clear h1 h4
    cases k1 : (t == 0) <;> by_cases g2 : 0 ≤ g <;> by_cases g3 : g < p
    all_goals try (exfalso; omega)
    all_goals
      go_enter Tryd.func42, Tryd.ntmps42
      go_wp2_with fail
      go_ret
      exact ⟨ret_bool (by rw [HF.out]; simp [k1, g2, g3]), hbw⟩
  by_cases h0 : m = 0 ∨ m = 2
  · have HF : Hid (oneM ⟨m, t, g, s⟩ p = ((t == 0) && (g == 0) && !s)) := Lib.hid (by unfold oneM; rw [if_neg h1, if_neg h4, if_neg h3, if_pos h0]; rfl)
    rcases h0 with rfl | rfl <;> clear h1 h4 h3 <;> cases k1 : (t == 0) <;> cases k2 : (g == 0) <;> cases s
    all_goals
      go_enter Tryd.func42, Tryd.ntmps42
      go_wp2_with fail
      go_ret
      exact ⟨ret_bool (by rw [HF.out]; simp [k1, k2]), hbw⟩
  · have HF : Hid (oneM ⟨m, t, g, s⟩ p = false) := Lib.hid (by unfold oneM; rw [if_neg h1, if_neg h4, if_neg h3, if_neg h0])
    have k1 : (m == 1) = false := by simp [h1]
    have k4 : (m == 4) = false := by simp [h4]
    have k3 : (m == 3) = false := by simp [h3]
    have k0 : (m == 0) = false := by simp only [not_or] at h0; simp [h0.1]
    have k2 : (m == 2) = false := by simp only [not_or] at h0; simp [h0.2]
    clear h1 h4 h3 h0
    go_enter Tryd.func42, Tryd.ntmps42
    go_wp2_with fail
    go_ret
    exact ⟨ret_bool (by rw [HF.out]), hbw⟩
/-- A route that is used has gone over some of its sections, not all. -/
def UsedOk (r : Rs) (x : Rte) : Prop := r.m = 3 → 0 ≤ r.g ∧ r.g < x.path.length
theorem one_used {r : Rs} {x : Rte} (h : oneM r x.path.length = true) : UsedOk r x := by
  intro h3
  unfold oneM at h
  rw [if_neg (by omega), if_neg (by omega), if_pos h3] at h
  simp only [Bool.and_eq_true, decide_eq_true_eq] at h
  exact ⟨h.1.2, h.2⟩
section
variable {L : Lay} {A1 A2 A3 A4 : Option Addr} {n1 c1 n2 c2 n3 c3 n4 c4 : Nat}
set_option maxRecDepth 20000 in
set_option maxHeartbeats 4000000 in
theorem RefHolds_calls (w : World) (hL : LayV w L A1 A2 A3 A4 n1 c1 n2 c2 n3 c3 n4 c4) (i : Nat) (x : Rte) (hi : L.rtes[i]? = some x) (r : Rs) (hu : UsedOk r x) (sec : Int) :
    Calls Tryd.prog 30 #[.agg #[.slice A1 n1 c1, .slice A2 n2 c2, .slice A3 n3 c3, .slice A4 n4 c4], .int .i64 i, .agg #[.int .i64 r.m, .int .i64 r.t, .int .i64 r.g, .bool r.s], .int .i64 sec] w fun e w' => e = .returned (.bool (holdsM x r sec)) ∧ Below w.heap.size w w' := by
  have hlt : i < n4 := by
    have := hL.rtes.len
    have := (List.getElem?_eq_some_iff.1 hi).1
    omega
  obtain ⟨m, t, g, s⟩ := r
  simp only
  have hbw : Below w.heap.size w ((w.alloc (.cells #[.slice A1 n1 c1, .slice A2 n2 c2, .slice A3 n3 c3, .slice A4 n4 c4] 26)).alloc (.cells #[.int .i64 m, .int .i64 t, .int .i64 g, .bool s] 69)) := (below_new w _).alloc (by simp) _
  have hB_l := (Blk.at_ (w := w) (g := w.heap.size) (by simp) #[.slice A1 n1 c1, .slice A2 n2 c2, .slice A3 n3 c3, .slice A4 n4 c4] 26 (0, 0)).alloc (.cells #[.int .i64 m, .int .i64 t, .int .i64 g, .bool s] 69)
  have l0 := hB_l.cell 0
  have l1 := hB_l.cell 1
  have l2 := hB_l.cell 2
  have l3 := hB_l.cell 3
  have hB_r := Blk.at_ (w := (w.alloc (.cells #[.slice A1 n1 c1, .slice A2 n2 c2, .slice A3 n3 c3, .slice A4 n4 c4] 26))) (g := w.heap.size + 1) (by simp) #[.int .i64 m, .int .i64 t, .int .i64 g, .bool s] 69 (0, 0)
  have r0 := hB_r.cell 0
  have r1 := hB_r.cell 1
  have r2 := hB_r.cell 2
  have r3 := hB_r.cell 3
  simp only [List.getElem?_toArray, List.getElem?_cons_zero, List.getElem?_cons_succ] at l0 l1 l2 l3 r0 r1 r2 r3
  clear hB_l hB_r
  obtain ⟨b, off, x', P, Q, F, p, pc, q, qc, f, fc, rfl, hx', _, _, _, k3, _, _, hv⟩ := (hL.stay hbw).rtes.at_ hlt
  obtain rfl : x' = x := by rw [hi] at hx'; exact (Option.some.inj hx').symm
  have q4 := Nat.le_trans hL.rtes.le hL.rtes.cap
  have hlen := hv.path.len
  have hle := hv.path.le
  have hcap := hv.path.cap
  have i1 : (0 : Int) ≤ (i : Int) := by omega
  have i2 : (i : Int) < (n4 : Int) := by omega
  have K1 := Lib.hid (RefInB_calls _ P p pc x'.path hv.path sec)
  have HV := Lib.hid hv
  have HB := Lib.hid hbw
  clear hL hi hx' hv
  by_cases h1 : m = 1 ∨ m = 2 ∨ m = 4
  · have HF : Hid (holdsM x' ⟨m, t, g, s⟩ sec = inB x'.path sec) := Lib.hid (by unfold holdsM; rw [if_pos h1]; rfl)
    rcases h1 with rfl | rfl | rfl
    all_goals
      clear hu hlen
      go_enter Tryd.func30, Tryd.ntmps30
      go_wp2_with (first
        | (go_at_call 40; refine K1.out.mono ?_; rintro e w1 ⟨rfl, hb⟩)
        | fail)
      go_ret
      exact ⟨ret_bool (by rw [HF.out]), below_more HB.out hb⟩
  by_cases h3 : m = 3
  · obtain ⟨u0, u1⟩ := hu h3
    have HF : Hid (holdsM x' ⟨m, t, g, s⟩ sec = inB (x'.path.drop g.toNat) sec) := Lib.hid (by
      unfold holdsM
      rw [if_neg h1, if_pos h3]
      have e : (min (max g 0) (x'.path.length : Int)).toNat = g.toNat := by simp only at u0 u1; omega
      rw [e]
      rfl)
    subst h3
    simp only at u0 u1
    obtain ⟨j, rfl⟩ : ∃ j : Nat, g = j := ⟨g.toNat, by omega⟩
    obtain ⟨bp, op, y, rfl, _, _⟩ := HV.out.path.int (j := j) (by omega)
    have HS := Lib.hid (HV.out.path.from_ j)
    have hjp : (j : Int) ≤ p := by omega
    have hjc : ¬ pc - j = 0 := by omega
    clear hlen hu h1 u1
    go_enter Tryd.func30, Tryd.ntmps30
    go_wp2_with fail
    generalize ((w.alloc (.cells #[.slice A1 n1 c1, .slice A2 n2 c2, .slice A3 n3 c3, .slice (some ⟨b, off, none⟩) n4 c4] 26)).alloc (.cells #[.int .i64 3, .int .i64 t, .int .i64 (j : Int), .bool s] 69)) = w0 at *
    have K2 := Lib.hid (fun z : Later w0 => RefInB_calls z.w1 _ _ _ _ (HS.out.stay z.hb) sec)
    have Ll3 := later_cell l3
    have Lk3 := later_cell k3
    have Lr2 := later_cell r2
    refine wp_region_later (by kernel_rfl) (by kernel_rfl) ?_
    repeat (go_big_quiet_step ((first | (go_at_call 40; rename_i z; exact later_call z (K2.out z)) | fail)))
    refine wpQuiet_nil ?_
    intro q0
    go_wp2_with fail
    go_ret
    exact ⟨ret_bool (by rw [HF.out, Int.toNat_natCast]), below_more HB.out q0.hb⟩
  · have HF : Hid (holdsM x' ⟨m, t, g, s⟩ sec = false) := Lib.hid (by unfold holdsM; rw [if_neg h1, if_neg h3])
    have k1 : (m == 1) = false := by simp only [not_or] at h1; simp [h1.1]
    have k2 : (m == 2) = false := by simp only [not_or] at h1; simp [h1.2.1]
    have k4 : (m == 4) = false := by simp only [not_or] at h1; simp [h1.2.2]
    have k5 : (m == 3) = false := by simp [h3]
    clear h1 h3 hu hlen
    go_enter Tryd.func30, Tryd.ntmps30
    go_wp2_with fail
    go_ret
    exact ⟨ret_bool (by rw [HF.out]), HB.out⟩
end
end Go.Proofs.YtmdggodkkkihhaaDoor

/- Contract: the reference's Safe. -/
set_option linter.unusedVariables false
set_option linter.unusedSimpArgs false
namespace Go.Proofs.YtmdggodkkkihhaaDoor
open Go.RowKit

/-- The document's answer: what the field tells may be, and it is safe. -/
def rsafeM (L : Lay) (I : Inn) (O : Ou) : Bool := mayInM L I && safeM L I O
theorem rsafe_no {L : Lay} {I : Inn} {O : Ou} (h : wholeM L I O = false) : rsafeM L I O = false := by
  unfold wholeM at h
  unfold rsafeM safeM
  revert h
  cases mayInM L I <;> cases decide (O.drive.length = L.pts.length) <;> cases decide (O.proceed.length = L.sigs.length) <;> simp
theorem whole_parts {L : Lay} {I : Inn} {O : Ou} (h : wholeM L I O = true) : mayInM L I = true ∧ I.occ.length = L.secs.length ∧ I.lies.length = L.pts.length ∧ O.drive.length = L.pts.length ∧ O.proceed.length = L.sigs.length := by
  unfold wholeM at h
  simp only [Bool.and_eq_true, decide_eq_true_eq] at h
  obtain ⟨⟨h1, h2⟩, h3⟩ := h
  have h4 := h1
  unfold mayInM at h4
  simp only [Bool.and_eq_true, decide_eq_true_eq] at h4
  exact ⟨h1, h4.1.2, h4.2, h2, h3⟩
theorem rsafe_yes {L : Lay} {I : Inn} {O : Ou} (h : wholeM L I O = true) : rsafeM L I O = (!((List.range O.drive.length).any (dBad L I O)) && waysM L I 0 O.proceed []) := by
  obtain ⟨h1, h2, h3, h4, h5⟩ := whole_parts h
  unfold rsafeM safeM
  rw [h1, decide_eq_true h2, decide_eq_true h3, decide_eq_true h4, decide_eq_true h5]
  simp
section
variable {L : Lay} {A1 A2 A3 A4 : Option Addr} {n1 c1 n2 c2 n3 c3 n4 c4 : Nat} {I : Inn} {C D : Option Addr} {n c m d : Nat} {O : Ou} {E F : Option Addr} {p pc q qc : Nat}
set_option maxRecDepth 20000 in
set_option maxHeartbeats 8000000 in
theorem RSafe_calls (w : World) (hL : LayV w L A1 A2 A3 A4 n1 c1 n2 c2 n3 c3 n4 c4) (hI : InV w I C D n c m d) (hO : OuV w O E F p pc q qc) (hok : LayOk L) :
    Calls Tryd.prog 12 #[.agg #[.slice A1 n1 c1, .slice A2 n2 c2, .slice A3 n3 c3, .slice A4 n4 c4], .agg #[.slice C n c, .slice D m d], .agg #[.slice E p pc, .slice F q qc]] w fun e w' => e = .returned (.bool (rsafeM L I O)) ∧ Below w.heap.size w w' := by
  have hbw : Below w.heap.size w (((w.alloc (.cells #[.slice A1 n1 c1, .slice A2 n2 c2, .slice A3 n3 c3, .slice A4 n4 c4] 26)).alloc (.cells #[.slice C n c, .slice D m d] 30)).alloc (.cells #[.slice E p pc, .slice F q qc] 32)) :=
    ((below_new w _).alloc (by simp) _).alloc (by simp; omega) _
  have hB1 := (((Blk.new w #[.slice A1 n1 c1, .slice A2 n2 c2, .slice A3 n3 c3, .slice A4 n4 c4] 26 (0, 0)).alloc (.cells #[.slice C n c, .slice D m d] 30)).alloc (.cells #[.slice E p pc, .slice F q qc] 32))
  have hB2 := ((Blk.at_ (w := w.alloc (.cells #[.slice A1 n1 c1, .slice A2 n2 c2, .slice A3 n3 c3, .slice A4 n4 c4] 26)) (g := w.heap.size + 1) (by simp) #[.slice C n c, .slice D m d] 30 (0, 0))).alloc (.cells #[.slice E p pc, .slice F q qc] 32)
  have hB3 := Blk.at_ (w := (w.alloc (.cells #[.slice A1 n1 c1, .slice A2 n2 c2, .slice A3 n3 c3, .slice A4 n4 c4] 26)).alloc (.cells #[.slice C n c, .slice D m d] 30)) (g := w.heap.size + 1 + 1) (by simp) #[.slice E p pc, .slice F q qc] 32 (0, 0)
  have l0 := hB1.cell 0
  have l1 := hB1.cell 1
  have l2 := hB1.cell 2
  have l3 := hB1.cell 3
  have i0 := hB2.cell 0
  have i1 := hB2.cell 1
  have o0 := hB3.cell 0
  have o1 := hB3.cell 1
  simp only [List.getElem?_toArray, List.getElem?_cons_zero, List.getElem?_cons_succ] at l0 l1 l2 l3 i0 i1 o0 o1
  have HL := Lib.hid (hL.stay hbw)
  have HI := Lib.hid (hI.stay hbw)
  have HO := Lib.hid (hO.stay hbw)
  have KW := Lib.hid (Whole_calls _ (hL.stay hbw) (hI.stay hbw) (hO.stay hbw))
  have HK := Lib.hid hok
  have HE := Lib.hid (And.intro hL.secs.len (And.intro hL.pts.len (And.intro hL.sigs.len (And.intro hI.occ.len (And.intro hI.lies.len (And.intro hO.drive.len hO.proceed.len))))))
  have HBW := Lib.hid hbw
  have hpc := Nat.le_trans hO.drive.le hO.drive.cap
  have hnn := Nat.le_trans hI.occ.le hI.occ.cap
  have hn2 := Nat.le_trans hL.pts.le hL.pts.cap
  have HNO := Lib.hid (rsafe_no (L := L) (I := I) (O := O))
  have HYES := Lib.hid (rsafe_yes (L := L) (I := I) (O := O))
  have HP := Lib.hid (whole_parts (L := L) (I := I) (O := O))
  clear hL hI hO hok hB1 hB2 hB3 hbw
  generalize hz : wholeM L I O = z at *
  clear hz
  cases z with
  | false =>
    have HF := Lib.hid (HNO.out rfl)
    clear HYES HP HNO
    go_enter Tryd.func12, Tryd.ntmps12
    go_wp2_with (first
      | (go_at_call 25; refine KW.out.mono ?_; rintro e w2 ⟨rfl, hb2⟩)
      | fail)
    go_ret
    exact ⟨ret_bool (by rw [HF.out]), below_more HBW.out hb2⟩
  | true =>
    have HF := Lib.hid (HYES.out rfl)
    have HPP := Lib.hid (HP.out rfl)
    clear HYES HNO HP
    go_enter Tryd.func12, Tryd.ntmps12
    go_wp2_with (first
      | (go_at_call 25; refine KW.out.mono ?_; rintro e w2 ⟨rfl, hb2⟩; have HB2 := Lib.hid hb2; replace l0 := cell_stay hb2 l0; replace l1 := cell_stay hb2 l1; replace l2 := cell_stay hb2 l2; replace l3 := cell_stay hb2 l3; replace i0 := cell_stay hb2 i0; replace i1 := cell_stay hb2 i1; replace o0 := cell_stay hb2 o0; replace o1 := cell_stay hb2 o1; clear hb2)
      | fail)
    generalize hgn : w.heap.size = gn at *
    have HGN := Lib.hid hgn
    clear hgn KW
    go_loopw [7] (fun i wr => ∃ k : Nat, k ≤ p ∧ i = .int .i64 k ∧ Hid (Below w2.heap.size w2 wr ∧ ∀ j, j < k → dBad L I O j = false)) (fun i _ => p - (intOf i).toNat)
    case atStart => exact ⟨0, by omega, rfl, Lib.hid ⟨Below.refl _ _, fun j hj => absurd hj (by omega)⟩⟩
    case round =>
      obtain ⟨k, hk, rfl, hr⟩ := hrel
      have HB3 := Lib.hid (below_more HB2.out hr.out.1)
      replace l0 := cell_stay hr.out.1 l0
      replace l1 := cell_stay hr.out.1 l1
      replace l2 := cell_stay hr.out.1 l2
      replace l3 := cell_stay hr.out.1 l3
      replace i0 := cell_stay hr.out.1 i0
      replace i1 := cell_stay hr.out.1 i1
      replace o0 := cell_stay hr.out.1 o0
      replace o1 := cell_stay hr.out.1 o1
      by_cases hlt : k < p
      · obtain ⟨be, oe, v, rfl, hv, ce⟩ := HO.out.drive.int hlt
        obtain ⟨bp, op, x, rfl, hx, _, cx⟩ := HL.out.pts.pt (j := k) (by have := HE.out; have := HPP.out.2; omega)
        have hxm := HK.out.pts x (List.mem_of_getElem? hx)
        obtain ⟨se, hse⟩ : ∃ se : Nat, x.sec = se := ⟨x.sec.toNat, by omega⟩
        obtain ⟨bo, oo, y, rfl, hy, cy⟩ := HI.out.occ.tru (j := se) (by have := HE.out; have := HPP.out.2; omega)
        have hkn2 : (k : Int) < n2 := by have := HE.out; have := HPP.out.2; omega
        have hsn : (se : Int) < n := by have := HE.out; have := HPP.out.2; omega
        have hd : dBad L I O k = (decide (v ≠ 0) && y) := by
          unfold dBad
          rw [getD_of hv, hx, Option.map_some, Option.getD_some, hse, Int.toNat_natCast, getD_of hy]
        have HD := Lib.hid hd
        rw [hse] at cx
        have L0 := later_cell l0
        have L1 := later_cell l1
        have L4 := later_cell i0
        have L5 := later_cell o0
        have L6 := later_cell (cell_stay HB3.out ce)
        have L7 := later_cell (cell_stay HB3.out cx)
        have L8 := later_cell (cell_stay HB3.out cy)
        clear hv hx hxm hse hy hd ce cx cy
        by_cases hv0 : v = 0
        · have HN := Lib.hid (no_more hr.out.2 (by rw [HD.out, hv0]; rfl))
          have hv1 : (v != 0) = false := by simp [hv0]
          clear hv0
          go_wp2_with fail
          refine wp_region_later (by kernel_rfl) (by kernel_rfl) ?_
          repeat (go_big_quiet_step (fail))
          refine wpQuiet_nil ?_
          intro q0
          go_wp2_with fail
          go_roundw
          case rel => exact ⟨k + 1, by omega, by go_num, Lib.hid ⟨below_more hr.out.1 q0.hb, HN.out⟩⟩
          case measure => simp [intOf]; omega
        · have hv1 : (v != 0) = true := by simp [hv0]
          cases y with
          | false =>
            have HN := Lib.hid (no_more hr.out.2 (by rw [HD.out]; simp))
            clear hv0
            go_wp2_with fail
            refine wp_region_later (by kernel_rfl) (by kernel_rfl) ?_
            repeat (go_big_quiet_step (fail))
            refine wpQuiet_nil ?_
            intro q0
            go_wp2_with fail
            go_roundw
            case rel => exact ⟨k + 1, by omega, by go_num, Lib.hid ⟨below_more hr.out.1 q0.hb, HN.out⟩⟩
            case measure => simp [intOf]; omega
          | true =>
            have HY := Lib.hid (range_any_at (n := O.drive.length) (by have := HE.out; omega) (show dBad L I O k = true by rw [HD.out]; simp [hv0]))
            clear hv0
            go_wp2_with fail
            refine wp_region_later (by kernel_rfl) (by kernel_rfl) ?_
            repeat (go_big_quiet_step (fail))
            refine wpQuiet_nil ?_
            intro q0
            go_wp2_with fail
            go_ret
            exact ⟨ret_bool (by rw [HF.out, HY.out]; rfl), below_more (by rw [HGN.out]; exact HBW.out) (below_more HB3.out q0.hb)⟩
      · obtain rfl : k = p := by omega
        have HY := Lib.hid (range_any_no (n := O.drive.length) (by rw [HE.out.2.2.2.2.2.1]; exact hr.out.2))
        have hq3 : q = n3 := by have := HE.out; have := HPP.out.2; omega
        have hq : q ≤ 1000000 := by have := HK.out.sigs; have := HE.out; omega
        have K := Lib.hid (RWays_calls wr (HL.out.stay HB3.out) (HI.out.stay HB3.out) (HO.out.stay HB3.out) (HK.out.all (by have := HE.out; have := HPP.out.2; omega) (by have := HE.out; have := HPP.out.2; omega)) hq3 hq O.proceed 0 rfl (by omega) 0 (by have := HE.out; omega) wr none 0 0 [] (Below.refl _ _) ⟨⟨rfl, by omega, fun h => absurd h (by omega)⟩, by omega, by omega, by omega⟩ (fun q hq => by cases hq) (by omega))
        clear hlt hq3 hq
        go_wp2_with (first
          | (go_at_call 26; refine K.out.mono ?_; rintro e w7 ⟨rfl, hb7⟩)
          | fail)
        go_ret
        exact ⟨ret_bool (by rw [HF.out, HY.out]; rfl), below_more (by rw [HGN.out]; exact HBW.out) (below_more HB3.out hb7)⟩
end
end Go.Proofs.YtmdggodkkkihhaaDoor

/- Contract: the reference's May (may routes stand so?). -/
set_option linter.unusedVariables false
set_option linter.unusedSimpArgs false
namespace Go.Proofs.YtmdggodkkkihhaaDoor
open Go.RowKit

def pairBad (L : Lay) (rs : List Rs) (i k : Nat) : Bool := match L.rtes[i]?, rs[i]?, L.rtes[k]?, rs[k]? with
  | some x, some r, some y, some z => decide (r.m ≠ 0) && decide (z.m ≠ 0) && conflictM i k x y
  | _, _, _, _ => false
def mayBad (L : Lay) (rs : List Rs) (i : Nat) : Bool := match L.rtes[i]?, rs[i]? with
  | some x, some r => !oneM r x.path.length || (List.range i).any (pairBad L rs i)
  | _, _ => false
/-- May routes stand so? -/
def mayM (L : Lay) (rs : List Rs) : Bool := decide (rs.length = L.rtes.length) && !((List.range rs.length).any (mayBad L rs))
section
variable {L : Lay} {A1 A2 A3 A4 R : Option Addr} {n1 c1 n2 c2 n3 c3 n4 c4 k kc : Nat} {rs : List Rs}
theorem dec_ne (a : Int) : decide (a ≠ 0) = !(a == 0) := by by_cases h : a = 0 <;> simp [h]
theorem rmay_stop (hl : rs.length = L.rtes.length) {i : Nat} (hi : i < rs.length) (h : mayBad L rs i = true) : mayM L rs = false := by
  unfold mayM
  rw [range_any_at hi h]
  simp
set_option maxRecDepth 20000 in
set_option maxHeartbeats 8000000 in
theorem RefMay_calls (w : World) (hL : LayV w L A1 A2 A3 A4 n1 c1 n2 c2 n3 c3 n4 c4) (hR : Sl flR w R k kc rs) (hok : ∀ x ∈ L.rtes, x.points.length + x.flank.length ≤ 8796093022208) :
    Calls Tryd.prog 23 #[.agg #[.slice A1 n1 c1, .slice A2 n2 c2, .slice A3 n3 c3, .slice A4 n4 c4], .slice R k kc] w fun e w' => e = .returned (.bool (mayM L rs)) ∧ Below w.heap.size w w' := by
  have hbw : Below w.heap.size w (w.alloc (.cells #[.slice A1 n1 c1, .slice A2 n2 c2, .slice A3 n3 c3, .slice A4 n4 c4] 26)) := below_new w _
  have hB_l := Blk.at_ (w := w) (g := w.heap.size) (by simp) #[.slice A1 n1 c1, .slice A2 n2 c2, .slice A3 n3 c3, .slice A4 n4 c4] 26 (0, 0)
  have l0 := hB_l.cell 0
  have l1 := hB_l.cell 1
  have l2 := hB_l.cell 2
  have l3 := hB_l.cell 3
  simp only [List.getElem?_toArray, List.getElem?_cons_zero, List.getElem?_cons_succ] at l0 l1 l2 l3
  clear hB_l
  have HL := Lib.hid (hL.stay hbw)
  have HR := Lib.hid (hR.stay hbw)
  have HB := Lib.hid hbw
  have HOK := Lib.hid hok
  have HLN := Lib.hid (And.intro hL.rtes.len hR.len)
  have q4 := Nat.le_trans hL.rtes.le hL.rtes.cap
  have qk := Nat.le_trans hR.le hR.cap
  clear hL hR hok
  by_cases he : k = n4
  case neg =>
    have HF : Hid (mayM L rs = false) := Lib.hid (by unfold mayM; rw [decide_eq_false (by have := HLN.out; omega)]; rfl)
    have he' : ((k : Int) != (n4 : Int)) = true := by simp; omega
    clear he
    go_enter Tryd.func23, Tryd.ntmps23
    go_wp2_with fail
    go_ret
    exact ⟨ret_bool (by rw [HF.out]), HB.out⟩
  case pos =>
  have HRL : Hid (rs.length = L.rtes.length) := Lib.hid (by have := HLN.out; omega)
  have he' : ((k : Int) != (n4 : Int)) = false := by simp; omega
  subst he
  go_enter Tryd.func23, Tryd.ntmps23
  go_wp2_with fail
  generalize (w.alloc (.cells #[.slice A1 n1 c1, .slice A2 n2 c2, .slice A3 n3 c3, .slice A4 k c4] 26)) = w0 at *
  generalize hgn : w.heap.size = gn at *
  have HGN := Lib.hid hgn
  clear hgn hbw he'
  go_loopw [5] (fun i wr => ∃ j : Nat, j ≤ k ∧ i = .int .i64 j ∧ Hid (Below w0.heap.size w0 wr ∧ ∀ i, i < j → mayBad L rs i = false)) (fun i _ => k - (intOf i).toNat)
  case atStart => exact ⟨0, by omega, rfl, Lib.hid ⟨Below.refl _ _, fun j h => absurd h (by omega)⟩⟩
  case round =>
    obtain ⟨j, hj, rfl, hr⟩ := hrel
    have HB1 := Lib.hid hr.out.1
    have HN1 := Lib.hid hr.out.2
    replace l0 := cell_stay HB1.out l0
    replace l1 := cell_stay HB1.out l1
    replace l2 := cell_stay HB1.out l2
    replace l3 := cell_stay HB1.out l3
    clear hr
    by_cases hlt : j < k
    · obtain ⟨br, or_, y, rfl, hy, y0, y1, y2, y3⟩ := HR.out.rs hlt
      obtain ⟨b, off, x, P, Q, F, p, pc, q, qc, f, fc, rfl, hx, _, _, _, k3, _, _, hv⟩ := HL.out.rtes.at_ hlt
      have HX := Lib.hid hx
      have HY := Lib.hid hy
      have HPL := Lib.hid hv.path.len
      replace y0 := cell_stay HB1.out y0
      replace y1 := cell_stay HB1.out y1
      replace y2 := cell_stay HB1.out y2
      replace y3 := cell_stay HB1.out y3
      replace k3 := cell_stay HB1.out k3
      have KO := Lib.hid (fun z : Later wr => RefOne_calls z.w1 y P p pc)
      obtain ⟨ym, yt, yg, ys⟩ := y
      simp only at y0 y1 y2 y3 KO
      have HPB : Hid (mayBad L rs j = (!oneM ⟨ym, yt, yg, ys⟩ p || (List.range j).any (pairBad L rs j))) := Lib.hid (by unfold mayBad; rw [HX.out, HY.out]; show (!oneM _ x.path.length || _) = _; rw [HPL.out])
      generalize oneM ⟨ym, yt, yg, ys⟩ p = oo at *
      clear hx hy hv
      have hjk : (j : Int) < k := by omega
      have Ll3 := later_cell l3
      have Ly0 := later_cell y0
      have Ly1 := later_cell y1
      have Ly2 := later_cell y2
      have Ly3 := later_cell y3
      have Lk3 := later_cell k3
      cases oo with
      | false =>
        have HE : Hid (mayM L rs = false) := Lib.hid (rmay_stop HRL.out (i := j) (by have := HLN.out; omega) (by rw [HPB.out]; rfl))
        go_wp2_with fail
        refine wp_region_later (by kernel_rfl) (by kernel_rfl) ?_
        repeat (go_big_quiet_step ((first | (go_at_call 42; rename_i z; exact later_call z (KO.out z)) | fail)))
        refine wpQuiet_nil ?_
        intro q0
        go_wp2_with fail
        go_ret
        exact ⟨ret_bool (by rw [HE.out]), below_more (by rw [HGN.out]; exact HB.out) (below_more HB1.out q0.hb)⟩
      | true =>
        go_wp2_with fail
        refine wp_region_later (by kernel_rfl) (by kernel_rfl) ?_
        repeat (go_big_quiet_step ((first | (go_at_call 42; rename_i z; exact later_call z (KO.out z)) | fail)))
        refine wpQuiet_nil ?_
        intro q0
        have hq0 := q0.hb
        generalize q0.w1 = w2 at *
        have HB2 := Lib.hid (below_more HB1.out hq0)
        replace l0 := cell_stay hq0 l0
        replace l1 := cell_stay hq0 l1
        replace l2 := cell_stay hq0 l2
        replace l3 := cell_stay hq0 l3
        replace y0 := cell_stay hq0 y0
        replace y1 := cell_stay hq0 y1
        replace y2 := cell_stay hq0 y2
        replace y3 := cell_stay hq0 y3
        clear hq0 q0 KO Ll3 Ly0 Ly1 Ly2 Ly3 Lk3 k3
        go_wp2_with fail
        go_loopw [6] (fun i wr => ∃ s : Nat, s ≤ j ∧ i = .int .i64 s ∧ Hid (Below w2.heap.size w2 wr ∧ ∀ i, i < s → pairBad L rs j i = false)) (fun i _ => j - (intOf i).toNat)
        case atStart => exact ⟨0, by omega, rfl, Lib.hid ⟨Below.refl _ _, fun j h => absurd h (by omega)⟩⟩
        case round =>
          obtain ⟨s, hs, rfl, hr⟩ := hrel
          have HB3 := Lib.hid (below_more HB2.out hr.out.1)
          have HB23 := Lib.hid hr.out.1
          have HN3 := Lib.hid hr.out.2
          replace l0 := cell_stay HB23.out l0
          replace l1 := cell_stay HB23.out l1
          replace l2 := cell_stay HB23.out l2
          replace l3 := cell_stay HB23.out l3
          replace y0 := cell_stay HB23.out y0
          replace y1 := cell_stay HB23.out y1
          replace y2 := cell_stay HB23.out y2
          replace y3 := cell_stay HB23.out y3
          clear hr
          by_cases hlt3 : s < j
          · obtain ⟨br', or', z, e1, hz, z0, z1, z2, z3⟩ := HR.out.rs (j := s) (by omega)
            obtain ⟨rfl, rfl⟩ : br = br' ∧ or_ = or' := by simpa using e1
            obtain ⟨b', off', u, P', Q', F', p', pc', q', qc', f', fc', e2, hu, _⟩ := HL.out.rtes.at_ (j := s) (by omega)
            have hsk : (s : Int) < k := by omega
            replace z0 := cell_stay HB3.out z0
            have hxl : x.points.length + x.flank.length ≤ 8796093022208 := HOK.out x (List.mem_of_getElem? HX.out)
            have hul : u.points.length + u.flank.length ≤ 8796093022208 := HOK.out u (List.mem_of_getElem? hu)
            have KX := Lib.hid (RefConflict_calls wr L _ _ _ _ _ _ _ _ _ _ _ _ (HL.out.stay HB3.out) j s x u HX.out hu hxl hul)
            obtain ⟨zm, zt, zg, zs⟩ := z
            simp only at z0
            have HP : Hid (pairBad L rs j s = (!(ym == 0) && !(zm == 0) && conflictM j s x u)) := Lib.hid (by
              unfold pairBad
              rw [HX.out, HY.out, hu, hz]
              show (decide (ym ≠ 0) && decide (zm ≠ 0) && conflictM j s x u) = _
              rw [dec_ne, dec_ne])
            have HSL := Lib.hid (show s < rs.length by have := HLN.out; omega)
            clear hz z1 z2 z3 e1 e2 hu hxl hul
            generalize conflictM j s x u = cz at *
            cases m1 : (ym == 0) with
            | true =>
              have m2 : (ym != 0) = false := by simp at m1; simp [m1]
              have HN := Lib.hid (no_more HN3.out (by rw [HP.out, m1]; rfl))
              go_wp2_with fail
              go_roundw
              case rel => exact ⟨s + 1, by omega, by go_num, Lib.hid ⟨HB23.out, HN.out⟩⟩
              case measure => simp [intOf]; omega
            | false =>
              have m2 : (ym != 0) = true := by simp at m1; simp [m1]
              cases m3 : (zm == 0) with
              | true =>
                have m4 : (zm != 0) = false := by simp at m3; simp [m3]
                have HN := Lib.hid (no_more HN3.out (by rw [HP.out, m3]; simp))
                go_wp2_with fail
                go_roundw
                case rel => exact ⟨s + 1, by omega, by go_num, Lib.hid ⟨HB23.out, HN.out⟩⟩
                case measure => simp [intOf]; omega
              | false =>
                have m4 : (zm != 0) = true := by simp at m3; simp [m3]
                cases cz with
                | false =>
                  have HN := Lib.hid (no_more HN3.out (by rw [HP.out]; simp))
                  go_wp2_with (first
                    | (go_at_call 43; refine KX.out.mono ?_; rintro e w5 ⟨rfl, hb5⟩; have HB5 := Lib.hid hb5; clear hb5)
                    | fail)
                  go_roundw
                  case rel => exact ⟨s + 1, by omega, by go_num, Lib.hid ⟨below_more HB23.out HB5.out, HN.out⟩⟩
                  case measure => simp [intOf]; omega
                | true =>
                  have HE : Hid (mayM L rs = false) := Lib.hid (rmay_stop HRL.out (i := j) (by have := HLN.out; omega) (by rw [HPB.out, range_any_at hlt3 (by rw [HP.out, m1, m3]; rfl)]; rfl))
                  go_wp2_with (first
                    | (go_at_call 43; refine KX.out.mono ?_; rintro e w5 ⟨rfl, hb5⟩; have HB5 := Lib.hid hb5; clear hb5)
                    | fail)
                  go_ret
                  exact ⟨ret_bool (by rw [HE.out]), below_more (by rw [HGN.out]; exact HB.out) (below_more HB3.out HB5.out)⟩
          · obtain rfl : s = j := by omega
            have HN := Lib.hid (no_more HN1.out (by rw [HPB.out, range_any_no HN3.out]; rfl))
            clear hlt3
            go_wp2_with fail
            go_roundw
            case rel => exact ⟨s + 1, by omega, by go_num, Lib.hid ⟨HB3.out, HN.out⟩⟩
            case measure => simp [intOf]; omega
    · obtain rfl : j = k := by omega
      have HE : Hid (mayM L rs = true) := Lib.hid (by unfold mayM; rw [decide_eq_true HRL.out, range_any_no (n := rs.length) (fun i hi => HN1.out i (by have := HLN.out; omega))]; rfl)
      clear hlt
      go_wp2_with fail
      go_ret
      exact ⟨ret_bool (by rw [HE.out]), below_more (by rw [HGN.out]; exact HB.out) HB1.out⟩
end
end Go.Proofs.YtmdggodkkkihhaaDoor

/- Contracts: the references' needs (of a point), Held; the law's sound. -/
set_option linter.unusedVariables false
set_option linter.unusedSimpArgs false
namespace Go.Proofs.YtmdggodkkkihhaaDoor
open Go.RowKit

/-- How a route needs a point; 0: not at all. -/
def needM (ns : List Need) (p : Int) : Int := match ns.find? (fun n => decide (n.p = p)) with
  | some n => posM n
  | none => 0
theorem need_yes {ns : List Need} {p : Int} {k : Nat} {n : Need} (hn : ns[k]? = some n) (hp : n.p = p) (hb : ∀ (j : Nat) (a : Need), j < k → ns[j]? = some a → a.p ≠ p) : needM ns p = posM n := by
  have h : ns.find? (fun n => decide (n.p = p)) = some n := by
    obtain ⟨hk, e⟩ := List.getElem?_eq_some_iff.1 hn
    refine List.find?_eq_some_iff_getElem.2 ⟨by simpa using hp, k, hk, e, fun j hj => ?_⟩
    have := hb j _ hj (List.getElem?_eq_getElem (by omega))
    simpa using this
  unfold needM
  rw [h]
theorem need_no {ns : List Need} {p : Int} {n : Nat} (hl : ns.length = n) (hb : ∀ (j : Nat) (a : Need), j < n → ns[j]? = some a → a.p ≠ p) : needM ns p = 0 := by
  have h : ns.find? (fun n => decide (n.p = p)) = none := by
    refine List.find?_eq_none.2 (fun a ha => ?_)
    obtain ⟨j, hj⟩ := List.mem_iff_getElem?.1 ha
    have := hb j a (by have := (List.getElem?_eq_some_iff.1 hj).1; omega) hj
    simpa using this
  unfold needM
  rw [h]
section
variable {L : Lay} {A1 A2 A3 A4 R C D E F : Option Addr} {n1 c1 n2 c2 n3 c3 n4 c4 k kc n c m d p pc q qc : Nat} {rs : List Rs} {I : Inn} {O : Ou}
set_option maxRecDepth 20000 in
set_option maxHeartbeats 4000000 in
theorem RefNeeds15_calls (w : World) (hL : LayV w L A1 A2 A3 A4 n1 c1 n2 c2 n3 c3 n4 c4) (r : Nat) (x : Rte) (hr : L.rtes[r]? = some x) (hx : x.points.length + x.flank.length ≤ 8796093022208) (pt : Int) :
    Calls Tryd.prog 29 #[.agg #[.slice A1 n1 c1, .slice A2 n2 c2, .slice A3 n3 c3, .slice A4 n4 c4], .int .i64 r, .int .i64 pt] w fun e w' => e = .returned (.int .i64 (needM (x.points ++ x.flank) pt)) ∧ Below w.heap.size w w' := by
  have hbw : Below w.heap.size w (w.alloc (.cells #[.slice A1 n1 c1, .slice A2 n2 c2, .slice A3 n3 c3, .slice A4 n4 c4] 26)) := below_new w _
  have hB_l := Blk.at_ (w := w) (g := w.heap.size) (by simp) #[.slice A1 n1 c1, .slice A2 n2 c2, .slice A3 n3 c3, .slice A4 n4 c4] 26 (0, 0)
  have l0 := hB_l.cell 0
  have l1 := hB_l.cell 1
  have l2 := hB_l.cell 2
  have l3 := hB_l.cell 3
  simp only [List.getElem?_toArray, List.getElem?_cons_zero, List.getElem?_cons_succ] at l0 l1 l2 l3
  clear hB_l
  have KN := Lib.hid (RNeeds_calls _ L _ _ _ _ _ _ _ _ _ _ _ _ (hL.stay hbw) r x hr hx)
  have HB := Lib.hid hbw
  clear hL hr hx hbw
  generalize x.points ++ x.flank = ns at *
  go_enter Tryd.func29, Tryd.ntmps29
  go_wp2_with fail
  refine KN.out.mono ?_
  rintro e w2 ⟨B, q, qc, rfl, hq, hb2⟩
  have HB2 := Lib.hid (below_more HB.out hb2)
  have HQ := Lib.hid hq
  have HQL := Lib.hid hq.len
  have qq := Nat.le_trans hq.le hq.cap
  clear KN hq hb2 l0 l1 l2 l3
  go_wp2_with fail
  generalize hgn : w.heap.size = gn at *
  have HGN := Lib.hid hgn
  clear hgn
  go_loopw [8] (fun i wr => ∃ k : Nat, k ≤ q ∧ i = .int .i64 k ∧ Hid (Below w2.heap.size w2 wr ∧ ∀ (j : Nat) (a : Need), j < k → ns[j]? = some a → a.p ≠ pt)) (fun i _ => q - (intOf i).toNat)
  case atStart => exact ⟨0, by omega, rfl, Lib.hid ⟨Below.refl _ _, fun j a h => absurd h (by omega)⟩⟩
  case round =>
    obtain ⟨k, hk, rfl, hr⟩ := hrel
    have HB3 := Lib.hid (below_more (by rw [HGN.out]; exact HB2.out) hr.out.1)
    have HB23 := Lib.hid hr.out.1
    have HN := Lib.hid hr.out.2
    clear hr
    by_cases hlt : k < q
    · obtain ⟨b, off, y, rfl, hy, d0, d1⟩ := HQ.out.need hlt
      have HY := Lib.hid hy
      replace d0 := cell_stay HB23.out d0
      replace d1 := cell_stay HB23.out d1
      have KS := Lib.hid (RefSide_calls wr y)
      obtain ⟨yp, yr⟩ := y
      simp only at d0 d1 KS
      clear hy
      by_cases he : yp = pt
      · have HE := Lib.hid (need_yes HY.out he HN.out)
        have e1 : (yp == pt) = true := by simp [he]
        clear he
        generalize posM ⟨yp, yr⟩ = v at *
        go_wp2_with (first
          | (go_at_call 36; refine KS.out.mono ?_; rintro e w4 ⟨rfl, hb4⟩)
          | fail)
        go_ret
        exact ⟨ret_int (by rw [HE.out]), below_more HB3.out hb4⟩
      · have HN2 : Hid (∀ (j : Nat) (a : Need), j < k + 1 → ns[j]? = some a → a.p ≠ pt) := Lib.hid (fun j a hj ha => by
          rcases Nat.lt_or_ge j k with h | h
          · exact HN.out j a h ha
          · obtain rfl : j = k := by omega
            rw [HY.out] at ha
            cases ha
            exact he)
        have e1 : (yp == pt) = false := by simp [he]
        clear he
        go_wp2_with fail
        go_roundw
        case rel => exact ⟨k + 1, by omega, by go_num, Lib.hid ⟨HB23.out, HN2.out⟩⟩
        case measure => simp [intOf]; omega
    · obtain rfl : k = q := by omega
      have HE := Lib.hid (need_no HQL.out HN.out)
      clear hlt
      go_wp2_with fail
      go_ret
      exact ⟨ret_int (by rw [HE.out]), HB3.out⟩
def soundM (L : Lay) (rs : List Rs) : Bool := !decide (rs.length = L.rtes.length) || mayM L rs
set_option maxRecDepth 20000 in
set_option maxHeartbeats 4000000 in
theorem sound_calls (w : World) (hL : LayV w L A1 A2 A3 A4 n1 c1 n2 c2 n3 c3 n4 c4) (hR : Sl flR w R k kc rs) (hok : ∀ x ∈ L.rtes, x.points.length + x.flank.length ≤ 8796093022208) :
    Calls Tryd.prog 9 #[.agg #[.slice A1 n1 c1, .slice A2 n2 c2, .slice A3 n3 c3, .slice A4 n4 c4], .slice R k kc] w fun e w' => e = .returned (.bool (soundM L rs)) ∧ Below w.heap.size w w' := by
  have hbw : Below w.heap.size w (w.alloc (.cells #[.slice A1 n1 c1, .slice A2 n2 c2, .slice A3 n3 c3, .slice A4 n4 c4] 26)) := below_new w _
  have hB_l := Blk.at_ (w := w) (g := w.heap.size) (by simp) #[.slice A1 n1 c1, .slice A2 n2 c2, .slice A3 n3 c3, .slice A4 n4 c4] 26 (0, 0)
  have l0 := hB_l.cell 0
  have l1 := hB_l.cell 1
  have l2 := hB_l.cell 2
  have l3 := hB_l.cell 3
  simp only [List.getElem?_toArray, List.getElem?_cons_zero, List.getElem?_cons_succ] at l0 l1 l2 l3
  clear hB_l
  have KM := Lib.hid (RefMay_calls _ (hL.stay hbw) (hR.stay hbw) hok)
  have HB := Lib.hid hbw
  have HLN := Lib.hid (And.intro hL.rtes.len hR.len)
  have q4 := Nat.le_trans hL.rtes.le hL.rtes.cap
  have qk := Nat.le_trans hR.le hR.cap
  clear hL hR hok hbw
  by_cases he : k = n4
  · have HF : Hid (soundM L rs = mayM L rs) := Lib.hid (by unfold soundM; rw [decide_eq_true (by have := HLN.out; omega)]; rfl)
    have he' : ((k : Int) != (n4 : Int)) = false := by simp; omega
    subst he
    go_enter Tryd.func9, Tryd.ntmps9
    go_wp2_with (first
      | (go_at_call 23; refine KM.out.mono ?_; rintro e w2 ⟨rfl, hb2⟩)
      | fail)
    go_ret
    exact ⟨ret_bool (by rw [HF.out]), below_more HB.out hb2⟩
  · have HF : Hid (soundM L rs = true) := Lib.hid (by unfold soundM; rw [decide_eq_false (by have := HLN.out; omega)]; rfl)
    have he' : ((k : Int) != (n4 : Int)) = true := by simp; omega
    have he2 : ¬ ((k : Int) = (n4 : Int)) := by omega
    clear he
    go_enter Tryd.func9, Tryd.ntmps9
    go_wp2_with fail
    go_ret
    exact ⟨ret_bool (by rw [HF.out]), HB.out⟩
end
end Go.Proofs.YtmdggodkkkihhaaDoor

/- Contract: the reference's Held. -/
set_option linter.unusedVariables false
set_option linter.unusedSimpArgs false
namespace Go.Proofs.YtmdggodkkkihhaaDoor
open Go.RowKit

/-- Does a locked route begin at a signal? -/
def lockAt (L : Lay) (rs : List Rs) (s i : Nat) : Bool := match L.rtes[i]?, rs[i]? with
  | some x, some r => (r.m == 2) && (x.frm == (s : Int))
  | _, _ => false
def sBad2 (L : Lay) (O : Ou) (rs : List Rs) (s : Nat) : Bool := O.proceed.getD s false && !((List.range rs.length).any (lockAt L rs s))
/-- Does a route stand against a point that is driven so? -/
def hBad2 (L : Lay) (O : Ou) (rs : List Rs) (p i : Nat) : Bool := match L.rtes[i]?, rs[i]?, L.pts[p]? with
  | some x, some r, some y => (((r.m == 2) || (r.m == 3) || (r.m == 4)) && (needM (x.points ++ x.flank) p != 0) && (needM (x.points ++ x.flank) p != O.drive.getD p 0)) || (holdsM x r y.sec && (needM (x.points ++ x.flank) p != O.drive.getD p 0))
  | _, _, _ => false
def hBads2 (L : Lay) (O : Ou) (rs : List Rs) (p : Nat) : Bool := (O.drive.getD p 0 != 0) && (List.range rs.length).any (hBad2 L O rs p)
def rheldM (L : Lay) (I : Inn) (O : Ou) (rs : List Rs) : Bool :=
  decide (rs.length = L.rtes.length) && rsafeM L I O && !((List.range L.sigs.length).any (sBad2 L O rs)) && !((List.range O.drive.length).any (hBads2 L O rs))
theorem rsafe_sizes {L : Lay} {I : Inn} {O : Ou} (h : rsafeM L I O = true) : O.drive.length = L.pts.length ∧ O.proceed.length = L.sigs.length := by
  unfold rsafeM safeM at h
  simp only [Bool.and_eq_true, decide_eq_true_eq] at h
  exact ⟨h.2.1.1.1.2, h.2.1.1.2⟩
section
variable {L : Lay} {A1 A2 A3 A4 R C D E F : Option Addr} {n1 c1 n2 c2 n3 c3 n4 c4 k kc n c m d p pc q qc : Nat} {rs : List Rs} {I : Inn} {O : Ou}
set_option maxRecDepth 20000 in
set_option maxHeartbeats 8000000 in
theorem RHeld_calls (w : World) (hL : LayV w L A1 A2 A3 A4 n1 c1 n2 c2 n3 c3 n4 c4) (hI : InV w I C D n c m d) (hO : OuV w O E F p pc q qc) (hR : Sl flR w R k kc rs) (hok : LayOk L)
    (hu : ∀ (i : Nat) (x : Rte) (r : Rs), L.rtes[i]? = some x → rs[i]? = some r → rs.length = L.rtes.length → UsedOk r x) :
    Calls Tryd.prog 14 #[.agg #[.slice A1 n1 c1, .slice A2 n2 c2, .slice A3 n3 c3, .slice A4 n4 c4], .agg #[.slice C n c, .slice D m d], .agg #[.slice E p pc, .slice F q qc], .slice R k kc] w fun e w' => e = .returned (.bool (rheldM L I O rs)) ∧ Below w.heap.size w w' := by
  have hbw : Below w.heap.size w (((w.alloc (.cells #[.slice A1 n1 c1, .slice A2 n2 c2, .slice A3 n3 c3, .slice A4 n4 c4] 26)).alloc (.cells #[.slice C n c, .slice D m d] 30)).alloc (.cells #[.slice E p pc, .slice F q qc] 32)) := ((below_new w _).alloc (by simp) _).alloc (by simp; omega) _
  have hB_l := ((Blk.at_ (w := w) (g := w.heap.size) (by simp) #[.slice A1 n1 c1, .slice A2 n2 c2, .slice A3 n3 c3, .slice A4 n4 c4] 26 (0, 0)).alloc (.cells #[.slice C n c, .slice D m d] 30)).alloc (.cells #[.slice E p pc, .slice F q qc] 32)
  have l0 := hB_l.cell 0
  have l1 := hB_l.cell 1
  have l2 := hB_l.cell 2
  have l3 := hB_l.cell 3
  have hB_i := (Blk.at_ (w := (w.alloc (.cells #[.slice A1 n1 c1, .slice A2 n2 c2, .slice A3 n3 c3, .slice A4 n4 c4] 26))) (g := w.heap.size + 1) (by simp) #[.slice C n c, .slice D m d] 30 (0, 0)).alloc (.cells #[.slice E p pc, .slice F q qc] 32)
  have i0 := hB_i.cell 0
  have i1 := hB_i.cell 1
  have hB_o := Blk.at_ (w := ((w.alloc (.cells #[.slice A1 n1 c1, .slice A2 n2 c2, .slice A3 n3 c3, .slice A4 n4 c4] 26)).alloc (.cells #[.slice C n c, .slice D m d] 30))) (g := w.heap.size + 1 + 1) (by simp) #[.slice E p pc, .slice F q qc] 32 (0, 0)
  have o0 := hB_o.cell 0
  have o1 := hB_o.cell 1
  simp only [List.getElem?_toArray, List.getElem?_cons_zero, List.getElem?_cons_succ] at l0 l1 l2 l3 i0 i1 o0 o1
  clear hB_l hB_i hB_o
  have HL := Lib.hid (hL.stay hbw)
  have HI := Lib.hid (hI.stay hbw)
  have HO := Lib.hid (hO.stay hbw)
  have HR := Lib.hid (hR.stay hbw)
  have KS := Lib.hid (RSafe_calls _ (hL.stay hbw) (hI.stay hbw) (hO.stay hbw) hok)
  have HB := Lib.hid hbw
  have HOK := Lib.hid hok
  have HU := Lib.hid hu
  have HLN := Lib.hid (And.intro hL.rtes.len (And.intro hR.len (And.intro hL.pts.len (And.intro hL.sigs.len (And.intro hO.drive.len hO.proceed.len)))))
  have q2 := Nat.le_trans hL.pts.le hL.pts.cap
  have q3 := Nat.le_trans hL.sigs.le hL.sigs.cap
  have q4 := Nat.le_trans hL.rtes.le hL.rtes.cap
  have qk := Nat.le_trans hR.le hR.cap
  have qp := Nat.le_trans hO.drive.le hO.drive.cap
  have qq := Nat.le_trans hO.proceed.le hO.proceed.cap
  clear hL hI hO hR hok hu hbw
  by_cases he : k = n4
  case neg =>
    have HF : Hid (rheldM L I O rs = false) := Lib.hid (by unfold rheldM; rw [decide_eq_false (by have := HLN.out; omega)]; rfl)
    have he' : ((k : Int) != (n4 : Int)) = true := by simp; omega
    have he2 : ¬ ((k : Int) = (n4 : Int)) := by omega
    clear he
    go_enter Tryd.func14, Tryd.ntmps14
    go_wp2_with fail
    go_ret
    exact ⟨ret_bool (by rw [HF.out]), HB.out⟩
  case pos =>
  have HRL : Hid (rs.length = L.rtes.length) := Lib.hid (by have := HLN.out; omega)
  have HF : Hid (rheldM L I O rs = (rsafeM L I O && !((List.range L.sigs.length).any (sBad2 L O rs)) && !((List.range O.drive.length).any (hBads2 L O rs)))) := Lib.hid (by unfold rheldM; rw [decide_eq_true HRL.out]; rfl)
  have HSZ := Lib.hid (rsafe_sizes (L := L) (I := I) (O := O))
  have he' : ((k : Int) != (n4 : Int)) = false := by simp; omega
  subst he
  generalize rsafeM L I O = z at *
  cases z with
  | false =>
    go_enter Tryd.func14, Tryd.ntmps14
    go_wp2_with (first
      | (go_at_call 12; refine KS.out.mono ?_; rintro e w2 ⟨rfl, hb2⟩)
      | fail)
    go_ret
    exact ⟨ret_bool (by rw [HF.out]; rfl), below_more HB.out hb2⟩
  | true =>
  have HSS := Lib.hid (HSZ.out rfl)
  clear HSZ
  go_enter Tryd.func14, Tryd.ntmps14
  go_wp2_with (first
    | (go_at_call 12; refine KS.out.mono ?_; rintro e w2 ⟨rfl, hb2⟩; have HB2 := Lib.hid hb2; (replace l0 := cell_stay hb2 l0); (replace l1 := cell_stay hb2 l1); (replace l2 := cell_stay hb2 l2); (replace l3 := cell_stay hb2 l3); (replace i0 := cell_stay hb2 i0); (replace i1 := cell_stay hb2 i1); (replace o0 := cell_stay hb2 o0); (replace o1 := cell_stay hb2 o1); clear hb2)
    | fail)
  generalize hgn : w.heap.size = gn at *
  have HGN := Lib.hid hgn
  clear hgn KS
  have HLV := Lib.hid (HL.out.stay HB2.out)
  have HOV := Lib.hid (HO.out.stay HB2.out)
  have HRV := Lib.hid (HR.out.stay HB2.out)
  have HBW := Lib.hid (below_more (by rw [HGN.out]; exact HB.out) HB2.out)
  clear HL HO HR HI HB HB2
  have hqn : q = n3 := by have := HLN.out; have := HSS.out; omega
  have hpn : p = n2 := by have := HLN.out; have := HSS.out; omega
  subst hqn hpn
  go_loopw [9] (fun i wr => ∃ j : Nat, j ≤ q ∧ i = .int .i64 j ∧ Hid (Below w2.heap.size w2 wr ∧ ∀ i, i < j → sBad2 L O rs i = false)) (fun i _ => q - (intOf i).toNat)
  case atStart => exact ⟨0, by omega, rfl, Lib.hid ⟨Below.refl _ _, fun j h => absurd h (by omega)⟩⟩
  case round =>
    obtain ⟨j, hj, rfl, hr⟩ := hrel
    have HB1 := Lib.hid hr.out.1
    have HN1 := Lib.hid hr.out.2
    replace l0 := cell_stay HB1.out l0
    replace l1 := cell_stay HB1.out l1
    replace l2 := cell_stay HB1.out l2
    replace l3 := cell_stay HB1.out l3
    replace i0 := cell_stay HB1.out i0
    replace i1 := cell_stay HB1.out i1
    replace o0 := cell_stay HB1.out o0
    replace o1 := cell_stay HB1.out o1
    clear hr
    by_cases hlt : j < q
    · obtain ⟨bo, oo, y, rfl, hy, cy⟩ := HOV.out.proceed.tru hlt
      replace cy := cell_stay HB1.out cy
      have HY : Hid (O.proceed.getD j false = y) := Lib.hid (getD_of hy)
      clear hy
      go_wp2_with fail
      generalize hw3 : wr = w3 at *
      clear hw3
      go_loopw [10, 11] (fun v i wr => ∃ s : Nat, s ≤ k ∧ v = .bool (!y || (List.range s).any (lockAt L rs j)) ∧ i = .int .i64 s ∧ Hid (Below w3.heap.size w3 wr)) (fun _ i _ => k - (intOf i).toNat)
      case atStart => exact ⟨0, by omega, by simp, rfl, Lib.hid (Below.refl _ _)⟩
      case round =>
        obtain ⟨s, hs, rfl, rfl, hr⟩ := hrel
        have HB4 := Lib.hid hr.out
        have HB14 := Lib.hid (below_more HB1.out HB4.out)
        replace l0 := cell_stay HB4.out l0
        replace l1 := cell_stay HB4.out l1
        replace l2 := cell_stay HB4.out l2
        replace l3 := cell_stay HB4.out l3
        replace i0 := cell_stay HB4.out i0
        replace i1 := cell_stay HB4.out i1
        replace o0 := cell_stay HB4.out o0
        replace o1 := cell_stay HB4.out o1
        generalize hu : (!y || (List.range s).any (lockAt L rs j)) = u at *
        have HUU := Lib.hid hu
        clear hu hr
        by_cases hlt2 : s < k
        · obtain ⟨br, or_, r, rfl, hr, r0, _⟩ := HRV.out.rs hlt2
          obtain ⟨b, off, x, P, Q, F', p', pc', q', qc', f', fc', rfl, hx, _, k1, _⟩ := HLV.out.rtes.at_ hlt2
          replace r0 := cell_stay HB14.out r0
          replace k1 := cell_stay HB14.out k1
          obtain ⟨rm, rt, rg, rs'⟩ := r
          simp only at r0
          have HNX : Hid ((!y || (List.range (s + 1)).any (lockAt L rs j)) = (u || ((rm == 2) && (x.frm == (j : Int))))) := Lib.hid (by
            have e : lockAt L rs j s = ((rm == 2) && (x.frm == (j : Int))) := by unfold lockAt; rw [hx, hr]
            rw [List.range_succ, List.any_append, List.any_cons, List.any_nil, Bool.or_false, e, ← Bool.or_assoc, HUU.out])
          clear hr hx
          cases u with
          | true =>
            go_wp2_with fail
            go_roundw
            case rel => exact ⟨s + 1, by omega, by rw [HNX.out]; rfl, by go_num, HB4⟩
            case measure => simp [intOf]; omega
          | false =>
            cases m1 : (rm == 2) with
            | false =>
              rw [m1] at HNX
              go_wp2_with fail
              go_roundw
              case rel => exact ⟨s + 1, by omega, by rw [HNX.out]; rfl, by go_num, HB4⟩
              case measure => simp [intOf]; omega
            | true =>
              rw [m1] at HNX
              generalize hm2 : (x.frm == (j : Int)) = z2 at *
              cases z2
              all_goals
                go_wp2_with fail
                go_roundw
                case rel => exact ⟨s + 1, by omega, by rw [HNX.out]; rfl, by go_num, HB4⟩
                case measure => simp [intOf]; omega
        · obtain rfl : s = k := by omega
          have HSB : Hid (sBad2 L O rs j = !u) := Lib.hid (by
            unfold sBad2
            rw [HY.out, ← HUU.out, HLN.out.2.1]
            cases y <;> simp)
          clear hlt2
          cases u with
          | true =>
            have HN := Lib.hid (no_more HN1.out HSB.out)
            go_wp2_with fail
            go_roundw
            case rel => exact ⟨j + 1, by omega, by go_num, Lib.hid ⟨HB14.out, HN.out⟩⟩
            case measure => simp [intOf]; omega
          | false =>
            have HE := Lib.hid (range_any_at (n := L.sigs.length) (by have := HLN.out; omega) (show sBad2 L O rs j = true from HSB.out))
            go_wp2_with fail
            go_ret
            exact ⟨ret_bool (by rw [HF.out, HE.out]; rfl), below_more HBW.out HB14.out⟩
    · obtain rfl : j = q := by omega
      have HN0 : Hid ((List.range L.sigs.length).any (sBad2 L O rs) = false) := Lib.hid (range_any_no (by rw [HLN.out.2.2.2.1]; exact HN1.out))
      clear hlt HN1
      go_wp2_with fail
      generalize hw3 : wr = w3 at *
      clear hw3
      have HLV3 := Lib.hid (HLV.out.stay HB1.out)
      have HOV3 := Lib.hid (HOV.out.stay HB1.out)
      have HRV3 := Lib.hid (HRV.out.stay HB1.out)
      have HBW3 := Lib.hid (below_more HBW.out HB1.out)
      clear HLV HOV HRV HBW HB1
      go_loopw [12] (fun i wr => ∃ j : Nat, j ≤ p ∧ i = .int .i64 j ∧ Hid (Below w3.heap.size w3 wr ∧ ∀ i, i < j → hBads2 L O rs i = false)) (fun i _ => p - (intOf i).toNat)
      case atStart => exact ⟨0, by omega, rfl, Lib.hid ⟨Below.refl _ _, fun j h => absurd h (by omega)⟩⟩
      case round =>
        obtain ⟨j, hj, rfl, hr⟩ := hrel
        have HB1 := Lib.hid hr.out.1
        have HN1 := Lib.hid hr.out.2
        replace l0 := cell_stay HB1.out l0
        replace l1 := cell_stay HB1.out l1
        replace l2 := cell_stay HB1.out l2
        replace l3 := cell_stay HB1.out l3
        replace i0 := cell_stay HB1.out i0
        replace i1 := cell_stay HB1.out i1
        replace o0 := cell_stay HB1.out o0
        replace o1 := cell_stay HB1.out o1
        clear hr
        by_cases hlt : j < p
        · obtain ⟨be, oe, dv, rfl, hd, cd⟩ := HOV3.out.drive.int hlt
          obtain ⟨bp, op, y, rfl, hy, _, cy⟩ := HLV3.out.pts.pt (j := j) (by omega)
          replace cd := cell_stay HB1.out cd
          replace cy := cell_stay HB1.out cy
          have HD : Hid (O.drive.getD j 0 = dv) := Lib.hid (getD_of hd)
          have HY := Lib.hid hy
          have hjp : (j : Int) < p := by omega
          clear hd hy
          go_wp2_with fail
          generalize hw4 : wr = w4 at *
          clear hw4
          go_loopw [14] (fun i wr => ∃ s : Nat, s ≤ k ∧ i = .int .i64 s ∧ Hid (Below w4.heap.size w4 wr ∧ (dv = 0 → s = 0) ∧ ∀ i, i < s → hBad2 L O rs j i = false)) (fun i _ => k - (intOf i).toNat)
          case atStart => exact ⟨0, by omega, rfl, Lib.hid ⟨Below.refl _ _, fun _ => rfl, fun j h => absurd h (by omega)⟩⟩
          case round =>
            obtain ⟨s, hs, rfl, hr⟩ := hrel
            have HB4 := Lib.hid hr.out.1
            have HZ4 := Lib.hid hr.out.2.1
            have HN4 := Lib.hid hr.out.2.2
            have HB14 := Lib.hid (below_more HB1.out HB4.out)
            replace l0 := cell_stay HB4.out l0
            replace l1 := cell_stay HB4.out l1
            replace l2 := cell_stay HB4.out l2
            replace l3 := cell_stay HB4.out l3
            replace i0 := cell_stay HB4.out i0
            replace i1 := cell_stay HB4.out i1
            replace o0 := cell_stay HB4.out o0
            replace o1 := cell_stay HB4.out o1
            replace cd := cell_stay HB4.out cd
            replace cy := cell_stay HB4.out cy
            clear hr
            cases hd0 : (dv == 0) with
            | true =>
              have hd1 : (dv != 0) = false := by simp at hd0; simp [hd0]
              have hd2 : decide (dv = 0) = true := by simpa using hd0
              have HN := Lib.hid (no_more HN1.out (show hBads2 L O rs j = false by unfold hBads2; rw [HD.out, hd1]; rfl))
              by_cases hlt2 : s < k
              · go_wp2_with fail
                go_roundw
                case rel => exact ⟨j + 1, by omega, by go_num, Lib.hid ⟨HB14.out, HN.out⟩⟩
                case measure => simp [intOf]; omega
              · obtain rfl : s = k := by omega
                clear hlt2
                go_wp2_with fail
                go_roundw
                case rel => exact ⟨j + 1, by omega, by go_num, Lib.hid ⟨HB14.out, HN.out⟩⟩
                case measure => simp [intOf]; omega
            | false =>
              have hd1 : (dv != 0) = true := by simp at hd0; simp [hd0]
              have HDN := Lib.hid (show dv ≠ 0 by simpa using hd0)
              by_cases hlt2 : s < k
              · obtain ⟨br, or_, r, rfl, hr, r0, r1, r2, r3⟩ := HRV3.out.rs hlt2
                obtain ⟨b, off, x, P, Q, F', p', pc', q', qc', f', fc', rfl, hx, _⟩ := HLV3.out.rtes.at_ hlt2
                replace r0 := cell_stay HB14.out r0
                replace r1 := cell_stay HB14.out r1
                replace r2 := cell_stay HB14.out r2
                replace r3 := cell_stay HB14.out r3
                have KN := Lib.hid (RefNeeds15_calls wr (HLV3.out.stay HB14.out) s x hx (HOK.out.needs x (List.mem_of_getElem? hx)) (j : Int))
                have KH := Lib.hid (fun (W : World) (hb : Below wr.heap.size wr W) => RefHolds_calls W ((HLV3.out.stay HB14.out).stay hb) s x hx r (HU.out s x r hx hr HRL.out) y.sec)
                have HBD : Hid (hBad2 L O rs j s = ((((r.m == 2) || (r.m == 3) || (r.m == 4)) && (needM (x.points ++ x.flank) j != 0) && (needM (x.points ++ x.flank) j != dv)) || (holdsM x r y.sec && (needM (x.points ++ x.flank) j != dv)))) := Lib.hid (by unfold hBad2; rw [hx, hr, HY.out, HD.out])
                obtain ⟨rm, rt, rg, rs'⟩ := r
                simp only at r0 r1 r2 r3 KH HBD
                generalize needM (x.points ++ x.flank) j = nv at *
                generalize holdsM x ⟨rm, rt, rg, rs'⟩ y.sec = ho at *
                have HSL := Lib.hid (show s < rs.length by have := HLN.out; omega)
                clear hr hx
                go_upto_region 21 with (first
                  | (go_at_call 29; refine KN.out.mono ?_; rintro e w5 ⟨rfl, hb5⟩; have HB5 := Lib.hid hb5; (replace l0 := cell_stay hb5 l0); (replace l1 := cell_stay hb5 l1); (replace l2 := cell_stay hb5 l2); (replace l3 := cell_stay hb5 l3); (replace o0 := cell_stay hb5 o0); (replace o1 := cell_stay hb5 o1); (replace r0 := cell_stay hb5 r0); (replace r1 := cell_stay hb5 r1); (replace r2 := cell_stay hb5 r2); (replace r3 := cell_stay hb5 r3); (replace cd := cell_stay hb5 cd); (replace cy := cell_stay hb5 cy); clear hb5)
                  | fail)
                have HB15 := Lib.hid (below_more HB4.out HB5.out)
                go_cut [16] (fun v wx => v = .bool ((rm == 2) || (rm == 3) || (rm == 4)) ∧ wx = w5)
                case first =>
                  by_cases m2 : rm = 2
                  · have k2 : (rm == 2) = true := by simp [m2]
                    clear m2
                    go_wp2_with fail
                    go_meet
                    exact ⟨by rw [k2]; rfl, rfl⟩
                  have k2 : (rm == 2) = false := by simp [m2]
                  by_cases m3 : rm = 3
                  · have k3 : (rm == 3) = true := by simp [m3]
                    clear m2 m3
                    go_wp2_with fail
                    go_meet
                    exact ⟨by rw [k2, k3]; rfl, rfl⟩
                  have k3 : (rm == 3) = false := by simp [m3]
                  clear m2 m3
                  cases k4 : (rm == 4)
                  all_goals
                    go_wp2_with fail
                    go_meet
                    exact ⟨by rw [k2, k3, k4]; rfl, rfl⟩
                case rest =>
                  obtain ⟨rfl, rfl⟩ := hcut
                  generalize ((rm == 2) || (rm == 3) || (rm == 4)) = z at *
                  generalize he0 : (nv != 0) = e0 at *
                  generalize he1 : (nv != dv) = e1 at *
                  have KH5 := Lib.hid (fun zz : Later wc => KH.out zz.w1 (below_more HB5.out zz.hb))
                  clear KN KH
                  go_upto_region 22 with fail
                  go_cut [147] (fun v wx => v = .bool ((z && e0 && e1) || (ho && e1)) ∧ Below wc.heap.size wc wx)
                  case first =>
                    have Ll0 := later_cell l0
                    have Ll1 := later_cell l1
                    have Ll2 := later_cell l2
                    have Ll3 := later_cell l3
                    have Lr0 := later_cell r0
                    have Lr1 := later_cell r1
                    have Lr2 := later_cell r2
                    have Lr3 := later_cell r3
                    have Lcy := later_cell cy
                    cases z <;> cases e0 <;> cases e1 <;> cases ho
                    all_goals
                      refine wp_region_later (by kernel_rfl) (by kernel_rfl) ?_
                      repeat (go_big_quiet_step ((first | (go_at_call 30; rename_i zz; exact later_call zz (KH5.out zz)) | fail)))
                      refine wpQuiet_nil ?_
                      intro q0
                      go_wp2_with fail
                      go_meet
                      exact ⟨rfl, q0.hb⟩
                  case rest =>
                    obtain ⟨rfl, hb6⟩ := hcut
                    have HB6 := Lib.hid (below_more HB15.out hb6)
                    clear hb6
                    generalize ((z && e0 && e1) || (ho && e1)) = bad at *
                    cases bad with
                    | false =>
                      have HN := Lib.hid (no_more HN4.out HBD.out)
                      go_wp2_with fail
                      go_roundw
                      case rel => exact ⟨s + 1, by omega, by go_num, Lib.hid ⟨HB6.out, fun h => absurd h HDN.out, HN.out⟩⟩
                      case measure => simp [intOf]; omega
                    | true =>
                      have HE := Lib.hid (range_any_at (n := O.drive.length) (by have := HLN.out; omega) (show hBads2 L O rs j = true by unfold hBads2; rw [HD.out, hd1, range_any_at HSL.out HBD.out]; rfl))
                      go_wp2_with fail
                      go_ret
                      exact ⟨ret_bool (by rw [HF.out, HN0.out, HE.out]; rfl), below_more HBW3.out (below_more HB1.out HB6.out)⟩
              · obtain rfl : s = k := by omega
                have HN := Lib.hid (no_more HN1.out (show hBads2 L O rs j = false by unfold hBads2; rw [range_any_no (n := rs.length) (fun i hi => HN4.out i (by have := HLN.out; omega))]; simp))
                clear hlt2
                go_wp2_with fail
                go_roundw
                case rel => exact ⟨j + 1, by omega, by go_num, Lib.hid ⟨HB14.out, HN.out⟩⟩
                case measure => simp [intOf]; omega
        · obtain rfl : j = p := by omega
          have HE : Hid ((List.range O.drive.length).any (hBads2 L O rs) = false) := Lib.hid (range_any_no (by rw [HLN.out.2.2.2.2.1]; exact HN1.out))
          clear hlt
          go_wp2_with fail
          go_ret
          exact ⟨ret_bool (by rw [HF.out, HN0.out, HE.out]; rfl), below_more HBW3.out HB1.out⟩
end
end Go.Proofs.YtmdggodkkkihhaaDoor

/- A Lock in memory: a layout that came in, how its routes stand. -/
set_option linter.unusedVariables false
set_option linter.unusedSimpArgs false
namespace Go.Proofs.YtmdggodkkkihhaaDoor
open Go.RowKit

/-- A Lock of type T at block g: its layout lay there in w0, its routes lie in block rb (tl: what the row has to spare). -/
structure Lk (T : TypeId) (w0 w : World) (g rb : Nat) (L : Lay) (A1 A2 A3 A4 : Option Addr) (n1 c1 n2 c2 n3 c3 n4 c4 kc : Nat) (rs : List Rs) (tl : List Value) : Prop where
  lay : LayV w0 L A1 A2 A3 A4 n1 c1 n2 c2 n3 c3 n4 c4
  hb : Below w0.heap.size w0 w
  blk : Blk w g #[.slice A1 n1 c1, .slice A2 n2 c2, .slice A3 n3 c3, .slice A4 n4 c4, .slice (some ⟨rb, 0, none⟩) n4 kc] T (0, 0)
  row : Blk w rb (rs.flatMap flR.enc ++ tl).toArray 69 (0, 0)
  len : rs.length = n4
  cap : n4 ≤ kc ∧ kc ≤ 1000000
  lg : w0.heap.size ≤ g
  lr : w0.heap.size ≤ rb
  ne : g ≠ rb
section
variable {T : TypeId} {w0 w w1 : World} {g rb : Nat} {L : Lay} {A1 A2 A3 A4 : Option Addr} {n1 c1 n2 c2 n3 c3 n4 c4 kc : Nat} {rs : List Rs} {tl : List Value}
theorem Lk.stay (h : Lk T w0 w g rb L A1 A2 A3 A4 n1 c1 n2 c2 n3 c3 n4 c4 kc rs tl) (hb : Below w.heap.size w w1) : Lk T w0 w1 g rb L A1 A2 A3 A4 n1 c1 n2 c2 n3 c3 n4 c4 kc rs tl :=
  ⟨h.lay, below_more h.hb hb, h.blk.below hb h.blk.lt, h.row.below hb h.row.lt, h.len, h.cap, h.lg, h.lr, h.ne⟩
theorem Lk.layv (h : Lk T w0 w g rb L A1 A2 A3 A4 n1 c1 n2 c2 n3 c3 n4 c4 kc rs tl) : LayV w L A1 A2 A3 A4 n1 c1 n2 c2 n3 c3 n4 c4 := h.lay.stay h.hb
theorem row_cell {j i : Nat} {r : Rs} {u : Value} (h : Blk w rb (rs.flatMap flR.enc ++ tl).toArray 69 (0, 0)) (hr : rs[j]? = some r) (hi : i < 4) (hu : (flR.enc r)[i]? = some u) : w.cell? ⟨rb, j * 4 + i, none⟩ = some u := by
  rw [h.cell]
  have hl : (rs.flatMap flR.enc).length = rs.length * 4 := flat_length flR rs
  have hj := (List.getElem?_eq_some_iff.1 hr).1
  have h1 := flat_get flR rs j i hi
  rw [List.getElem?_toArray, List.getElem?_append_left (by rw [hl]; omega)]
  have h2 : (rs.flatMap flR.enc)[j * 4 + i]? = (rs[j]?).bind fun x => (flR.enc x)[i]? := h1
  rw [h2, hr]
  exact hu
theorem row_at {j : Nat} {r : Rs} (h : Blk w rb (rs.flatMap flR.enc ++ tl).toArray 69 (0, 0)) (hr : rs[j]? = some r) :
    w.cell? ⟨rb, j * 4, none⟩ = some (.int .i64 r.m) ∧ w.cell? ⟨rb, j * 4 + 1, none⟩ = some (.int .i64 r.t) ∧ w.cell? ⟨rb, j * 4 + 2, none⟩ = some (.int .i64 r.g) ∧ w.cell? ⟨rb, j * 4 + 3, none⟩ = some (.bool r.s) :=
  ⟨row_cell h hr (i := 0) (by omega) rfl, row_cell h hr (i := 1) (by omega) rfl, row_cell h hr (i := 2) (by omega) rfl, row_cell h hr (i := 3) (by omega) rfl⟩
theorem Lk.sl (h : Lk T w0 w g rb L A1 A2 A3 A4 n1 c1 n2 c2 n3 c3 n4 c4 kc rs tl) : Sl flR w (some ⟨rb, 0, none⟩) n4 kc rs := by
  have := h.cap
  refine ⟨⟨h.len, by omega, fun hn => ⟨rb, 0, rfl, fun j x hx i u hu => ?_⟩⟩, h.cap.1, by omega, by omega⟩
  have hi : i < 4 := by
    have := (List.getElem?_eq_some_iff.1 hu).1
    simpa [flR] using this
  have := row_cell h.row hx hi hu
  simpa [flR] using this
theorem flat_set (tl : List Value) (u : Value) (z : Rs) : ∀ (rs : List Rs) (r : Nat) (y : Rs) (i : Nat), rs[r]? = some y → i < 4 → flR.enc z = (flR.enc y).set i u → (rs.flatMap flR.enc ++ tl).set (r * 4 + i) u = (rs.set r z).flatMap flR.enc ++ tl
  | [], r, y, i, h, _, _ => by simp at h
  | a :: t, 0, y, i, h, hi, he => by
    simp only [List.getElem?_cons_zero, Option.some.injEq] at h
    subst h
    rw [List.set_cons_zero, List.flatMap_cons, List.flatMap_cons, Nat.zero_mul, Nat.zero_add, List.append_assoc, List.append_assoc, List.set_append_left _ _ (by show i < 4; exact hi), he]
  | a :: t, r + 1, y, i, h, hi, he => by
    have ih := flat_set tl u z t r y i (by simpa using h) hi he
    rw [List.set_cons_succ, List.flatMap_cons, List.flatMap_cons, List.append_assoc, List.append_assoc, List.set_append_right _ _ (by show 4 ≤ _; omega), ← ih]
    congr 2
    show (r + 1) * 4 + i - 4 = r * 4 + i
    omega
theorem Lk.put (h : Lk T w0 w g rb L A1 A2 A3 A4 n1 c1 n2 c2 n3 c3 n4 c4 kc rs tl) {r i : Nat} {y : Rs} (hy : rs[r]? = some y) (hi : i < 4) (u : Value) (z : Rs) (he : flR.enc z = (flR.enc y).set i u) :
    Lk T w0 (w.setCell ⟨rb, r * 4 + i, none⟩ u) g rb L A1 A2 A3 A4 n1 c1 n2 c2 n3 c3 n4 c4 kc (rs.set r z) tl := by
  refine ⟨h.lay, h.hb.setCell (p := ⟨rb, r * 4 + i, none⟩) h.lr u, h.blk.far (p := ⟨rb, r * 4 + i, none⟩) h.ne u, ?_, by rw [List.length_set]; exact h.len, h.cap, h.lg, h.lr, h.ne⟩
  have hp := h.row.put (r * 4 + i) u
  rw [List.setIfInBounds_toArray, flat_set tl u z rs r y i hy hi he] at hp
  exact hp
theorem set_at {rs : List Rs} {r : Nat} {y z : Rs} (hy : rs[r]? = some y) : (rs.set r z)[r]? = some z := by
  rw [List.getElem?_set_self (List.getElem?_eq_some_iff.1 hy).1]
/-- A whole state is stored. -/
theorem Lk.put4 (h : Lk T w0 w g rb L A1 A2 A3 A4 n1 c1 n2 c2 n3 c3 n4 c4 kc rs tl) {r : Nat} {y : Rs} (hy : rs[r]? = some y) (z : Rs) :
    Lk T w0 ((((w.setCell ⟨rb, r * 4, none⟩ (.int .i64 z.m)).setCell ⟨rb, r * 4 + 1, none⟩ (.int .i64 z.t)).setCell ⟨rb, r * 4 + 2, none⟩ (.int .i64 z.g)).setCell ⟨rb, r * 4 + 3, none⟩ (.bool z.s)) g rb L A1 A2 A3 A4 n1 c1 n2 c2 n3 c3 n4 c4 kc (rs.set r z) tl := by
  have h1 := h.put hy (i := 0) (by omega) (.int .i64 z.m) ⟨z.m, y.t, y.g, y.s⟩ rfl
  have h2 := h1.put (set_at hy) (i := 1) (by omega) (.int .i64 z.t) ⟨z.m, z.t, y.g, y.s⟩ rfl
  rw [List.set_set] at h2
  have h3 := h2.put (set_at hy) (i := 2) (by omega) (.int .i64 z.g) ⟨z.m, z.t, z.g, y.s⟩ rfl
  rw [List.set_set] at h3
  have h4 := h3.put (set_at hy) (i := 3) (by omega) (.bool z.s) z rfl
  rw [List.set_set] at h4
  exact h4
theorem only_put {w w1 : World} {rb : Nat} (h : Only (fun b => b = rb) w w1) (o : Nat) (u : Value) : Only (fun b => b = rb) w (w1.setCell ⟨rb, o, none⟩ u) :=
  h.trans (Only.put _ _) (fun _ _ h => h) (fun _ _ h => h)
theorem only_put4 {w w1 : World} {rb : Nat} (h : Only (fun b => b = rb) w w1) (a b c d : Nat) (x y z u : Value) : Only (fun b => b = rb) w ((((w1.setCell ⟨rb, a, none⟩ x).setCell ⟨rb, b, none⟩ y).setCell ⟨rb, c, none⟩ z).setCell ⟨rb, d, none⟩ u) :=
  only_put (only_put (only_put (only_put h _ _) _ _) _ _) _ _
theorem only_of {w w1 : World} {rb : Nat} (h : Below w.heap.size w w1) : Only (fun b => b = rb) w w1 := (Only.of_below h (S := fun b => b = rb))
/-- A row that does not lie in the blocks that have turned. -/
theorem Sl.only {α : Type} {f : Fl α} {w w1 : World} {S : Nat → Prop} {A : Option Addr} {n c : Nat} {xs : List α} (h : Sl f w A n c xs) (ho : Only S w w1) (hn : ∀ a, A = some a → ¬ S a.block) : Sl f w1 A n c xs := by
  refine ⟨⟨h.rf.1, h.rf.2.1, fun h0 => ?_⟩, h.le, h.cap, h.sz⟩
  obtain ⟨b, off, e, hc⟩ := h.rf.2.2 h0
  refine ⟨b, off, e, fun j x hx i v hv => ?_⟩
  have := hc j x hx i v hv
  rw [← this]
  have hb : b < w.heap.size := cell_lt this
  have := ho.block b hb (hn _ e)
  simp only [World.cell?, this]
theorem InV.only {I : Inn} {w w1 : World} {S : Nat → Prop} {C D : Option Addr} {n c m d : Nat} (h : InV w I C D n c m d) (ho : Only S w w1) (hC : ∀ a, C = some a → ¬ S a.block) (hD : ∀ a, D = some a → ¬ S a.block) : InV w1 I C D n c m d := ⟨h.occ.only ho hC, h.lies.only ho hD⟩
end
/-- Behind a step of a Lock: its routes stand so; nothing else has turned. -/
def StepPost (T : TypeId) (w0 w : World) (g rb : Nat) (L : Lay) (A1 A2 A3 A4 : Option Addr) (n1 c1 n2 c2 n3 c3 n4 c4 kc : Nat) (rs : List Rs) (tl : List Value) (v : Value) (e : Ending) (w' : World) : Prop :=
  e = .returned v ∧ Lk T w0 w' g rb L A1 A2 A3 A4 n1 c1 n2 c2 n3 c3 n4 c4 kc rs tl ∧ Only (fun b => b = rb) w w'
theorem set_same {rs : List Rs} {r : Nat} {y : Rs} (hy : rs[r]? = some y) : rs.set r y = rs := by
  obtain ⟨h, e⟩ := List.getElem?_eq_some_iff.1 hy
  rw [← e]
  exact List.set_getElem_self h
end Go.Proofs.YtmdggodkkkihhaaDoor

/- Contract: the reference's Lock's Holder. -/
set_option linter.unusedVariables false
set_option linter.unusedSimpArgs false
namespace Go.Proofs.YtmdggodkkkihhaaDoor
open Go.RowKit

def holdsAt (L : Lay) (rs : List Rs) (sec : Int) (i : Nat) : Bool := match L.rtes[i]?, rs[i]? with
  | some x, some r => holdsM x r sec
  | _, _ => false
/-- The route that holds a section; below 0: none does. -/
def holderM (L : Lay) (rs : List Rs) (sec : Int) : Int := match (List.range rs.length).find? (holdsAt L rs sec) with
  | some i => i
  | none => -1
theorem holder_yes {L : Lay} {rs : List Rs} {sec : Int} {i : Nat} (hi : i < rs.length) (hp : holdsAt L rs sec i = true) (hb : ∀ j, j < i → holdsAt L rs sec j = false) : holderM L rs sec = i := by
  have h : (List.range rs.length).find? (holdsAt L rs sec) = some i := by
    refine List.find?_eq_some_iff_getElem.2 ⟨hp, i, by simpa using hi, by simp, fun j hj => ?_⟩
    rw [List.getElem_range, hb j hj]
    rfl
  unfold holderM
  rw [h]
theorem holder_no {L : Lay} {rs : List Rs} {sec : Int} {n : Nat} (hn : rs.length = n) (hb : ∀ j, j < n → holdsAt L rs sec j = false) : holderM L rs sec = -1 := by
  have h : (List.range rs.length).find? (holdsAt L rs sec) = none := List.find?_eq_none.2 (fun j hj => by rw [hb j (by have := List.mem_range.1 hj; omega)]; decide)
  unfold holderM
  rw [h]
section
variable {L : Lay} {A1 A2 A3 A4 : Option Addr} {n1 c1 n2 c2 n3 c3 n4 c4 kc : Nat} {rs : List Rs} {tl : List Value}
set_option maxRecDepth 20000 in
set_option maxHeartbeats 8000000 in
theorem RefHolder_calls (w0 w : World) (g rb : Nat) (h : Lk 52 w0 w g rb L A1 A2 A3 A4 n1 c1 n2 c2 n3 c3 n4 c4 kc rs tl)
    (hu : ∀ (i : Nat) (x : Rte) (r : Rs), L.rtes[i]? = some x → rs[i]? = some r → UsedOk r x) (sec : Int) :
    Calls Tryd.prog 35 #[.pointer (some ⟨g, 0, none⟩), .int .i64 sec] w fun e w' => e = .returned (.int .i64 (holderM L rs sec)) ∧ Below w.heap.size w w' := by
  have g0 := h.blk.cell 0
  have g1 := h.blk.cell 1
  have g2 := h.blk.cell 2
  have g3 := h.blk.cell 3
  have g4 := h.blk.cell 4
  simp only [List.getElem?_toArray, List.getElem?_cons_zero, List.getElem?_cons_succ] at g0 g1 g2 g3 g4
  have HK := Lib.hid h
  have HU := Lib.hid hu
  have hcap := h.cap
  have HLN := Lib.hid (And.intro h.len h.lay.rtes.len)
  clear h hu
  go_enter Tryd.func35, Tryd.ntmps35
  go_wp2_with fail
  go_loopw [5] (fun i wr => ∃ j : Nat, j ≤ n4 ∧ i = .int .i64 j ∧ Hid (Below w.heap.size w wr ∧ ∀ i, i < j → holdsAt L rs sec i = false)) (fun i _ => n4 - (intOf i).toNat)
  case atStart => exact ⟨0, by omega, rfl, Lib.hid ⟨Below.refl _ _, fun j h => absurd h (by omega)⟩⟩
  case round =>
    obtain ⟨j, hj, rfl, hr⟩ := hrel
    have HB := Lib.hid hr.out.1
    have HN := Lib.hid hr.out.2
    replace g0 := cell_stay HB.out g0
    replace g1 := cell_stay HB.out g1
    replace g2 := cell_stay HB.out g2
    replace g3 := cell_stay HB.out g3
    replace g4 := cell_stay HB.out g4
    clear hr
    by_cases hlt : j < n4
    · obtain ⟨r, hr⟩ : ∃ r, rs[j]? = some r := ⟨_, List.getElem?_eq_getElem (by have := HLN.out; omega)⟩
      obtain ⟨x, hx⟩ : ∃ x, L.rtes[j]? = some x := ⟨_, List.getElem?_eq_getElem (by have := HLN.out; omega)⟩
      obtain ⟨r0, r1, r2, r3⟩ := row_at (HK.out.stay HB.out).row hr
      have KH := Lib.hid (fun z : Later wr => RefHolds_calls z.w1 ((HK.out.stay HB.out).layv.stay z.hb) j x hx r (HU.out j x r hx hr) sec)
      have HA : Hid (holdsAt L rs sec j = holdsM x r sec) := Lib.hid (by unfold holdsAt; rw [hx, hr])
      have HJ := Lib.hid (show j < rs.length by have := HLN.out; omega)
      have hjn : (j : Int) < n4 := by omega
      obtain ⟨rm, rt, rg, rs'⟩ := r
      simp only at r0 r1 r2 r3 KH
      generalize holdsM x ⟨rm, rt, rg, rs'⟩ sec = ho at *
      clear hr hx
      have Lg0 := later_cell g0
      have Lg1 := later_cell g1
      have Lg2 := later_cell g2
      have Lg3 := later_cell g3
      have Lg4 := later_cell g4
      have Lr0 := later_cell r0
      have Lr1 := later_cell r1
      have Lr2 := later_cell r2
      have Lr3 := later_cell r3
      cases ho with
      | true =>
        have HE := Lib.hid (holder_yes HJ.out HA.out HN.out)
        go_wp2_with fail
        refine wp_region_later (by kernel_rfl) (by kernel_rfl) ?_
        repeat (go_big_quiet_step ((first | (go_at_call 30; rename_i z; exact later_call z (KH.out z)) | fail)))
        refine wpQuiet_nil ?_
        intro q0
        go_wp2_with fail
        go_ret
        exact ⟨ret_int (by rw [HE.out]), below_more HB.out q0.hb⟩
      | false =>
        have HN2 := Lib.hid (no_more HN.out HA.out)
        go_wp2_with fail
        refine wp_region_later (by kernel_rfl) (by kernel_rfl) ?_
        repeat (go_big_quiet_step ((first | (go_at_call 30; rename_i z; exact later_call z (KH.out z)) | fail)))
        refine wpQuiet_nil ?_
        intro q0
        go_wp2_with fail
        go_roundw
        case rel => exact ⟨j + 1, by omega, by go_num, Lib.hid ⟨below_more HB.out q0.hb, HN2.out⟩⟩
        case measure => simp [intOf]; omega
    · obtain rfl : j = n4 := by omega
      have HE := Lib.hid (holder_no HLN.out.1 HN.out)
      clear hlt
      go_wp2_with fail
      go_ret
      exact ⟨ret_int (by rw [HE.out]), HB.out⟩
end
end Go.Proofs.YtmdggodkkkihhaaDoor

/- Contract: the reference's Lock's step of one route. -/
set_option linter.unusedVariables false
set_option linter.unusedSimpArgs false
namespace Go.Proofs.YtmdggodkkkihhaaDoor
open Go.RowKit

theorem later_cell2 {w : World} {p : Addr} {v : Value} (h : w.cell? p = some v) : ∀ (z : Later w) (q : Later z.w1), q.w1.cell? p = some v := fun z q => cell_stay q.hb (cell_stay z.hb h)
theorem later_cell3 {w : World} {p : Addr} {v : Value} (h : w.cell? p = some v) : ∀ (y : Later w) (z : Later y.w1) (q : Later z.w1), q.w1.cell? p = some v := fun y z q => cell_stay q.hb (cell_stay z.hb (cell_stay y.hb h))
def occM (I : Inn) (path : List Int) (j : Nat) : Bool := I.occ.getD (path.getD j 0).toNat false
def rz : Rs := ⟨0, 0, 0, false⟩
/-- How a route stands next. -/
def stepM (I : Inn) (x : Rte) (y : Rs) : Rs :=
  if y.m = 1 then if rightM I (x.points ++ x.flank) = true then ⟨2, 0, 0, false⟩ else if 8 < y.t + 1 then rz else ⟨y.m, y.t + 1, y.g, y.s⟩
  else if (y.m = 2 ∨ y.m = 4) ∧ occM I x.path 0 = true then ⟨3, 0, 0, true⟩
  else if y.m = 4 then if y.t + 1 = 6 then rz else ⟨y.m, y.t + 1, y.g, y.s⟩
  else if y.m = 3 then if occM I x.path y.g.toNat = true then ⟨y.m, y.t, y.g, true⟩ else if y.s = true then if y.g + 1 = x.path.length then rz else ⟨y.m, y.t, y.g + 1, false⟩ else y
  else y
section
variable {L : Lay} {A1 A2 A3 A4 : Option Addr} {n1 c1 n2 c2 n3 c3 n4 c4 kc : Nat} {rs : List Rs} {tl : List Value} {I : Inn} {C D : Option Addr} {n c m d : Nat}
set_option maxRecDepth 20000 in
set_option maxHeartbeats 8000000 in
theorem RefStep_calls (w0 w : World) (g rb : Nat) (h : Lk 52 w0 w g rb L A1 A2 A3 A4 n1 c1 n2 c2 n3 c3 n4 c4 kc rs tl) (hI : InV w I C D n c m d) (r : Nat) (y : Rs) (hr : rs[r]? = some y) (x : Rte) (hx : L.rtes[r]? = some x) (hok : RteOk I x) (hone : oneM y x.path.length = true) (hpl : 1 ≤ x.path.length) :
    Calls Tryd.prog 33 #[.pointer (some ⟨g, 0, none⟩), .agg #[.slice C n c, .slice D m d], .int .i64 r] w (StepPost 52 w0 w g rb L A1 A2 A3 A4 n1 c1 n2 c2 n3 c3 n4 c4 kc (rs.set r (stepM I x y)) tl (.tuple #[])) := by
  have hlt : r < n4 := by
    have := h.lay.rtes.len
    have := (List.getElem?_eq_some_iff.1 hx).1
    omega
  have hbw : Below w.heap.size w (w.alloc (.cells #[.slice C n c, .slice D m d] 30)) := below_new w _
  have hB_i := Blk.at_ (w := w) (g := w.heap.size) (by simp) #[.slice C n c, .slice D m d] 30 (0, 0)
  have i0 := hB_i.cell 0
  have i1 := hB_i.cell 1
  simp only [List.getElem?_toArray, List.getElem?_cons_zero, List.getElem?_cons_succ] at i0 i1
  clear hB_i
  have hB := h.stay hbw
  have KR := Lib.hid (fun z : Later (w.alloc (.cells #[.slice C n c, .slice D m d] 30)) => RefRight_calls z.w1 (hB.layv.stay z.hb) ((hI.stay hbw).stay z.hb) r x hx hok)
  have g0 := hB.blk.cell 0
  have g1 := hB.blk.cell 1
  have g2 := hB.blk.cell 2
  have g3 := hB.blk.cell 3
  have g4 := hB.blk.cell 4
  simp only [List.getElem?_toArray, List.getElem?_cons_zero, List.getElem?_cons_succ] at g0 g1 g2 g3 g4
  obtain ⟨r0, r1, r2, r3⟩ := row_at hB.row hr
  have HFR := Lib.hid (fun (z : Later (w.alloc (.cells #[.slice C n c, .slice D m d] 30))) (o : Nat) => (hB.stay z.hb).row.free o)
  have HST := Lib.hid (fun (z : Later (w.alloc (.cells #[.slice C n c, .slice D m d] 30))) => hB.stay z.hb)
  have hcap := hB.cap
  have HY := Lib.hid hr
  have HI := Lib.hid (hI.stay hbw)
  have HBW := Lib.hid hbw
  have HP := Lib.hid hok.path
  obtain ⟨b, off, x', P, Q, F, p, pc, q, qc, f, fc, rfl, hx', _, _, _, k3, _, _, hv⟩ := hB.layv.rtes.at_ hlt
  obtain rfl : x' = x := by rw [hx] at hx'; exact (Option.some.inj hx').symm
  have HPV := Lib.hid hv.path
  have HPL := Lib.hid hv.path.len
  have hp1 : 1 ≤ p := by have := HPL.out; omega
  have hp2 := Nat.le_trans hv.path.le hv.path.cap
  have HON := Lib.hid hone
  have HIL := Lib.hid hI.occ.len
  have qn := Nat.le_trans hI.occ.le hI.occ.cap
  obtain ⟨ym, yt, yg, ys⟩ := y
  simp only at r0 r1 r2 r3
  clear h hB hI hr hx hx' hok hv hone hpl hbw
  by_cases m1 : ym = 1
  · obtain ⟨t0, t8⟩ : 0 ≤ yt ∧ yt ≤ 8 := by
      have := HON.out
      unfold oneM at this
      rw [if_pos m1] at this
      simp only [Bool.and_eq_true, decide_eq_true_eq] at this
      exact ⟨this.1.1.1, this.1.1.2⟩
    subst m1
    generalize hrm : rightM I (x'.points ++ x'.flank) = rm at *
    cases rm with
    | true =>
      have HF : Hid (stepM I x' ⟨1, yt, yg, ys⟩ = ⟨2, 0, 0, false⟩) := Lib.hid (by unfold stepM; rw [if_pos rfl, if_pos hrm])
      clear hrm
      go_enter Tryd.func33, Tryd.ntmps33
      go_wp2_with fail
      have Lg0 := later_cell g0
      have Lg1 := later_cell g1
      have Lg2 := later_cell g2
      have Lg3 := later_cell g3
      have Lg4 := later_cell g4
      have Li0 := later_cell i0
      have Li1 := later_cell i1
      have Lr0 := later_cell r0
      have Lr1 := later_cell r1
      have Lr2 := later_cell r2
      have Lr3 := later_cell r3
      refine wp_region_later (by kernel_rfl) (by kernel_rfl) ?_
      repeat (go_big_quiet_step ((first | (go_at_call 38; rename_i z; exact later_call z (KR.out z)) | fail)))
      refine wpQuiet_nil ?_
      intro q0
      have f0 := HFR.out q0 (r * 4)
      have f1 := HFR.out q0 (r * 4 + 1)
      have f2 := HFR.out q0 (r * 4 + 2)
      have f3 := HFR.out q0 (r * 4 + 3)
      go_wp2_with fail
      go_end0
      exact ⟨rfl, by rw [HF.out]; exact (HST.out q0).put4 HY.out ⟨2, 0, 0, false⟩, only_put4 (only_of (below_more HBW.out q0.hb)) _ _ _ _ _ _ _ _⟩
    | false =>
      --GEN
      by_cases h9 : 8 < yt + 1
      · have HF : Hid (stepM I x' ⟨1, yt, yg, ys⟩ = rz) := Lib.hid (by unfold stepM; rw [if_pos rfl, if_neg (by rw [hrm]; decide), if_pos h9])
        clear hrm
        go_enter Tryd.func33, Tryd.ntmps33
        go_wp2_with fail
        have Lg0 := later_cell g0
        have Lg1 := later_cell g1
        have Lg2 := later_cell g2
        have Lg3 := later_cell g3
        have Lg4 := later_cell g4
        have Li0 := later_cell i0
        have Li1 := later_cell i1
        have Lr0 := later_cell r0
        have Lr1 := later_cell r1
        have Lr2 := later_cell r2
        have Lr3 := later_cell r3
        refine wp_region_later (by kernel_rfl) (by kernel_rfl) ?_
        repeat (go_big_quiet_step ((first | (go_at_call 38; rename_i z; exact later_call z (KR.out z)) | fail)))
        refine wpQuiet_nil ?_
        intro q0
        have HKA := Lib.hid (HST.out q0)
        have HOA := Lib.hid (below_more HBW.out q0.hb)
        have f0 := HKA.out.row.free (r * 4)
        have f1 := HKA.out.row.free (r * 4 + 1)
        have f2 := HKA.out.row.free (r * 4 + 2)
        have f3 := HKA.out.row.free (r * 4 + 3)
        go_wp2_with fail
        go_end0
        refine ⟨rfl, ?_, only_put4 (only_put (only_of HOA.out) _ _) _ _ _ _ _ _ _ _⟩
        rw [HF.out]
        have hk := ((HKA.out.put HY.out (i := 1) (by omega) (.int .i64 (yt + 1)) ⟨1, yt + 1, yg, ys⟩ rfl).put4 (set_at HY.out) rz)
        rw [List.set_set] at hk
        exact hk
      · have HF : Hid (stepM I x' ⟨1, yt, yg, ys⟩ = ⟨1, yt + 1, yg, ys⟩) := Lib.hid (by unfold stepM; rw [if_pos rfl, if_neg (by rw [hrm]; decide), if_neg h9])
        clear hrm
        go_enter Tryd.func33, Tryd.ntmps33
        go_wp2_with fail
        have Lg0 := later_cell g0
        have Lg1 := later_cell g1
        have Lg2 := later_cell g2
        have Lg3 := later_cell g3
        have Lg4 := later_cell g4
        have Li0 := later_cell i0
        have Li1 := later_cell i1
        have Lr0 := later_cell r0
        have Lr1 := later_cell r1
        have Lr2 := later_cell r2
        have Lr3 := later_cell r3
        refine wp_region_later (by kernel_rfl) (by kernel_rfl) ?_
        repeat (go_big_quiet_step ((first | (go_at_call 38; rename_i z; exact later_call z (KR.out z)) | fail)))
        refine wpQuiet_nil ?_
        intro q0
        have HKA := Lib.hid (HST.out q0)
        have HOA := Lib.hid (below_more HBW.out q0.hb)
        have f0 := HKA.out.row.free (r * 4)
        have f1 := HKA.out.row.free (r * 4 + 1)
        have f2 := HKA.out.row.free (r * 4 + 2)
        have f3 := HKA.out.row.free (r * 4 + 3)
        go_wp2_with fail
        go_end0
        refine ⟨rfl, ?_, only_put (only_of HOA.out) _ _⟩
        rw [HF.out]
        exact HKA.out.put HY.out (i := 1) (by omega) (.int .i64 (yt + 1)) ⟨1, yt + 1, yg, ys⟩ rfl
  have HK0 := Lib.hid (HST.out ⟨_, Below.refl _ _⟩)
  have HO0 := Lib.hid HBW.out
  clear KR HFR HST
  obtain ⟨bp, op, a0, rfl, ha0, ca0⟩ := HPV.out.int (j := 0) (by omega)
  obtain ⟨u0, u1⟩ := HP.out a0 (List.mem_of_getElem? ha0)
  obtain ⟨u, rfl⟩ : ∃ u : Nat, a0 = u := ⟨a0.toNat, by omega⟩
  obtain ⟨bo, oo, yb, rfl, hyb, cyb⟩ := HI.out.occ.tru (j := u) (by have := HIL.out; omega)
  have HOC : Hid (occM I x'.path 0 = yb) := Lib.hid (by unfold occM; rw [getD_of ha0, Int.toNat_natCast]; exact getD_of hyb)
  have hun : (u : Int) < n := by have := HIL.out; omega
  rw [Nat.add_zero] at ca0
  have hp0 : 0 < p := by omega
  clear ha0 hyb u0 u1
  by_cases m2 : ym = 2
  · subst m2
    cases yb with
    | true =>
      have HF : Hid (stepM I x' ⟨2, yt, yg, ys⟩ = ⟨3, 0, 0, true⟩) := Lib.hid (by unfold stepM; rw [if_neg (show ¬ ((2 : Int) = 1) by decide)]; rw [if_pos ⟨.inl rfl, HOC.out⟩])
      go_enter Tryd.func33, Tryd.ntmps33
      go_wp2_with fail
      have Lg0 := later_cell g0
      have Lg1 := later_cell g1
      have Lg2 := later_cell g2
      have Lg3 := later_cell g3
      have Lg4 := later_cell g4
      have Li0 := later_cell i0
      have Li1 := later_cell i1
      have Lr0 := later_cell r0
      have Lr1 := later_cell r1
      have Lr2 := later_cell r2
      have Lr3 := later_cell r3
      have Lca0 := later_cell ca0
      have Lcyb := later_cell cyb
      refine wp_region_later (by kernel_rfl) (by kernel_rfl) ?_
      repeat (go_big_quiet_step (fail))
      refine wpQuiet_nil ?_
      intro q0
      have Kg0 := Lg0 q0
      have Kg1 := Lg1 q0
      have Kg2 := Lg2 q0
      have Kg3 := Lg3 q0
      have Kg4 := Lg4 q0
      have Ki0 := Li0 q0
      have Ki1 := Li1 q0
      have Kr0 := Lr0 q0
      have Kr1 := Lr1 q0
      have Kr2 := Lr2 q0
      have Kr3 := Lr3 q0
      have Kca0 := Lca0 q0
      have Kcyb := Lcyb q0
      replace Lg0 := later_cell Kg0
      replace Lg1 := later_cell Kg1
      replace Lg2 := later_cell Kg2
      replace Lg3 := later_cell Kg3
      replace Lg4 := later_cell Kg4
      replace Li0 := later_cell Ki0
      replace Li1 := later_cell Ki1
      replace Lr0 := later_cell Kr0
      replace Lr1 := later_cell Kr1
      replace Lr2 := later_cell Kr2
      replace Lr3 := later_cell Kr3
      replace Lca0 := later_cell Kca0
      replace Lcyb := later_cell Kcyb
      go_wp2_with fail
      refine wp_region_later (by kernel_rfl) (by kernel_rfl) ?_
      repeat (go_big_quiet_step (fail))
      refine wpQuiet_nil ?_
      intro q1
      have HKA := Lib.hid ((HK0.out.stay q0.hb).stay q1.hb)
      have HOA := Lib.hid (below_more (below_more HO0.out q0.hb) q1.hb)
      have f0 := HKA.out.row.free (r * 4)
      have f1 := HKA.out.row.free (r * 4 + 1)
      have f2 := HKA.out.row.free (r * 4 + 2)
      have f3 := HKA.out.row.free (r * 4 + 3)
      go_wp2_with fail
      go_end0
      exact ⟨rfl, by rw [HF.out]; exact HKA.out.put4 HY.out ⟨3, 0, 0, true⟩, only_put4 (only_of HOA.out) _ _ _ _ _ _ _ _⟩
    | false =>
      have HF : Hid (stepM I x' ⟨2, yt, yg, ys⟩ = ⟨2, yt, yg, ys⟩) := Lib.hid (by unfold stepM; rw [if_neg (show ¬ ((2 : Int) = 1) by decide)]; rw [if_neg (fun h => by rw [HOC.out] at h; exact absurd h.2 (by decide))]; rw [if_neg (show ¬ ((2 : Int) = 4) by decide), if_neg (show ¬ ((2 : Int) = 3) by decide)])
      go_enter Tryd.func33, Tryd.ntmps33
      go_wp2_with fail
      have Lg0 := later_cell g0
      have Lg1 := later_cell g1
      have Lg2 := later_cell g2
      have Lg3 := later_cell g3
      have Lg4 := later_cell g4
      have Li0 := later_cell i0
      have Li1 := later_cell i1
      have Lr0 := later_cell r0
      have Lr1 := later_cell r1
      have Lr2 := later_cell r2
      have Lr3 := later_cell r3
      have Lca0 := later_cell ca0
      have Lcyb := later_cell cyb
      refine wp_region_later (by kernel_rfl) (by kernel_rfl) ?_
      repeat (go_big_quiet_step (fail))
      refine wpQuiet_nil ?_
      intro q0
      have Kg0 := Lg0 q0
      have Kg1 := Lg1 q0
      have Kg2 := Lg2 q0
      have Kg3 := Lg3 q0
      have Kg4 := Lg4 q0
      have Ki0 := Li0 q0
      have Ki1 := Li1 q0
      have Kr0 := Lr0 q0
      have Kr1 := Lr1 q0
      have Kr2 := Lr2 q0
      have Kr3 := Lr3 q0
      have Kca0 := Lca0 q0
      have Kcyb := Lcyb q0
      replace Lg0 := later_cell Kg0
      replace Lg1 := later_cell Kg1
      replace Lg2 := later_cell Kg2
      replace Lg3 := later_cell Kg3
      replace Lg4 := later_cell Kg4
      replace Li0 := later_cell Ki0
      replace Li1 := later_cell Ki1
      replace Lr0 := later_cell Kr0
      replace Lr1 := later_cell Kr1
      replace Lr2 := later_cell Kr2
      replace Lr3 := later_cell Kr3
      replace Lca0 := later_cell Kca0
      replace Lcyb := later_cell Kcyb
      go_wp2_with fail
      refine wp_region_later (by kernel_rfl) (by kernel_rfl) ?_
      repeat (go_big_quiet_step (fail))
      refine wpQuiet_nil ?_
      intro q1
      have Kg0 := Lg0 q1
      have Kg1 := Lg1 q1
      have Kg2 := Lg2 q1
      have Kg3 := Lg3 q1
      have Kg4 := Lg4 q1
      have Ki0 := Li0 q1
      have Ki1 := Li1 q1
      have Kr0 := Lr0 q1
      have Kr1 := Lr1 q1
      have Kr2 := Lr2 q1
      have Kr3 := Lr3 q1
      have Kca0 := Lca0 q1
      have Kcyb := Lcyb q1
      replace Lg0 := later_cell Kg0
      replace Lg1 := later_cell Kg1
      replace Lg2 := later_cell Kg2
      replace Lg3 := later_cell Kg3
      replace Lg4 := later_cell Kg4
      replace Li0 := later_cell Ki0
      replace Li1 := later_cell Ki1
      replace Lr0 := later_cell Kr0
      replace Lr1 := later_cell Kr1
      replace Lr2 := later_cell Kr2
      replace Lr3 := later_cell Kr3
      replace Lca0 := later_cell Kca0
      replace Lcyb := later_cell Kcyb
      go_wp2_with fail
      refine wp_region_later (by kernel_rfl) (by kernel_rfl) ?_
      repeat (go_big_quiet_step (fail))
      refine wpQuiet_nil ?_
      intro q2
      have HKA := Lib.hid (((HK0.out.stay q0.hb).stay q1.hb).stay q2.hb)
      have HOA := Lib.hid (below_more (below_more (below_more HO0.out q0.hb) q1.hb) q2.hb)
      have f0 := HKA.out.row.free (r * 4)
      have f1 := HKA.out.row.free (r * 4 + 1)
      have f2 := HKA.out.row.free (r * 4 + 2)
      have f3 := HKA.out.row.free (r * 4 + 3)
      go_wp2_with fail
      go_end0
      exact ⟨rfl, by rw [HF.out, set_same HY.out]; exact HKA.out, only_of HOA.out⟩
  by_cases m4 : ym = 4
  · subst m4
    obtain ⟨t0, t6⟩ : 0 ≤ yt ∧ yt < 6 := by
      have := HON.out
      unfold oneM at this
      rw [if_neg (show ¬ ((4 : Int) = 1) by decide), if_pos rfl] at this
      simp only [Bool.and_eq_true, decide_eq_true_eq] at this
      exact ⟨this.1.1.1, this.1.1.2⟩
    cases yb with
    | true =>
      have HF : Hid (stepM I x' ⟨4, yt, yg, ys⟩ = ⟨3, 0, 0, true⟩) := Lib.hid (by unfold stepM; rw [if_neg (show ¬ ((4 : Int) = 1) by decide)]; rw [if_pos ⟨.inr rfl, HOC.out⟩])
      go_enter Tryd.func33, Tryd.ntmps33
      go_wp2_with fail
      have Lg0 := later_cell g0
      have Lg1 := later_cell g1
      have Lg2 := later_cell g2
      have Lg3 := later_cell g3
      have Lg4 := later_cell g4
      have Li0 := later_cell i0
      have Li1 := later_cell i1
      have Lr0 := later_cell r0
      have Lr1 := later_cell r1
      have Lr2 := later_cell r2
      have Lr3 := later_cell r3
      have Lca0 := later_cell ca0
      have Lcyb := later_cell cyb
      refine wp_region_later (by kernel_rfl) (by kernel_rfl) ?_
      repeat (go_big_quiet_step (fail))
      refine wpQuiet_nil ?_
      intro q0
      have Kg0 := Lg0 q0
      have Kg1 := Lg1 q0
      have Kg2 := Lg2 q0
      have Kg3 := Lg3 q0
      have Kg4 := Lg4 q0
      have Ki0 := Li0 q0
      have Ki1 := Li1 q0
      have Kr0 := Lr0 q0
      have Kr1 := Lr1 q0
      have Kr2 := Lr2 q0
      have Kr3 := Lr3 q0
      have Kca0 := Lca0 q0
      have Kcyb := Lcyb q0
      replace Lg0 := later_cell Kg0
      replace Lg1 := later_cell Kg1
      replace Lg2 := later_cell Kg2
      replace Lg3 := later_cell Kg3
      replace Lg4 := later_cell Kg4
      replace Li0 := later_cell Ki0
      replace Li1 := later_cell Ki1
      replace Lr0 := later_cell Kr0
      replace Lr1 := later_cell Kr1
      replace Lr2 := later_cell Kr2
      replace Lr3 := later_cell Kr3
      replace Lca0 := later_cell Kca0
      replace Lcyb := later_cell Kcyb
      go_wp2_with fail
      refine wp_region_later (by kernel_rfl) (by kernel_rfl) ?_
      repeat (go_big_quiet_step (fail))
      refine wpQuiet_nil ?_
      intro q1
      have HKA := Lib.hid ((HK0.out.stay q0.hb).stay q1.hb)
      have HOA := Lib.hid (below_more (below_more HO0.out q0.hb) q1.hb)
      have f0 := HKA.out.row.free (r * 4)
      have f1 := HKA.out.row.free (r * 4 + 1)
      have f2 := HKA.out.row.free (r * 4 + 2)
      have f3 := HKA.out.row.free (r * 4 + 3)
      go_wp2_with fail
      go_end0
      exact ⟨rfl, by rw [HF.out]; exact HKA.out.put4 HY.out ⟨3, 0, 0, true⟩, only_put4 (only_of HOA.out) _ _ _ _ _ _ _ _⟩
    | false =>
      by_cases h5 : yt = 5
      · subst h5
        have HF : Hid (stepM I x' ⟨4, 5, yg, ys⟩ = rz) := Lib.hid (by unfold stepM; rw [if_neg (show ¬ ((4 : Int) = 1) by decide)]; rw [if_neg (fun h => by rw [HOC.out] at h; exact absurd h.2 (by decide))]; rw [if_pos rfl, if_pos (show (5 : Int) + 1 = 6 by decide)])
        go_enter Tryd.func33, Tryd.ntmps33
        go_wp2_with fail
        have Lg0 := later_cell g0
        have Lg1 := later_cell g1
        have Lg2 := later_cell g2
        have Lg3 := later_cell g3
        have Lg4 := later_cell g4
        have Li0 := later_cell i0
        have Li1 := later_cell i1
        have Lr0 := later_cell r0
        have Lr1 := later_cell r1
        have Lr2 := later_cell r2
        have Lr3 := later_cell r3
        have Lca0 := later_cell ca0
        have Lcyb := later_cell cyb
        refine wp_region_later (by kernel_rfl) (by kernel_rfl) ?_
        repeat (go_big_quiet_step (fail))
        refine wpQuiet_nil ?_
        intro q0
        have Kg0 := Lg0 q0
        have Kg1 := Lg1 q0
        have Kg2 := Lg2 q0
        have Kg3 := Lg3 q0
        have Kg4 := Lg4 q0
        have Ki0 := Li0 q0
        have Ki1 := Li1 q0
        have Kr0 := Lr0 q0
        have Kr1 := Lr1 q0
        have Kr2 := Lr2 q0
        have Kr3 := Lr3 q0
        have Kca0 := Lca0 q0
        have Kcyb := Lcyb q0
        replace Lg0 := later_cell Kg0
        replace Lg1 := later_cell Kg1
        replace Lg2 := later_cell Kg2
        replace Lg3 := later_cell Kg3
        replace Lg4 := later_cell Kg4
        replace Li0 := later_cell Ki0
        replace Li1 := later_cell Ki1
        replace Lr0 := later_cell Kr0
        replace Lr1 := later_cell Kr1
        replace Lr2 := later_cell Kr2
        replace Lr3 := later_cell Kr3
        replace Lca0 := later_cell Kca0
        replace Lcyb := later_cell Kcyb
        go_wp2_with fail
        refine wp_region_later (by kernel_rfl) (by kernel_rfl) ?_
        repeat (go_big_quiet_step (fail))
        refine wpQuiet_nil ?_
        intro q1
        have HKA := Lib.hid ((HK0.out.stay q0.hb).stay q1.hb)
        have HOA := Lib.hid (below_more (below_more HO0.out q0.hb) q1.hb)
        have f0 := HKA.out.row.free (r * 4)
        have f1 := HKA.out.row.free (r * 4 + 1)
        have f2 := HKA.out.row.free (r * 4 + 2)
        have f3 := HKA.out.row.free (r * 4 + 3)
        go_wp2_with fail
        go_end0
        refine ⟨rfl, ?_, only_put4 (only_put (only_of HOA.out) _ _) _ _ _ _ _ _ _ _⟩
        rw [HF.out]
        have hk := ((HKA.out.put HY.out (i := 1) (by omega) (.int .i64 6) ⟨4, 6, yg, ys⟩ rfl).put4 (set_at HY.out) rz)
        rw [List.set_set] at hk
        exact hk
      · have k5 : (yt + 1 == 6) = false := by simp; omega
        have HF : Hid (stepM I x' ⟨4, yt, yg, ys⟩ = ⟨4, yt + 1, yg, ys⟩) := Lib.hid (by unfold stepM; rw [if_neg (show ¬ ((4 : Int) = 1) by decide)]; rw [if_neg (fun h => by rw [HOC.out] at h; exact absurd h.2 (by decide))]; rw [if_pos rfl, if_neg (show ¬ (yt + 1 = 6) by omega)])
        clear h5
        go_enter Tryd.func33, Tryd.ntmps33
        go_wp2_with fail
        have Lg0 := later_cell g0
        have Lg1 := later_cell g1
        have Lg2 := later_cell g2
        have Lg3 := later_cell g3
        have Lg4 := later_cell g4
        have Li0 := later_cell i0
        have Li1 := later_cell i1
        have Lr0 := later_cell r0
        have Lr1 := later_cell r1
        have Lr2 := later_cell r2
        have Lr3 := later_cell r3
        have Lca0 := later_cell ca0
        have Lcyb := later_cell cyb
        refine wp_region_later (by kernel_rfl) (by kernel_rfl) ?_
        repeat (go_big_quiet_step (fail))
        refine wpQuiet_nil ?_
        intro q0
        have Kg0 := Lg0 q0
        have Kg1 := Lg1 q0
        have Kg2 := Lg2 q0
        have Kg3 := Lg3 q0
        have Kg4 := Lg4 q0
        have Ki0 := Li0 q0
        have Ki1 := Li1 q0
        have Kr0 := Lr0 q0
        have Kr1 := Lr1 q0
        have Kr2 := Lr2 q0
        have Kr3 := Lr3 q0
        have Kca0 := Lca0 q0
        have Kcyb := Lcyb q0
        replace Lg0 := later_cell Kg0
        replace Lg1 := later_cell Kg1
        replace Lg2 := later_cell Kg2
        replace Lg3 := later_cell Kg3
        replace Lg4 := later_cell Kg4
        replace Li0 := later_cell Ki0
        replace Li1 := later_cell Ki1
        replace Lr0 := later_cell Kr0
        replace Lr1 := later_cell Kr1
        replace Lr2 := later_cell Kr2
        replace Lr3 := later_cell Kr3
        replace Lca0 := later_cell Kca0
        replace Lcyb := later_cell Kcyb
        go_wp2_with fail
        refine wp_region_later (by kernel_rfl) (by kernel_rfl) ?_
        repeat (go_big_quiet_step (fail))
        refine wpQuiet_nil ?_
        intro q1
        have HKA := Lib.hid ((HK0.out.stay q0.hb).stay q1.hb)
        have HOA := Lib.hid (below_more (below_more HO0.out q0.hb) q1.hb)
        have f0 := HKA.out.row.free (r * 4)
        have f1 := HKA.out.row.free (r * 4 + 1)
        have f2 := HKA.out.row.free (r * 4 + 2)
        have f3 := HKA.out.row.free (r * 4 + 3)
        go_wp2_with fail
        go_end0
        refine ⟨rfl, ?_, only_put (only_of HOA.out) _ _⟩
        rw [HF.out]
        exact HKA.out.put HY.out (i := 1) (by omega) (.int .i64 (yt + 1)) ⟨4, yt + 1, yg, ys⟩ rfl
  by_cases m3 : ym = 3
  · subst m3
    obtain ⟨u3, u4⟩ : 0 ≤ yg ∧ yg < x'.path.length := by
      have := one_used (x := x') HON.out rfl
      exact this
    obtain ⟨gj, rfl⟩ : ∃ gj : Nat, yg = gj := ⟨yg.toNat, by omega⟩
    have hgp : gj < p := by have := HPL.out; omega
    obtain ⟨bp', op', a1, e1, ha1, ca1⟩ := HPV.out.int hgp
    obtain ⟨rfl, rfl⟩ : bp = bp' ∧ op = op' := by simpa using e1
    obtain ⟨v0, v1⟩ := HP.out a1 (List.mem_of_getElem? ha1)
    obtain ⟨v, rfl⟩ : ∃ v : Nat, a1 = v := ⟨a1.toNat, by omega⟩
    obtain ⟨bo', oo', yc, e2, hyc, cyc⟩ := HI.out.occ.tru (j := v) (by have := HIL.out; omega)
    obtain ⟨rfl, rfl⟩ : bo = bo' ∧ oo = oo' := by simpa using e2
    have HOC3 : Hid (occM I x'.path (gj : Int).toNat = yc) := Lib.hid (by unfold occM; rw [Int.toNat_natCast, getD_of ha1, Int.toNat_natCast]; exact getD_of hyc)
    have hvn : (v : Int) < n := by have := HIL.out; omega
    clear ha1 hyc v0 v1 e1 e2 u3 u4
    cases yc with
    | true =>
      have HF : Hid (stepM I x' ⟨3, yt, (gj : Int), ys⟩ = ⟨3, yt, gj, true⟩) := Lib.hid (by unfold stepM; rw [if_neg (show ¬ ((3 : Int) = 1) by decide)]; rw [if_neg (show ¬ (((3 : Int) = 2 ∨ (3 : Int) = 4) ∧ occM I x'.path 0 = true) from fun h => absurd h.1 (by decide)), if_neg (show ¬ ((3 : Int) = 4) by decide)]; rw [if_pos rfl]; rw [if_pos HOC3.out])
      go_enter Tryd.func33, Tryd.ntmps33
      go_wp2_with fail
      have Lg0 := later_cell g0
      have Lg1 := later_cell g1
      have Lg2 := later_cell g2
      have Lg3 := later_cell g3
      have Lg4 := later_cell g4
      have Li0 := later_cell i0
      have Li1 := later_cell i1
      have Lr0 := later_cell r0
      have Lr1 := later_cell r1
      have Lr2 := later_cell r2
      have Lr3 := later_cell r3
      have Lca0 := later_cell ca0
      have Lcyb := later_cell cyb
      have Lca1 := later_cell ca1
      have Lcyc := later_cell cyc
      refine wp_region_later (by kernel_rfl) (by kernel_rfl) ?_
      repeat (go_big_quiet_step (fail))
      refine wpQuiet_nil ?_
      intro q0
      have Kg0 := Lg0 q0
      have Kg1 := Lg1 q0
      have Kg2 := Lg2 q0
      have Kg3 := Lg3 q0
      have Kg4 := Lg4 q0
      have Ki0 := Li0 q0
      have Ki1 := Li1 q0
      have Kr0 := Lr0 q0
      have Kr1 := Lr1 q0
      have Kr2 := Lr2 q0
      have Kr3 := Lr3 q0
      have Kca0 := Lca0 q0
      have Kcyb := Lcyb q0
      have Kca1 := Lca1 q0
      have Kcyc := Lcyc q0
      replace Lg0 := later_cell Kg0
      replace Lg1 := later_cell Kg1
      replace Lg2 := later_cell Kg2
      replace Lg3 := later_cell Kg3
      replace Lg4 := later_cell Kg4
      replace Li0 := later_cell Ki0
      replace Li1 := later_cell Ki1
      replace Lr0 := later_cell Kr0
      replace Lr1 := later_cell Kr1
      replace Lr2 := later_cell Kr2
      replace Lr3 := later_cell Kr3
      replace Lca0 := later_cell Kca0
      replace Lcyb := later_cell Kcyb
      replace Lca1 := later_cell Kca1
      replace Lcyc := later_cell Kcyc
      go_wp2_with fail
      refine wp_region_later (by kernel_rfl) (by kernel_rfl) ?_
      repeat (go_big_quiet_step (fail))
      refine wpQuiet_nil ?_
      intro q1
      have Kg0 := Lg0 q1
      have Kg1 := Lg1 q1
      have Kg2 := Lg2 q1
      have Kg3 := Lg3 q1
      have Kg4 := Lg4 q1
      have Ki0 := Li0 q1
      have Ki1 := Li1 q1
      have Kr0 := Lr0 q1
      have Kr1 := Lr1 q1
      have Kr2 := Lr2 q1
      have Kr3 := Lr3 q1
      have Kca0 := Lca0 q1
      have Kcyb := Lcyb q1
      have Kca1 := Lca1 q1
      have Kcyc := Lcyc q1
      replace Lg0 := later_cell Kg0
      replace Lg1 := later_cell Kg1
      replace Lg2 := later_cell Kg2
      replace Lg3 := later_cell Kg3
      replace Lg4 := later_cell Kg4
      replace Li0 := later_cell Ki0
      replace Li1 := later_cell Ki1
      replace Lr0 := later_cell Kr0
      replace Lr1 := later_cell Kr1
      replace Lr2 := later_cell Kr2
      replace Lr3 := later_cell Kr3
      replace Lca0 := later_cell Kca0
      replace Lcyb := later_cell Kcyb
      replace Lca1 := later_cell Kca1
      replace Lcyc := later_cell Kcyc
      go_wp2_with fail
      refine wp_region_later (by kernel_rfl) (by kernel_rfl) ?_
      repeat (go_big_quiet_step (fail))
      refine wpQuiet_nil ?_
      intro q2
      have HKA := Lib.hid (((HK0.out.stay q0.hb).stay q1.hb).stay q2.hb)
      have HOA := Lib.hid (below_more (below_more (below_more HO0.out q0.hb) q1.hb) q2.hb)
      have f0 := HKA.out.row.free (r * 4)
      have f1 := HKA.out.row.free (r * 4 + 1)
      have f2 := HKA.out.row.free (r * 4 + 2)
      have f3 := HKA.out.row.free (r * 4 + 3)
      go_wp2_with fail
      go_end0
      refine ⟨rfl, ?_, only_put (only_of HOA.out) _ _⟩
      rw [HF.out]
      exact HKA.out.put HY.out (i := 3) (by omega) (.bool true) ⟨3, yt, gj, true⟩ rfl
    | false =>
    cases ys with
    | false =>
      have HF : Hid (stepM I x' ⟨3, yt, (gj : Int), false⟩ = ⟨3, yt, gj, false⟩) := Lib.hid (by unfold stepM; rw [if_neg (show ¬ ((3 : Int) = 1) by decide)]; rw [if_neg (show ¬ (((3 : Int) = 2 ∨ (3 : Int) = 4) ∧ occM I x'.path 0 = true) from fun h => absurd h.1 (by decide)), if_neg (show ¬ ((3 : Int) = 4) by decide)]; rw [if_pos rfl]; rw [if_neg (by rw [HOC3.out]; decide), if_neg (show ¬ (false = true) by decide)])
      go_enter Tryd.func33, Tryd.ntmps33
      go_wp2_with fail
      have Lg0 := later_cell g0
      have Lg1 := later_cell g1
      have Lg2 := later_cell g2
      have Lg3 := later_cell g3
      have Lg4 := later_cell g4
      have Li0 := later_cell i0
      have Li1 := later_cell i1
      have Lr0 := later_cell r0
      have Lr1 := later_cell r1
      have Lr2 := later_cell r2
      have Lr3 := later_cell r3
      have Lca0 := later_cell ca0
      have Lcyb := later_cell cyb
      have Lca1 := later_cell ca1
      have Lcyc := later_cell cyc
      refine wp_region_later (by kernel_rfl) (by kernel_rfl) ?_
      repeat (go_big_quiet_step (fail))
      refine wpQuiet_nil ?_
      intro q0
      have Kg0 := Lg0 q0
      have Kg1 := Lg1 q0
      have Kg2 := Lg2 q0
      have Kg3 := Lg3 q0
      have Kg4 := Lg4 q0
      have Ki0 := Li0 q0
      have Ki1 := Li1 q0
      have Kr0 := Lr0 q0
      have Kr1 := Lr1 q0
      have Kr2 := Lr2 q0
      have Kr3 := Lr3 q0
      have Kca0 := Lca0 q0
      have Kcyb := Lcyb q0
      have Kca1 := Lca1 q0
      have Kcyc := Lcyc q0
      replace Lg0 := later_cell Kg0
      replace Lg1 := later_cell Kg1
      replace Lg2 := later_cell Kg2
      replace Lg3 := later_cell Kg3
      replace Lg4 := later_cell Kg4
      replace Li0 := later_cell Ki0
      replace Li1 := later_cell Ki1
      replace Lr0 := later_cell Kr0
      replace Lr1 := later_cell Kr1
      replace Lr2 := later_cell Kr2
      replace Lr3 := later_cell Kr3
      replace Lca0 := later_cell Kca0
      replace Lcyb := later_cell Kcyb
      replace Lca1 := later_cell Kca1
      replace Lcyc := later_cell Kcyc
      go_wp2_with fail
      refine wp_region_later (by kernel_rfl) (by kernel_rfl) ?_
      repeat (go_big_quiet_step (fail))
      refine wpQuiet_nil ?_
      intro q1
      have Kg0 := Lg0 q1
      have Kg1 := Lg1 q1
      have Kg2 := Lg2 q1
      have Kg3 := Lg3 q1
      have Kg4 := Lg4 q1
      have Ki0 := Li0 q1
      have Ki1 := Li1 q1
      have Kr0 := Lr0 q1
      have Kr1 := Lr1 q1
      have Kr2 := Lr2 q1
      have Kr3 := Lr3 q1
      have Kca0 := Lca0 q1
      have Kcyb := Lcyb q1
      have Kca1 := Lca1 q1
      have Kcyc := Lcyc q1
      replace Lg0 := later_cell Kg0
      replace Lg1 := later_cell Kg1
      replace Lg2 := later_cell Kg2
      replace Lg3 := later_cell Kg3
      replace Lg4 := later_cell Kg4
      replace Li0 := later_cell Ki0
      replace Li1 := later_cell Ki1
      replace Lr0 := later_cell Kr0
      replace Lr1 := later_cell Kr1
      replace Lr2 := later_cell Kr2
      replace Lr3 := later_cell Kr3
      replace Lca0 := later_cell Kca0
      replace Lcyb := later_cell Kcyb
      replace Lca1 := later_cell Kca1
      replace Lcyc := later_cell Kcyc
      go_wp2_with fail
      refine wp_region_later (by kernel_rfl) (by kernel_rfl) ?_
      repeat (go_big_quiet_step (fail))
      refine wpQuiet_nil ?_
      intro q2
      have HKA := Lib.hid (((HK0.out.stay q0.hb).stay q1.hb).stay q2.hb)
      have HOA := Lib.hid (below_more (below_more (below_more HO0.out q0.hb) q1.hb) q2.hb)
      have f0 := HKA.out.row.free (r * 4)
      have f1 := HKA.out.row.free (r * 4 + 1)
      have f2 := HKA.out.row.free (r * 4 + 2)
      have f3 := HKA.out.row.free (r * 4 + 3)
      go_wp2_with fail
      go_end0
      exact ⟨rfl, by rw [HF.out, set_same HY.out]; exact HKA.out, only_of HOA.out⟩
    | true =>
      have hg1 : (gj : Int) + 1 ≤ 9223372036854775807 := by omega
      by_cases hge : gj + 1 = p
      · have k6 : ((gj : Int) + 1 == (p : Int)) = true := by simp; omega
        have k7 : ((gj : Int) + 1 = (p : Int)) := by omega
        have HKE := Lib.hid k7
        have HF : Hid (stepM I x' ⟨3, yt, (gj : Int), true⟩ = rz) := Lib.hid (by unfold stepM; rw [if_neg (show ¬ ((3 : Int) = 1) by decide)]; rw [if_neg (show ¬ (((3 : Int) = 2 ∨ (3 : Int) = 4) ∧ occM I x'.path 0 = true) from fun h => absurd h.1 (by decide)), if_neg (show ¬ ((3 : Int) = 4) by decide)]; rw [if_pos rfl]; rw [if_neg (by rw [HOC3.out]; decide), if_pos rfl]; rw [if_pos (show (gj : Int) + 1 = (x'.path.length : Int) by have := HPL.out; omega)])
        clear hge
        go_enter Tryd.func33, Tryd.ntmps33
        go_wp2_with fail
        have Lg0 := later_cell g0
        have Lg1 := later_cell g1
        have Lg2 := later_cell g2
        have Lg3 := later_cell g3
        have Lg4 := later_cell g4
        have Li0 := later_cell i0
        have Li1 := later_cell i1
        have Lr0 := later_cell r0
        have Lr1 := later_cell r1
        have Lr2 := later_cell r2
        have Lr3 := later_cell r3
        have Lca0 := later_cell ca0
        have Lcyb := later_cell cyb
        have Lca1 := later_cell ca1
        have Lcyc := later_cell cyc
        refine wp_region_later (by kernel_rfl) (by kernel_rfl) ?_
        repeat (go_big_quiet_step (fail))
        refine wpQuiet_nil ?_
        intro q0
        have Kg0 := Lg0 q0
        have Kg1 := Lg1 q0
        have Kg2 := Lg2 q0
        have Kg3 := Lg3 q0
        have Kg4 := Lg4 q0
        have Ki0 := Li0 q0
        have Ki1 := Li1 q0
        have Kr0 := Lr0 q0
        have Kr1 := Lr1 q0
        have Kr2 := Lr2 q0
        have Kr3 := Lr3 q0
        have Kca0 := Lca0 q0
        have Kcyb := Lcyb q0
        have Kca1 := Lca1 q0
        have Kcyc := Lcyc q0
        replace Lg0 := later_cell Kg0
        replace Lg1 := later_cell Kg1
        replace Lg2 := later_cell Kg2
        replace Lg3 := later_cell Kg3
        replace Lg4 := later_cell Kg4
        replace Li0 := later_cell Ki0
        replace Li1 := later_cell Ki1
        replace Lr0 := later_cell Kr0
        replace Lr1 := later_cell Kr1
        replace Lr2 := later_cell Kr2
        replace Lr3 := later_cell Kr3
        replace Lca0 := later_cell Kca0
        replace Lcyb := later_cell Kcyb
        replace Lca1 := later_cell Kca1
        replace Lcyc := later_cell Kcyc
        go_wp2_with fail
        refine wp_region_later (by kernel_rfl) (by kernel_rfl) ?_
        repeat (go_big_quiet_step (fail))
        refine wpQuiet_nil ?_
        intro q1
        have Kg0 := Lg0 q1
        have Kg1 := Lg1 q1
        have Kg2 := Lg2 q1
        have Kg3 := Lg3 q1
        have Kg4 := Lg4 q1
        have Ki0 := Li0 q1
        have Ki1 := Li1 q1
        have Kr0 := Lr0 q1
        have Kr1 := Lr1 q1
        have Kr2 := Lr2 q1
        have Kr3 := Lr3 q1
        have Kca0 := Lca0 q1
        have Kcyb := Lcyb q1
        have Kca1 := Lca1 q1
        have Kcyc := Lcyc q1
        replace Lg0 := later_cell Kg0
        replace Lg1 := later_cell Kg1
        replace Lg2 := later_cell Kg2
        replace Lg3 := later_cell Kg3
        replace Lg4 := later_cell Kg4
        replace Li0 := later_cell Ki0
        replace Li1 := later_cell Ki1
        replace Lr0 := later_cell Kr0
        replace Lr1 := later_cell Kr1
        replace Lr2 := later_cell Kr2
        replace Lr3 := later_cell Kr3
        replace Lca0 := later_cell Kca0
        replace Lcyb := later_cell Kcyb
        replace Lca1 := later_cell Kca1
        replace Lcyc := later_cell Kcyc
        go_wp2_with fail
        refine wp_region_later (by kernel_rfl) (by kernel_rfl) ?_
        repeat (go_big_quiet_step (fail))
        refine wpQuiet_nil ?_
        intro q2
        have HKA := Lib.hid (((HK0.out.stay q0.hb).stay q1.hb).stay q2.hb)
        have HOA := Lib.hid (below_more (below_more (below_more HO0.out q0.hb) q1.hb) q2.hb)
        have f0 := HKA.out.row.free (r * 4)
        have f1 := HKA.out.row.free (r * 4 + 1)
        have f2 := HKA.out.row.free (r * 4 + 2)
        have f3 := HKA.out.row.free (r * 4 + 3)
        go_wp2_with fail
        go_end0
        refine ⟨rfl, ?_, only_put4 (only_put (only_put (only_of HOA.out) _ _) _ _) _ _ _ _ _ _ _ _⟩
        rw [HF.out]
        have hk1 := (HKA.out.put HY.out (i := 2) (by omega) (.int .i64 ((gj : Int) + 1)) ⟨3, yt, gj + 1, true⟩ rfl)
        have hk2 := hk1.put (set_at HY.out) (i := 3) (by omega) (.bool false) ⟨3, yt, gj + 1, false⟩ rfl
        rw [List.set_set] at hk2
        have hk := hk2.put4 (set_at HY.out) rz
        rw [List.set_set] at hk
        first | exact hk | (rw [HKE.out] at hk; exact hk)
      · have k6 : ((gj : Int) + 1 == (p : Int)) = false := by simp; omega
        have k7 : ¬ ((gj : Int) + 1 = (p : Int)) := by omega
        have HF : Hid (stepM I x' ⟨3, yt, (gj : Int), true⟩ = ⟨3, yt, gj + 1, false⟩) := Lib.hid (by unfold stepM; rw [if_neg (show ¬ ((3 : Int) = 1) by decide)]; rw [if_neg (show ¬ (((3 : Int) = 2 ∨ (3 : Int) = 4) ∧ occM I x'.path 0 = true) from fun h => absurd h.1 (by decide)), if_neg (show ¬ ((3 : Int) = 4) by decide)]; rw [if_pos rfl]; rw [if_neg (by rw [HOC3.out]; decide), if_pos rfl]; rw [if_neg (show ¬ ((gj : Int) + 1 = (x'.path.length : Int)) by have := HPL.out; omega)])
        clear hge
        go_enter Tryd.func33, Tryd.ntmps33
        go_wp2_with fail
        have Lg0 := later_cell g0
        have Lg1 := later_cell g1
        have Lg2 := later_cell g2
        have Lg3 := later_cell g3
        have Lg4 := later_cell g4
        have Li0 := later_cell i0
        have Li1 := later_cell i1
        have Lr0 := later_cell r0
        have Lr1 := later_cell r1
        have Lr2 := later_cell r2
        have Lr3 := later_cell r3
        have Lca0 := later_cell ca0
        have Lcyb := later_cell cyb
        have Lca1 := later_cell ca1
        have Lcyc := later_cell cyc
        refine wp_region_later (by kernel_rfl) (by kernel_rfl) ?_
        repeat (go_big_quiet_step (fail))
        refine wpQuiet_nil ?_
        intro q0
        have Kg0 := Lg0 q0
        have Kg1 := Lg1 q0
        have Kg2 := Lg2 q0
        have Kg3 := Lg3 q0
        have Kg4 := Lg4 q0
        have Ki0 := Li0 q0
        have Ki1 := Li1 q0
        have Kr0 := Lr0 q0
        have Kr1 := Lr1 q0
        have Kr2 := Lr2 q0
        have Kr3 := Lr3 q0
        have Kca0 := Lca0 q0
        have Kcyb := Lcyb q0
        have Kca1 := Lca1 q0
        have Kcyc := Lcyc q0
        replace Lg0 := later_cell Kg0
        replace Lg1 := later_cell Kg1
        replace Lg2 := later_cell Kg2
        replace Lg3 := later_cell Kg3
        replace Lg4 := later_cell Kg4
        replace Li0 := later_cell Ki0
        replace Li1 := later_cell Ki1
        replace Lr0 := later_cell Kr0
        replace Lr1 := later_cell Kr1
        replace Lr2 := later_cell Kr2
        replace Lr3 := later_cell Kr3
        replace Lca0 := later_cell Kca0
        replace Lcyb := later_cell Kcyb
        replace Lca1 := later_cell Kca1
        replace Lcyc := later_cell Kcyc
        go_wp2_with fail
        refine wp_region_later (by kernel_rfl) (by kernel_rfl) ?_
        repeat (go_big_quiet_step (fail))
        refine wpQuiet_nil ?_
        intro q1
        have Kg0 := Lg0 q1
        have Kg1 := Lg1 q1
        have Kg2 := Lg2 q1
        have Kg3 := Lg3 q1
        have Kg4 := Lg4 q1
        have Ki0 := Li0 q1
        have Ki1 := Li1 q1
        have Kr0 := Lr0 q1
        have Kr1 := Lr1 q1
        have Kr2 := Lr2 q1
        have Kr3 := Lr3 q1
        have Kca0 := Lca0 q1
        have Kcyb := Lcyb q1
        have Kca1 := Lca1 q1
        have Kcyc := Lcyc q1
        replace Lg0 := later_cell Kg0
        replace Lg1 := later_cell Kg1
        replace Lg2 := later_cell Kg2
        replace Lg3 := later_cell Kg3
        replace Lg4 := later_cell Kg4
        replace Li0 := later_cell Ki0
        replace Li1 := later_cell Ki1
        replace Lr0 := later_cell Kr0
        replace Lr1 := later_cell Kr1
        replace Lr2 := later_cell Kr2
        replace Lr3 := later_cell Kr3
        replace Lca0 := later_cell Kca0
        replace Lcyb := later_cell Kcyb
        replace Lca1 := later_cell Kca1
        replace Lcyc := later_cell Kcyc
        go_wp2_with fail
        refine wp_region_later (by kernel_rfl) (by kernel_rfl) ?_
        repeat (go_big_quiet_step (fail))
        refine wpQuiet_nil ?_
        intro q2
        have HKA := Lib.hid (((HK0.out.stay q0.hb).stay q1.hb).stay q2.hb)
        have HOA := Lib.hid (below_more (below_more (below_more HO0.out q0.hb) q1.hb) q2.hb)
        have f0 := HKA.out.row.free (r * 4)
        have f1 := HKA.out.row.free (r * 4 + 1)
        have f2 := HKA.out.row.free (r * 4 + 2)
        have f3 := HKA.out.row.free (r * 4 + 3)
        go_wp2_with fail
        go_end0
        refine ⟨rfl, ?_, only_put (only_put (only_of HOA.out) _ _) _ _⟩
        rw [HF.out]
        have hk1 := (HKA.out.put HY.out (i := 2) (by omega) (.int .i64 ((gj : Int) + 1)) ⟨3, yt, gj + 1, true⟩ rfl)
        have hk2 := hk1.put (set_at HY.out) (i := 3) (by omega) (.bool false) ⟨3, yt, gj + 1, false⟩ rfl
        rw [List.set_set] at hk2
        exact hk2
  by_cases m0 : ym = 0
  · subst m0
    have HF : Hid (stepM I x' ⟨0, yt, yg, ys⟩ = ⟨0, yt, yg, ys⟩) := Lib.hid (by unfold stepM; rw [if_neg (show ¬ ((0 : Int) = 1) by decide)]; rw [if_neg (show ¬ (((0 : Int) = 2 ∨ (0 : Int) = 4) ∧ occM I x'.path 0 = true) from fun h => absurd h.1 (by decide)), if_neg (show ¬ ((0 : Int) = 4) by decide)]; rw [if_neg (show ¬ ((0 : Int) = 3) by decide)])
    go_enter Tryd.func33, Tryd.ntmps33
    go_wp2_with fail
    have Lg0 := later_cell g0
    have Lg1 := later_cell g1
    have Lg2 := later_cell g2
    have Lg3 := later_cell g3
    have Lg4 := later_cell g4
    have Li0 := later_cell i0
    have Li1 := later_cell i1
    have Lr0 := later_cell r0
    have Lr1 := later_cell r1
    have Lr2 := later_cell r2
    have Lr3 := later_cell r3
    have Lca0 := later_cell ca0
    have Lcyb := later_cell cyb
    refine wp_region_later (by kernel_rfl) (by kernel_rfl) ?_
    repeat (go_big_quiet_step (fail))
    refine wpQuiet_nil ?_
    intro q0
    have Kg0 := Lg0 q0
    have Kg1 := Lg1 q0
    have Kg2 := Lg2 q0
    have Kg3 := Lg3 q0
    have Kg4 := Lg4 q0
    have Ki0 := Li0 q0
    have Ki1 := Li1 q0
    have Kr0 := Lr0 q0
    have Kr1 := Lr1 q0
    have Kr2 := Lr2 q0
    have Kr3 := Lr3 q0
    have Kca0 := Lca0 q0
    have Kcyb := Lcyb q0
    replace Lg0 := later_cell Kg0
    replace Lg1 := later_cell Kg1
    replace Lg2 := later_cell Kg2
    replace Lg3 := later_cell Kg3
    replace Lg4 := later_cell Kg4
    replace Li0 := later_cell Ki0
    replace Li1 := later_cell Ki1
    replace Lr0 := later_cell Kr0
    replace Lr1 := later_cell Kr1
    replace Lr2 := later_cell Kr2
    replace Lr3 := later_cell Kr3
    replace Lca0 := later_cell Kca0
    replace Lcyb := later_cell Kcyb
    go_wp2_with fail
    refine wp_region_later (by kernel_rfl) (by kernel_rfl) ?_
    repeat (go_big_quiet_step (fail))
    refine wpQuiet_nil ?_
    intro q1
    have Kg0 := Lg0 q1
    have Kg1 := Lg1 q1
    have Kg2 := Lg2 q1
    have Kg3 := Lg3 q1
    have Kg4 := Lg4 q1
    have Ki0 := Li0 q1
    have Ki1 := Li1 q1
    have Kr0 := Lr0 q1
    have Kr1 := Lr1 q1
    have Kr2 := Lr2 q1
    have Kr3 := Lr3 q1
    have Kca0 := Lca0 q1
    have Kcyb := Lcyb q1
    replace Lg0 := later_cell Kg0
    replace Lg1 := later_cell Kg1
    replace Lg2 := later_cell Kg2
    replace Lg3 := later_cell Kg3
    replace Lg4 := later_cell Kg4
    replace Li0 := later_cell Ki0
    replace Li1 := later_cell Ki1
    replace Lr0 := later_cell Kr0
    replace Lr1 := later_cell Kr1
    replace Lr2 := later_cell Kr2
    replace Lr3 := later_cell Kr3
    replace Lca0 := later_cell Kca0
    replace Lcyb := later_cell Kcyb
    go_wp2_with fail
    refine wp_region_later (by kernel_rfl) (by kernel_rfl) ?_
    repeat (go_big_quiet_step (fail))
    refine wpQuiet_nil ?_
    intro q2
    have HKA := Lib.hid (((HK0.out.stay q0.hb).stay q1.hb).stay q2.hb)
    have HOA := Lib.hid (below_more (below_more (below_more HO0.out q0.hb) q1.hb) q2.hb)
    have f0 := HKA.out.row.free (r * 4)
    have f1 := HKA.out.row.free (r * 4 + 1)
    have f2 := HKA.out.row.free (r * 4 + 2)
    have f3 := HKA.out.row.free (r * 4 + 3)
    go_wp2_with fail
    go_end0
    exact ⟨rfl, by rw [HF.out, set_same HY.out]; exact HKA.out, only_of HOA.out⟩
  · exfalso
    have := HON.out
    unfold oneM at this
    rw [if_neg m1, if_neg m4, if_neg m3, if_neg (by intro h; rcases h with h | h; exact m0 h; exact m2 h)] at this
    cases this
end
end Go.Proofs.YtmdggodkkkihhaaDoor
