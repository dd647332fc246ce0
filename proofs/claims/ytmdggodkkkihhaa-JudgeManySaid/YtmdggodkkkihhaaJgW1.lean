/- Contracts of judge.ways' closures. -/
import Derived.Test.YtmdggodkkkihhaaJgCl
import Derived.Test.YtmdggodkkkihhaaLater
import Derived.Deep.RegionLawGrows
set_option linter.unusedVariables false
namespace Go.Proofs.Ytmdggodkkkihhaa
open Go.RowKit

/-- An append that grows, as a step of a region that draws its order, the operation under a guard. -/
theorem step_append_full {P : Program} {ops : Array Oper} {o : Oper} {a : Act} {w : World} {K : Act → World → Prop} {Q : Exit → Act → World → Prop} {E : Prop}
    (hw : Region.wanted o (yielded ops a.tmps) = true) (s x : Operand) (t : TypeId) (hop : o.op = Op.call { callee := Callee.builtin Builtin.append, args := #[s, x], argTypes := #[t, t] })
    (e : TypeId) (i : TypeInfo) (z : Value) (size bytes : Nat) (h1 : P.underlying t = some (.slice e)) (h2 : P.info? e = some i) (h3 : i.zero = some z) (h4 : i.size = size) (h5 : i.bytes = bytes) (h6 : z.cells.size = size) (h7 : 0 < size)
    (ao : Option Addr) (n cap : Nat) (olds : List Value) (hs : a.eval s = .slice ao n cap) (hnone : ao = none → n = 0 ∧ cap = 0) (hlo : olds.length = n * size) (holds : ∀ b, ao = some b → ∀ j u, olds[j]? = some u → w.cell? (b.add j) = some u)
    (ad : Addr) (m c : Nat) (news : List Value) (hx : a.eval x = .slice (some ad) m c) (hn : news.length = m * size) (hc : ∀ j u, news[j]? = some u → w.cell? (ad.add j) = some u) (h1c : ∀ u ∈ news, u.oneCell' = true)
    (hfull : cap < n + m) (b1 : n + m ≤ maxLen) (b2 : (n + m) * bytes ≤ 140737488355328)
    (hK : ∀ v' w', w'.ownsRow w.heap.size e size v' (n + m) (olds ++ news) → w.grownBy w' none → K (a.put o.dst v') w') :
    if Region.wanted o (yielded ops a.tmps) = true then Oper.wp P o a w K Q else E := by
  rw [if_pos hw]
  cases ao with
  | some b =>
    obtain ⟨v', w', hrun, r1, r2⟩ := run_append_arg_grows (P := P) w t o.type e i z size bytes h1 h2 h3 h4 h5 h6 h7 b n cap olds hlo (holds b rfl) ad m c news hn hc hfull b1 b2
    unfold Oper.wp
    simp [execOp, hop, resolve, invoke, builtin, hs, hx, hrun, Result.andThen]
    exact hK v' w' r1 r2
  | none =>
    obtain ⟨rfl, rfl⟩ := hnone rfl
    obtain rfl : olds = [] := List.eq_nil_of_length_eq_zero (by simpa using hlo)
    obtain ⟨v', w', hrun, r1, r2, _⟩ := run_append_own (P := P) w w.heap.size t o.type e i z size bytes h1 h2 h3 h4 h5 h6 h7 (.slice none 0 0) 0 [] (World.ownsRow_nil w _ e size) ad m c news hn hc h1c b1 b2 (Nat.le_refl _)
    unfold Oper.wp
    simp [execOp, hop, resolve, invoke, builtin, hs, hx, hrun, Result.andThen]
    exact hK v' w' r1 r2
theorem sl_cells {w : World} {X : Option Addr} {x c : Nat} {xs : List Int} (h : Sl flI w X x c xs) : ∀ b, X = some b → ∀ j u, (xs.flatMap flI.enc)[j]? = some u → w.cell? (b.add j) = some u := by
  intro b hb j u hu
  subst hb
  have hl := h.len
  rcases Nat.eq_zero_or_pos x with h0 | h0
  · rw [h0] at hl
    rw [List.eq_nil_of_length_eq_zero hl] at hu
    simp at hu
  · obtain ⟨_, hr⟩ := h.rf.reads (by decide)
    obtain ⟨a, ha, _, hc⟩ := hr h0
    obtain rfl : b = a := by injection ha
    exact hc j u hu
def conflictI (L : Lay) (a b : Int) : Bool := match L.rtes[a.toNat]?, L.rtes[b.toNat]? with
  | some x, some y => conflictM a.toNat b.toNat x y
  | _, _ => false
def clearI (L : Lay) (I : Inn) (a : Int) : Bool := match L.rtes[a.toNat]? with
  | some x => clearM I x
  | none => false
/-- Can a way be chosen for each signal from s on, beside some? -/
def waysM (L : Lay) (I : Inn) : Nat → List Bool → List Int → Bool
  | _, [], _ => true
  | s, b :: t, ch => if b then (entryTo L.rtes s L.rtes.length).any fun r => !(ch.any fun q => conflictI L r q) && clearI L I r && waysM L I (s + 1) t (ch ++ [r]) else waysM L I (s + 1) t ch
structure AllOk (L : Lay) (I : Inn) : Prop where
  few : L.rtes.length ≤ 1000000
  all : ∀ x ∈ L.rtes, RteOk I x
def ChOk (L : Lay) (ch : List Int) : Prop := ∀ q ∈ ch, 0 ≤ q ∧ q < L.rtes.length
/-- The chosen ones. -/
structure ChV (w : World) (C : Option Addr) (k kc : Nat) (ch : List Int) : Prop where
  sl : Sl flI w C k kc ch
  form : (C = none ∧ k = 0 ∧ kc = 0) ∨ ∃ g, C = some ⟨g, 0, none⟩
theorem ChV.stay {w w1 : World} {C : Option Addr} {k kc : Nat} {ch : List Int} (h : ChV w C k kc ch) (hb : Below w.heap.size w w1) : ChV w1 C k kc ch := ⟨h.sl.stay hb, h.form⟩
theorem chv_ow {w : World} {base : Nat} {e : TypeId} {A : Option Addr} {n c : Nat} {xs : List Int} (h : Ow flI w base e (.slice A n c) xs) (hl : xs.length = n) (hn : n ≤ 140737488351232) : ChV w A n c xs := by
  subst hl
  obtain ⟨A', c', e1, hs⟩ := sl_ow h (by decide) hn
  obtain ⟨rfl, _, rfl⟩ : A = A' ∧ xs.length = xs.length ∧ c = c' := by injection e1 with a b d; exact ⟨a, b, d⟩
  refine ⟨hs, ?_⟩
  rcases h.2 with ⟨e1, h0⟩ | ⟨g, cap, cur, e1, _⟩
  · injection e1 with a b d
    exact .inl ⟨a, b, d⟩
  · injection e1 with a b d
    exact .inr ⟨g, a⟩
theorem enter_w1 (args : Array Value) (w : World) : (callFunc 21 args).run Try.prog w = .ok (.enter 21 args) w := by kernel_rfl
theorem enter_w11 (args : Array Value) (w : World) : (callFunc 22 args).run Try.prog w = .ok (.enter 22 args) w := by kernel_rfl
section
variable {L : Lay} {A1 A2 A3 A4 : Option Addr} {n1 c1 n2 c2 n3 c3 n4 c4 : Nat} {I : Inn} {C D : Option Addr} {n c m d : Nat}
set_option maxHeartbeats 2000000 in
theorem W11_calls (W : World) (g k : Nat) (hL : LayB W g L A1 A2 A3 A4 n1 c1 n2 c2 n3 c3 n4 c4) (hok : AllOk L I) (r : Nat) (hr : r < L.rtes.length) (hk : W.cell? ⟨k, 0, none⟩ = some (.int .i64 r)) (q : Int) (h0 : 0 ≤ q) (h1 : q < L.rtes.length) :
    Calls Try.prog 22 #[.int .i64 q, .pointer (some ⟨g, 0, none⟩), .pointer (some ⟨k, 0, none⟩)] W fun e w' => e = .returned (.bool (conflictI L r q)) ∧ Below W.heap.size W w' := by
  obtain ⟨s, rfl⟩ : ∃ s : Nat, q = s := ⟨q.toNat, by omega⟩
  have hs : s < L.rtes.length := by omega
  have hx := List.getElem?_eq_getElem hr
  have hy := List.getElem?_eq_getElem hs
  have K := Lib.hid (Conflict_calls W L A1 A2 A3 A4 n1 c1 n2 c2 n3 c3 n4 c4 hL.v r s _ _ hx hy (hok.all _ (List.getElem_mem hr)).few (hok.all _ (List.getElem_mem hs)).few)
  have HF : Hid (conflictI L r s = conflictM r s (L.rtes[r]) (L.rtes[s])) := Lib.hid (by
    unfold conflictI
    rw [Int.toNat_natCast, Int.toNat_natCast, hx, hy])
  generalize conflictM r s (L.rtes[r]) (L.rtes[s]) = z at *
  have b0 := hL.b0
  have b1 := hL.b1
  have b2 := hL.b2
  have b3 := hL.b3
  clear hL hok hx hy h0 h1 hr hs
  go_enter Try.func22, Try.ntmps22
  go_wp2_with (refine K.out.mono ?_; rintro e w1 ⟨rfl, hb⟩)
  go_ret
  exact ⟨ret_bool (by rw [HF.out]), hb⟩
/-- What the walk from one signal on answers, in whatever later world. -/
def WaysAt (w : World) (L : Lay) (A1 A2 A3 A4 : Option Addr) (n1 c1 n2 c2 n3 c3 n4 c4 : Nat) (I : Inn) (C D : Option Addr) (n c m d : Nat) (P : Option Addr) (p pc : Nat) (s : Nat) (t : List Bool) (K : Nat) : Prop :=
  ∀ (W : World) (X : Option Addr) (x xc : Nat) (ch : List Int), Below w.heap.size w W → ChV W X x xc ch → ChOk L ch → x ≤ K →
    Calls Try.prog 16 #[.agg #[.slice A1 n1 c1, .slice A2 n2 c2, .slice A3 n3 c3, .slice A4 n4 c4], .agg #[.slice C n c, .slice D m d], .slice P p pc, .int .i64 s, .slice X x xc] W fun e w' => e = .returned (.bool (waysM L I s t ch)) ∧ Below W.heap.size W w'
set_option maxHeartbeats 8000000 in
theorem W1_calls (w W : World) (hW : Below w.heap.size w W) (gL gI gP gS gC : Nat) (P : Option Addr) (p pc : Nat) (s : Nat) (t : List Bool) (K : Nat) (hK : K ≤ 1000000) (hs : s < 9223372036854775807)
    (hL : LayB W gL L A1 A2 A3 A4 n1 c1 n2 c2 n3 c3 n4 c4) (hI : InB W gI I C D n c m d) (hP : W.cell? ⟨gP, 0, none⟩ = some (.slice P p pc)) (hS : W.cell? ⟨gS, 0, none⟩ = some (.int .i64 s))
    (X : Option Addr) (x xc : Nat) (ch : List Int) (hC : W.cell? ⟨gC, 0, none⟩ = some (.slice X x xc)) (hch : ChV W X x xc ch) (hco : ChOk L ch) (hx : x + 1 ≤ K) (hok : AllOk L I)
    (ih : WaysAt w L A1 A2 A3 A4 n1 c1 n2 c2 n3 c3 n4 c4 I C D n c m d P p pc (s + 1) t K) (r : Int) (h0 : 0 ≤ r) (h1 : r < L.rtes.length) :
    Calls Try.prog 21 #[.int .i64 r, .pointer (some ⟨gC, 0, none⟩), .pointer (some ⟨gL, 0, none⟩), .pointer (some ⟨gI, 0, none⟩), .pointer (some ⟨gP, 0, none⟩), .pointer (some ⟨gS, 0, none⟩)] W
      fun e w' => e = .returned (.bool (!(ch.any fun q => conflictI L r q) && clearI L I r && waysM L I (s + 1) t (ch ++ [r]))) ∧ Below W.heap.size W w' := by
  obtain ⟨r, rfl⟩ : ∃ k : Nat, r = k := ⟨r.toNat, by omega⟩
  have hr : r < L.rtes.length := by omega
  have hw0 := below_new W (.cells #[.int .i64 (r : Int)] 3)
  have hB := Blk.new W #[.int .i64 (r : Int)] 3 (0, 0)
  have d0 := hB.cell 0
  simp only [List.getElem?_toArray, List.getElem?_cons_zero] at d0
  have HL := Lib.hid (hL.stay hw0)
  have HI := Lib.hid (hI.stay hw0)
  have cP := cell_stay hw0 hP
  have cS := cell_stay hw0 hS
  have cC := cell_stay hw0 hC
  have HC := Lib.hid (hch.stay hw0)
  have HO := Lib.hid hco
  have HK := Lib.hid hok
  have HIH := Lib.hid ih
  have HWW := Lib.hid (below_more hW hw0)
  have HWN := Lib.hid hw0
  have HR := Lib.hid hr
  have hxc := hch.sl.le
  have hcap := hch.sl.cap
  have hform := Lib.hid hch.form
  clear hL hI hP hS hC hch hco hok ih hW hB
  go_enter Try.func21, Try.ntmps21
  go_upto_region 1 with fail
  generalize hgn : W.heap.size = gn at *
  have HGN := Lib.hid hgn
  clear hgn hw0
  generalize (W.alloc (.cells #[.int .i64 (r : Int)] 3)) = W0 at *
  have K1 := Lib.hid (CFI_calls W0 X x xc ch HC.out.sl 22 #[.pointer (some ⟨gL, 0, none⟩), .pointer (some ⟨gn, 0, none⟩)] enter_w11 (fun q => conflictI L r q)
      (fun W2 q hq hb => (W11_calls W2 gL gn (HL.out.stay hb) HK.out r HR.out (cell_stay hb d0) q (HO.out q hq).1 (HO.out q hq).2).mono fun e w' h => ⟨h.1, below_more hb h.2⟩))
  generalize hr1 : (ch.any fun q => conflictI L r q) = r1 at *
  have HR1 := Lib.hid hr1
  clear hr1
  have l0 := HL.out.b0
  have l1 := HL.out.b1
  have l2 := HL.out.b2
  have l3 := HL.out.b3
  have i0 := HI.out.c0
  have i1 := HI.out.c1
  cases r1 with
  | true =>
    go_wp2_with (first
      | (go_at_call 19; refine K1.out.mono ?_; rintro e w1 ⟨rfl, hb1⟩; have HB1 := Lib.hid hb1; clear hb1)
      | fail)
    go_quiet (fail)
    go_wp2_with fail
    go_ret
    exact ⟨ret_bool (by rw [HR1.out]; simp), below_more (by rw [HGN.out]; exact HWN.out) (below_drawn HB1.out _)⟩
  | false =>
    have hxr := List.getElem?_eq_getElem hr
    have hIC := fun (W2 : World) (hb : Below W0.heap.size W0 W2) => IsClear_calls W2 L A1 A2 A3 A4 n1 c1 n2 c2 n3 c3 n4 c4 (HL.out.stay hb).v I C D n c m d (HI.out.stay hb).v r _ hxr (HK.out.all _ (List.getElem_mem hr))
    have HF : Hid (clearI L I r = clearM I (L.rtes[r])) := Lib.hid (by
      unfold clearI
      rw [Int.toNat_natCast, hxr]
      rfl)
    generalize clearM I (L.rtes[r]) = z at *
    clear hxr h0 h1 hr
    cases z with
    | false =>
      have HIC := Lib.hid hIC
      clear hIC
      go_wp2_with (first
        | (go_at_call 19; refine K1.out.mono ?_; rintro e w1 ⟨rfl, hb1⟩; have HB1 := Lib.hid hb1; have l0 := later_cell (cell_stay hb1 l0); have l1 := later_cell (cell_stay hb1 l1); have l2 := later_cell (cell_stay hb1 l2); have l3 := later_cell (cell_stay hb1 l3); have i0 := later_cell (cell_stay hb1 i0); have i1 := later_cell (cell_stay hb1 i1); have d0 := later_cell (cell_stay hb1 d0); clear hb1)
        | fail)
      refine wp_region_later (by kernel_rfl) (by kernel_rfl) ?_
      repeat (go_big_quiet_step (first
        | (go_at_call 24; rename_i q; exact later_call q (HIC.out q.w1 (below_more HB1.out q.hb)))
        | fail))
      refine wpQuiet_nil ?_
      intro q
      go_wp2_with fail
      go_ret
      exact ⟨ret_bool (by rw [HF.out]; simp), below_more (by rw [HGN.out]; exact HWN.out) (below_more HB1.out q.hb)⟩
    | true =>
      have HIC := Lib.hid hIC
      clear hIC
      obtain ⟨e0, he0, hz0, hz1, hz2⟩ := info_parts info_int
      have hw1 : IntKind.i64.wrap ((s : Int) + 1) = (s : Int) + 1 := by rw [IntKind.wrap_i64]; omega
      have KEEP := Lib.hid (fun (w' : World) (hb : Below W0.heap.size W0 w') => (⟨cell_stay hb l0, cell_stay hb l1, cell_stay hb l2, cell_stay hb l3, cell_stay hb i0, cell_stay hb i1, cell_stay hb cP, cell_stay hb cS, cell_stay hb cC, cell_stay hb d0⟩ :
        w'.cell? ⟨gL, 0, none⟩ = some (.slice A1 n1 c1) ∧ w'.cell? ⟨gL, 1, none⟩ = some (.slice A2 n2 c2) ∧ w'.cell? ⟨gL, 2, none⟩ = some (.slice A3 n3 c3) ∧ w'.cell? ⟨gL, 3, none⟩ = some (.slice A4 n4 c4) ∧
        w'.cell? ⟨gI, 0, none⟩ = some (.slice C n c) ∧ w'.cell? ⟨gI, 1, none⟩ = some (.slice D m d) ∧ w'.cell? ⟨gP, 0, none⟩ = some (.slice P p pc) ∧ w'.cell? ⟨gS, 0, none⟩ = some (.int .i64 s) ∧ w'.cell? ⟨gC, 0, none⟩ = some (.slice X x xc) ∧ w'.cell? ⟨gn, 0, none⟩ = some (.int .i64 r)))
      go_wp2_with (first
        | (go_at_call 19; refine K1.out.mono ?_; rintro e w1 ⟨rfl, hb1⟩; have HB1 := Lib.hid hb1; have B1 := Lib.hid (KEEP.out w1 hb1); clear hb1 l0 l1 l2 l3 i0 i1 cP cS cC d0)
        | fail)
      have HD := Lib.hid (below_drawn HB1.out 1)
      have hB1 := B1.out
      have K6 : Hid (∀ (W : World) (X : Option Addr) (x xc : Nat) (ch : List Int), Below w.heap.size w W → ChV W X x xc ch → ChOk L ch → x ≤ K →
        Calls Try.prog 16 #[.agg #[.slice A1 n1 c1, .slice A2 n2 c2, .slice A3 n3 c3, .slice A4 n4 c4], .agg #[.slice C n c, .slice D m d], .slice P p pc, .int .i64 ((s : Int) + 1), .slice X x xc] W fun e w' => e = .returned (.bool (waysM L I (s + 1) t ch)) ∧ Below W.heap.size W w') := Lib.hid HIH.out
      have HOK : Hid (ChOk L (ch ++ [(r : Int)])) := Lib.hid (by
        intro q hq
        rcases List.mem_append.1 hq with h | h
        · exact HO.out q h
        · rw [List.mem_singleton.1 h]
          have := HR.out
          omega)
      generalize hz : waysM L I (s + 1) t (ch ++ [(r : Int)]) = zz at *
      have HZ := Lib.hid hz
      clear hz
      go_region_held3 (fun w' => w'.cell? ⟨gL, 0, none⟩ = some (.slice A1 n1 c1) ∧ w'.cell? ⟨gL, 1, none⟩ = some (.slice A2 n2 c2) ∧ w'.cell? ⟨gL, 2, none⟩ = some (.slice A3 n3 c3) ∧ w'.cell? ⟨gL, 3, none⟩ = some (.slice A4 n4 c4) ∧
        w'.cell? ⟨gI, 0, none⟩ = some (.slice C n c) ∧ w'.cell? ⟨gI, 1, none⟩ = some (.slice D m d) ∧ w'.cell? ⟨gP, 0, none⟩ = some (.slice P p pc) ∧ w'.cell? ⟨gS, 0, none⟩ = some (.int .i64 s) ∧ w'.cell? ⟨gC, 0, none⟩ = some (.slice X x xc) ∧ w'.cell? ⟨gn, 0, none⟩ = some (.int .i64 r))
        (first | exact KEEP.out _ HD.out | exact KEEP.out _ HB7.out | exact KEEP.out _ HB6.out | exact KEEP.out _ (HB5.out.alloc HB5.out.size _) | exact KEEP.out _ HB5.out)
        (first
          | (go_at_call 24; refine (HIC.out _ HD.out).mono ?_; rintro e w5 ⟨rfl, hb5⟩; have HB5 := Lib.hid (below_more HD.out hb5); clear hb5)
          | (refine step_append_full (by rfl) (.tmp 31) (.tmp 33) _ (by rfl) 3 e0 _ 1 8 Try.underlying22 he0 hz0 hz1 hz2 rfl (by omega) X x x (ch.flatMap flI.enc) (by rfl) (fun hn => by rcases hform.out with ⟨_, q, _⟩ | ⟨_, q⟩ <;> simp_all) (by rw [flat_length, HC.out.sl.len]; rfl) (sl_cells ((HC.out.sl.stay HB5.out).stay (below_new w5 _))) ⟨w5.heap.size, 0, none⟩ 1 1 [.int .i64 (r : Int)] (by rfl) (by rfl) (by intro j u hj; have hb := (Blk.new w5 #[.int .i64 (r : Int)] 3 (0, 0)).cell j; rw [add_off _ _ 0 rfl, Nat.zero_add, hb, ← Array.getElem?_toList]; exact hj) (by intro u hu; rw [List.mem_singleton.1 hu]; rfl) (by omega) (by simp only [maxLen]; omega) (by omega) ?_; intro v6 w6 hown6 hg6; obtain ⟨A6, c6, rfl⟩ := row_form hown6; have HB6 := Lib.hid ((HB5.out.alloc HB5.out.size (.cells #[.int .i64 (r : Int)] 3)).grown hg6 (by simp; have := HB5.out.size; omega) (by intro k hk; cases hk)); have HN6 := Lib.hid (chv_ow (Ow.snoc (f := flI) (xs := ch) (x := (r : Int)) (by rw [HC.out.sl.len]; exact hown6)) (by rw [List.length_append, HC.out.sl.len]; rfl) (by omega)); clear hown6 hg6)
          | (go_at_call 16; refine (K6.out w6 A6 (x + 1) c6 (ch ++ [(r : Int)]) (below_more HWW.out HB6.out) HN6.out HOK.out hx).mono ?_; rintro e w7 ⟨rfl, hb7⟩; have HB7 := Lib.hid (below_more HB6.out hb7); clear hb7)
          | fail)
      go_wp2_with fail
      go_ret
      exact ⟨ret_bool (by rw [HF.out, HR1.out, HZ.out]; simp), below_more (by rw [HGN.out]; exact HWN.out) HB7.out⟩
end
end Go.Proofs.Ytmdggodkkkihhaa
