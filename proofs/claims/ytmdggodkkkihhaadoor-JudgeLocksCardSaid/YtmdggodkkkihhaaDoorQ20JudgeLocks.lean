/- Texts put together for a claim. -/
import Derived.Test.YtmdggodkkkihhaaDoorQ19JudgeLocks
import Derived.Test.YtmdggodkkkihhaaDoorLater
import Derived.Deep.RegionLawGrows
import Derived.Test.YtmdggodkkkihhaaDoorKinds
/- Contracts of judge.ways' closures. -/
set_option linter.unusedVariables false
set_option linter.unusedSimpArgs false
namespace Go.Proofs.YtmdggodkkkihhaaDoor
open Go.RowKit

/-- An append that grows, as a step of a region that draws its order, the operation under a guard. -/
theorem step_append_full {P : Program} {ops : Array Oper} {o : Oper} {a : Act} {w : World} {K : Act → World → Prop} {Q : Exit → Act → World → Prop} {E : Prop}
    (hw : Region.wanted o (yielded ops a.tmps) = true) (s x : Operand) (t : TypeId) (hop : o.op = Op.call { callee := Callee.builtin Builtin.append, args := #[s, x], argTypes := #[t, t] })
    (e : TypeId) (i : TypeInfo) (z : Value) (size bytes : Nat) (h1 : P.underlying t = some (.slice e)) (h2 : P.info? e = some i) (h3 : i.zero = some z) (h4 : i.size = size) (h5 : i.bytes = bytes) (h6 : z.cells.size = size) (h7 : 0 < size)
    (ao : Option Addr) (n cap : Nat) (olds : List Value) (hs : a.eval s = .slice ao n cap) (hnone : ao = none → n = 0 ∧ cap = 0) (hlo : olds.length = n * size) (holds : ∀ b, ao = some b → ∀ j u, olds[j]? = some u → w.cell? (b.add j) = some u)
    (ad : Addr) (m c : Nat) (news : List Value) (hx : a.eval x = .slice (some ad) m c) (hn : news.length = m * size) (hc : ∀ j u, news[j]? = some u → w.cell? (ad.add j) = some u) (h1c : ∀ u ∈ news, u.oneCell' = true)
    (hfull : cap < n + m) (b1 : n + m ≤ maxLen) (b2 : (n + m) * bytes ≤ 140737488355328)
    (hK : ∀ v' w', w'.ownsRow w.heap.size e size v' (n + m) (olds ++ news) → w.grownBy w' none → K (a.put o.dst v') w') :
    if Region.wanted o (yielded ops a.tmps) = true then Oper.wp P o a w K Q else E := by
  rw [if_pos hw]
  cases ao with
  | some b =>
    obtain ⟨v', w', hrun, r1, r2⟩ := run_append_arg_grows (P := P) w t o.type e i z size bytes h1 h2 h3 h4 h5 h6 h7 b n cap olds hlo (holds b rfl) ad m c news hn hc hfull b1 b2
    unfold Oper.wp
    simp [execOp, hop, resolve, invoke, builtin, hs, hx, hrun, Result.andThen]
    exact hK v' w' r1 r2
  | none =>
    obtain ⟨rfl, rfl⟩ := hnone rfl
    obtain rfl : olds = [] := List.eq_nil_of_length_eq_zero (by simpa using hlo)
    obtain ⟨v', w', hrun, r1, r2, _⟩ := run_append_own (P := P) w w.heap.size t o.type e i z size bytes h1 h2 h3 h4 h5 h6 h7 (.slice none 0 0) 0 [] (World.ownsRow_nil w _ e size) ad m c news hn hc h1c b1 b2 (Nat.le_refl _)
    unfold Oper.wp
    simp [execOp, hop, resolve, invoke, builtin, hs, hx, hrun, Result.andThen]
    exact hK v' w' r1 r2
theorem sl_cells {w : World} {X : Option Addr} {x c : Nat} {xs : List Int} (h : Sl flI w X x c xs) : ∀ b, X = some b → ∀ j u, (xs.flatMap flI.enc)[j]? = some u → w.cell? (b.add j) = some u := by
  intro b hb j u hu
  subst hb
  have hl := h.len
  rcases Nat.eq_zero_or_pos x with h0 | h0
  · rw [h0] at hl
    rw [List.eq_nil_of_length_eq_zero hl] at hu
    simp at hu
  · obtain ⟨_, hr⟩ := h.rf.reads (by decide)
    obtain ⟨a, ha, _, hc⟩ := hr h0
    obtain rfl : b = a := by injection ha
    exact hc j u hu
def conflictI (L : Lay) (a b : Int) : Bool := match L.rtes[a.toNat]?, L.rtes[b.toNat]? with
  | some x, some y => conflictM a.toNat b.toNat x y
  | _, _ => false
def clearI (L : Lay) (I : Inn) (a : Int) : Bool := match L.rtes[a.toNat]? with
  | some x => clearM I x
  | none => false
/-- Can a way be chosen for each signal from s on, beside some? -/
def waysM (L : Lay) (I : Inn) : Nat → List Bool → List Int → Bool
  | _, [], _ => true
  | s, b :: t, ch => if b then (entryTo L.rtes s L.rtes.length).any fun r => !(ch.any fun q => conflictI L r q) && clearI L I r && waysM L I (s + 1) t (ch ++ [r]) else waysM L I (s + 1) t ch
structure AllOk (L : Lay) (I : Inn) : Prop where
  few : L.rtes.length ≤ 1000000
  all : ∀ x ∈ L.rtes, RteOk I x
def ChOk (L : Lay) (ch : List Int) : Prop := ∀ q ∈ ch, 0 ≤ q ∧ q < L.rtes.length
/-- The chosen ones. -/
structure ChV (w : World) (C : Option Addr) (k kc : Nat) (ch : List Int) : Prop where
  sl : Sl flI w C k kc ch
  form : (C = none ∧ k = 0 ∧ kc = 0) ∨ ∃ g, C = some ⟨g, 0, none⟩
theorem ChV.stay {w w1 : World} {C : Option Addr} {k kc : Nat} {ch : List Int} (h : ChV w C k kc ch) (hb : Below w.heap.size w w1) : ChV w1 C k kc ch := ⟨h.sl.stay hb, h.form⟩
theorem chv_ow {w : World} {base : Nat} {e : TypeId} {A : Option Addr} {n c : Nat} {xs : List Int} (h : Ow flI w base e (.slice A n c) xs) (hl : xs.length = n) (hn : n ≤ 140737488351232) : ChV w A n c xs := by
  subst hl
  obtain ⟨A', c', e1, hs⟩ := sl_ow h (by decide) hn
  obtain ⟨rfl, _, rfl⟩ : A = A' ∧ xs.length = xs.length ∧ c = c' := by injection e1 with a b d; exact ⟨a, b, d⟩
  refine ⟨hs, ?_⟩
  rcases h.2 with ⟨e1, h0⟩ | ⟨g, cap, cur, e1, _⟩
  · injection e1 with a b d
    exact .inl ⟨a, b, d⟩
  · injection e1 with a b d
    exact .inr ⟨g, a⟩
theorem enter_w1 (args : Array Value) (w : World) : (callFunc 46 args).run Tryd.prog w = .ok (.enter 46 args) w := by kernel_rfl
theorem enter_w11 (args : Array Value) (w : World) : (callFunc 47 args).run Tryd.prog w = .ok (.enter 47 args) w := by kernel_rfl
section
variable {L : Lay} {A1 A2 A3 A4 : Option Addr} {n1 c1 n2 c2 n3 c3 n4 c4 : Nat} {I : Inn} {C D : Option Addr} {n c m d : Nat}
set_option maxRecDepth 20000 in
set_option maxHeartbeats 2000000 in
theorem W11_calls (W : World) (g k : Nat) (hL : LayB W g L A1 A2 A3 A4 n1 c1 n2 c2 n3 c3 n4 c4) (hok : AllOk L I) (r : Nat) (hr : r < L.rtes.length) (hk : W.cell? ⟨k, 0, none⟩ = some (.int .i64 r)) (q : Int) (h0 : 0 ≤ q) (h1 : q < L.rtes.length) :
    Calls Tryd.prog 47 #[.int .i64 q, .pointer (some ⟨g, 0, none⟩), .pointer (some ⟨k, 0, none⟩)] W fun e w' => e = .returned (.bool (conflictI L r q)) ∧ Below W.heap.size W w' := by
  obtain ⟨s, rfl⟩ : ∃ s : Nat, q = s := ⟨q.toNat, by omega⟩
  have hs : s < L.rtes.length := by omega
  have hx := List.getElem?_eq_getElem hr
  have hy := List.getElem?_eq_getElem hs
  have K := Lib.hid (Conflict_calls W L A1 A2 A3 A4 n1 c1 n2 c2 n3 c3 n4 c4 hL.v r s _ _ hx hy (hok.all _ (List.getElem_mem hr)).few (hok.all _ (List.getElem_mem hs)).few)
  have HF : Hid (conflictI L r s = conflictM r s (L.rtes[r]) (L.rtes[s])) := Lib.hid (by
    unfold conflictI
    rw [Int.toNat_natCast, Int.toNat_natCast, hx, hy])
  generalize conflictM r s (L.rtes[r]) (L.rtes[s]) = z at *
  have b0 := hL.b0
  have b1 := hL.b1
  have b2 := hL.b2
  have b3 := hL.b3
  clear hL hok hx hy h0 h1 hr hs
  go_enter Tryd.func47, Tryd.ntmps47
  go_wp2_with (refine K.out.mono ?_; rintro e w1 ⟨rfl, hb⟩)
  go_ret
  exact ⟨ret_bool (by rw [HF.out]), hb⟩
/-- What the walk from one signal on answers, in whatever later world. -/
def WaysAt (w : World) (L : Lay) (A1 A2 A3 A4 : Option Addr) (n1 c1 n2 c2 n3 c3 n4 c4 : Nat) (I : Inn) (C D : Option Addr) (n c m d : Nat) (P : Option Addr) (p pc : Nat) (s : Nat) (t : List Bool) (K : Nat) : Prop :=
  ∀ (W : World) (X : Option Addr) (x xc : Nat) (ch : List Int), Below w.heap.size w W → ChV W X x xc ch → ChOk L ch → x ≤ K →
    Calls Tryd.prog 24 #[.agg #[.slice A1 n1 c1, .slice A2 n2 c2, .slice A3 n3 c3, .slice A4 n4 c4], .agg #[.slice C n c, .slice D m d], .slice P p pc, .int .i64 s, .slice X x xc] W fun e w' => e = .returned (.bool (waysM L I s t ch)) ∧ Below W.heap.size W w'
set_option maxRecDepth 20000 in
set_option maxHeartbeats 8000000 in
theorem W1_calls (w W : World) (hW : Below w.heap.size w W) (gL gI gP gS gC : Nat) (P : Option Addr) (p pc : Nat) (s : Nat) (t : List Bool) (K : Nat) (hK : K ≤ 1000000) (hs : s < 9223372036854775807)
    (hL : LayB W gL L A1 A2 A3 A4 n1 c1 n2 c2 n3 c3 n4 c4) (hI : InB W gI I C D n c m d) (hP : W.cell? ⟨gP, 0, none⟩ = some (.slice P p pc)) (hS : W.cell? ⟨gS, 0, none⟩ = some (.int .i64 s))
    (X : Option Addr) (x xc : Nat) (ch : List Int) (hC : W.cell? ⟨gC, 0, none⟩ = some (.slice X x xc)) (hch : ChV W X x xc ch) (hco : ChOk L ch) (hx : x + 1 ≤ K) (hok : AllOk L I)
    (ih : WaysAt w L A1 A2 A3 A4 n1 c1 n2 c2 n3 c3 n4 c4 I C D n c m d P p pc (s + 1) t K) (r : Int) (h0 : 0 ≤ r) (h1 : r < L.rtes.length) :
    Calls Tryd.prog 46 #[.int .i64 r, .pointer (some ⟨gC, 0, none⟩), .pointer (some ⟨gL, 0, none⟩), .pointer (some ⟨gI, 0, none⟩), .pointer (some ⟨gP, 0, none⟩), .pointer (some ⟨gS, 0, none⟩)] W
      fun e w' => e = .returned (.bool (!(ch.any fun q => conflictI L r q) && clearI L I r && waysM L I (s + 1) t (ch ++ [r]))) ∧ Below W.heap.size W w' := by
  obtain ⟨r, rfl⟩ : ∃ k : Nat, r = k := ⟨r.toNat, by omega⟩
  have hr : r < L.rtes.length := by omega
  have hw0 := below_new W (.cells #[.int .i64 (r : Int)] 3)
  have hB := Blk.new W #[.int .i64 (r : Int)] 3 (0, 0)
  have d0 := hB.cell 0
  simp only [List.getElem?_toArray, List.getElem?_cons_zero] at d0
  have HL := Lib.hid (hL.stay hw0)
  have HI := Lib.hid (hI.stay hw0)
  have cP := cell_stay hw0 hP
  have cS := cell_stay hw0 hS
  have cC := cell_stay hw0 hC
  have HC := Lib.hid (hch.stay hw0)
  have HO := Lib.hid hco
  have HK := Lib.hid hok
  have HIH := Lib.hid ih
  have HWW := Lib.hid (below_more hW hw0)
  have HWN := Lib.hid hw0
  have HR := Lib.hid hr
  have hxc := hch.sl.le
  have hcap := hch.sl.cap
  have hform := Lib.hid hch.form
  clear hL hI hP hS hC hch hco hok ih hW hB
  go_enter Tryd.func46, Tryd.ntmps46
  go_upto_region 1 with fail
  generalize hgn : W.heap.size = gn at *
  have HGN := Lib.hid hgn
  clear hgn hw0
  generalize (W.alloc (.cells #[.int .i64 (r : Int)] 3)) = W0 at *
  have K1 := Lib.hid (CFI_calls W0 X x xc ch HC.out.sl 47 #[.pointer (some ⟨gL, 0, none⟩), .pointer (some ⟨gn, 0, none⟩)] enter_w11 (fun q => conflictI L r q)
      (fun W2 q hq hb => (W11_calls W2 gL gn (HL.out.stay hb) HK.out r HR.out (cell_stay hb d0) q (HO.out q hq).1 (HO.out q hq).2).mono fun e w' h => ⟨h.1, below_more hb h.2⟩))
  generalize hr1 : (ch.any fun q => conflictI L r q) = r1 at *
  have HR1 := Lib.hid hr1
  clear hr1
  have l0 := HL.out.b0
  have l1 := HL.out.b1
  have l2 := HL.out.b2
  have l3 := HL.out.b3
  have i0 := HI.out.c0
  have i1 := HI.out.c1
  cases r1 with
  | true =>
    go_wp2_with (first
      | (go_at_call 44; refine K1.out.mono ?_; rintro e w1 ⟨rfl, hb1⟩; have HB1 := Lib.hid hb1; clear hb1)
      | fail)
    go_quiet (fail)
    go_wp2_with fail
    go_ret
    exact ⟨ret_bool (by rw [HR1.out]; simp), below_more (by rw [HGN.out]; exact HWN.out) (below_drawn HB1.out _)⟩
  | false =>
    have hxr := List.getElem?_eq_getElem hr
    have hIC := fun (W2 : World) (hb : Below W0.heap.size W0 W2) => IsClear_calls W2 L A1 A2 A3 A4 n1 c1 n2 c2 n3 c3 n4 c4 (HL.out.stay hb).v I C D n c m d (HI.out.stay hb).v r _ hxr (HK.out.all _ (List.getElem_mem hr))
    have HF : Hid (clearI L I r = clearM I (L.rtes[r])) := Lib.hid (by
      unfold clearI
      rw [Int.toNat_natCast, hxr]
      rfl)
    generalize clearM I (L.rtes[r]) = z at *
    clear hxr h0 h1 hr
    cases z with
    | false =>
      have HIC := Lib.hid hIC
      clear hIC
      go_wp2_with (first
        | (go_at_call 44; refine K1.out.mono ?_; rintro e w1 ⟨rfl, hb1⟩; have HB1 := Lib.hid hb1; have l0 := later_cell (cell_stay hb1 l0); have l1 := later_cell (cell_stay hb1 l1); have l2 := later_cell (cell_stay hb1 l2); have l3 := later_cell (cell_stay hb1 l3); have i0 := later_cell (cell_stay hb1 i0); have i1 := later_cell (cell_stay hb1 i1); have d0 := later_cell (cell_stay hb1 d0); clear hb1)
        | fail)
      refine wp_region_later (by kernel_rfl) (by kernel_rfl) ?_
      repeat (go_big_quiet_step (first
        | (go_at_call 49; rename_i q; exact later_call q (HIC.out q.w1 (below_more HB1.out q.hb)))
        | fail))
      refine wpQuiet_nil ?_
      intro q
      go_wp2_with fail
      go_ret
      exact ⟨ret_bool (by rw [HF.out]; simp), below_more (by rw [HGN.out]; exact HWN.out) (below_more HB1.out q.hb)⟩
    | true =>
      have HIC := Lib.hid hIC
      clear hIC
      obtain ⟨e0, he0, hz0, hz1, hz2⟩ := info_parts info_int
      have hw1 : IntKind.i64.wrap ((s : Int) + 1) = (s : Int) + 1 := by rw [IntKind.wrap_i64]; omega
      have KEEP := Lib.hid (fun (w' : World) (hb : Below W0.heap.size W0 w') => (⟨cell_stay hb l0, cell_stay hb l1, cell_stay hb l2, cell_stay hb l3, cell_stay hb i0, cell_stay hb i1, cell_stay hb cP, cell_stay hb cS, cell_stay hb cC, cell_stay hb d0⟩ :
        w'.cell? ⟨gL, 0, none⟩ = some (.slice A1 n1 c1) ∧ w'.cell? ⟨gL, 1, none⟩ = some (.slice A2 n2 c2) ∧ w'.cell? ⟨gL, 2, none⟩ = some (.slice A3 n3 c3) ∧ w'.cell? ⟨gL, 3, none⟩ = some (.slice A4 n4 c4) ∧
        w'.cell? ⟨gI, 0, none⟩ = some (.slice C n c) ∧ w'.cell? ⟨gI, 1, none⟩ = some (.slice D m d) ∧ w'.cell? ⟨gP, 0, none⟩ = some (.slice P p pc) ∧ w'.cell? ⟨gS, 0, none⟩ = some (.int .i64 s) ∧ w'.cell? ⟨gC, 0, none⟩ = some (.slice X x xc) ∧ w'.cell? ⟨gn, 0, none⟩ = some (.int .i64 r)))
      go_wp2_with (first
        | (go_at_call 44; refine K1.out.mono ?_; rintro e w1 ⟨rfl, hb1⟩; have HB1 := Lib.hid hb1; have B1 := Lib.hid (KEEP.out w1 hb1); clear hb1 l0 l1 l2 l3 i0 i1 cP cS cC d0)
        | fail)
      have HD := Lib.hid (below_drawn HB1.out 1)
      have hB1 := B1.out
      have K6 : Hid (∀ (W : World) (X : Option Addr) (x xc : Nat) (ch : List Int), Below w.heap.size w W → ChV W X x xc ch → ChOk L ch → x ≤ K →
        Calls Tryd.prog 24 #[.agg #[.slice A1 n1 c1, .slice A2 n2 c2, .slice A3 n3 c3, .slice A4 n4 c4], .agg #[.slice C n c, .slice D m d], .slice P p pc, .int .i64 ((s : Int) + 1), .slice X x xc] W fun e w' => e = .returned (.bool (waysM L I (s + 1) t ch)) ∧ Below W.heap.size W w') := Lib.hid HIH.out
      have HOK : Hid (ChOk L (ch ++ [(r : Int)])) := Lib.hid (by
        intro q hq
        rcases List.mem_append.1 hq with h | h
        · exact HO.out q h
        · rw [List.mem_singleton.1 h]
          have := HR.out
          omega)
      generalize hz : waysM L I (s + 1) t (ch ++ [(r : Int)]) = zz at *
      have HZ := Lib.hid hz
      clear hz
      go_region_held3 (fun w' => w'.cell? ⟨gL, 0, none⟩ = some (.slice A1 n1 c1) ∧ w'.cell? ⟨gL, 1, none⟩ = some (.slice A2 n2 c2) ∧ w'.cell? ⟨gL, 2, none⟩ = some (.slice A3 n3 c3) ∧ w'.cell? ⟨gL, 3, none⟩ = some (.slice A4 n4 c4) ∧
        w'.cell? ⟨gI, 0, none⟩ = some (.slice C n c) ∧ w'.cell? ⟨gI, 1, none⟩ = some (.slice D m d) ∧ w'.cell? ⟨gP, 0, none⟩ = some (.slice P p pc) ∧ w'.cell? ⟨gS, 0, none⟩ = some (.int .i64 s) ∧ w'.cell? ⟨gC, 0, none⟩ = some (.slice X x xc) ∧ w'.cell? ⟨gn, 0, none⟩ = some (.int .i64 r))
        (first | exact KEEP.out _ HD.out | exact KEEP.out _ HB7.out | exact KEEP.out _ HB6.out | exact KEEP.out _ (HB5.out.alloc HB5.out.size _) | exact KEEP.out _ HB5.out)
        (first
          | (go_at_call 49; refine (HIC.out _ HD.out).mono ?_; rintro e w5 ⟨rfl, hb5⟩; have HB5 := Lib.hid (below_more HD.out hb5); clear hb5)
          | (refine step_append_full (by rfl) (.tmp 31) (.tmp 33) _ (by rfl) 3 e0 _ 1 8 Tryd.underlying28 he0 hz0 hz1 hz2 rfl (by omega) X x x (ch.flatMap flI.enc) (by rfl) (fun hn => by rcases hform.out with ⟨_, q, _⟩ | ⟨_, q⟩ <;> simp_all) (by rw [flat_length, HC.out.sl.len]; rfl) (sl_cells ((HC.out.sl.stay HB5.out).stay (below_new w5 _))) ⟨w5.heap.size, 0, none⟩ 1 1 [.int .i64 (r : Int)] (by rfl) (by rfl) (by intro j u hj; have hb := (Blk.new w5 #[.int .i64 (r : Int)] 3 (0, 0)).cell j; rw [add_off _ _ 0 rfl, Nat.zero_add, hb, ← Array.getElem?_toList]; exact hj) (by intro u hu; rw [List.mem_singleton.1 hu]; rfl) (by omega) (by simp only [maxLen]; omega) (by omega) ?_; intro v6 w6 hown6 hg6; obtain ⟨A6, c6, rfl⟩ := row_form hown6; have HB6 := Lib.hid ((HB5.out.alloc HB5.out.size (.cells #[.int .i64 (r : Int)] 3)).grown hg6 (by simp; have := HB5.out.size; omega) (by intro k hk; cases hk)); have HN6 := Lib.hid (chv_ow (Ow.snoc (f := flI) (xs := ch) (x := (r : Int)) (by rw [HC.out.sl.len]; exact hown6)) (by rw [List.length_append, HC.out.sl.len]; rfl) (by omega)); clear hown6 hg6)
          | (go_at_call 24; refine (K6.out w6 A6 (x + 1) c6 (ch ++ [(r : Int)]) (below_more HWW.out HB6.out) HN6.out HOK.out hx).mono ?_; rintro e w7 ⟨rfl, hb7⟩; have HB7 := Lib.hid (below_more HB6.out hb7); clear hb7)
          | fail)
      go_wp2_with fail
      go_ret
      exact ⟨ret_bool (by rw [HF.out, HR1.out, HZ.out]; simp), below_more (by rw [HGN.out]; exact HWN.out) HB7.out⟩
end
end Go.Proofs.YtmdggodkkkihhaaDoor

/- Contract of judge.ways. -/
set_option linter.unusedVariables false
set_option linter.unusedSimpArgs false
namespace Go.Proofs.YtmdggodkkkihhaaDoor
open Go.RowKit

section
variable {L : Lay} {A1 A2 A3 A4 : Option Addr} {n1 c1 n2 c2 n3 c3 n4 c4 : Nat} {I : Inn} {C D : Option Addr} {n c m d : Nat}
theorem any_congr' {α : Type} {p q : α → Bool} : ∀ {xs : List α}, (∀ x ∈ xs, p x = q x) → xs.any p = xs.any q
  | [], _ => rfl
  | x :: t, h => by
    rw [List.any_cons, List.any_cons, h x (List.mem_cons_self ..), any_congr' fun y hy => h y (List.mem_cons_of_mem _ hy)]
set_option maxRecDepth 20000 in
set_option maxHeartbeats 8000000 in
theorem Ways_calls (w : World) (hL : LayV w L A1 A2 A3 A4 n1 c1 n2 c2 n3 c3 n4 c4) (hI : InV w I C D n c m d) (hok : AllOk L I) (P : Option Addr) (p pc : Nat) (pr : List Bool) (hP : Sl flT w P p pc pr) (hp : p ≤ 1000000) :
    ∀ (t : List Bool) (s : Nat), pr.drop s = t → s ≤ p → ∀ K, K + t.length ≤ 1000000 → WaysAt w L A1 A2 A3 A4 n1 c1 n2 c2 n3 c3 n4 c4 I C D n c m d P p pc s t K := by
  have hn4 : n4 ≤ 1000000 := by
    have := hL.rtes.len
    have := hok.few
    omega
  intro t
  induction t with
  | nil =>
    intro s hs hsp K hK W X x xc ch hW hch hco hx
    have hpl := hP.len
    have hge : p ≤ s := by
      have := congrArg List.length hs
      rw [List.length_drop, List.length_nil] at this
      omega
    obtain rfl : s = p := by omega
    have hb : Below W.heap.size W (((((W.alloc (.cells #[.slice A1 n1 c1, .slice A2 n2 c2, .slice A3 n3 c3, .slice A4 n4 c4] 26)).alloc (.cells #[.slice C n c, .slice D m d] 30)).alloc (.cells #[.slice P s pc] 27)).alloc (.cells #[.int .i64 s] 3)).alloc (.cells #[.slice X x xc] 28)) :=
      ((((below_new W _).alloc (by simp) _).alloc (by simp; omega) _).alloc (by simp; omega) _).alloc (by simp; omega) _
    clear hL hI hok hP hs hge hch hco hpl hsp
    go_enter Tryd.func24, Tryd.ntmps24
    go_wp2_with fail
    go_ret
    exact ⟨rfl, hb⟩
  | cons b t ih =>
    intro s hs hsp K hK W X x xc ch hW hch hco hx
    have hpl := hP.len
    have hlt : s < p := by
      have := congrArg List.length hs
      rw [List.length_drop, List.length_cons] at this
      omega
    have hcap := Nat.le_trans hP.le hP.cap
    obtain ⟨bb, off, y, rfl, hy, cy⟩ := hP.tru hlt
    obtain ⟨e1, e2⟩ : y = b ∧ pr.drop (s + 1) = t := by
      have h1 : pr.drop s = y :: pr.drop (s + 1) := by
        rw [List.drop_eq_getElem_cons (by omega)]
        have := (List.getElem?_eq_some_iff.1 hy).2
        rw [this]
      rw [h1] at hs
      injection hs with h2 h3
      exact ⟨h2, h3⟩
    subst e1
    rw [List.length_cons] at hK
    have ih0 := Lib.hid (ih (s + 1) e2 (by omega) K (by omega))
    have ih1 := Lib.hid (ih (s + 1) e2 (by omega) (K + 1) (by omega))
    have hb : Below W.heap.size W (((((W.alloc (.cells #[.slice A1 n1 c1, .slice A2 n2 c2, .slice A3 n3 c3, .slice A4 n4 c4] 26)).alloc (.cells #[.slice C n c, .slice D m d] 30)).alloc (.cells #[.slice (some ⟨bb, off, none⟩) p pc] 27)).alloc (.cells #[.int .i64 s] 3)).alloc (.cells #[.slice X x xc] 28)) :=
      ((((below_new W _).alloc (by simp) _).alloc (by simp; omega) _).alloc (by simp; omega) _).alloc (by simp; omega) _
    have hB1 := (((((Blk.new W #[.slice A1 n1 c1, .slice A2 n2 c2, .slice A3 n3 c3, .slice A4 n4 c4] 26 (0, 0)).alloc (.cells #[.slice C n c, .slice D m d] 30)).alloc (.cells #[.slice (some ⟨bb, off, none⟩) p pc] 27)).alloc (.cells #[.int .i64 s] 3)).alloc (.cells #[.slice X x xc] 28))
    have hB2 := ((((Blk.at_ (w := W.alloc (.cells #[.slice A1 n1 c1, .slice A2 n2 c2, .slice A3 n3 c3, .slice A4 n4 c4] 26)) (g := W.heap.size + 1) (by simp) #[.slice C n c, .slice D m d] 30 (0, 0))).alloc (.cells #[.slice (some ⟨bb, off, none⟩) p pc] 27)).alloc (.cells #[.int .i64 s] 3)).alloc (.cells #[.slice X x xc] 28)
    have hB3 := (((Blk.at_ (w := (W.alloc (.cells #[.slice A1 n1 c1, .slice A2 n2 c2, .slice A3 n3 c3, .slice A4 n4 c4] 26)).alloc (.cells #[.slice C n c, .slice D m d] 30)) (g := W.heap.size + 2) (by simp) #[.slice (some ⟨bb, off, none⟩) p pc] 27 (0, 0))).alloc (.cells #[.int .i64 s] 3)).alloc (.cells #[.slice X x xc] 28)
    have hB4 := (Blk.at_ (w := ((W.alloc (.cells #[.slice A1 n1 c1, .slice A2 n2 c2, .slice A3 n3 c3, .slice A4 n4 c4] 26)).alloc (.cells #[.slice C n c, .slice D m d] 30)).alloc (.cells #[.slice (some ⟨bb, off, none⟩) p pc] 27)) (g := W.heap.size + 3) (by simp) #[.int .i64 s] 3 (0, 0)).alloc (.cells #[.slice X x xc] 28)
    have hB5 := Blk.at_ (w := (((W.alloc (.cells #[.slice A1 n1 c1, .slice A2 n2 c2, .slice A3 n3 c3, .slice A4 n4 c4] 26)).alloc (.cells #[.slice C n c, .slice D m d] 30)).alloc (.cells #[.slice (some ⟨bb, off, none⟩) p pc] 27)).alloc (.cells #[.int .i64 s] 3)) (g := W.heap.size + 4) (by simp) #[.slice X x xc] 28 (0, 0)
    have l0 := hB1.cell 0
    have l1 := hB1.cell 1
    have l2 := hB1.cell 2
    have l3 := hB1.cell 3
    have i0 := hB2.cell 0
    have i1 := hB2.cell 1
    have p0 := hB3.cell 0
    have s0 := hB4.cell 0
    have x0 := hB5.cell 0
    simp only [List.getElem?_toArray, List.getElem?_cons_zero, List.getElem?_cons_succ] at l0 l1 l2 l3 i0 i1 p0 s0 x0
    have cy := cell_stay (below_more hW hb) cy
    have HL := Lib.hid (LayB.mk l0 l1 l2 l3 (hL.stay (below_more hW hb)))
    have HI := Lib.hid (InB.mk i0 i1 (hI.stay (below_more hW hb)))
    have HC := Lib.hid (hch.stay hb)
    have HO := Lib.hid hco
    have HK := Lib.hid hok
    have HWW := Lib.hid (below_more hW hb)
    have HB := Lib.hid hb
    have hrl : n4 = L.rtes.length := hL.rtes.len.symm
    have HRL := Lib.hid hrl
    have hw1 : Hid (IntKind.i64.wrap ((s : Int) + 1) = (s : Int) + 1) := Lib.hid (by rw [IntKind.wrap_i64]; omega)
    clear hL hI hok hP hs hch hco hpl hB1 hB2 hB3 hB4 hB5 hW hy ih hrl
    go_enter Tryd.func24, Tryd.ntmps24
    go_upto_region 1 with fail
    generalize (((((W.alloc (.cells #[.slice A1 n1 c1, .slice A2 n2 c2, .slice A3 n3 c3, .slice A4 n4 c4] 26)).alloc (.cells #[.slice C n c, .slice D m d] 30)).alloc (.cells #[.slice (some ⟨bb, off, none⟩) p pc] 27)).alloc (.cells #[.int .i64 s] 3)).alloc (.cells #[.slice X x xc] 28)) = W0 at *
    generalize hgn : W.heap.size = gn at *
    have HGN := Lib.hid hgn
    clear hgn hb
    cases y with
    | false =>
      go_wp2_with (first
        | (go_at_call 24; refine (ih0.out W0 X x xc ch HWW.out HC.out HO.out hx).mono ?_; rintro e w7 ⟨rfl, hb7⟩)
        | fail)
      go_ret
      exact ⟨rfl, below_more (by rw [HGN.out]; exact HB.out) hb7⟩
    | true =>
      have HE := Lib.hid (Entry_calls W0 L A1 A2 A3 A4 n1 c1 n2 c2 n3 c3 n4 c4 HL.out.v hn4 s)
      go_wp2_with (first
        | (go_at_call 45; refine HE.out.mono ?_; rintro e w2 ⟨A5, n5, c5, rfl, hq5, hb5⟩; have HB5 := Lib.hid hb5; have HQ5 := Lib.hid hq5; clear hb5 hq5)
        | (go_at_call 44; refine (CFI_calls w2 A5 n5 c5 (entryTo L.rtes s n4) HQ5.out 46 #[.pointer (some ⟨gn + 4, 0, none⟩), .pointer (some ⟨gn, 0, none⟩), .pointer (some ⟨gn + 1, 0, none⟩), .pointer (some ⟨gn + 2, 0, none⟩), .pointer (some ⟨gn + 3, 0, none⟩)] enter_w1 (fun r => !(ch.any fun q => conflictI L r q) && clearI L I r && waysM L I (s + 1) t (ch ++ [r]))
            (fun W2 r hr hb => by
              obtain ⟨j, _, rfl, hj, _, _⟩ := entryTo_mem hr
              have hb2 := below_more HB5.out hb
              exact (W1_calls w W2 (below_more HWW.out hb2) gn (gn + 1) (gn + 2) (gn + 3) (gn + 4) _ p pc s t (K + 1) (by omega) (by omega) (HL.out.stay hb2) (HI.out.stay hb2) (cell_stay hb2 p0) (cell_stay hb2 s0) X x xc ch (cell_stay hb2 x0) (HC.out.stay hb2) HO.out (by omega) HK.out ih1.out (j : Int) (by omega) (by have := HRL.out; omega)).mono fun e w' h => ⟨h.1, below_more hb h.2⟩)).mono ?_; rintro e w3 ⟨rfl, hb6⟩)
        | fail)
      go_ret
      refine ⟨ret_bool ?_, below_more (by rw [HGN.out]; exact HB.out) (below_more HB5.out hb6)⟩
      rw [waysM, if_pos rfl, ← HRL.out]
end
end Go.Proofs.YtmdggodkkkihhaaDoor

/- Contract of judge.Safe. -/
set_option linter.unusedVariables false
set_option linter.unusedSimpArgs false
namespace Go.Proofs.YtmdggodkkkihhaaDoor
open Go.RowKit

/-- What stands in a layout is there. -/
structure LayOk (L : Lay) : Prop where
  few : L.rtes.length ≤ 1000000
  sigs : L.sigs.length ≤ 1000000
  path : ∀ x ∈ L.rtes, ∀ a ∈ x.path, 0 ≤ a ∧ a < L.secs.length
  need : ∀ x ∈ L.rtes, ∀ a ∈ x.points ++ x.flank, 0 ≤ a.p ∧ a.p < L.pts.length
  needs : ∀ x ∈ L.rtes, x.points.length + x.flank.length ≤ 8796093022208
  pts : ∀ x ∈ L.pts, 0 ≤ x.sec ∧ x.sec < L.secs.length
theorem LayOk.all {L : Lay} (h : LayOk L) {I : Inn} (h1 : I.occ.length = L.secs.length) (h2 : I.lies.length = L.pts.length) : AllOk L I :=
  ⟨h.few, fun x hx => ⟨fun a ha => by rw [h1]; exact h.path x hx a ha, fun a ha => by rw [h2]; exact h.need x hx a ha, h.needs x hx⟩⟩
/-- Is a point driven that a train is over? -/
def dBad (L : Lay) (I : Inn) (O : Ou) (j : Nat) : Bool := decide (O.drive.getD j 0 ≠ 0) && I.occ.getD ((L.pts[j]?.map Pt.sec).getD 0).toNat false
def safeM (L : Lay) (I : Inn) (O : Ou) : Bool :=
  decide (I.occ.length = L.secs.length) && decide (I.lies.length = L.pts.length) && decide (O.drive.length = L.pts.length) && decide (O.proceed.length = L.sigs.length) &&
    !((List.range O.drive.length).any (dBad L I O)) && waysM L I 0 O.proceed []
theorem range_any_at {p : Nat → Bool} {n k : Nat} (hk : k < n) (h : p k = true) : (List.range n).any p = true := List.any_eq_true.2 ⟨k, List.mem_range.2 hk, h⟩
theorem range_any_no {p : Nat → Bool} {n : Nat} (h : ∀ j, j < n → p j = false) : (List.range n).any p = false := by
  rw [List.any_eq_false]
  intro k hk
  rw [h k (List.mem_range.1 hk)]
  decide
theorem no_more {p : Nat → Bool} {k : Nat} (h : ∀ j, j < k → p j = false) (hk : p k = false) : ∀ j, j < k + 1 → p j = false := by
  intro j hj
  rcases Nat.lt_or_ge j k with h' | h'
  · exact h j h'
  · obtain rfl : j = k := by omega
    exact hk
/-- A box with what the field is told. -/
structure OuB (w : World) (g : Nat) (O : Ou) (A B : Option Addr) (n c m d : Nat) : Prop where
  c0 : w.cell? ⟨g, 0, none⟩ = some (.slice A n c)
  c1 : w.cell? ⟨g, 1, none⟩ = some (.slice B m d)
  v : OuV w O A B n c m d
theorem OuB.stay {w w1 : World} {g : Nat} {O : Ou} {A B : Option Addr} {n c m d : Nat} (h : OuB w g O A B n c m d) (hb : Below w.heap.size w w1) : OuB w1 g O A B n c m d := ⟨cell_stay hb h.c0, cell_stay hb h.c1, h.v.stay hb⟩
section
variable {L : Lay} {A1 A2 A3 A4 : Option Addr} {n1 c1 n2 c2 n3 c3 n4 c4 : Nat} {I : Inn} {C D : Option Addr} {n c m d : Nat} {O : Ou} {E F : Option Addr} {p pc q qc : Nat}
set_option maxRecDepth 20000 in
set_option maxHeartbeats 8000000 in
theorem Safe_calls (w : World) (hL : LayV w L A1 A2 A3 A4 n1 c1 n2 c2 n3 c3 n4 c4) (hI : InV w I C D n c m d) (hO : OuV w O E F p pc q qc) (hok : LayOk L) :
    Calls Tryd.prog 11 #[.agg #[.slice A1 n1 c1, .slice A2 n2 c2, .slice A3 n3 c3, .slice A4 n4 c4], .agg #[.slice C n c, .slice D m d], .agg #[.slice E p pc, .slice F q qc]] w fun e w' => e = .returned (.bool (safeM L I O)) ∧ Below w.heap.size w w' := by
  have e1 := hL.secs.len
  have e2 := hL.pts.len
  have e3 := hL.sigs.len
  have e5 := hI.occ.len
  have e6 := hI.lies.len
  have e7 := hO.drive.len
  have e8 := hO.proceed.len
  have hbw : Below w.heap.size w (((w.alloc (.cells #[.slice A1 n1 c1, .slice A2 n2 c2, .slice A3 n3 c3, .slice A4 n4 c4] 26)).alloc (.cells #[.slice C n c, .slice D m d] 30)).alloc (.cells #[.slice E p pc, .slice F q qc] 32)) :=
    ((below_new w _).alloc (by simp) _).alloc (by simp; omega) _
  by_cases h1 : n = n1
  case neg =>
    have h1' : ((n : Int) != (n1 : Int)) = true := by simp; omega
    have HF : Hid (safeM L I O = false) := Lib.hid (by unfold safeM; rw [decide_eq_false (by omega)]; simp)
    clear h1 hL hI hO hok e1 e2 e3 e5 e6 e7 e8
    go_enter Tryd.func11, Tryd.ntmps11
    go_wp2_with fail
    go_ret
    exact ⟨ret_bool (by rw [HF.out]), hbw⟩
  case pos =>
  by_cases h2 : m = n2
  case neg =>
    have h1' : ((n : Int) != (n1 : Int)) = false := by simp; omega
    have h2' : ((m : Int) != (n2 : Int)) = true := by simp; omega
    have HF : Hid (safeM L I O = false) := Lib.hid (by unfold safeM; rw [decide_eq_false (p := I.lies.length = L.pts.length) (by omega)]; simp)
    clear h1 h2 hL hI hO hok e1 e2 e3 e5 e6 e7 e8
    go_enter Tryd.func11, Tryd.ntmps11
    go_wp2_with fail
    go_ret
    exact ⟨ret_bool (by rw [HF.out]), hbw⟩
  case pos =>
  by_cases h3 : p = n2
  case neg =>
    have h1' : ((n : Int) != (n1 : Int)) = false := by simp; omega
    have h2' : ((m : Int) != (n2 : Int)) = false := by simp; omega
    have h3' : ((p : Int) != (n2 : Int)) = true := by simp; omega
    have HF : Hid (safeM L I O = false) := Lib.hid (by unfold safeM; rw [decide_eq_false (p := O.drive.length = L.pts.length) (by omega)]; simp)
    clear h1 h2 h3 hL hI hO hok e1 e2 e3 e5 e6 e7 e8
    go_enter Tryd.func11, Tryd.ntmps11
    go_wp2_with fail
    go_ret
    exact ⟨ret_bool (by rw [HF.out]), hbw⟩
  case pos =>
  by_cases h4 : q = n3
  case neg =>
    have h1' : ((n : Int) != (n1 : Int)) = false := by simp; omega
    have h2' : ((m : Int) != (n2 : Int)) = false := by simp; omega
    have h3' : ((p : Int) != (n2 : Int)) = false := by simp; omega
    have h4' : ((q : Int) != (n3 : Int)) = true := by simp; omega
    have HF : Hid (safeM L I O = false) := Lib.hid (by unfold safeM; rw [decide_eq_false (p := O.proceed.length = L.sigs.length) (by omega)]; simp)
    clear h1 h2 h3 h4 hL hI hO hok e1 e2 e3 e5 e6 e7 e8
    go_enter Tryd.func11, Tryd.ntmps11
    go_wp2_with fail
    go_ret
    exact ⟨ret_bool (by rw [HF.out]), hbw⟩
  case pos =>
    have h1' : ((n : Int) != (n1 : Int)) = false := by simp; omega
    have h2' : ((m : Int) != (n2 : Int)) = false := by simp; omega
    have h3' : ((p : Int) != (n2 : Int)) = false := by simp; omega
    have h4' : ((q : Int) != (n3 : Int)) = false := by simp; omega
    have HF : Hid (safeM L I O = (!((List.range p).any (dBad L I O)) && waysM L I 0 O.proceed [])) := Lib.hid (by
      unfold safeM
      rw [decide_eq_true (by omega : I.occ.length = L.secs.length), decide_eq_true (by omega : I.lies.length = L.pts.length), decide_eq_true (by omega : O.drive.length = L.pts.length), decide_eq_true (by omega : O.proceed.length = L.sigs.length), e7]
      simp)
    have hall := hok.all (I := I) (by omega) (by omega)
    have hq : q ≤ 1000000 := by have := hok.sigs; omega
    have hB1 := (((Blk.new w #[.slice A1 n1 c1, .slice A2 n2 c2, .slice A3 n3 c3, .slice A4 n4 c4] 26 (0, 0)).alloc (.cells #[.slice C n c, .slice D m d] 30)).alloc (.cells #[.slice E p pc, .slice F q qc] 32))
    have hB2 := ((Blk.at_ (w := w.alloc (.cells #[.slice A1 n1 c1, .slice A2 n2 c2, .slice A3 n3 c3, .slice A4 n4 c4] 26)) (g := w.heap.size + 1) (by simp) #[.slice C n c, .slice D m d] 30 (0, 0))).alloc (.cells #[.slice E p pc, .slice F q qc] 32)
    have hB3 := Blk.at_ (w := (w.alloc (.cells #[.slice A1 n1 c1, .slice A2 n2 c2, .slice A3 n3 c3, .slice A4 n4 c4] 26)).alloc (.cells #[.slice C n c, .slice D m d] 30)) (g := w.heap.size + 2) (by simp) #[.slice E p pc, .slice F q qc] 32 (0, 0)
    have l0 := hB1.cell 0
    have l1 := hB1.cell 1
    have l2 := hB1.cell 2
    have l3 := hB1.cell 3
    have i0 := hB2.cell 0
    have i1 := hB2.cell 1
    have o0 := hB3.cell 0
    have o1 := hB3.cell 1
    simp only [List.getElem?_toArray, List.getElem?_cons_zero, List.getElem?_cons_succ] at l0 l1 l2 l3 i0 i1 o0 o1
    have HL := Lib.hid (LayB.mk l0 l1 l2 l3 (hL.stay hbw))
    have HI := Lib.hid (InB.mk i0 i1 (hI.stay hbw))
    have HO := Lib.hid (OuB.mk o0 o1 (hO.stay hbw))
    have HK := Lib.hid hok
    have HA := Lib.hid hall
    have HE := Lib.hid (And.intro e1 (And.intro e2 (And.intro e5 (And.intro e7 (And.intro h1 (And.intro h3 e8))))))
    have HBW := Lib.hid hbw
    have hpc := Nat.le_trans hO.drive.le hO.drive.cap
    clear h1 h2 h3 h4 hL hI hO hok hall hB1 hB2 hB3 e1 e2 e3 e5 e6 e7 e8
    go_enter Tryd.func11, Tryd.ntmps11
    go_wp2_with fail
    generalize (((w.alloc (.cells #[.slice A1 n1 c1, .slice A2 n2 c2, .slice A3 n3 c3, .slice A4 n4 c4] 26)).alloc (.cells #[.slice C n c, .slice D m d] 30)).alloc (.cells #[.slice E p pc, .slice F q qc] 32)) = W0 at *
    generalize hgn : w.heap.size = gn at *
    have HGN := Lib.hid hgn
    clear hgn hbw h1' h2' h3' h4'
    go_loopw [46] (fun i wr => ∃ k : Nat, k ≤ p ∧ i = .int .i64 k ∧ Hid (Below W0.heap.size W0 wr ∧ ∀ j, j < k → dBad L I O j = false)) (fun i _ => p - (intOf i).toNat)
    case atStart => exact ⟨0, by omega, rfl, Lib.hid ⟨Below.refl _ _, fun j hj => absurd hj (by omega)⟩⟩
    case round =>
      obtain ⟨k, hk, rfl, hr⟩ := hrel
      have l0 := cell_stay hr.out.1 l0
      have l1 := cell_stay hr.out.1 l1
      have l2 := cell_stay hr.out.1 l2
      have l3 := cell_stay hr.out.1 l3
      have i0 := cell_stay hr.out.1 i0
      have i1 := cell_stay hr.out.1 i1
      have o0 := cell_stay hr.out.1 o0
      have o1 := cell_stay hr.out.1 o1
      by_cases hlt : k < p
      · obtain ⟨be, oe, v, rfl, hv, ce⟩ := HO.out.v.drive.int hlt
        obtain ⟨bp, op, x, rfl, hx, _, cx⟩ := HL.out.v.pts.pt (j := k) (by have := HE.out; omega)
        have hxm := HK.out.pts x (List.mem_of_getElem? hx)
        obtain ⟨se, hse⟩ : ∃ se : Nat, x.sec = se := ⟨x.sec.toNat, by omega⟩
        obtain ⟨bo, oo, y, rfl, hy, cy⟩ := HI.out.v.occ.tru (j := se) (by have := HE.out; omega)
        have ce := cell_stay hr.out.1 ce
        have cx := cell_stay hr.out.1 cx
        have cy := cell_stay hr.out.1 cy
        have hkn2 : (k : Int) < n2 := by have := HE.out; omega
        have hsn : (se : Int) < n := by have := HE.out; omega
        have hnn : (n : Int) ≤ 9223372036854775807 := by have h1 := HI.out.v.occ.le; have h2 := HI.out.v.occ.cap; omega
        have hn2 : (n2 : Int) ≤ 9223372036854775807 := by have h1 := HL.out.v.pts.le; have h2 := HL.out.v.pts.cap; omega
        have hd : dBad L I O k = (decide (v ≠ 0) && y) := by
          unfold dBad
          rw [getD_of hv, hx, Option.map_some, Option.getD_some, hse, Int.toNat_natCast, getD_of hy]
        have HD := Lib.hid hd
        rw [hse] at cx
        clear hv hx hxm hse hy hd
        by_cases hv0 : v = 0
        · have HN := Lib.hid (no_more hr.out.2 (by rw [HD.out, hv0]; rfl))
          have hv1 : (v != 0) = false := by simp [hv0]
          clear hv0
          go_wp2_with fail
          go_quiet (fail)
          go_wp2_with fail
          go_roundw
          case rel => exact ⟨k + 1, by omega, by go_num, Lib.hid ⟨below_drawn hr.out.1 _, HN.out⟩⟩
          case measure => simp [intOf]; omega
        · have hv1 : (v != 0) = true := by simp [hv0]
          cases y with
          | false =>
            have HN := Lib.hid (no_more hr.out.2 (by rw [HD.out]; simp))
            clear hv0
            go_wp2_with fail
            go_quiet (fail)
            go_wp2_with fail
            go_roundw
            case rel => exact ⟨k + 1, by omega, by go_num, Lib.hid ⟨below_drawn hr.out.1 _, HN.out⟩⟩
            case measure => simp [intOf]; omega
          | true =>
            have HY := Lib.hid (range_any_at hlt (show dBad L I O k = true by rw [HD.out]; simp [hv0]))
            clear hv0
            go_wp2_with fail
            go_quiet (fail)
            go_wp2_with fail
            go_ret
            exact ⟨ret_bool (by rw [HF.out, HY.out]; rfl), below_more (by rw [HGN.out]; exact HBW.out) (below_drawn hr.out.1 _)⟩
      · obtain rfl : k = p := by omega
        have HY := Lib.hid (range_any_no hr.out.2)
        have HB := Lib.hid hr.out.1
        have K := Lib.hid (Ways_calls wr (HL.out.v.stay HB.out) (HI.out.v.stay HB.out) HA.out F q qc O.proceed (HO.out.v.proceed.stay HB.out) hq O.proceed 0 rfl (by omega) 0 (by have := HE.out.2.2.2.2.2.2; omega) wr none 0 0 [] (Below.refl _ _) ⟨⟨⟨rfl, by omega, fun h => absurd h (by omega)⟩, by omega, by omega, by omega⟩, .inl ⟨rfl, rfl, rfl⟩⟩ (fun q hq => by cases hq) (by omega))
        clear hlt
        go_wp2_with (first
          | (go_at_call 24; refine K.out.mono ?_; rintro e w7 ⟨rfl, hb7⟩)
          | fail)
        go_ret
        exact ⟨ret_bool (by rw [HF.out, HY.out]; rfl), below_more (by rw [HGN.out]; exact HBW.out) (below_more HB.out hb7)⟩
end
end Go.Proofs.YtmdggodkkkihhaaDoor

/- The plain law: what allows no more than what is safe is safe. -/
set_option linter.unusedVariables false
set_option linter.unusedSimpArgs false
namespace Go.Proofs.YtmdggodkkkihhaaDoor
open Go.RowKit

/-- Nothing is told that is not told of the other. -/
def LeB : List Bool → List Bool → Prop
  | [], [] => True
  | a :: s, b :: t => (a = true → b = true) ∧ LeB s t
  | _, _ => False
theorem ways_less {L : Lay} {I : Inn} : ∀ (t' t : List Bool) (s : Nat) (ch' ch : List Int), LeB t' t → (∀ q ∈ ch', q ∈ ch) → waysM L I s t ch = true → waysM L I s t' ch' = true
  | [], [], s, ch', ch, _, _, _ => by simp [waysM]
  | [], _ :: _, _, _, _, h, _, _ => h.elim
  | _ :: _, [], _, _, _, h, _, _ => h.elim
  | a :: t', b :: t, s, ch', ch, h, hc, hw => by
    obtain ⟨hab, ht⟩ := h
    rw [waysM] at hw ⊢
    cases a with
    | true =>
      rw [hab rfl, if_pos rfl] at hw
      rw [if_pos rfl]
      obtain ⟨r, hr, h1⟩ := List.any_eq_true.1 hw
      simp only [Bool.and_eq_true] at h1
      obtain ⟨⟨h2, h3⟩, h4⟩ := h1
      refine List.any_eq_true.2 ⟨r, hr, ?_⟩
      simp only [Bool.and_eq_true]
      refine ⟨⟨?_, h3⟩, ways_less t' t (s + 1) _ _ ht (fun q hq => ?_) h4⟩
      · rw [Bool.not_eq_true'] at h2 ⊢
        rw [List.any_eq_false] at h2 ⊢
        exact fun q hq => h2 q (hc q hq)
      · rcases List.mem_append.1 hq with h | h
        · exact List.mem_append_left _ (hc q h)
        · exact List.mem_append_right _ h
    | false =>
      rw [if_neg (by decide)]
      cases b with
      | true =>
        rw [if_pos rfl] at hw
        obtain ⟨r, hr, h1⟩ := List.any_eq_true.1 hw
        simp only [Bool.and_eq_true] at h1
        exact ways_less t' t (s + 1) _ _ ht (fun q hq => List.mem_append_left _ (hc q hq)) h1.2
      | false =>
        rw [if_neg (by decide)] at hw
        exact ways_less t' t (s + 1) _ _ ht hc hw
theorem leB_len : ∀ {s t : List Bool}, LeB s t → s.length = t.length
  | [], [], _ => rfl
  | [], _ :: _, h => h.elim
  | _ :: _, [], h => h.elim
  | _ :: s, _ :: t, h => by simp [leB_len h.2]
/-- The whole. -/
theorem safe_less {L : Lay} {I : Inn} {O X : Ou} (hd : X.drive.length = O.drive.length) (hdr : ∀ j, X.drive.getD j 0 = 0 ∨ X.drive.getD j 0 = O.drive.getD j 0) (hp : LeB X.proceed O.proceed) (h : safeM L I O = true) : safeM L I X = true := by
  unfold safeM at h ⊢
  simp only [Bool.and_eq_true] at h ⊢
  obtain ⟨⟨⟨⟨⟨h1, h2⟩, h3⟩, h4⟩, h5⟩, h6⟩ := h
  refine ⟨⟨⟨⟨⟨h1, h2⟩, by rw [hd]; exact h3⟩, by rw [leB_len hp]; exact h4⟩, ?_⟩, ways_less _ _ _ _ _ hp (fun q hq => hq) h6⟩
  rw [Bool.not_eq_true'] at h5 ⊢
  rw [List.any_eq_false] at h5 ⊢
  intro j hj
  rw [hd] at hj
  have := h5 j hj
  unfold dBad at this ⊢
  rcases hdr j with e | e
  · rw [e]; simp
  · rw [e]; exact this
end Go.Proofs.YtmdggodkkkihhaaDoor

/- Contracts of judge.holds and judge.bars. -/
set_option linter.unusedVariables false
set_option linter.unusedSimpArgs false
namespace Go.Proofs.YtmdggodkkkihhaaDoor
open Go.RowKit

structure Rs where
  m : Int
  t : Int
  g : Int
  s : Bool
deriving DecidableEq
def flR : Fl Rs := ⟨4, fun c => [.int .i64 c.m, .int .i64 c.t, .int .i64 c.g, .bool c.s], fun _ => rfl, fun _ u hu => by
  simp only [List.mem_cons, List.not_mem_nil, or_false] at hu
  rcases hu with rfl | rfl | rfl | rfl <;> rfl⟩
def kR : Kd Rs := Kd.iso (Kd.pair (Kd.int .i64) (Kd.pair (Kd.int .i64) (Kd.pair (Kd.int .i64) (Kd.pair Kd.bool Kd.unit)))) fun c => (c.m, c.t, c.g, c.s, ())
theorem kR_enc (w : World) (x : Rs) (cs : List Value) (h : kR.K w x cs) : cs = flR.enc x := by
  obtain ⟨_, _, rfl, ⟨rfl, _⟩, _, _, rfl, ⟨rfl, _⟩, _, _, rfl, ⟨rfl, _⟩, _, _, rfl, rfl, rfl⟩ := h
  rfl
theorem Sl.rs {w : World} {A : Option Addr} {n c : Nat} {xs : List Rs} (h : Sl flR w A n c xs) {j : Nat} (hj : j < n) : ∃ b off x, A = some ⟨b, off, none⟩ ∧ xs[j]? = some x ∧ w.cell? ⟨b, off + j * 4, none⟩ = some (.int .i64 x.m) ∧ w.cell? ⟨b, off + j * 4 + 1, none⟩ = some (.int .i64 x.t) ∧ w.cell? ⟨b, off + j * 4 + 2, none⟩ = some (.int .i64 x.g) ∧ w.cell? ⟨b, off + j * 4 + 3, none⟩ = some (.bool x.s) := by
  obtain ⟨b, off, x, rfl, hx, hc⟩ := h.rf.at_ hj
  exact ⟨b, off, x, rfl, hx, hc 0 _ rfl, hc 1 _ rfl, hc 2 _ rfl, hc 3 _ rfl⟩
theorem Sl.none_ {w : World} {A : Option Addr} {n c : Nat} (hn : n = 0) (hc : c ≤ 9223372036854775807) : Sl flI w A n c [] := by
  subst hn
  exact ⟨⟨rfl, by omega, fun h => absurd h (by omega)⟩, by omega, hc, by omega⟩
theorem Sl.from_ {w : World} {b off n c : Nat} {xs : List Int} (h : Sl flI w (some ⟨b, off, none⟩) n c xs) (k : Nat) : Sl flI w (some ⟨b, off + k, none⟩) (n - k) (c - k) (xs.drop k) := by
  obtain ⟨⟨h1, h2, h3⟩, h4, h5, h6⟩ := h
  refine ⟨⟨by rw [List.length_drop, h1], by omega, fun hn => ⟨b, off + k, rfl, fun j x hx i u hu => ?_⟩⟩, by omega, by omega, by omega⟩
  obtain ⟨b', off', e, hc⟩ := h3 (by omega)
  obtain ⟨rfl, rfl⟩ : b = b' ∧ off = off' := by simpa using e
  rw [List.getElem?_drop] at hx
  have := hc (k + j) x hx i u hu
  simp only [flI, Nat.mul_one] at this ⊢
  rw [Nat.add_assoc off k j]
  exact this
/-- Does a route that stands so hold a section? -/
def holdsM (x : Rte) (r : Rs) (sec : Int) : Bool :=
  if r.m = 1 ∨ r.m = 2 ∨ r.m = 4 then x.path.any fun a => decide (sec = a)
  else if r.m = 3 then (x.path.drop (min (max r.g 0) x.path.length).toNat).any fun a => decide (sec = a) else false
set_option maxRecDepth 20000 in
set_option maxHeartbeats 4000000 in
theorem Holds_calls (w : World) (x : Rte) (P Q F : Option Addr) (p pc q qc f fc : Nat) (hv : RteV w x P Q F p pc q qc f fc) (r : Rs) (sec : Int) :
    Calls Tryd.prog 57 #[.agg #[.string x.name, .int .i64 x.frm, .int .i64 x.dest, .slice P p pc, .slice Q q qc, .slice F f fc], .agg #[.int .i64 r.m, .int .i64 r.t, .int .i64 r.g, .bool r.s], .int .i64 sec] w fun e w' => e = .returned (.bool (holdsM x r sec)) ∧ Below w.heap.size w w' := by
  have hbw : Below w.heap.size w ((w.alloc (.cells #[.string x.name, .int .i64 x.frm, .int .i64 x.dest, .slice P p pc, .slice Q q qc, .slice F f fc] 62)).alloc (.cells #[.int .i64 r.m, .int .i64 r.t, .int .i64 r.g, .bool r.s] 69)) := (below_new w _).alloc (by simp) _
  have K1 := Lib.hid (CTI_calls _ P p pc x.path (hv.path.stay hbw) sec)
  by_cases h1 : r.m = 1
  · have HF : Hid (holdsM x r sec = x.path.any fun a => decide (sec = a)) := Lib.hid (by unfold holdsM; rw [if_pos (.inl h1)])
    have h1' : (r.m == 1) = true := by simp [h1]
    clear h1 hv
    go_enter Tryd.func57, Tryd.ntmps57
    go_wp2_with (refine K1.out.mono ?_; rintro e w1 ⟨rfl, hb⟩)
    go_ret
    exact ⟨ret_bool (by rw [HF.out]), below_more hbw hb⟩
  by_cases h2 : r.m = 2
  · have HF : Hid (holdsM x r sec = x.path.any fun a => decide (sec = a)) := Lib.hid (by unfold holdsM; rw [if_pos (.inr (.inl h2))])
    have h1' : (r.m == 1) = false := by simp [h1]
    have h2' : (r.m == 2) = true := by simp [h2]
    clear h1 h2 hv
    go_enter Tryd.func57, Tryd.ntmps57
    go_wp2_with (refine K1.out.mono ?_; rintro e w1 ⟨rfl, hb⟩)
    go_ret
    exact ⟨ret_bool (by rw [HF.out]), below_more hbw hb⟩
  by_cases h4 : r.m = 4
  · have HF : Hid (holdsM x r sec = x.path.any fun a => decide (sec = a)) := Lib.hid (by unfold holdsM; rw [if_pos (.inr (.inr h4))])
    have h1' : (r.m == 1) = false := by simp [h1]
    have h2' : (r.m == 2) = false := by simp [h2]
    have h4' : (r.m == 4) = true := by simp [h4]
    clear h1 h2 h4 hv
    go_enter Tryd.func57, Tryd.ntmps57
    go_wp2_with (refine K1.out.mono ?_; rintro e w1 ⟨rfl, hb⟩)
    go_ret
    exact ⟨ret_bool (by rw [HF.out]), below_more hbw hb⟩
  have h1' : (r.m == 1) = false := by simp [h1]
  have h2' : (r.m == 2) = false := by simp [h2]
  have h4' : (r.m == 4) = false := by simp [h4]
  by_cases h3 : r.m = 3
  · have h3' : (r.m == 3) = true := by simp [h3]
    have HF : Hid (holdsM x r sec = (x.path.drop (min (max r.g 0) x.path.length).toNat).any fun a => decide (sec = a)) := Lib.hid (by unfold holdsM; rw [if_neg (by omega), if_pos h3])
    have hlen := hv.path.len
    have hle := hv.path.le
    have hcap := hv.path.cap
    clear h1 h2 h4 h3
    rcases Nat.eq_zero_or_pos p with hp | hp
    · subst hp
      have hxe : x.path = [] := List.eq_nil_of_length_eq_zero hlen
      have HE : Hid (holdsM x r sec = false) := Lib.hid (by rw [HF.out, hxe]; simp)
      clear hv hlen hxe
      go_enter Tryd.func57, Tryd.ntmps57
      go_wp2_with fail
      all_goals refine (CTI_calls _ _ _ _ [] (Sl.none_ (by omega) (by omega)) sec).mono ?_
      all_goals rintro e w1 ⟨rfl, hb⟩
      all_goals go_wp2_with fail
      all_goals go_ret
      all_goals exact ⟨ret_bool (by rw [HE.out]), below_more ((below_new w _).alloc (by simp) _) hb⟩
    · obtain ⟨b, off, y, rfl, _, _⟩ := hv.path.int hp
      have HV := Lib.hid (hv.path.stay hbw)
      clear hv
      rcases Int.lt_or_le r.g (p : Int) with hg | hg
      · rcases Int.lt_or_le 0 r.g with hg0 | hg0
        · obtain ⟨j, hj⟩ : ∃ j : Nat, r.g = j := ⟨r.g.toNat, by omega⟩
          have HE : Hid (holdsM x r sec = (x.path.drop j).any fun a => decide (sec = a)) := Lib.hid (by rw [HF.out, hj, hlen]; congr 2; omega)
          have HS := Lib.hid (HV.out.from_ j)
          obtain ⟨rm, rt, rg, rs⟩ := r
          simp only at *
          subst hj
          have hjp : (j : Int) ≤ p := by omega
          have hjc : ¬ pc - j = 0 := by omega
          clear hlen
          go_enter Tryd.func57, Tryd.ntmps57
          go_wp2_with fail
          refine (CTI_calls _ _ _ _ (x.path.drop j) HS.out sec).mono ?_
          rintro e w1 ⟨rfl, hb⟩
          go_wp2_with fail
          go_ret
          exact ⟨ret_bool (by rw [HE.out]), below_more hbw hb⟩
        · have HE : Hid (holdsM x r sec = x.path.any fun a => decide (sec = a)) := Lib.hid (by rw [HF.out, hlen, show (min (max r.g 0) (p : Int)).toNat = 0 by omega, List.drop_zero])
          have hpc : ¬ pc = 0 := by omega
          clear hlen
          rcases Int.lt_or_le r.g 0 with hg1 | hg1
          · clear hg0
            go_enter Tryd.func57, Tryd.ntmps57
            go_wp2_with fail
            refine K1.out.mono ?_
            rintro e w1 ⟨rfl, hb⟩
            go_wp2_with fail
            go_ret
            exact ⟨ret_bool (by rw [HE.out]), below_more hbw hb⟩
          · obtain ⟨rm, rt, rg, rs⟩ := r
            simp only at *
            obtain rfl : rg = 0 := by omega
            clear hg1 hg0
            go_enter Tryd.func57, Tryd.ntmps57
            go_wp2_with fail
            refine K1.out.mono ?_
            rintro e w1 ⟨rfl, hb⟩
            go_wp2_with fail
            go_ret
            exact ⟨ret_bool (by rw [HE.out]), below_more hbw hb⟩
      · have HE : Hid (holdsM x r sec = false) := Lib.hid (by rw [HF.out, hlen, show (min (max r.g 0) (p : Int)).toNat = p by omega, List.drop_of_length_le (by omega)]; rfl)
        clear hlen
        go_enter Tryd.func57, Tryd.ntmps57
        go_wp2_with fail
        all_goals refine (CTI_calls _ _ _ _ [] (Sl.none_ (by omega) (by omega)) sec).mono ?_
        all_goals rintro e w1 ⟨rfl, hb⟩
        all_goals go_wp2_with fail
        all_goals go_ret
        all_goals exact ⟨ret_bool (by rw [HE.out]), below_more ((below_new w _).alloc (by simp) _) hb⟩
  · have h3' : (r.m == 3) = false := by simp [h3]
    have HF : Hid (holdsM x r sec = false) := Lib.hid (by unfold holdsM; rw [if_neg (by omega), if_neg h3])
    clear h1 h2 h4 h3 hv
    go_enter Tryd.func57, Tryd.ntmps57
    go_wp2_with fail
    go_ret
    exact ⟨ret_bool (by rw [HF.out]), hbw⟩
end Go.Proofs.YtmdggodkkkihhaaDoor

/- Arguments: layouts, what the field tells and is told, how routes stand. -/
set_option linter.unusedVariables false
set_option linter.unusedSimpArgs false
namespace Go.Proofs.YtmdggodkkkihhaaDoor
open Go.RowKit

set_option maxRecDepth 100000 in
theorem opens_ints0 : Opens Tryd.prog 28 (Kd.slice (Kd.int .i64)) :=
  opens_slice Tryd.underlying28 (by kernel_rfl) (by decide) (of_decide_eq_true (by kernel_rfl)) (opens_int Tryd.underlying3 (by kernel_rfl))
set_option maxRecDepth 100000 in
theorem opens_bools0 : Opens Tryd.prog 27 (Kd.slice Kd.bool) :=
  opens_slice Tryd.underlying27 (by kernel_rfl) (by decide) (of_decide_eq_true (by kernel_rfl)) (opens_bool Tryd.underlying4 (by kernel_rfl))
set_option maxRecDepth 100000 in
theorem opens_strs0 : Opens Tryd.prog 22 (Kd.slice Kd.str) :=
  opens_slice Tryd.underlying22 (by kernel_rfl) (by decide) (of_decide_eq_true (by kernel_rfl)) (opens_str Tryd.underlying9 (by kernel_rfl))
set_option maxRecDepth 100000 in
theorem opens_need : Opens Tryd.prog 78 kNeed :=
  opens_iso _ (fun a => ⟨a.1, a.2.1⟩) (fun _ => rfl) (opens_struct Tryd.underlying78 (by kernel_rfl)
    (opensF_cons rfl (opens_int Tryd.underlying3 (by kernel_rfl)) (opensF_cons rfl (opens_bool Tryd.underlying4 (by kernel_rfl)) opensF_nil)))
set_option maxRecDepth 100000 in
theorem opens_needs : Opens Tryd.prog 60 (Kd.slice kNeed) :=
  opens_slice Tryd.underlying60 (by kernel_rfl) (by decide) (of_decide_eq_true (by kernel_rfl)) opens_need
set_option maxRecDepth 100000 in
theorem opens_pt : Opens Tryd.prog 59 kPt :=
  opens_iso _ (fun a => ⟨a.1, a.2.1⟩) (fun _ => rfl) (opens_struct Tryd.underlying59 (by kernel_rfl)
    (opensF_cons rfl (opens_str Tryd.underlying9 (by kernel_rfl)) (opensF_cons rfl (opens_int Tryd.underlying3 (by kernel_rfl)) opensF_nil)))
set_option maxRecDepth 100000 in
theorem opens_rte : Opens Tryd.prog 62 kRte :=
  opens_iso _ (fun a => ⟨a.1, a.2.1, a.2.2.1, a.2.2.2.1, a.2.2.2.2.1, a.2.2.2.2.2.1⟩) (fun _ => rfl) (opens_struct Tryd.underlying62 (by kernel_rfl)
    (opensF_cons rfl (opens_str Tryd.underlying9 (by kernel_rfl)) (opensF_cons rfl (opens_int Tryd.underlying3 (by kernel_rfl)) (opensF_cons rfl (opens_int Tryd.underlying3 (by kernel_rfl))
      (opensF_cons rfl opens_ints0 (opensF_cons rfl opens_needs (opensF_cons rfl opens_needs opensF_nil)))))))
set_option maxRecDepth 100000 in
theorem opens_lay : Opens Tryd.prog 26 kLay :=
  opens_iso _ (fun a => ⟨a.1, a.2.1, a.2.2.1, a.2.2.2.1⟩) (fun _ => rfl) (opens_struct Tryd.underlying26 (by kernel_rfl)
    (opensF_cons rfl opens_strs0 (opensF_cons rfl (opens_slice Tryd.underlying23 (by kernel_rfl) (by decide) (of_decide_eq_true (by kernel_rfl)) opens_pt)
      (opensF_cons rfl opens_strs0 (opensF_cons rfl (opens_slice Tryd.underlying24 (by kernel_rfl) (by decide) (of_decide_eq_true (by kernel_rfl)) opens_rte) opensF_nil)))))
set_option maxRecDepth 100000 in
theorem opens_in : Opens Tryd.prog 30 kIn :=
  opens_iso _ (fun a => ⟨a.1, a.2.1⟩) (fun _ => rfl) (opens_struct Tryd.underlying30 (by kernel_rfl) (opensF_cons rfl opens_bools0 (opensF_cons rfl opens_ints0 opensF_nil)))
set_option maxRecDepth 100000 in
theorem opens_rst : Opens Tryd.prog 69 kR :=
  opens_iso _ (fun a => ⟨a.1, a.2.1, a.2.2.1, a.2.2.2.1⟩) (fun _ => rfl) (opens_struct Tryd.underlying69 (by kernel_rfl)
    (opensF_cons rfl (opens_int Tryd.underlying3 (by kernel_rfl)) (opensF_cons rfl (opens_int Tryd.underlying3 (by kernel_rfl)) (opensF_cons rfl (opens_int Tryd.underlying3 (by kernel_rfl))
      (opensF_cons rfl (opens_bool Tryd.underlying4 (by kernel_rfl)) opensF_nil)))))
set_option maxRecDepth 100000 in
theorem opens_rsts : Opens Tryd.prog 33 (Kd.slice kR) :=
  opens_slice Tryd.underlying33 (by kernel_rfl) (by decide) (of_decide_eq_true (by kernel_rfl)) opens_rst
end Go.Proofs.YtmdggodkkkihhaaDoor

/- Contract of judge.bars. -/
set_option linter.unusedVariables false
set_option linter.unusedSimpArgs false
namespace Go.Proofs.YtmdggodkkkihhaaDoor
open Go.RowKit

theorem enter_ba1 (args : Array Value) (w : World) : (callFunc 54 args).run Tryd.prog w = .ok (.enter 54 args) w := by kernel_rfl
theorem enter_ba2 (args : Array Value) (w : World) : (callFunc 56 args).run Tryd.prog w = .ok (.enter 56 args) w := by kernel_rfl
set_option maxRecDepth 20000 in
set_option maxHeartbeats 4000000 in
theorem Ba1_calls (W : World) (gp gt : Nat) (p ti : Int) (hp : W.cell? ⟨gp, 0, none⟩ = some (.int .i64 p)) (ht : W.cell? ⟨gt, 0, none⟩ = some (.int .i64 ti)) (x : Need) :
    Calls Tryd.prog 54 #[.agg #[.int .i64 x.p, .bool x.r], .pointer (some ⟨gp, 0, none⟩), .pointer (some ⟨gt, 0, none⟩)] W fun e w' => e = .returned (.bool (decide (x.p = p) && decide (posM x = ti))) ∧ Below W.heap.size W w' := by
  have hw0 := below_new W (.cells #[.int .i64 x.p, .bool x.r] 78)
  have hB := Blk.new W #[.int .i64 x.p, .bool x.r] 78 (0, 0)
  have d0 := hB.cell 0
  have d1 := hB.cell 1
  simp only [List.getElem?_toArray, List.getElem?_cons_zero, List.getElem?_cons_succ] at d0 d1
  have hp := cell_stay hw0 hp
  have ht := cell_stay hw0 ht
  have KP := fun W1 => Pos_calls W1 x
  have HN := Lib.hid hw0
  have HP : Hid (∀ W1 : World, Calls Tryd.prog 55 #[.agg #[.int .i64 x.p, .bool x.r]] W1 fun e w' => e = .returned (.int .i64 (posM x)) ∧ Below W1.heap.size W1 w') := Lib.hid KP
  clear hB KP
  go_enter Tryd.func54, Tryd.ntmps54
  go_upto_region 1 with fail
  generalize hgn : W.heap.size = gn at *
  have HGN := Lib.hid hgn
  clear hgn hw0
  generalize (W.alloc (.cells #[.int .i64 x.p, .bool x.r] 78)) = W0 at *
  have d0 := later_cell d0
  have d1 := later_cell d1
  have hp := later_cell hp
  have ht := later_cell ht
  by_cases hx : x.p = p
  · have hx1 : (x.p == p) = true := by simp [hx]
    have HF : Hid (decide (x.p = p) = true) := Lib.hid (by simp [hx])
    clear hx
    refine wp_region_later (by kernel_rfl) (by kernel_rfl) ?_
    repeat (go_big_quiet_step (first
      | (go_at_call 55; rename_i q; exact later_call q (HP.out q.w1))
      | fail))
    refine wpQuiet_nil ?_
    intro q
    go_wp2_with fail
    go_ret
    exact ⟨ret_bool (by rw [HF.out]; simp [BEq.beq]), below_more (by rw [HGN.out]; exact HN.out) q.hb⟩
  · have hx1 : (x.p == p) = false := by simp [hx]
    have HF : Hid (decide (x.p = p) = false) := Lib.hid (by simp [hx])
    clear hx
    refine wp_region_later (by kernel_rfl) (by kernel_rfl) ?_
    repeat (go_big_quiet_step (fail))
    refine wpQuiet_nil ?_
    intro q
    go_wp2_with fail
    go_ret
    exact ⟨ret_bool (by rw [HF.out]; rfl), below_more (by rw [HGN.out]; exact HN.out) q.hb⟩
set_option maxRecDepth 20000 in
set_option maxHeartbeats 4000000 in
theorem Ba2_calls (W : World) (gp gt : Nat) (p ti : Int) (hp : W.cell? ⟨gp, 0, none⟩ = some (.int .i64 p)) (ht : W.cell? ⟨gt, 0, none⟩ = some (.int .i64 ti)) (x : Need) :
    Calls Tryd.prog 56 #[.agg #[.int .i64 x.p, .bool x.r], .pointer (some ⟨gp, 0, none⟩), .pointer (some ⟨gt, 0, none⟩)] W fun e w' => e = .returned (.bool (decide (x.p = p) && decide (posM x ≠ ti))) ∧ Below W.heap.size W w' := by
  have hw0 := below_new W (.cells #[.int .i64 x.p, .bool x.r] 78)
  have hB := Blk.new W #[.int .i64 x.p, .bool x.r] 78 (0, 0)
  have d0 := hB.cell 0
  have d1 := hB.cell 1
  simp only [List.getElem?_toArray, List.getElem?_cons_zero, List.getElem?_cons_succ] at d0 d1
  have hp := cell_stay hw0 hp
  have ht := cell_stay hw0 ht
  have HN := Lib.hid hw0
  have HP : Hid (∀ W1 : World, Calls Tryd.prog 55 #[.agg #[.int .i64 x.p, .bool x.r]] W1 fun e w' => e = .returned (.int .i64 (posM x)) ∧ Below W1.heap.size W1 w') := Lib.hid (fun W1 => Pos_calls W1 x)
  clear hB
  go_enter Tryd.func56, Tryd.ntmps56
  go_upto_region 1 with fail
  generalize hgn : W.heap.size = gn at *
  have HGN := Lib.hid hgn
  clear hgn hw0
  generalize (W.alloc (.cells #[.int .i64 x.p, .bool x.r] 78)) = W0 at *
  have d0 := later_cell d0
  have d1 := later_cell d1
  have hp := later_cell hp
  have ht := later_cell ht
  by_cases hx : x.p = p
  · have hx1 : (x.p == p) = true := by simp [hx]
    have HF : Hid (decide (x.p = p) = true) := Lib.hid (by simp [hx])
    clear hx
    refine wp_region_later (by kernel_rfl) (by kernel_rfl) ?_
    repeat (go_big_quiet_step (first
      | (go_at_call 55; rename_i q; exact later_call q (HP.out q.w1))
      | fail))
    refine wpQuiet_nil ?_
    intro q
    go_wp2_with fail
    go_ret
    exact ⟨ret_bool (by rw [HF.out]; simp [bne, BEq.beq]), below_more (by rw [HGN.out]; exact HN.out) q.hb⟩
  · have hx1 : (x.p == p) = false := by simp [hx]
    have HF : Hid (decide (x.p = p) = false) := Lib.hid (by simp [hx])
    clear hx
    refine wp_region_later (by kernel_rfl) (by kernel_rfl) ?_
    repeat (go_big_quiet_step (fail))
    refine wpQuiet_nil ?_
    intro q
    go_wp2_with fail
    go_ret
    exact ⟨ret_bool (by rw [HF.out]; rfl), below_more (by rw [HGN.out]; exact HN.out) q.hb⟩
def standsM (r : Rs) : Bool := decide (r.m = 2) || decide (r.m = 3) || decide (r.m = 4)
/-- Does a route that stands so bar that a point is driven to a position? -/
def barsM (x : Rte) (r : Rs) (p : Int) (sec : Int) (ti : Int) : Bool :=
  standsM r && ((x.points ++ x.flank).any fun n => decide (n.p = p) && decide (posM n ≠ ti)) || !((x.points ++ x.flank).any fun n => decide (n.p = p) && decide (posM n = ti)) && holdsM x r sec
section
variable {L : Lay} {A1 A2 A3 A4 : Option Addr} {n1 c1 n2 c2 n3 c3 n4 c4 : Nat}
set_option maxRecDepth 20000 in
set_option maxHeartbeats 8000000 in
theorem Bars_calls (w : World) (hL : LayV w L A1 A2 A3 A4 n1 c1 n2 c2 n3 c3 n4 c4) (i : Nat) (x : Rte) (hx : L.rtes[i]? = some x) (hf : x.points.length + x.flank.length ≤ 8796093022208) (r : Rs) (p : Nat) (y : Pt) (hy : L.pts[p]? = some y) (ti : Int) :
    Calls Tryd.prog 28 #[.agg #[.slice A1 n1 c1, .slice A2 n2 c2, .slice A3 n3 c3, .slice A4 n4 c4], .int .i64 i, .agg #[.int .i64 r.m, .int .i64 r.t, .int .i64 r.g, .bool r.s], .int .i64 p, .int .i64 ti] w fun e w' => e = .returned (.bool (barsM x r p y.sec ti)) ∧ Below w.heap.size w w' := by
  have hli : i < n4 := by
    have := hL.rtes.len
    have := (List.getElem?_eq_some_iff.1 hx).1
    omega
  have hlp : p < n2 := by
    have := hL.pts.len
    have := (List.getElem?_eq_some_iff.1 hy).1
    omega
  have hcap4 := Nat.le_trans hL.rtes.le hL.rtes.cap
  have hcap2 := Nat.le_trans hL.pts.le hL.pts.cap
  obtain ⟨b, off, x', P, Q, F, pl, pc, q, qc, f, fc, rfl, hx', k0, k1, k2, k3, k4, k5, hv⟩ := hL.rtes.at_ hli
  obtain rfl : x = x' := by rw [hx] at hx'; exact Option.some.inj hx'
  obtain ⟨bp, op, y', rfl, hy', _, m1⟩ := hL.pts.pt hlp
  obtain rfl : y = y' := by rw [hy] at hy'; exact Option.some.inj hy'
  have hb : Below w.heap.size w ((((w.alloc (.cells #[.slice A1 n1 c1, .slice (some ⟨bp, op, none⟩) n2 c2, .slice A3 n3 c3, .slice (some ⟨b, off, none⟩) n4 c4] 26)).alloc (.cells #[.int .i64 r.m, .int .i64 r.t, .int .i64 r.g, .bool r.s] 69)).alloc (.cells #[.int .i64 p] 3)).alloc (.cells #[.int .i64 ti] 3)) :=
    (((below_new w _).alloc (by simp) _).alloc (by simp; omega) _).alloc (by simp; omega) _
  have hB1 := ((((Blk.new w #[.slice A1 n1 c1, .slice (some ⟨bp, op, none⟩) n2 c2, .slice A3 n3 c3, .slice (some ⟨b, off, none⟩) n4 c4] 26 (0, 0)).alloc (.cells #[.int .i64 r.m, .int .i64 r.t, .int .i64 r.g, .bool r.s] 69)).alloc (.cells #[.int .i64 p] 3)).alloc (.cells #[.int .i64 ti] 3))
  have hB2 := (((Blk.at_ (w := w.alloc (.cells #[.slice A1 n1 c1, .slice (some ⟨bp, op, none⟩) n2 c2, .slice A3 n3 c3, .slice (some ⟨b, off, none⟩) n4 c4] 26)) (g := w.heap.size + 1) (by simp) #[.int .i64 r.m, .int .i64 r.t, .int .i64 r.g, .bool r.s] 69 (0, 0))).alloc (.cells #[.int .i64 p] 3)).alloc (.cells #[.int .i64 ti] 3)
  have hB3 := (Blk.at_ (w := (w.alloc (.cells #[.slice A1 n1 c1, .slice (some ⟨bp, op, none⟩) n2 c2, .slice A3 n3 c3, .slice (some ⟨b, off, none⟩) n4 c4] 26)).alloc (.cells #[.int .i64 r.m, .int .i64 r.t, .int .i64 r.g, .bool r.s] 69)) (g := w.heap.size + 1 + 1) (by simp) #[.int .i64 p] 3 (0, 0)).alloc (.cells #[.int .i64 ti] 3)
  have hB4 := Blk.at_ (w := ((w.alloc (.cells #[.slice A1 n1 c1, .slice (some ⟨bp, op, none⟩) n2 c2, .slice A3 n3 c3, .slice (some ⟨b, off, none⟩) n4 c4] 26)).alloc (.cells #[.int .i64 r.m, .int .i64 r.t, .int .i64 r.g, .bool r.s] 69)).alloc (.cells #[.int .i64 p] 3)) (g := w.heap.size + 1 + 1 + 1) (by simp) #[.int .i64 ti] 3 (0, 0)
  have l0 := hB1.cell 0
  have l1 := hB1.cell 1
  have l2 := hB1.cell 2
  have l3 := hB1.cell 3
  have r0 := hB2.cell 0
  have r1 := hB2.cell 1
  have r2 := hB2.cell 2
  have r3 := hB2.cell 3
  have p0 := hB3.cell 0
  have t0 := hB4.cell 0
  simp only [List.getElem?_toArray, List.getElem?_cons_zero, List.getElem?_cons_succ] at l0 l1 l2 l3 r0 r1 r2 r3 p0 t0
  have k0 := cell_stay hb k0
  have k1 := cell_stay hb k1
  have k2 := cell_stay hb k2
  have k3 := cell_stay hb k3
  have k4 := cell_stay hb k4
  have k5 := cell_stay hb k5
  have m1 := cell_stay hb m1
  have HL := Lib.hid (hL.stay hb)
  have HV := Lib.hid (hv.stay hb)
  have HX := Lib.hid hx
  have HB := Lib.hid hb
  clear hL hv hx hx' hy hy' hB1 hB2 hB3 hB4
  go_enter Tryd.func28, Tryd.ntmps28
  go_upto_region 1 with fail
  generalize ((((w.alloc (.cells #[.slice A1 n1 c1, .slice (some ⟨bp, op, none⟩) n2 c2, .slice A3 n3 c3, .slice (some ⟨b, off, none⟩) n4 c4] 26)).alloc (.cells #[.int .i64 r.m, .int .i64 r.t, .int .i64 r.g, .bool r.s] 69)).alloc (.cells #[.int .i64 p] 3)).alloc (.cells #[.int .i64 ti] 3)) = W0 at *
  generalize hgn : w.heap.size = gn at *
  have HGN := Lib.hid hgn
  clear hgn hb
  go_upto_region 4 with (first
    | (go_at_call 52; refine (Needs_calls W0 L A1 _ A3 _ n1 c1 n2 c2 n3 c3 n4 c4 HL.out i x HX.out hf).mono ?_; rintro e w2 ⟨A5, n5, c5, rfl, hq5, hb5⟩; have p0 := cell_stay hb5 p0; have t0 := cell_stay hb5 t0; have HB5 := Lib.hid hb5; have HQ5 := Lib.hid hq5; clear hb5 hq5)
    | (go_at_call 53; refine (CFN_calls w2 A5 n5 c5 (x.points ++ x.flank) HQ5.out 54 #[.pointer (some ⟨gn + 1 + 1, 0, none⟩), .pointer (some ⟨gn + 1 + 1 + 1, 0, none⟩)] enter_ba1 (fun n => decide (n.p = p) && decide (posM n = ti)) (fun W a _ hW => (Ba1_calls W (gn + 1 + 1) (gn + 1 + 1 + 1) p ti (cell_stay hW p0) (cell_stay hW t0) a).mono fun e w' h => ⟨h.1, below_more hW h.2⟩)).mono ?_; rintro e w3 ⟨rfl, hb6⟩; generalize hso : ((x.points ++ x.flank).any fun n => decide (n.p = p) && decide (posM n = ti)) = so; have HSO := Lib.hid hso; clear hso; have p0 := cell_stay hb6 p0; have t0 := cell_stay hb6 t0; have HB6 := Lib.hid (below_more HB5.out hb6); have HQ6 := Lib.hid (HQ5.out.stay hb6); clear hb6)
    | (go_at_call 53; refine (CFN_calls w3 A5 n5 c5 (x.points ++ x.flank) HQ6.out 56 #[.pointer (some ⟨gn + 1 + 1, 0, none⟩), .pointer (some ⟨gn + 1 + 1 + 1, 0, none⟩)] enter_ba2 (fun n => decide (n.p = p) && decide (posM n ≠ ti)) (fun W a _ hW => (Ba2_calls W (gn + 1 + 1) (gn + 1 + 1 + 1) p ti (cell_stay hW p0) (cell_stay hW t0) a).mono fun e w' h => ⟨h.1, below_more hW h.2⟩)).mono ?_; rintro e w4 ⟨rfl, hb7⟩; generalize hot : ((x.points ++ x.flank).any fun n => decide (n.p = p) && decide (posM n ≠ ti)) = ot; have HOT := Lib.hid hot; clear hot; have HB7 := Lib.hid (below_more HB6.out hb7); have p0 := cell_stay hb7 p0; clear hb7)
    | fail)
  have HW := Lib.hid (below_more (by rw [HGN.out]; exact HB.out) HB7.out)
  have r0 := cell_stay HB7.out r0
  have r1 := cell_stay HB7.out r1
  have r2 := cell_stay HB7.out r2
  have r3 := cell_stay HB7.out r3
  have l1 := cell_stay HB7.out l1
  have l3 := cell_stay HB7.out l3
  have k0 := cell_stay HB7.out k0
  have k1 := cell_stay HB7.out k1
  have k2 := cell_stay HB7.out k2
  have k3 := cell_stay HB7.out k3
  have k4 := cell_stay HB7.out k4
  have k5 := cell_stay HB7.out k5
  have m1 := cell_stay HB7.out m1
  clear l0 l2 t0
  go_cut [14] (fun s14 wx => s14 = .bool (standsM r) ∧ wx = w4)
  case first =>
    by_cases h2 : r.m = 2
    · have h2' : (r.m == 2) = true := by simp [h2]
      have HF : Hid (standsM r = true) := Lib.hid (by unfold standsM; simp [h2])
      clear h2
      go_wp2_with fail
      go_meet
      exact ⟨by rw [HF.out], rfl⟩
    · have h2' : (r.m == 2) = false := by simp [h2]
      by_cases h3 : r.m = 3
      · have h3' : (r.m == 3) = true := by simp [h3]
        have HF : Hid (standsM r = true) := Lib.hid (by unfold standsM; simp [h3])
        clear h2 h3
        go_wp2_with fail
        go_meet
        exact ⟨by rw [HF.out], rfl⟩
      · have h3' : (r.m == 3) = false := by simp [h3]
        have HF : Hid (standsM r = (r.m == 4)) := Lib.hid (by unfold standsM; rw [decide_eq_false h2, decide_eq_false h3]; simp [BEq.beq])
        clear h2 h3
        go_wp2_with fail
        go_meet
        exact ⟨by rw [HF.out], rfl⟩
  case rest =>
    obtain ⟨rfl, rfl⟩ := hcut
    have HM : Hid (barsM x r p y.sec ti = (standsM r && ot || !so && holdsM x r y.sec)) := Lib.hid (by unfold barsM; rw [HSO.out, HOT.out])
    have HH : Hid (∀ W, Below wc.heap.size wc W → Calls Tryd.prog 57 #[.agg #[.string x.name, .int .i64 x.frm, .int .i64 x.dest, .slice P pl pc, .slice Q q qc, .slice F f fc], .agg #[.int .i64 r.m, .int .i64 r.t, .int .i64 r.g, .bool r.s], .int .i64 y.sec] W fun e w' => e = .returned (.bool (holdsM x r y.sec)) ∧ Below W.heap.size W w') := Lib.hid (fun W hW => Holds_calls W x P Q F pl pc q qc f fc ((HV.out.stay HB7.out).stay hW) r y.sec)
    generalize standsM r = st at *
    generalize holdsM x r y.sec = ho at *
    go_upto_region 5 with fail
    have r0 := later_cell r0
    have r1 := later_cell r1
    have r2 := later_cell r2
    have r3 := later_cell r3
    have l1 := later_cell l1
    have l3 := later_cell l3
    have k0 := later_cell k0
    have k1 := later_cell k1
    have k2 := later_cell k2
    have k3 := later_cell k3
    have k4 := later_cell k4
    have k5 := later_cell k5
    have m1 := later_cell m1
    have p0 := later_cell p0
    cases st <;> cases ot <;> cases so
    all_goals
      refine wp_region_later (by kernel_rfl) (by kernel_rfl) ?_
      repeat (go_big_quiet_step (first
        | (go_at_call 57; rename_i q; exact later_call q (HH.out q.w1 q.hb))
        | fail))
      refine wpQuiet_nil ?_
      intro qq
      go_wp2_with fail
      go_ret
      exact ⟨ret_bool (by rw [HM.out]; simp), below_more HW.out qq.hb⟩
end
end Go.Proofs.YtmdggodkkkihhaaDoor

/- Contracts of judge.isLocked and judge.Held. -/
set_option linter.unusedVariables false
set_option linter.unusedSimpArgs false
namespace Go.Proofs.YtmdggodkkkihhaaDoor
open Go.RowKit

theorem enter_il1 (args : Array Value) (w : World) : (callFunc 51 args).run Tryd.prog w = .ok (.enter 51 args) w := by kernel_rfl
/-- Has a signal a route that is Locked? -/
def lockedM (L : Lay) (rs : List Rs) (s : Int) : Bool := (entryTo L.rtes s L.rtes.length).any fun i => decide ((rs[i.toNat]?.map Rs.m).getD 0 = 2)
set_option maxRecDepth 20000 in
set_option maxHeartbeats 2000000 in
theorem Il1_calls (W : World) (g : Nat) (R : Option Addr) (k kc : Nat) (rs : List Rs) (hg : W.cell? ⟨g, 0, none⟩ = some (.slice R k kc)) (hR : Sl flR W R k kc rs) (i : Int) (h0 : 0 ≤ i) (h1 : i < rs.length) :
    Calls Tryd.prog 51 #[.int .i64 i, .pointer (some ⟨g, 0, none⟩)] W fun e w' => e = .returned (.bool (decide ((rs[i.toNat]?.map Rs.m).getD 0 = 2))) ∧ Below W.heap.size W w' := by
  obtain ⟨j, rfl⟩ : ∃ j : Nat, i = j := ⟨i.toNat, by omega⟩
  have hj : j < k := by have := hR.len; omega
  have hcap := Nat.le_trans hR.le hR.cap
  obtain ⟨b, off, x, rfl, hx, cx, _, _, _⟩ := hR.rs hj
  have HF : Hid ((rs[j]?.map Rs.m).getD 0 = x.m) := Lib.hid (by rw [hx]; rfl)
  clear hR hx h0 h1
  go_enter Tryd.func51, Tryd.ntmps51
  go_wp2_with fail
  go_ret
  exact ⟨ret_bool (by rw [Int.toNat_natCast, HF.out]; simp [BEq.beq]), Below.refl _ _⟩
section
variable {L : Lay} {A1 A2 A3 A4 : Option Addr} {n1 c1 n2 c2 n3 c3 n4 c4 : Nat} {I : Inn} {C D : Option Addr} {n c m d : Nat} {O : Ou} {E F : Option Addr} {p pc q qc : Nat}
set_option maxRecDepth 20000 in
set_option maxHeartbeats 4000000 in
theorem IsLocked_calls (w : World) (hL : LayV w L A1 A2 A3 A4 n1 c1 n2 c2 n3 c3 n4 c4) (hn : n4 ≤ 1000000) (R : Option Addr) (k kc : Nat) (rs : List Rs) (hR : Sl flR w R k kc rs) (hk : rs.length = L.rtes.length) (s : Nat) :
    Calls Tryd.prog 27 #[.agg #[.slice A1 n1 c1, .slice A2 n2 c2, .slice A3 n3 c3, .slice A4 n4 c4], .slice R k kc, .int .i64 s] w fun e w' => e = .returned (.bool (lockedM L rs s)) ∧ Below w.heap.size w w' := by
  have hb : Below w.heap.size w ((w.alloc (.cells #[.slice A1 n1 c1, .slice A2 n2 c2, .slice A3 n3 c3, .slice A4 n4 c4] 26)).alloc (.cells #[.slice R k kc] 33)) := (below_new w _).alloc (by simp) _
  have hB1 := (Blk.new w #[.slice A1 n1 c1, .slice A2 n2 c2, .slice A3 n3 c3, .slice A4 n4 c4] 26 (0, 0)).alloc (.cells #[.slice R k kc] 33)
  have hB2 := Blk.at_ (w := w.alloc (.cells #[.slice A1 n1 c1, .slice A2 n2 c2, .slice A3 n3 c3, .slice A4 n4 c4] 26)) (g := w.heap.size + 1) (by simp) #[.slice R k kc] 33 (0, 0)
  have l0 := hB1.cell 0
  have l1 := hB1.cell 1
  have l2 := hB1.cell 2
  have l3 := hB1.cell 3
  have r0 := hB2.cell 0
  simp only [List.getElem?_toArray, List.getElem?_cons_zero, List.getElem?_cons_succ] at l0 l1 l2 l3 r0
  have HL := Lib.hid (hL.stay hb)
  have HR := Lib.hid (hR.stay hb)
  have HK := Lib.hid hk
  have HB := Lib.hid hb
  have HN : Hid (n4 = L.rtes.length) := Lib.hid hL.rtes.len.symm
  clear hL hR hk hB1 hB2
  go_enter Tryd.func27, Tryd.ntmps27
  go_upto_region 1 with fail
  generalize ((w.alloc (.cells #[.slice A1 n1 c1, .slice A2 n2 c2, .slice A3 n3 c3, .slice A4 n4 c4] 26)).alloc (.cells #[.slice R k kc] 33)) = W0 at *
  generalize hgn : w.heap.size = gn at *
  have HGN := Lib.hid hgn
  clear hgn hb
  go_wp2_with (first
    | (go_at_call 45; refine (Entry_calls W0 L A1 A2 A3 A4 n1 c1 n2 c2 n3 c3 n4 c4 HL.out hn s).mono ?_; rintro e w2 ⟨A5, n5, c5, rfl, hq5, hb5⟩; have HB5 := Lib.hid hb5; have HQ5 := Lib.hid hq5; clear hb5 hq5)
    | (go_at_call 44; refine (CFI_calls w2 A5 n5 c5 (entryTo L.rtes s n4) HQ5.out 51 #[.pointer (some ⟨gn + 1, 0, none⟩)] enter_il1 (fun i => decide ((rs[i.toNat]?.map Rs.m).getD 0 = 2))
        (fun W2 r hr hb => by
          obtain ⟨j, _, rfl, hj, _, _⟩ := entryTo_mem hr
          have hb2 := below_more HB5.out hb
          exact (Il1_calls W2 (gn + 1) R k kc rs (cell_stay hb2 r0) (HR.out.stay hb2) (j : Int) (by omega) (by have := HK.out; have := HN.out; omega)).mono fun e w' h => ⟨h.1, below_more hb h.2⟩)).mono ?_; rintro e w3 ⟨rfl, hb6⟩)
    | fail)
  go_ret
  refine ⟨ret_bool ?_, below_more (by rw [HGN.out]; exact HB.out) (below_more HB5.out hb6)⟩
  unfold lockedM
  rw [← HN.out]
/-- Is a point driven as a route bars? -/
def hBad (L : Lay) (O : Ou) (rs : List Rs) (j : Nat) (i : Nat) : Bool := match L.rtes[i]?, rs[i]?, L.pts[j]? with
  | some x, some r, some y => barsM x r j y.sec (O.drive.getD j 0)
  | _, _, _ => false
def hBads (L : Lay) (O : Ou) (rs : List Rs) (j : Nat) : Bool := decide (O.drive.getD j 0 ≠ 0) && (List.range rs.length).any (hBad L O rs j)
def heldM (L : Lay) (I : Inn) (O : Ou) (rs : List Rs) : Bool :=
  decide (rs.length = L.rtes.length) && safeM L I O && !((List.range O.proceed.length).any fun s => O.proceed.getD s false && !lockedM L rs s) && !((List.range O.drive.length).any (hBads L O rs))
end
end Go.Proofs.YtmdggodkkkihhaaDoor

/- Contract of judge.Held. -/
set_option linter.unusedVariables false
set_option linter.unusedSimpArgs false
namespace Go.Proofs.YtmdggodkkkihhaaDoor
open Go.RowKit

/-- Three boxes at once: a layout's, what the field tells, what it is told. -/
structure Box3 (w : World) (g1 g2 g3 : Nat) (L : Lay) (A1 A2 A3 A4 : Option Addr) (n1 c1 n2 c2 n3 c3 n4 c4 : Nat) (I : Inn) (C D : Option Addr) (n c m d : Nat) (O : Ou) (E F : Option Addr) (p pc q qc : Nat) (R : Option Addr) (k kc : Nat) (rs : List Rs) : Prop where
  l : LayB w g1 L A1 A2 A3 A4 n1 c1 n2 c2 n3 c3 n4 c4
  i : InB w g2 I C D n c m d
  o : OuB w g3 O E F p pc q qc
  r : Sl flR w R k kc rs
theorem Box3.stay {w w1 : World} {g1 g2 g3 : Nat} {L : Lay} {A1 A2 A3 A4 : Option Addr} {n1 c1 n2 c2 n3 c3 n4 c4 : Nat} {I : Inn} {C D : Option Addr} {n c m d : Nat} {O : Ou} {E F : Option Addr} {p pc q qc : Nat} {R : Option Addr} {k kc : Nat} {rs : List Rs} (h : Box3 w g1 g2 g3 L A1 A2 A3 A4 n1 c1 n2 c2 n3 c3 n4 c4 I C D n c m d O E F p pc q qc R k kc rs) (hb : Below w.heap.size w w1) : Box3 w1 g1 g2 g3 L A1 A2 A3 A4 n1 c1 n2 c2 n3 c3 n4 c4 I C D n c m d O E F p pc q qc R k kc rs := ⟨h.l.stay hb, h.i.stay hb, h.o.stay hb, h.r.stay hb⟩
section
variable {L : Lay} {A1 A2 A3 A4 : Option Addr} {n1 c1 n2 c2 n3 c3 n4 c4 : Nat} {I : Inn} {C D : Option Addr} {n c m d : Nat} {O : Ou} {E F : Option Addr} {p pc q qc : Nat} {R : Option Addr} {k kc : Nat} {rs : List Rs}
set_option maxRecDepth 20000 in
set_option maxHeartbeats 8000000 in
theorem Held_calls (w : World) (hL : LayV w L A1 A2 A3 A4 n1 c1 n2 c2 n3 c3 n4 c4) (hI : InV w I C D n c m d) (hO : OuV w O E F p pc q qc) (hR : Sl flR w R k kc rs) (hok : LayOk L) :
    Calls Tryd.prog 13 #[.agg #[.slice A1 n1 c1, .slice A2 n2 c2, .slice A3 n3 c3, .slice A4 n4 c4], .agg #[.slice C n c, .slice D m d], .agg #[.slice E p pc, .slice F q qc], .slice R k kc] w fun e w' => e = .returned (.bool (heldM L I O rs)) ∧ Below w.heap.size w w' := by
  have e4 := hL.rtes.len
  have er := hR.len
  have hbw : Below w.heap.size w (((w.alloc (.cells #[.slice A1 n1 c1, .slice A2 n2 c2, .slice A3 n3 c3, .slice A4 n4 c4] 26)).alloc (.cells #[.slice C n c, .slice D m d] 30)).alloc (.cells #[.slice E p pc, .slice F q qc] 32)) :=
    ((below_new w _).alloc (by simp) _).alloc (by simp; omega) _
  have hB1 := (((Blk.new w #[.slice A1 n1 c1, .slice A2 n2 c2, .slice A3 n3 c3, .slice A4 n4 c4] 26 (0, 0)).alloc (.cells #[.slice C n c, .slice D m d] 30)).alloc (.cells #[.slice E p pc, .slice F q qc] 32))
  have hB2 := ((Blk.at_ (w := w.alloc (.cells #[.slice A1 n1 c1, .slice A2 n2 c2, .slice A3 n3 c3, .slice A4 n4 c4] 26)) (g := w.heap.size + 1) (by simp) #[.slice C n c, .slice D m d] 30 (0, 0))).alloc (.cells #[.slice E p pc, .slice F q qc] 32)
  have hB3 := Blk.at_ (w := (w.alloc (.cells #[.slice A1 n1 c1, .slice A2 n2 c2, .slice A3 n3 c3, .slice A4 n4 c4] 26)).alloc (.cells #[.slice C n c, .slice D m d] 30)) (g := w.heap.size + 1 + 1) (by simp) #[.slice E p pc, .slice F q qc] 32 (0, 0)
  have l0 := hB1.cell 0
  have l1 := hB1.cell 1
  have l2 := hB1.cell 2
  have l3 := hB1.cell 3
  have i0 := hB2.cell 0
  have i1 := hB2.cell 1
  have o0 := hB3.cell 0
  have o1 := hB3.cell 1
  simp only [List.getElem?_toArray, List.getElem?_cons_zero, List.getElem?_cons_succ] at l0 l1 l2 l3 i0 i1 o0 o1
  have HX : Hid (Box3 _ w.heap.size (w.heap.size + 1) (w.heap.size + 1 + 1) L A1 A2 A3 A4 n1 c1 n2 c2 n3 c3 n4 c4 I C D n c m d O E F p pc q qc R k kc rs) := Lib.hid ⟨LayB.mk l0 l1 l2 l3 (hL.stay hbw), InB.mk i0 i1 (hI.stay hbw), OuB.mk o0 o1 (hO.stay hbw), hR.stay hbw⟩
  by_cases h1 : k = n4
  case neg =>
    have h1' : ((k : Int) != (n4 : Int)) = true := by simp; omega
    have HF : Hid (heldM L I O rs = false) := Lib.hid (by unfold heldM; rw [decide_eq_false (by omega)]; simp)
    clear h1 hL hI hO hR hok e4 er HX hB1 hB2 hB3
    go_enter Tryd.func13, Tryd.ntmps13
    go_wp2_with fail
    go_ret
    exact ⟨ret_bool (by rw [HF.out]), hbw⟩
  case pos =>
    have h1' : ((k : Int) != (n4 : Int)) = false := by simp; omega
    have hn4 : n4 ≤ 1000000 := by have := hok.few; omega
    have HM : Hid (heldM L I O rs = (safeM L I O && !((List.range q).any fun s => O.proceed.getD s false && !lockedM L rs s) && !((List.range p).any (hBads L O rs)))) := Lib.hid (by
      unfold heldM
      rw [decide_eq_true (by omega), hO.drive.len, hO.proceed.len]
      simp)
    have KS := Lib.hid (Safe_calls _ (hL.stay hbw) (hI.stay hbw) (hO.stay hbw) hok)
    have HE : Hid (k = n4 ∧ L.rtes.length = n4 ∧ rs.length = k) := Lib.hid ⟨h1, e4, er⟩
    have HK := Lib.hid hok
    have HDP : Hid (safeM L I O = true → O.drive.length = L.pts.length) := Lib.hid (fun h => by
      unfold safeM at h
      simp only [Bool.and_eq_true, decide_eq_true_eq] at h
      exact h.1.1.1.2)
    have HNN : Hid (n2 = L.pts.length ∧ p = O.drive.length) := Lib.hid ⟨hL.pts.len.symm, hO.drive.len.symm⟩
    have hcap4 := Nat.le_trans hL.rtes.le hL.rtes.cap
    have hcap2 := Nat.le_trans hL.pts.le hL.pts.cap
    have hcapp := Nat.le_trans hO.drive.le hO.drive.cap
    have hcapq := Nat.le_trans hO.proceed.le hO.proceed.cap
    have hcapk := Nat.le_trans hR.le hR.cap
    clear h1 hL hI hO hR hok e4 er hB1 hB2 hB3
    generalize safeM L I O = sf at *
    have HBW := Lib.hid hbw
    cases sf with
    | false =>
      go_enter Tryd.func13, Tryd.ntmps13
      go_wp2_with (first
        | (go_at_call 11; refine KS.out.mono ?_; rintro e w2 ⟨rfl, hb2⟩)
        | fail)
      go_ret
      exact ⟨ret_bool (by rw [HM.out]; rfl), below_more HBW.out hb2⟩
    | true =>
      go_enter Tryd.func13, Tryd.ntmps13
      go_wp2_with (first
        | (go_at_call 11; refine KS.out.mono ?_; rintro e w2 ⟨rfl, hb2⟩; have HX := Lib.hid (HX.out.stay hb2); have o1 := cell_stay hb2 o1; have HB2 := Lib.hid (below_more HBW.out hb2); clear hb2)
        | fail)
      have HD : Hid (p = n2) := Lib.hid (by have := HDP.out (by first | trivial | rfl); have := HNN.out; omega)
      clear hbw
      go_loopw [31] (fun i wr => ∃ j : Nat, j ≤ q ∧ i = .int .i64 j ∧ Hid (Below w2.heap.size w2 wr ∧ ∀ s, s < j → (O.proceed.getD s false && !lockedM L rs s) = false)) (fun i _ => q - (intOf i).toNat)
      case atStart => exact ⟨0, by omega, rfl, Lib.hid ⟨Below.refl _ _, fun j hj => absurd hj (by omega)⟩⟩
      case round =>
        obtain ⟨j, hj, rfl, hr⟩ := hrel
        have HX := Lib.hid (HX.out.stay hr.out.1)
        have HB := Lib.hid (below_more HB2.out hr.out.1)
        have l0 := HX.out.l.b0
        have l1 := HX.out.l.b1
        have l2 := HX.out.l.b2
        have l3 := HX.out.l.b3
        by_cases hlt : j < q
        · obtain ⟨b, off, v, rfl, hv, cv⟩ := HX.out.o.v.proceed.tru hlt
          have HV := Lib.hid (getD_of (d := false) hv)
          clear hv
          cases v with
          | false =>
            have HN := Lib.hid (no_more (p := fun s => O.proceed.getD s false && !lockedM L rs s) hr.out.2 (by show (O.proceed.getD j false && _) = false; rw [HV.out]; rfl))
            go_wp2_with fail
            go_roundw
            case rel => exact ⟨j + 1, by omega, by go_num, Lib.hid ⟨hr.out.1, HN.out⟩⟩
            case measure => simp [intOf]; omega
          | true =>
            have KL := Lib.hid (IsLocked_calls wr HX.out.l.v hn4 R k kc rs HX.out.r (by have := HE.out; omega) j)
            generalize hz : lockedM L rs j = z at *
            have HZ := Lib.hid hz
            clear hz
            cases z with
            | true =>
              have HN := Lib.hid (no_more (p := fun s => O.proceed.getD s false && !lockedM L rs s) hr.out.2 (by show (O.proceed.getD j false && !lockedM L rs j) = false; rw [HV.out, HZ.out]; rfl))
              go_wp2_with (first
                | (go_at_call 27; refine KL.out.mono ?_; rintro e w3 ⟨rfl, hb3⟩)
                | fail)
              go_roundw
              case rel => exact ⟨j + 1, by omega, by go_num, Lib.hid ⟨below_more hr.out.1 hb3, HN.out⟩⟩
              case measure => simp [intOf]; omega
            | false =>
              have HY := Lib.hid (range_any_at (p := fun s => O.proceed.getD s false && !lockedM L rs s) hlt (by show (O.proceed.getD j false && !lockedM L rs j) = true; rw [HV.out, HZ.out]; rfl))
              go_wp2_with (first
                | (go_at_call 27; refine KL.out.mono ?_; rintro e w3 ⟨rfl, hb3⟩)
                | fail)
              go_ret
              exact ⟨ret_bool (by rw [HM.out, HY.out]; simp), below_more HB.out hb3⟩
        · obtain rfl : j = q := by omega
          have HY1 := Lib.hid (range_any_no hr.out.2)
          have o0 := HX.out.o.c0
          clear hlt hr
          go_wp2_with fail
          generalize hw5 : wr = w5 at *
          clear hw5
          go_loopw [48] (fun i wr => ∃ j : Nat, j ≤ p ∧ i = .int .i64 j ∧ Hid (Below w5.heap.size w5 wr ∧ ∀ s, s < j → hBads L O rs s = false)) (fun i _ => p - (intOf i).toNat)
          case atStart => exact ⟨0, by omega, by first | trivial | rfl, Lib.hid ⟨Below.refl _ _, fun j hj => absurd hj (by omega)⟩⟩
          case round =>
            obtain ⟨a, ha, rfl, hr2⟩ := hrel
            have HX := Lib.hid (HX.out.stay hr2.out.1)
            have HB := Lib.hid (below_more HB.out hr2.out.1)
            have l0 := HX.out.l.b0
            have l1 := HX.out.l.b1
            have l2 := HX.out.l.b2
            have l3 := HX.out.l.b3
            by_cases hlt : a < p
            · obtain ⟨be, oe, v, rfl, hv, cv⟩ := HX.out.o.v.drive.int hlt
              have HV := Lib.hid (getD_of (d := 0) hv)
              have hy := List.getElem?_eq_getElem (l := L.pts) (i := a) (by have := HD.out; have := HNN.out; omega)
              have HY := Lib.hid hy
              clear hv hy
              generalize L.pts[a]'_ = y at HY
              go_wp2_with fail
              have HR2 := Lib.hid hr2.out
              generalize hw6 : wr = w6 at *
              clear hw6 hr2
              by_cases hv0 : v = 0
              · have HN := Lib.hid (no_more HR2.out.2 (show hBads L O rs a = false by unfold hBads; rw [HV.out, hv0]; rfl))
                have hv1 : (v != 0) = false := by simp [hv0]
                clear hv0
                go_loopw [55] (fun i wr => ∃ j : Nat, j ≤ k ∧ i = .int .i64 j ∧ Hid (Below w6.heap.size w6 wr)) (fun i _ => k - (intOf i).toNat)
                case atStart => exact ⟨0, by omega, by first | trivial | rfl, Lib.hid (Below.refl _ _)⟩
                case round =>
                  obtain ⟨j, hj, rfl, hr3⟩ := hrel
                  by_cases hlt3 : j < k
                  · obtain ⟨br, or_, x, rfl, _, x0, x1, x2, x3⟩ := HX.out.r.rs hlt3
                    have x0 := cell_stay hr3.out x0
                    have x1 := cell_stay hr3.out x1
                    have x2 := cell_stay hr3.out x2
                    have x3 := cell_stay hr3.out x3
                    go_wp2_with fail
                    go_roundw
                    case rel => exact ⟨j + 1, by omega, by go_num, Lib.hid (hr3.out.alloc hr3.out.size _)⟩
                    case measure => simp [intOf]; omega
                  · obtain rfl : j = k := by omega
                    clear hlt3
                    go_wp2_with fail
                    go_roundw
                    case rel => exact ⟨a + 1, by omega, by go_num, Lib.hid ⟨below_more HR2.out.1 hr3.out, HN.out⟩⟩
                    case measure => simp [intOf]; omega
              · have hv1 : (v != 0) = true := by simp [hv0]
                have HV0 := Lib.hid hv0
                clear hv0
                go_loopw [55] (fun i wr => ∃ j : Nat, j ≤ k ∧ i = .int .i64 j ∧ Hid (Below w6.heap.size w6 wr ∧ ∀ s, s < j → hBad L O rs a s = false)) (fun i _ => k - (intOf i).toNat)
                case atStart => exact ⟨0, by omega, by first | trivial | rfl, Lib.hid ⟨Below.refl _ _, fun j hj => absurd hj (by omega)⟩⟩
                case round =>
                  obtain ⟨j, hj, rfl, hr3⟩ := hrel
                  by_cases hlt3 : j < k
                  · obtain ⟨br, or_, x, rfl, hx, x0, x1, x2, x3⟩ := HX.out.r.rs hlt3
                    have x0 := cell_stay hr3.out.1 x0
                    have x1 := cell_stay hr3.out.1 x1
                    have x2 := cell_stay hr3.out.1 x2
                    have x3 := cell_stay hr3.out.1 x3
                    have L0 := cell_stay hr3.out.1 l0
                    have L1 := cell_stay hr3.out.1 l1
                    have L2 := cell_stay hr3.out.1 l2
                    have L3 := cell_stay hr3.out.1 l3
                    have hx2 := List.getElem?_eq_getElem (l := L.rtes) (i := j) (by have := HE.out; omega)
                    have hn := below_new wr (.cells #[.int .i64 x.m, .int .i64 x.t, .int .i64 x.g, .bool x.s] 69)
                    have KB := Lib.hid (Bars_calls _ ((HX.out.l.v.stay hr3.out.1).stay hn) j _ hx2 (HK.out.needs _ (List.getElem_mem _)) x a y HY.out v)
                    have HBD : Hid (hBad L O rs a j = barsM (L.rtes[j]'(by have := HE.out; omega)) x a y.sec v) := Lib.hid (by
                      unfold hBad
                      rw [hx2, hx, HY.out]
                      show barsM _ x a y.sec (O.drive.getD a 0) = _
                      rw [HV.out])
                    generalize barsM _ x a y.sec v = z at *
                    have HNW := Lib.hid hn
                    have M0 := cell_stay hn L0
                    have M1 := cell_stay hn L1
                    have M2 := cell_stay hn L2
                    have M3 := cell_stay hn L3
                    clear hx hx2 hn
                    cases z with
                    | false =>
                      have HN3 := Lib.hid (no_more hr3.out.2 HBD.out)
                      go_wp2_with (first
                        | (go_at_call 28; refine KB.out.mono ?_; rintro e w8 ⟨rfl, hb8⟩)
                        | fail)
                      go_roundw
                      case rel => exact ⟨j + 1, by omega, by go_num, Lib.hid ⟨below_more hr3.out.1 (below_more HNW.out hb8), HN3.out⟩⟩
                      case measure => simp [intOf]; omega
                    | true =>
                      have HY3 := Lib.hid (range_any_at (n := p) hlt (show hBads L O rs a = true by
                        unfold hBads
                        rw [HV.out, decide_eq_true HV0.out, range_any_at (k := j) (by have := HE.out; omega) HBD.out]
                        rfl))
                      go_wp2_with (first
                        | (go_at_call 28; refine KB.out.mono ?_; rintro e w8 ⟨rfl, hb8⟩)
                        | fail)
                      go_ret
                      exact ⟨ret_bool (by rw [HM.out, HY3.out]; simp), below_more HB.out (below_more hr3.out.1 (below_more HNW.out hb8))⟩
                  · obtain rfl : j = k := by omega
                    have HN := Lib.hid (no_more HR2.out.2 (show hBads L O rs a = false by
                      unfold hBads
                      rw [show rs.length = j by have := HE.out; omega, range_any_no hr3.out.2]
                      simp))
                    clear hlt3
                    go_wp2_with fail
                    go_roundw
                    case rel => exact ⟨a + 1, by omega, by go_num, Lib.hid ⟨below_more HR2.out.1 hr3.out.1, HN.out⟩⟩
                    case measure => simp [intOf]; omega
            · obtain rfl : a = p := by omega
              have HY2 := Lib.hid (range_any_no hr2.out.2)
              clear hlt
              go_wp2_with fail
              go_ret
              exact ⟨ret_bool (by rw [HM.out, HY1.out, HY2.out]; rfl), HB.out⟩
end
end Go.Proofs.YtmdggodkkkihhaaDoor

/- Contracts of judge.Atmost, the reference's Atmost and SameOut. -/
set_option linter.unusedVariables false
set_option linter.unusedSimpArgs false
namespace Go.Proofs.YtmdggodkkkihhaaDoor
open Go.RowKit

def pBad (a b : Ou) (i : Nat) : Bool := a.proceed.getD i false && !b.proceed.getD i false
def rBad (a b : Ou) (i : Nat) : Bool := decide (a.drive.getD i 0 ≠ 0) && decide (a.drive.getD i 0 ≠ b.drive.getD i 0)
/-- Is nothing told that is not told of the other one? -/
def atmostM (a b : Ou) : Bool := decide (a.drive.length = b.drive.length) && decide (a.proceed.length = b.proceed.length) && !((List.range a.proceed.length).any (pBad a b)) && !((List.range a.drive.length).any (rBad a b))
section
variable {a b : Ou} {A B C D : Option Addr} {n c m d p pc q qc : Nat}
set_option maxRecDepth 20000 in
set_option maxHeartbeats 8000000 in
theorem Atmost_calls (w : World) (ha : OuV w a A B n c m d) (hb : OuV w b C D p pc q qc) :
    Calls Tryd.prog 19 #[.agg #[.slice A n c, .slice B m d], .agg #[.slice C p pc, .slice D q qc]] w fun e w' => e = .returned (.bool (atmostM a b)) ∧ Below w.heap.size w w' := by
  have e1 := ha.drive.len
  have e2 := ha.proceed.len
  have e3 := hb.drive.len
  have e4 := hb.proceed.len
  have hbw : Below w.heap.size w ((w.alloc (.cells #[.slice A n c, .slice B m d] 32)).alloc (.cells #[.slice C p pc, .slice D q qc] 32)) := (below_new w _).alloc (by simp) _
  have hB1 := (Blk.new w #[.slice A n c, .slice B m d] 32 (0, 0)).alloc (.cells #[.slice C p pc, .slice D q qc] 32)
  have hB2 := Blk.at_ (w := w.alloc (.cells #[.slice A n c, .slice B m d] 32)) (g := w.heap.size + 1) (by simp) #[.slice C p pc, .slice D q qc] 32 (0, 0)
  have a0 := hB1.cell 0
  have a1 := hB1.cell 1
  have b0 := hB2.cell 0
  have b1 := hB2.cell 1
  simp only [List.getElem?_toArray, List.getElem?_cons_zero, List.getElem?_cons_succ] at a0 a1 b0 b1
  by_cases h1 : n = p
  case neg =>
    have h1' : ((n : Int) != (p : Int)) = true := by simp; omega
    have HF : Hid (atmostM a b = false) := Lib.hid (by unfold atmostM; rw [decide_eq_false (by omega)]; simp)
    clear h1 ha hb e1 e2 e3 e4 hB1 hB2
    go_enter Tryd.func19, Tryd.ntmps19
    go_wp2_with fail
    go_ret
    exact ⟨ret_bool (by rw [HF.out]), hbw⟩
  case pos =>
  by_cases h2 : m = q
  case neg =>
    have h1' : ((n : Int) != (p : Int)) = false := by simp; omega
    have h2' : ((m : Int) != (q : Int)) = true := by simp; omega
    have HF : Hid (atmostM a b = false) := Lib.hid (by unfold atmostM; rw [decide_eq_false (p := a.proceed.length = b.proceed.length) (by omega)]; simp)
    clear h1 h2 ha hb e1 e2 e3 e4 hB1 hB2
    go_enter Tryd.func19, Tryd.ntmps19
    go_wp2_with fail
    go_ret
    exact ⟨ret_bool (by rw [HF.out]), hbw⟩
  case pos =>
    have h1' : ((n : Int) != (p : Int)) = false := by simp; omega
    have h2' : ((m : Int) != (q : Int)) = false := by simp; omega
    have HF : Hid (atmostM a b = (!((List.range m).any (pBad a b)) && !((List.range n).any (rBad a b)))) := Lib.hid (by
      unfold atmostM
      rw [decide_eq_true (by omega : a.drive.length = b.drive.length), decide_eq_true (by omega : a.proceed.length = b.proceed.length), e1, e2]
      simp)
    have HE : Hid (n = p ∧ m = q) := Lib.hid ⟨h1, h2⟩
    have HA := Lib.hid (ha.stay hbw)
    have HB := Lib.hid (hb.stay hbw)
    have HW := Lib.hid hbw
    have hn := Nat.le_trans ha.drive.le ha.drive.cap
    have hm := Nat.le_trans ha.proceed.le ha.proceed.cap
    have hp := Nat.le_trans hb.drive.le hb.drive.cap
    have hq := Nat.le_trans hb.proceed.le hb.proceed.cap
    clear h1 h2 ha hb e1 e2 e3 e4 hB1 hB2
    go_enter Tryd.func19, Tryd.ntmps19
    go_wp2_with fail
    generalize ((w.alloc (.cells #[.slice A n c, .slice B m d] 32)).alloc (.cells #[.slice C p pc, .slice D q qc] 32)) = W0 at *
    generalize hgn : w.heap.size = gn at *
    have HGN := Lib.hid hgn
    clear hgn hbw h1' h2'
    go_loopw [28] (fun i wr => wr = W0 ∧ ∃ j : Nat, j ≤ m ∧ i = .int .i64 j ∧ Hid (∀ s, s < j → pBad a b s = false)) (fun i _ => m - (intOf i).toNat)
    case atStart => exact ⟨rfl, 0, by omega, rfl, Lib.hid fun j hj => absurd hj (by omega)⟩
    case round =>
      obtain ⟨hwr, j, hj, rfl, hr⟩ := hrel
      obtain rfl : W0 = wr := hwr.symm
      by_cases hlt : j < m
      · obtain ⟨ba, oa, x, rfl, hx, cx⟩ := HA.out.proceed.tru hlt
        obtain ⟨bb, ob, y, rfl, hy, cy⟩ := HB.out.proceed.tru (j := j) (by have := HE.out; omega)
        have HX : Hid (pBad a b j = (x && !y)) := Lib.hid (by unfold pBad; rw [getD_of hx, getD_of hy])
        have hjq : (j : Int) < q := by have := HE.out; omega
        clear hx hy
        cases x with
        | false =>
          have HN := Lib.hid (no_more hr.out (by rw [HX.out]; rfl))
          go_wp2_with fail
          go_roundw
          case rel => exact ⟨by first | trivial | rfl, j + 1, by omega, by go_num, Lib.hid HN.out⟩
          case measure => simp [intOf]; omega
        | true =>
          cases y with
          | true =>
            have HN := Lib.hid (no_more hr.out (by rw [HX.out]; rfl))
            go_wp2_with fail
            go_roundw
            case rel => exact ⟨by first | trivial | rfl, j + 1, by omega, by go_num, Lib.hid HN.out⟩
            case measure => simp [intOf]; omega
          | false =>
            have HY := Lib.hid (range_any_at hlt (show pBad a b j = true by rw [HX.out]; rfl))
            go_wp2_with fail
            go_ret
            exact ⟨ret_bool (by rw [HF.out, HY.out]; rfl), by rw [HGN.out]; exact HW.out⟩
      · obtain rfl : j = m := by omega
        have HY1 := Lib.hid (range_any_no hr.out)
        clear hlt hr
        go_wp2_with fail
        go_loopw [46] (fun i wr => wr = W0 ∧ ∃ j : Nat, j ≤ n ∧ i = .int .i64 j ∧ Hid (∀ s, s < j → rBad a b s = false)) (fun i _ => n - (intOf i).toNat)
        case atStart => exact ⟨by first | trivial | rfl, 0, by omega, by first | trivial | rfl, Lib.hid fun j hj => absurd hj (by omega)⟩
        case round =>
          obtain ⟨hwr, k, hk, rfl, hr⟩ := hrel
          obtain rfl : W0 = wr := hwr.symm
          by_cases hlt : k < n
          · obtain ⟨ba, oa, x, rfl, hx, cx⟩ := HA.out.drive.int hlt
            obtain ⟨bb, ob, y, rfl, hy, cy⟩ := HB.out.drive.int (j := k) (by have := HE.out; omega)
            have HX : Hid (rBad a b k = (decide (x ≠ 0) && decide (x ≠ y))) := Lib.hid (by unfold rBad; rw [getD_of hx, getD_of hy])
            have hjq : (k : Int) < p := by have := HE.out; omega
            clear hx hy
            by_cases hx0 : x = 0
            · have HN := Lib.hid (no_more hr.out (by rw [HX.out, hx0]; rfl))
              have hx1 : (x != 0) = false := by simp [hx0]
              clear hx0
              go_wp2_with fail
              go_roundw
              case rel => exact ⟨by first | trivial | rfl, k + 1, by omega, by go_num, Lib.hid HN.out⟩
              case measure => simp [intOf]; omega
            · have hx1 : (x != 0) = true := by simp [hx0]
              by_cases hxy : x = y
              · have HN := Lib.hid (no_more hr.out (by rw [HX.out, hxy]; simp))
                have hx2 : (x != y) = false := by simp [hxy]
                clear hx0 hxy
                go_wp2_with fail
                go_roundw
                case rel => exact ⟨by first | trivial | rfl, k + 1, by omega, by go_num, Lib.hid HN.out⟩
                case measure => simp [intOf]; omega
              · have HY := Lib.hid (range_any_at hlt (show rBad a b k = true by rw [HX.out]; simp [hx0, hxy]))
                have hx2 : (x != y) = true := by simp [hxy]
                clear hx0 hxy
                go_wp2_with fail
                go_ret
                exact ⟨ret_bool (by rw [HF.out, HY.out]; simp), by rw [HGN.out]; exact HW.out⟩
          · obtain rfl : k = n := by omega
            have HY2 := Lib.hid (range_any_no hr.out)
            clear hlt hr
            go_wp2_with fail
            go_ret
            exact ⟨ret_bool (by rw [HF.out, HY1.out, HY2.out]; rfl), by rw [HGN.out]; exact HW.out⟩
end
end Go.Proofs.YtmdggodkkkihhaaDoor

/- Contracts of the reference's Atmost and SameOut. -/
set_option linter.unusedVariables false
set_option linter.unusedSimpArgs false
namespace Go.Proofs.YtmdggodkkkihhaaDoor
open Go.RowKit

def qBad (a b : Ou) (i : Nat) : Bool := a.proceed.getD i false != b.proceed.getD i false
def sBad (a b : Ou) (i : Nat) : Bool := decide (a.drive.getD i 0 ≠ b.drive.getD i 0)
/-- Are the two one? -/
def sameM (a b : Ou) : Bool := decide (a.drive.length = b.drive.length) && decide (a.proceed.length = b.proceed.length) && !((List.range a.proceed.length).any (qBad a b)) && !((List.range a.drive.length).any (sBad a b))
section
variable {a b : Ou} {A B C D : Option Addr} {n c m d p pc q qc : Nat}
end
end Go.Proofs.YtmdggodkkkihhaaDoor
