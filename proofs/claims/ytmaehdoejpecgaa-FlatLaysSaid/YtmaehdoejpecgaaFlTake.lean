/- flat.Take: a range over slices.Chunk. -/
import Derived.Test.YtmaehdoejpecgaaFlChk
import Derived.Test.YtmaehdoejpecgaaOnly
import Derived.Test.YtmaehdoejpecgaaRdAny
import Derived.Deep.Onto
set_option linter.unusedVariables false
namespace Go.Proofs.Ytmaehdoejpecgaa
open Go.RowKit Go.Shelf
attribute [local go_sem] Oper.semAt_some

/-- 'append', as a word that the walk does not open. -/
@[irreducible] def AppOp (ts : Array TypeId) (ty : TypeId) (args : Array Value) : Sem Value := Builtin.append_ ts ty args
theorem appOp_eq (ts : Array TypeId) (ty : TypeId) (args : Array Value) : Builtin.append_ ts ty args = AppOp ts ty args := by unfold AppOp; rfl
theorem run_appOp {P : Program} {w : World} (base : Nat) (t ty e : TypeId) (i : TypeInfo) (z : Value) (size bytes : Nat) (ht : P.underlying t = some (.slice e)) (hi : P.info? e = some i) (hz : i.zero = some z)
    (hsize : i.size = size) (hby : i.bytes = bytes) (hzs : z.cells.size = size) (hsz : 0 < size)
    (v : Value) (n : Nat) (xs : List Value) (hown : w.ownsRow base e size v n xs)
    (B : Nat) (A : Option Addr) (m c : Nat) (news : List Value) (hr : Reads w B size A m news) (h1 : ∀ u ∈ news, u.oneCell' = true)
    (h63 : n + m ≤ maxLen) (hbytes : (n + m) * bytes ≤ 140737488355328) (hbase : base ≤ w.heap.size) :
    ∃ A' c' w', (AppOp #[t, t] ty #[v, .slice A m c]).run P w = .ok (.slice A' (n + m) c') w' ∧ w'.ownsRow base e size (.slice A' (n + m) c') (n + m) (xs ++ news) ∧ w.grownBy w' v.ownBlock ∧
      ((Value.slice A' (n + m) c').ownBlock = v.ownBlock ∨ (Value.slice A' (n + m) c').ownBlock = some w.heap.size) := by
  obtain ⟨v', w', h, ho, r⟩ := run_append_any (P := P) (w := w) base t ty e i z size bytes ht hi hz hsize hby hzs hsz v n xs hown B A m c news hr h1 h63 hbytes hbase
  obtain ⟨A', c', rfl⟩ := row_form ho
  rw [appOp_eq] at h
  exact ⟨A', c', w', h, ho, r⟩
attribute [local go_sem ↓] appOp_eq
def rsAt (xs : List Int) (x : Nat) : Rs := ⟨xs.getD (x * 4) 0, xs.getD (x * 4 + 1) 0, xs.getD (x * 4 + 2) 0, xs.getD (x * 4 + 3) 0 == 1⟩
def okAt (xs : List Int) (x : Nat) : Prop := xs.getD (x * 4 + 3) 0 = 0 ∨ xs.getD (x * 4 + 3) 0 = 1
theorem rsAt_succ (a b c d : Int) (r : List Int) (x : Nat) : rsAt (a :: b :: c :: d :: r) (x + 1) = rsAt r x := by
  have e0 : (x + 1) * 4 = x * 4 + 1 + 1 + 1 + 1 := by omega
  have e1 : (x + 1) * 4 + 1 = x * 4 + 1 + 1 + 1 + 1 + 1 := by omega
  have e2 : (x + 1) * 4 + 2 = x * 4 + 2 + 1 + 1 + 1 + 1 := by omega
  have e3 : (x + 1) * 4 + 3 = x * 4 + 3 + 1 + 1 + 1 + 1 := by omega
  unfold rsAt
  rw [e1, e2, e3, e0]
  simp
theorem okAt_succ (a b c d : Int) (r : List Int) (x : Nat) : okAt (a :: b :: c :: d :: r) (x + 1) ↔ okAt r x := by
  have e3 : (x + 1) * 4 + 3 = x * 4 + 3 + 1 + 1 + 1 + 1 := by omega
  unfold okAt
  rw [e3]
  simp
theorem takeN_all : ∀ (m : Nat) (xs : List Int), xs.length = m * 4 → (∀ x, x < m → okAt xs x) → takeN xs = some ((List.range m).map (rsAt xs))
  | 0, [], _, _ => rfl
  | m + 1, a :: b :: c :: d :: r, h, hx => by
    have h0 : okAt (a :: b :: c :: d :: r) 0 := hx 0 (by omega)
    have hd : d = 0 ∨ d = 1 := by simpa [okAt] using h0
    rw [takeN, if_pos hd, takeN_all m r (by simp at h; omega) (fun x hxm => (okAt_succ a b c d r x).1 (hx (x + 1) (by omega))), List.range_succ_eq_map]
    have e : (List.range m).map (rsAt r) = ((List.range m).map Nat.succ).map (rsAt (a :: b :: c :: d :: r)) := by
      rw [List.map_map]
      exact List.map_congr_left fun x _ => (rsAt_succ a b c d r x).symm
    have e2 : (⟨a, b, c, d == 1⟩ : Rs) = rsAt (a :: b :: c :: d :: r) 0 := by simp [rsAt]
    rw [e, e2]
    rfl
  | 0, _ :: _, h, _ => by simp at h
  | m + 1, [], h, _ => by simp at h
  | m + 1, [_], h, _ => by simp at h; omega
  | m + 1, [_, _], h, _ => by simp at h; omega
  | m + 1, [_, _, _], h, _ => by simp at h; omega
theorem takeN_some : ∀ (xs : List Int) (x : Nat), x * 4 < xs.length → ¬ okAt xs x → takeN xs = none
  | [], _, h, _ => by simp at h
  | [_], _, _, _ => by simp [takeN]
  | [_, _], _, _, _ => by simp [takeN]
  | [_, _, _], _, _, _ => by simp [takeN]
  | a :: b :: c :: d :: r, 0, _, hx => by
    rw [takeN, if_neg (by simpa [okAt] using hx)]
  | a :: b :: c :: d :: r, x + 1, h, hx => by
    rw [takeN]
    split
    · rw [takeN_some r x (by simp at h; omega) (fun hh => hx ((okAt_succ a b c d r x).2 hh))]
      rfl
    · rfl
/-- What lies between two rounds of Take's loop: the rows so far, boxed at s + 2; the results' boxes at s, s + 1. -/
def TkI (w : World) (xs : List Int) {m : Nat} (pre : List (Fin m)) (W : World) : Prop :=
  ((∃ v, Blk W (w.heap.size + 2) #[v] 36 (0, 0) ∧ Ow flR W (w.heap.size + 5) 67 v (pre.map fun x => rsAt xs x.val) ∧ ∀ x ∈ pre, okAt xs x.val) ∧
  Blk W w.heap.size #[.slice none 0 0] 36 (0, 0) ∧ Blk W (w.heap.size + 1) #[.bool false] 4 (0, 0)) ∧ Below w.heap.size w W ∧ w.heap.size + 5 ≤ W.heap.size
def TkX (w : World) (xs : List Int) {m : Nat} (c : Code) (pre : List (Fin m)) (W : World) : Prop :=
  (c = .ret ∧ takeN xs = none ∧ Blk W w.heap.size #[.slice none 0 0] 36 (0, 0) ∧ Blk W (w.heap.size + 1) #[.bool false] 4 (0, 0)) ∧ Below w.heap.size w W
theorem Blk.own {W W' : World} {row : Option Nat} {g : Nat} {cs : Array Value} {t : TypeId} {fr : Nat × Nat} (h : Blk W g cs t fr) (hg : W.grownBy W' row) (hr : ∀ r, row = some r → ∃ o : Obj, W.heap[r]? = some o ∧ o.isCells = false) : Blk W' g cs t fr := by
  refine (hg.block g h.lt (fun e => ?_)).trans h
  obtain ⟨o, ho, hc⟩ := hr g e.symm
  unfold Blk at h
  rw [h] at ho
  cases ho
  cases hc
theorem Ow.own {α : Type} {f : Fl α} {W W' : World} {row : Option Nat} {base : Nat} {e : TypeId} {v : Value} {xs : List α} (h : Ow f W base e v xs) (hg : W.grownBy W' row) (hr : ∀ r, row = some r → ∃ o : Obj, W.heap[r]? = some o ∧ o.isCells = false) : Ow f W' base e v xs := by
  refine h.kept hg ?_
  rcases h.2 with ⟨rfl, _⟩ | ⟨g, cap, cur, rfl, _, hgb, _⟩
  · exact .inl rfl
  · refine .inr fun e' => ?_
    obtain ⟨o, ho, hc⟩ := hr g (by simpa [Value.ownBlock] using e'.symm)
    rw [hgb] at ho
    cases ho
    cases hc
theorem tkI_own {m : Nat} (w : World) (xs : List Int) (B : Nat) (hB : w.heap.size ≤ B) : OwnFrom B (TkI w xs (m := m)) := by
  rintro s W W' row ⟨⟨⟨v, h1, h2, h3⟩, h4, h5⟩, h6, h7⟩ hg hr
  have hr' : ∀ r, row = some r → ∃ o : Obj, W.heap[r]? = some o ∧ o.isCells = false := fun r e => (hr r e).2
  exact ⟨⟨⟨v, h1.own hg hr', h2.own hg hr', h3⟩, h4.own hg hr', h5.own hg hr'⟩, h6.grown hg h6.size (fun k e => Nat.le_trans hB (hr k e).1), Nat.le_trans h7 hg.size⟩
theorem tkX_own {m : Nat} (w : World) (xs : List Int) (c : Code) (B : Nat) (hB : w.heap.size ≤ B) : OwnFrom B (TkX w xs (m := m) c) := by
  rintro s W W' row ⟨⟨h1, h2, h4, h5⟩, h6⟩ hg hr
  have hr' : ∀ r, row = some r → ∃ o : Obj, W.heap[r]? = some o ∧ o.isCells = false := fun r e => (hr r e).2
  exact ⟨⟨h1, h2, h4.own hg hr', h5.own hg hr'⟩, h6.grown hg h6.size (fun k e => Nat.le_trans hB (hr k e).1)⟩

theorem take_boxes (w : World) (A : Option Addr) (n c : Nat) (W : World) (hW : W = ((((w.alloc (.cells #[.slice none 0 0] 36)).alloc (.cells #[.bool false] 4)).alloc (.cells #[.slice none 0 0] 36)).alloc (.cells #[.slice A n c] 22)).alloc (.cells #[.int .i64 4] 3)) :
    Blk W w.heap.size #[.slice none 0 0] 36 (0, 0) ∧ Blk W (w.heap.size + 1) #[.bool false] 4 (0, 0) ∧ Blk W (w.heap.size + 2) #[.slice none 0 0] 36 (0, 0) ∧ Blk W (w.heap.size + 3) #[.slice A n c] 22 (0, 0) ∧ Blk W (w.heap.size + 4) #[.int .i64 4] 3 (0, 0) ∧ Below w.heap.size w W ∧ W.heap.size = w.heap.size + 5 := by
  subst hW
  refine ⟨((((Blk.new w _ _ _).alloc _).alloc _).alloc _).alloc _, (((Blk.at_ (by simp) _ _ _).alloc _).alloc _).alloc _, ((Blk.at_ (by simp) _ _ _).alloc _).alloc _, (Blk.at_ (by simp) _ _ _).alloc _, Blk.at_ (by simp) _ _ _, ?_, by simp⟩
  exact (((((below_new w _).alloc (by simp) _).alloc (by simp; omega) _).alloc (by simp; omega) _).alloc (by simp; omega) _)

theorem tk_end (w : World) (xs : List Int) {m : Nat} (pre : List (Fin m)) (x : Fin m) (Wr : World) (LS : List Rs) (Av : Option Addr) (cv : Nat) (r : Rs) (tmp : Obj) (w1 : World) (A1 : Option Addr) (c1 : Nat)
    (g1 : Blk Wr (w.heap.size + 2) #[.slice Av LS.length cv] 36 (0, 0)) (g2 : Wr.ownsRow (w.heap.size + 5) 67 4 (.slice Av LS.length cv) LS.length (LS.flatMap flR.enc)) (g3 : ∀ y ∈ pre, okAt xs y.val)
    (g4 : Blk Wr w.heap.size #[.slice none 0 0] 36 (0, 0)) (g5 : Blk Wr (w.heap.size + 1) #[.bool false] 4 (0, 0)) (g6 : Below w.heap.size w Wr) (g7 : w.heap.size + 5 ≤ Wr.heap.size)
    (hLS : LS = pre.map fun y => rsAt xs y.val) (hok : okAt xs x.val) (hr : rsAt xs x.val = r)
    (hown1 : w1.ownsRow (w.heap.size + 5) 67 4 (.slice A1 (LS.length + 1) c1) (LS.length + 1) (LS.flatMap flR.enc ++ flR.enc r)) (hg1 : ((Wr.alloc tmp).drew).grownBy w1 (Value.slice Av LS.length cv).ownBlock) :
    KeepsOthers Wr (w1.setCell ⟨w.heap.size + 2, 0, none⟩ (.slice A1 (LS.length + 1) c1)) ∧ KpB (w.heap.size + 3) (w.heap.size + 4) Wr (w1.setCell ⟨w.heap.size + 2, 0, none⟩ (.slice A1 (LS.length + 1) c1)) ∧
      TkI w xs (pre ++ [x]) (w1.setCell ⟨w.heap.size + 2, 0, none⟩ (.slice A1 (LS.length + 1) c1)) := by
  have hrow : ∀ k, (Value.slice Av LS.length cv).ownBlock = some k → w.heap.size + 5 ≤ k := fun k hk => (World.ownsRow.lt g2 k hk).1
  have hsz : (Wr.alloc tmp).drew.heap.size = Wr.heap.size + 1 := by simp
  have hkeep : ∀ k, k < w.heap.size + 5 → w1.heap[k]? = Wr.heap[k]? := fun k hk => by
    have e1 := hg1.block k (by omega) (fun e => absurd (hrow k e.symm) (by omega))
    exact e1.trans (Below.heap_alloc Wr tmp k (by omega))
  have hfar : ∀ (k : Nat), k ≠ w.heap.size + 2 → (w1.setCell ⟨w.heap.size + 2, 0, none⟩ (.slice A1 (LS.length + 1) c1)).heap[k]? = w1.heap[k]? := fun k hk => Below.heap_setCell _ _ _ k hk
  have b1 : Blk w1 (w.heap.size + 2) #[.slice Av LS.length cv] 36 (0, 0) := (hkeep _ (by omega)).trans g1
  refine ⟨?_, ⟨?_, ?_⟩, ⟨⟨_, b1.put 0 _, ?_, ?_⟩, ?_, ?_⟩, ?_, ?_⟩
  · refine (((KeepsOthers.alloc Wr tmp).trans (KeepsOthers.drew _)).trans (KeepsOthers.of_grownBy (W := (Wr.alloc tmp).drew) hg1 fun j o ej hj => ?_)).trans (KeepsOthers.setCell _ _ _)
    rcases (World.ownsRow.alloc g2 tmp).2 with ⟨e, _⟩ | ⟨g, cap, cur, e, _, hgb, _⟩
    · rw [e] at ej; simp [Value.ownBlock] at ej
    · rw [e] at ej
      obtain rfl : g = j := by simpa [Value.ownBlock] using ej
      have hj' : (Wr.alloc tmp).heap[g]? = some o := hj
      rw [hgb] at hj'; cases hj'; rfl
  · rw [hfar _ (by omega), hkeep _ (by omega)]
  · rw [hfar _ (by omega), hkeep _ (by omega)]
  · have e : (pre ++ [x]).map (fun y => rsAt xs y.val) = LS ++ [r] := by rw [List.map_append, hLS, List.map_cons, List.map_nil, hr]
    rw [e]
    exact Ow.snoc (f := flR) (ownsRow_setCell_below hown1 (a := ⟨w.heap.size + 2, 0, none⟩) (by show w.heap.size + 2 < w.heap.size + 5; omega) _)
  · intro y hy
    rcases List.mem_append.1 hy with h | h
    · exact g3 y h
    · obtain rfl : y = x := by simpa using h
      exact hok
  · exact (hfar _ (by omega)).trans ((hkeep _ (by omega)).trans g4)
  · exact (hfar _ (by omega)).trans ((hkeep _ (by omega)).trans g5)
  · refine (((g6.alloc (by omega) tmp)).grown (w := (Wr.alloc tmp)) (w' := w1) ⟨hg1.os, hg1.tape, hg1.output, hg1.size, hg1.block⟩ (by simp; omega) (fun k hk => by have := hrow k hk; omega)).setCell (p := ⟨w.heap.size + 2, 0, none⟩) (by show w.heap.size ≤ w.heap.size + 2; omega) _
  · have h1 := hg1.size
    have h2 : (w1.setCell ⟨w.heap.size + 2, 0, none⟩ (.slice A1 (LS.length + 1) c1)).heap.size = w1.heap.size := by simp [World.setCell]
    omega
theorem take_done (w W' : World) (D : Nat) (LS : List Rs) (Av : Option Addr) (cv : Nat) (g2 : Ow flR W' (w.heap.size + 5) 67 (.slice Av LS.length cv) LS)
    (g4 : Blk W' w.heap.size #[.slice none 0 0] 36 (0, 0)) (g5 : Blk W' (w.heap.size + 1) #[.bool false] 4 (0, 0)) (g6 : Below w.heap.size w W') (hD : w.heap.size + 5 ≤ D) (hK : W'.heap[D]? = some (.deferred (some []))) :
    ((W'.setCell ⟨w.heap.size, 0, none⟩ (.slice Av LS.length cv)).setCell ⟨w.heap.size + 1, 0, none⟩ (.bool true)).heap[D]? = some (.deferred (some [])) ∧
    (((W'.setCell ⟨w.heap.size, 0, none⟩ (.slice Av LS.length cv)).setCell ⟨w.heap.size + 1, 0, none⟩ (.bool true)).putObj D (.deferred none)).cell? ⟨w.heap.size, 0, none⟩ = some (.slice Av LS.length cv) ∧
    (((W'.setCell ⟨w.heap.size, 0, none⟩ (.slice Av LS.length cv)).setCell ⟨w.heap.size + 1, 0, none⟩ (.bool true)).putObj D (.deferred none)).cell? ⟨w.heap.size + 1, 0, none⟩ = some (.bool true) ∧
    Ow flR (((W'.setCell ⟨w.heap.size, 0, none⟩ (.slice Av LS.length cv)).setCell ⟨w.heap.size + 1, 0, none⟩ (.bool true)).putObj D (.deferred none)) w.heap.size 67 (.slice Av LS.length cv) LS ∧
    Below w.heap.size w (((W'.setCell ⟨w.heap.size, 0, none⟩ (.slice Av LS.length cv)).setCell ⟨w.heap.size + 1, 0, none⟩ (.bool true)).putObj D (.deferred none)) := by
  have q4 : Blk ((W'.setCell ⟨w.heap.size, 0, none⟩ (.slice Av LS.length cv)).setCell ⟨w.heap.size + 1, 0, none⟩ (.bool true)) w.heap.size #[.slice Av LS.length cv] 36 (0, 0) := by
    have := (g4.put 0 (.slice Av LS.length cv)).far (p := ⟨w.heap.size + 1, 0, none⟩) (by simp) (.bool true)
    simpa using this
  have q5 : Blk ((W'.setCell ⟨w.heap.size, 0, none⟩ (.slice Av LS.length cv)).setCell ⟨w.heap.size + 1, 0, none⟩ (.bool true)) (w.heap.size + 1) #[.bool true] 4 (0, 0) := by
    have := (g5.far (p := ⟨w.heap.size, 0, none⟩) (by simp) (.slice Av LS.length cv)).put 0 (.bool true)
    simpa using this
  have hK' : ((W'.setCell ⟨w.heap.size, 0, none⟩ (.slice Av LS.length cv)).setCell ⟨w.heap.size + 1, 0, none⟩ (.bool true)).heap[D]? = some (.deferred (some [])) := (Below.heap_setCell _ _ _ D (by simp; omega)).trans ((Below.heap_setCell _ _ _ D (by simp; omega)).trans hK)
  have hown : Ow flR ((W'.setCell ⟨w.heap.size, 0, none⟩ (.slice Av LS.length cv)).setCell ⟨w.heap.size + 1, 0, none⟩ (.bool true)) (w.heap.size + 5) 67 (.slice Av LS.length cv) LS :=
    ownsRow_setCell_below (ownsRow_setCell_below g2 (a := ⟨w.heap.size, 0, none⟩) (by show w.heap.size < w.heap.size + 5; omega) _) (a := ⟨w.heap.size + 1, 0, none⟩) (by show w.heap.size + 1 < w.heap.size + 5; omega) _
  refine ⟨hK', ?_, ?_, ?_, ?_⟩
  · exact cell_kept (q4.cell 0) (grownBy_putObj' _ D (.deferred none)) (fun r e => by cases e; exact ⟨_, hK', rfl⟩)
  · exact cell_kept (q5.cell 0) (grownBy_putObj' _ D (.deferred none)) (fun r e => by cases e; exact ⟨_, hK', rfl⟩)
  · exact (hown.own (grownBy_putObj' _ D (.deferred none)) (fun r e => by cases e; exact ⟨_, hK', rfl⟩)).mono (by omega)
  · exact ((g6.setCell (p := ⟨w.heap.size, 0, none⟩) (Nat.le_refl _) _).setCell (p := ⟨w.heap.size + 1, 0, none⟩) (by simp) _).trans (belowK_b (w := w) (Nat.le_refl _) _ D _ _ (by omega) hK' rfl rfl)
theorem take_bad0 (w : World) : (((((w.alloc (.cells #[.slice none 0 0] 36)).alloc (.cells #[.bool false] 4))).cell? ⟨w.heap.size, 0, none⟩) = some (.slice none 0 0)) ∧ ((((w.alloc (.cells #[.slice none 0 0] 36)).alloc (.cells #[.bool false] 4)).cell? ⟨w.heap.size + 1, 0, none⟩) = some (.bool false)) ∧
    Below w.heap.size w ((w.alloc (.cells #[.slice none 0 0] 36)).alloc (.cells #[.bool false] 4)) :=
  ⟨((Blk.new w _ _ _).alloc _).cell 0, (Blk.at_ (by simp) _ _ _).cell 0, (below_new w _).alloc (by simp) _⟩
set_option maxRecDepth 100000 in
set_option maxHeartbeats 4000000 in
theorem Take_in (n0 : Nat) (hn0 : 3 ≤ n0) (A : Option Addr) (n c : Nat) (xs : List Int) (w : World) (hA : Rf flI w A n xs) (hn : n ≤ 1000000) (hnc : n ≤ c) (hc2 : c ≤ 9223372036854775807) :
    CallsIn Fence.wide n0 Try.prog 19 #[.slice A n c] w (TakePost w xs) := by
  obtain ⟨i0, hi0, hz0, hz1, hz2⟩ := info_parts info_r
  have h1 : 1 ≤ n0 := by omega
  have H1 := Lib.hid hA.1
  by_cases h4 : n % 4 = 0
  · have hb : (((n : Int) % 4) != 0) = false := by simp; omega
    refine callsIn_of_wp_marks Try.func19 rfl trivial ?_ rfl
    simp only [Try.ntmps19, List.size_toArray, List.length_cons, List.length_nil, Nat.reduceAdd, Nat.reduceSub, Array.replicate_succ, Array.replicate_zero, List.push_toArray, List.append_toArray, List.nil_append, List.cons_append]
    gi_wp2_with (refine ⟨trivial, ?_⟩; gi_at_call 35; refine (chunk_in (n0 - 1) _ _ _ _).mono ?_; rintro e w' ⟨rfl, rfl⟩)
    have tb : ∀ W0 : World, ∃ W, W = ((((W0.alloc (.cells #[.slice none 0 0] 36)).alloc (.cells #[.bool false] 4)).alloc (.cells #[.slice none 0 0] 36)).alloc (.cells #[.slice A n c] 22)).alloc (.cells #[.int .i64 4] 3) := fun _ => ⟨_, rfl⟩
    obtain ⟨W, hW⟩ := tb w
    obtain ⟨b, off, hAt⟩ : ∃ b off, ChunkAt A b off n := by
      rcases Nat.eq_zero_or_pos n with h | h
      · exact ⟨0, 0, fun h' => absurd h' (by omega)⟩
      · obtain ⟨b, off, e, _⟩ := hA.2.2 h
        exact ⟨b, off, fun _ => e⟩
    obtain ⟨f1, f2, f3, f4, f5, f6, f7⟩ := take_boxes w A n c W hW
    rw [← hW]
    refine wpIn_rangeFunc_ownF rfl h1 (gf := 43) (lb := #[.pointer (some ⟨w.heap.size + 1 + 1 + 1, 0, none⟩), .pointer (some ⟨w.heap.size + 1 + 1 + 1 + 1, 0, none⟩)]) rfl trivial (enters_of Try.func43 (by kernel_rfl) rfl)
      (chunk_stops (n0 - 1) (by omega) (w.heap.size + 1 + 1 + 1) (w.heap.size + 1 + 1 + 1 + 1) A b off n c hAt hn h4 hnc hc2 W (by omega) (by omega) (f4.cell 0) (f5.cell 0)) (fun h k => KpB.trans h k) (fun W' l o o' hl _ _ _ => KpB.put (w := W) (by omega) (by omega) l o' hl) (Below.refl _ _) (fun _ => rfl)
      (TkI w xs) (TkX w xs) (tkI_own w xs _ (by omega)) (fun c => tkX_own w xs c _ (by omega)) ⟨⟨⟨_, f3, Ow.nil_ _ _ _ _, by simp⟩, f1, f2⟩, f6, by omega⟩
      (fun x => { tmps := #[.slice A n c, undef, .pointer (some ⟨w.heap.size, 0, none⟩), .pointer (some ⟨w.heap.size + 1, 0, none⟩), .pointer (some ⟨w.heap.size + 1 + 1, 0, none⟩), .slice (some ⟨b, off + x.val * 4, none⟩) 4 4, .slice A n c,
          .int .i64 n, .int .i64 ((n : Int) % 4), .bool false, .slice A n c, .func (.func 43) #[] #[.pointer (some ⟨w.heap.size + 1 + 1 + 1, 0, none⟩), .pointer (some ⟨w.heap.size + 1 + 1 + 1 + 1, 0, none⟩)], .slice (some ⟨b, off + x.val * 4, none⟩) 4 4,
          undef, undef, undef, undef, undef, undef, undef, undef, undef, undef, undef, undef, undef, undef, undef, undef, undef, undef, undef, undef, undef, undef, undef, undef, undef, undef, undef, undef], defers := [] }) ?assign ?body ?done ?stop
    case assign =>
      intro l x W K hK
      gi_wp2
      exact hK
    case body =>
      rintro l pre x Wr ⟨⟨⟨v, g1, g2, g3⟩, g4, g5⟩, g6, g7⟩ hlen
      have hx4 : x.val * 4 + 3 < n := by have := x.isLt; omega
      have hcell : ∀ i, x.val * 4 + i < n → Wr.cell? ⟨b, off + x.val * 4 + i, none⟩ = some (.int .i64 (xs.getD (x.val * 4 + i) 0)) := by
        intro i hi
        obtain ⟨b', off', y, e, hy, hc⟩ := rfI_at hA hi
        have e' := hAt (by omega)
        rw [e'] at e
        cases e
        rw [List.getD_eq_getElem?_getD, hy, Nat.add_assoc]
        exact cell_keep g6 (cell_lt hc) hc
      have hbl : b < w.heap.size := by
        obtain ⟨b', off', y, e, hy, hc⟩ := rfI_at hA (j := x.val * 4) (by omega)
        have e' := hAt (by omega)
        rw [e'] at e
        cases e
        exact cell_lt hc
      have c0 := hcell 0 (by omega)
      have c1 := hcell 1 (by omega)
      have c2 := hcell 2 (by omega)
      have c3 := hcell 3 (by omega)
      have hok : okAt xs x.val ↔ (xs.getD (x.val * 4 + 3) 0 = 0 ∨ xs.getD (x.val * 4 + 3) 0 = 1) := Iff.rfl
      have hrs : rsAt xs x.val = ⟨xs.getD (x.val * 4) 0, xs.getD (x.val * 4 + 1) 0, xs.getD (x.val * 4 + 2) 0, xs.getD (x.val * 4 + 3) 0 == 1⟩ := rfl
      simp only [Nat.add_zero] at c0
      generalize xs.getD (x.val * 4) 0 = xa at *
      generalize xs.getD (x.val * 4 + 1) 0 = xb at *
      generalize xs.getD (x.val * 4 + 2) 0 = xc at *
      generalize xs.getD (x.val * 4 + 3) 0 = xd at *
      have HOK := Lib.hid hok
      have HRS := Lib.hid hrs
      clear hcell hok hrs tb hW
      have y4 : Wr.cell? ⟨w.heap.size, 0, none⟩ = some (.slice none 0 0) := g4.cell 0
      have y5 : Wr.cell? ⟨w.heap.size + 1, 0, none⟩ = some (.bool false) := g5.cell 0
      have z4 := g4.free 0
      have z5 := g5.free 0
      have l4 := g4.lt
      have l5 := g5.lt
      obtain ⟨LS, hLS⟩ : ∃ LS, LS = pre.map (fun x : Fin (n / 4) => rsAt xs x.val) := ⟨_, rfl⟩
      rw [← hLS] at g2
      have hLl := Lib.hid (show LS.length = pre.length by rw [hLS, List.length_map])
      have HLS := Lib.hid hLS
      clear hLS
      obtain ⟨Av, cv, rfl, _⟩ := g2.read (by decide)
      have y1 : Wr.cell? ⟨w.heap.size + 1 + 1, 0, none⟩ = some (.slice Av LS.length cv) := g1.cell 0
      have z1 : Wr.frozen? ⟨w.heap.size + 1 + 1, 0, none⟩ = false := g1.free 0
      have l1 : w.heap.size + 1 + 1 < Wr.heap.size := g1.lt
      have G1 := Lib.hid (show Blk Wr (w.heap.size + 1 + 1) #[.slice Av LS.length cv] 36 (0, 0) from g1)
      have G3 := Lib.hid g3
      have G4 := Lib.hid g4
      have G5 := Lib.hid g5
      have G6 := Lib.hid g6
      have HO := Lib.hid (show Wr.ownsRow (w.heap.size + 5) 67 4 (.slice Av LS.length cv) LS.length (LS.flatMap flR.enc) from g2)
      have hnb := Lib.hid (show (Value.slice Av LS.length cv).ownBlock ≠ some (w.heap.size + 1 + 1) from own_not_blk g2 g1 (by decide))
      have hsz : w.heap.size ≤ Wr.heap.size := by omega
      have g7 := Lib.hid g7
      clear g1 g2 g3 g4 g5 g6
      by_cases hd : xd = 0 ∨ xd = 1
      · have hdz : (xd != 0 && xd != 1) = false := by rcases hd with rfl | rfl <;> rfl
        rcases hd with rfl | rfl
        · gi_wp2
          have hA15 : Below w.heap.size Wr (Wr.alloc (.cells #[.int .i64 xa, .int .i64 xb, .int .i64 xc, .bool false] 67)).drew := below_drawn ((Below.refl _ _).alloc hsz _) 1
          refine wpIn_region_held_round (S := Below w.heap.size Wr) (by kernel_rfl) ?hLf (by kernel_rfl) (below_drawn (Below.refl _ _) 1) (fun hS => ?_)
          case hLf => (rintro ⟨a, w, h⟩; exact h)
          change wpAnyH _ _ _ _ _ 18 #[false, false, false, false, false, false, false, false, false, false, false, false, false, false, false, false, false, false] _ _
          refine wpAnyH_take (i := 1) (v := ?v1f) rfl (by kernel_rfl) (by kernel_rfl) (by kernel_rfl) (fun _ _ _ h => h) (Or.inl ⟨by rfl, ?hy1f⟩) hS ?r1f
          case hy1f => (intro w' hSw; have k0 := cell_keep hSw (by show b < w.heap.size; exact hbl) c0; have k1 := cell_keep hSw (by show b < w.heap.size; exact hbl) c1; have k2 := cell_keep hSw (by show b < w.heap.size; exact hbl) c2; have k3 := cell_keep hSw (by show b < w.heap.size; exact hbl) c3; go_simp; (try with_reducible rfl))
          simp only [List.getElem_toArray, List.getElem_cons_zero, List.getElem_cons_succ, Act.put, List.setIfInBounds_toArray, List.set_cons_zero, List.set_cons_succ]
          refine wpAnyH_take (i := 2) (v := ?v2f) rfl (by kernel_rfl) (by kernel_rfl) (by kernel_rfl) (fun _ _ _ h => h) (Or.inl ⟨by rfl, ?hy2f⟩) hS ?r2f
          case hy2f => (intro w' hSw; have k0 := cell_keep hSw (by show b < w.heap.size; exact hbl) c0; have k1 := cell_keep hSw (by show b < w.heap.size; exact hbl) c1; have k2 := cell_keep hSw (by show b < w.heap.size; exact hbl) c2; have k3 := cell_keep hSw (by show b < w.heap.size; exact hbl) c3; go_simp; (try with_reducible rfl))
          simp only [List.getElem_toArray, List.getElem_cons_zero, List.getElem_cons_succ, Act.put, List.setIfInBounds_toArray, List.set_cons_zero, List.set_cons_succ]
          refine wpAnyH_take (i := 3) (v := ?v3f) rfl (by kernel_rfl) (by kernel_rfl) (by kernel_rfl) (fun _ _ _ h => h) (Or.inl ⟨by rfl, ?hy3f⟩) hS ?r3f
          case hy3f => (intro w' hSw; have k0 := cell_keep hSw (by show b < w.heap.size; exact hbl) c0; have k1 := cell_keep hSw (by show b < w.heap.size; exact hbl) c1; have k2 := cell_keep hSw (by show b < w.heap.size; exact hbl) c2; have k3 := cell_keep hSw (by show b < w.heap.size; exact hbl) c3; go_simp; (try with_reducible rfl))
          simp only [List.getElem_toArray, List.getElem_cons_zero, List.getElem_cons_succ, Act.put, List.setIfInBounds_toArray, List.set_cons_zero, List.set_cons_succ]
          refine wpAnyH_take (i := 4) (v := ?v4f) rfl (by kernel_rfl) (by kernel_rfl) (by kernel_rfl) (fun _ _ _ h => h) (Or.inl ⟨by rfl, ?hy4f⟩) hS ?r4f
          case hy4f => (intro w' hSw; have k0 := cell_keep hSw (by show b < w.heap.size; exact hbl) c0; have k1 := cell_keep hSw (by show b < w.heap.size; exact hbl) c1; have k2 := cell_keep hSw (by show b < w.heap.size; exact hbl) c2; have k3 := cell_keep hSw (by show b < w.heap.size; exact hbl) c3; go_simp; (try with_reducible rfl))
          simp only [List.getElem_toArray, List.getElem_cons_zero, List.getElem_cons_succ, Act.put, List.setIfInBounds_toArray, List.set_cons_zero, List.set_cons_succ]
          refine wpAnyH_take (i := 5) (v := ?v5f) rfl (by kernel_rfl) (by kernel_rfl) (by kernel_rfl) (fun _ _ _ h => h) (Or.inl ⟨by rfl, ?hy5f⟩) hS ?r5f
          case hy5f => (intro w' hSw; have k0 := cell_keep hSw (by show b < w.heap.size; exact hbl) c0; have k1 := cell_keep hSw (by show b < w.heap.size; exact hbl) c1; have k2 := cell_keep hSw (by show b < w.heap.size; exact hbl) c2; have k3 := cell_keep hSw (by show b < w.heap.size; exact hbl) c3; go_simp; (try with_reducible rfl))
          simp only [List.getElem_toArray, List.getElem_cons_zero, List.getElem_cons_succ, Act.put, List.setIfInBounds_toArray, List.set_cons_zero, List.set_cons_succ]
          refine wpAnyH_take (i := 6) (v := ?v6f) rfl (by kernel_rfl) (by kernel_rfl) (by kernel_rfl) (fun _ _ _ h => h) (Or.inl ⟨by rfl, ?hy6f⟩) hS ?r6f
          case hy6f => (intro w' hSw; have k0 := cell_keep hSw (by show b < w.heap.size; exact hbl) c0; have k1 := cell_keep hSw (by show b < w.heap.size; exact hbl) c1; have k2 := cell_keep hSw (by show b < w.heap.size; exact hbl) c2; have k3 := cell_keep hSw (by show b < w.heap.size; exact hbl) c3; go_simp; (try with_reducible rfl))
          simp only [List.getElem_toArray, List.getElem_cons_zero, List.getElem_cons_succ, Act.put, List.setIfInBounds_toArray, List.set_cons_zero, List.set_cons_succ]
          refine wpAnyH_take (i := 7) (v := ?v7f) rfl (by kernel_rfl) (by kernel_rfl) (by kernel_rfl) (fun _ _ _ h => h) (Or.inl ⟨by rfl, ?hy7f⟩) hS ?r7f
          case hy7f => (intro w' hSw; have k0 := cell_keep hSw (by show b < w.heap.size; exact hbl) c0; have k1 := cell_keep hSw (by show b < w.heap.size; exact hbl) c1; have k2 := cell_keep hSw (by show b < w.heap.size; exact hbl) c2; have k3 := cell_keep hSw (by show b < w.heap.size; exact hbl) c3; go_simp; (try with_reducible rfl))
          simp only [List.getElem_toArray, List.getElem_cons_zero, List.getElem_cons_succ, Act.put, List.setIfInBounds_toArray, List.set_cons_zero, List.set_cons_succ]
          refine wpAnyH_take (i := 8) (v := ?v8f) rfl (by kernel_rfl) (by kernel_rfl) (by kernel_rfl) (fun _ _ _ h => h) (Or.inl ⟨by rfl, ?hy8f⟩) hS ?r8f
          case hy8f => (intro w' hSw; have k0 := cell_keep hSw (by show b < w.heap.size; exact hbl) c0; have k1 := cell_keep hSw (by show b < w.heap.size; exact hbl) c1; have k2 := cell_keep hSw (by show b < w.heap.size; exact hbl) c2; have k3 := cell_keep hSw (by show b < w.heap.size; exact hbl) c3; go_simp; (try with_reducible rfl))
          simp only [List.getElem_toArray, List.getElem_cons_zero, List.getElem_cons_succ, Act.put, List.setIfInBounds_toArray, List.set_cons_zero, List.set_cons_succ]
          refine wpAnyH_take (i := 9) (v := ?v9f) rfl (by kernel_rfl) (by kernel_rfl) (by kernel_rfl) (fun _ _ _ h => h) (Or.inl ⟨by rfl, ?hy9f⟩) hS ?r9f
          case hy9f => (intro w' hSw; have k0 := cell_keep hSw (by show b < w.heap.size; exact hbl) c0; have k1 := cell_keep hSw (by show b < w.heap.size; exact hbl) c1; have k2 := cell_keep hSw (by show b < w.heap.size; exact hbl) c2; have k3 := cell_keep hSw (by show b < w.heap.size; exact hbl) c3; go_simp; (try with_reducible rfl))
          simp only [List.getElem_toArray, List.getElem_cons_zero, List.getElem_cons_succ, Act.put, List.setIfInBounds_toArray, List.set_cons_zero, List.set_cons_succ]
          refine wpAnyH_take (i := 10) (v := ?v10f) rfl (by kernel_rfl) (by kernel_rfl) (by kernel_rfl) (fun _ _ _ h => h) (Or.inl ⟨by rfl, ?hy10f⟩) hS ?r10f
          case hy10f => (intro w' hSw; have k0 := cell_keep hSw (by show b < w.heap.size; exact hbl) c0; have k1 := cell_keep hSw (by show b < w.heap.size; exact hbl) c1; have k2 := cell_keep hSw (by show b < w.heap.size; exact hbl) c2; have k3 := cell_keep hSw (by show b < w.heap.size; exact hbl) c3; go_simp; (try with_reducible rfl))
          simp only [List.getElem_toArray, List.getElem_cons_zero, List.getElem_cons_succ, Act.put, List.setIfInBounds_toArray, List.set_cons_zero, List.set_cons_succ]
          refine wpAnyH_take (i := 11) (v := ?v11f) rfl (by kernel_rfl) (by kernel_rfl) (by kernel_rfl) (fun _ _ _ h => h) (Or.inl ⟨by rfl, ?hy11f⟩) hS ?r11f
          case hy11f => (intro w' hSw; have k0 := cell_keep hSw (by show b < w.heap.size; exact hbl) c0; have k1 := cell_keep hSw (by show b < w.heap.size; exact hbl) c1; have k2 := cell_keep hSw (by show b < w.heap.size; exact hbl) c2; have k3 := cell_keep hSw (by show b < w.heap.size; exact hbl) c3; go_simp; (try with_reducible rfl))
          simp only [List.getElem_toArray, List.getElem_cons_zero, List.getElem_cons_succ, Act.put, List.setIfInBounds_toArray, List.set_cons_zero, List.set_cons_succ]
          refine wpAnyH_take (i := 12) (v := ?v12f) rfl (by kernel_rfl) (by kernel_rfl) (by kernel_rfl) (fun _ _ _ h => h) (Or.inl ⟨by rfl, ?hy12f⟩) hS ?r12f
          case hy12f => (intro w' hSw; have k0 := cell_keep hSw (by show b < w.heap.size; exact hbl) c0; have k1 := cell_keep hSw (by show b < w.heap.size; exact hbl) c1; have k2 := cell_keep hSw (by show b < w.heap.size; exact hbl) c2; have k3 := cell_keep hSw (by show b < w.heap.size; exact hbl) c3; go_simp; (try with_reducible rfl))
          simp only [List.getElem_toArray, List.getElem_cons_zero, List.getElem_cons_succ, Act.put, List.setIfInBounds_toArray, List.set_cons_zero, List.set_cons_succ]
          refine wpAnyH_take (i := 13) (v := ?v13f) rfl (by kernel_rfl) (by kernel_rfl) (by kernel_rfl) (fun _ _ _ h => h) (Or.inl ⟨by rfl, ?hy13f⟩) hS ?r13f
          case hy13f => (intro w' hSw; have k0 := cell_keep hSw (by show b < w.heap.size; exact hbl) c0; have k1 := cell_keep hSw (by show b < w.heap.size; exact hbl) c1; have k2 := cell_keep hSw (by show b < w.heap.size; exact hbl) c2; have k3 := cell_keep hSw (by show b < w.heap.size; exact hbl) c3; go_simp; (try with_reducible rfl))
          simp only [List.getElem_toArray, List.getElem_cons_zero, List.getElem_cons_succ, Act.put, List.setIfInBounds_toArray, List.set_cons_zero, List.set_cons_succ]
          refine wpAnyH_take (i := 14) (v := ?v14f) rfl (by kernel_rfl) (by kernel_rfl) (by kernel_rfl) (fun _ _ _ h => h) (Or.inl ⟨by rfl, ?hy14f⟩) hS ?r14f
          case hy14f => (intro w' hSw; have k0 := cell_keep hSw (by show b < w.heap.size; exact hbl) c0; have k1 := cell_keep hSw (by show b < w.heap.size; exact hbl) c1; have k2 := cell_keep hSw (by show b < w.heap.size; exact hbl) c2; have k3 := cell_keep hSw (by show b < w.heap.size; exact hbl) c3; go_simp; (try with_reducible rfl))
          simp only [List.getElem_toArray, List.getElem_cons_zero, List.getElem_cons_succ, Act.put, List.setIfInBounds_toArray, List.set_cons_zero, List.set_cons_succ]
          refine wpAnyH_ready (rs := [0, 15]) (by kernel_rfl) (by simp) (AllReadyH.cons rfl (fun K hK => ?_) (AllReadyH.cons rfl (fun K hK => ?_) AllReadyH.nil))
          · go_simp
            refine hK.out _ _ hS (fun hS => ?_)
            clear hK K
            refine wpAnyH_ready (rs := [15]) (by kernel_rfl) (by simp) (AllReadyH.cons rfl (fun K hK => ?_) AllReadyH.nil)
            go_simp
            refine hK.out _ _ hA15 (fun hS => ?_)
            clear hK K
            refine wpAnyH_ready (rs := [16]) (by kernel_rfl) (by simp) (AllReadyH.cons rfl (fun K hK => ?_) AllReadyH.nil)
            go_simp
            obtain ⟨A1, cn1, w1, hrun, hown1, hg1, hat1⟩ := run_appOp (P := Try.prog) (w := (Wr.alloc (.cells #[.int .i64 xa, .int .i64 xb, .int .i64 xc, .bool false] 67)).drew) (w.heap.size + 5) 36 36 67 i0 _ 4 32 Try.underlying36 hi0 hz0 hz1 hz2 rfl (by omega) (.slice Av LS.length cv) LS.length (LS.flatMap flR.enc) (World.ownsRow.drew (World.ownsRow.alloc HO.out _)) (Wr.heap.size + 1) (some ⟨Wr.heap.size, 0, none⟩) 1 1 (flR.enc ⟨xa, xb, xc, false⟩) (box_reads flR Wr #[.int .i64 xa, .int .i64 xb, .int .i64 xc, .bool false] 67 ⟨xa, xb, xc, false⟩ rfl) (flR.one _) (by have := hLl.out; simp only [maxLen]; omega) (by have := hLl.out; omega) (by simp; have := g7.out; omega)
            rw [hrun]
            have hS16 : Below w.heap.size Wr w1 := hA15.grown hg1 (by simp; omega) (fun k hk => by have := (World.ownsRow.lt HO.out k hk).1; omega)
            have hb1 : Blk w1 (w.heap.size + 1 + 1) #[.slice Av LS.length cv] 36 (0, 0) := ((G1.out.alloc (.cells #[.int .i64 xa, .int .i64 xb, .int .i64 xc, .bool false] 67)).drew).only (Only.of_grown hg1) hnb.out
            have hc1 : w1.cell? ⟨w.heap.size + 1 + 1, 0, none⟩ = some (.slice Av LS.length cv) := hb1.cell 0
            have hf1 : w1.frozen? ⟨w.heap.size + 1 + 1, 0, none⟩ = false := hb1.free 0
            have hl1 := hb1.lt
            have HE := Lib.hid (tk_end w xs pre x Wr LS Av cv ⟨xa, xb, xc, false⟩ (.cells #[.int .i64 xa, .int .i64 xb, .int .i64 xc, .bool false] 67) w1 A1 cn1 G1.out HO.out G3.out G4.out G5.out G6.out g7.out HLS.out (HOK.out.2 (by simp)) HRS.out hown1 hg1)
            have HS16 := Lib.hid hS16
            clear hb1 hown1 hg1 hat1 hrun hS16
            go_simp
            refine hK.out _ _ HS16.out (fun hS => ?_)
            clear hK K
            refine wpAnyH_ready (rs := [17]) (by kernel_rfl) (by simp) (AllReadyH.cons rfl (fun K hK => ?_) AllReadyH.nil)
            go_simp
            refine hK.out _ _ (HS16.out.setCell (p := ⟨w.heap.size + 1 + 1, 0, none⟩) (by show w.heap.size ≤ w.heap.size + 1 + 1; omega) _) (fun hS => ?_)
            clear hK K
            refine wpAnyH_done (by kernel_rfl) ?_ _
            exact HE.out
          · go_simp
            refine hK.out _ _ hA15 (fun hS => ?_)
            clear hK K
            have y1' := (World.cell?_alloc_lt Wr (.cells #[.int .i64 xa, .int .i64 xb, .int .i64 xc, .bool false] 67) ⟨w.heap.size + 1 + 1, 0, none⟩ l1).trans y1
            refine wpAnyH_ready (rs := [0]) (by kernel_rfl) (by simp) (AllReadyH.cons rfl (fun K hK => ?_) AllReadyH.nil)
            go_simp
            refine hK.out _ _ hA15 (fun hS => ?_)
            clear hK K y1'
            refine wpAnyH_ready (rs := [16]) (by kernel_rfl) (by simp) (AllReadyH.cons rfl (fun K hK => ?_) AllReadyH.nil)
            go_simp
            obtain ⟨A1, cn1, w1, hrun, hown1, hg1, hat1⟩ := run_appOp (P := Try.prog) (w := (Wr.alloc (.cells #[.int .i64 xa, .int .i64 xb, .int .i64 xc, .bool false] 67)).drew) (w.heap.size + 5) 36 36 67 i0 _ 4 32 Try.underlying36 hi0 hz0 hz1 hz2 rfl (by omega) (.slice Av LS.length cv) LS.length (LS.flatMap flR.enc) (World.ownsRow.drew (World.ownsRow.alloc HO.out _)) (Wr.heap.size + 1) (some ⟨Wr.heap.size, 0, none⟩) 1 1 (flR.enc ⟨xa, xb, xc, false⟩) (box_reads flR Wr #[.int .i64 xa, .int .i64 xb, .int .i64 xc, .bool false] 67 ⟨xa, xb, xc, false⟩ rfl) (flR.one _) (by have := hLl.out; simp only [maxLen]; omega) (by have := hLl.out; omega) (by simp; have := g7.out; omega)
            rw [hrun]
            have hS16 : Below w.heap.size Wr w1 := hA15.grown hg1 (by simp; omega) (fun k hk => by have := (World.ownsRow.lt HO.out k hk).1; omega)
            have hb1 : Blk w1 (w.heap.size + 1 + 1) #[.slice Av LS.length cv] 36 (0, 0) := ((G1.out.alloc (.cells #[.int .i64 xa, .int .i64 xb, .int .i64 xc, .bool false] 67)).drew).only (Only.of_grown hg1) hnb.out
            have hc1 : w1.cell? ⟨w.heap.size + 1 + 1, 0, none⟩ = some (.slice Av LS.length cv) := hb1.cell 0
            have hf1 : w1.frozen? ⟨w.heap.size + 1 + 1, 0, none⟩ = false := hb1.free 0
            have hl1 := hb1.lt
            have HE := Lib.hid (tk_end w xs pre x Wr LS Av cv ⟨xa, xb, xc, false⟩ (.cells #[.int .i64 xa, .int .i64 xb, .int .i64 xc, .bool false] 67) w1 A1 cn1 G1.out HO.out G3.out G4.out G5.out G6.out g7.out HLS.out (HOK.out.2 (by simp)) HRS.out hown1 hg1)
            have HS16 := Lib.hid hS16
            clear hb1 hown1 hg1 hat1 hrun hS16
            go_simp
            refine hK.out _ _ HS16.out (fun hS => ?_)
            clear hK K
            refine wpAnyH_ready (rs := [17]) (by kernel_rfl) (by simp) (AllReadyH.cons rfl (fun K hK => ?_) AllReadyH.nil)
            go_simp
            refine hK.out _ _ (HS16.out.setCell (p := ⟨w.heap.size + 1 + 1, 0, none⟩) (by show w.heap.size ≤ w.heap.size + 1 + 1; omega) _) (fun hS => ?_)
            clear hK K
            refine wpAnyH_done (by kernel_rfl) ?_ _
            exact HE.out
        · gi_wp2
          have hA15 : Below w.heap.size Wr (Wr.alloc (.cells #[.int .i64 xa, .int .i64 xb, .int .i64 xc, .bool true] 67)).drew := below_drawn ((Below.refl _ _).alloc hsz _) 1
          refine wpIn_region_held_round (S := Below w.heap.size Wr) (by kernel_rfl) ?hLt (by kernel_rfl) (below_drawn (Below.refl _ _) 1) (fun hS => ?_)
          case hLt => (rintro ⟨a, w, h⟩; exact h)
          change wpAnyH _ _ _ _ _ 18 #[false, false, false, false, false, false, false, false, false, false, false, false, false, false, false, false, false, false] _ _
          refine wpAnyH_take (i := 1) (v := ?v1t) rfl (by kernel_rfl) (by kernel_rfl) (by kernel_rfl) (fun _ _ _ h => h) (Or.inl ⟨by rfl, ?hy1t⟩) hS ?r1t
          case hy1t => (intro w' hSw; have k0 := cell_keep hSw (by show b < w.heap.size; exact hbl) c0; have k1 := cell_keep hSw (by show b < w.heap.size; exact hbl) c1; have k2 := cell_keep hSw (by show b < w.heap.size; exact hbl) c2; have k3 := cell_keep hSw (by show b < w.heap.size; exact hbl) c3; go_simp; (try with_reducible rfl))
          simp only [List.getElem_toArray, List.getElem_cons_zero, List.getElem_cons_succ, Act.put, List.setIfInBounds_toArray, List.set_cons_zero, List.set_cons_succ]
          refine wpAnyH_take (i := 2) (v := ?v2t) rfl (by kernel_rfl) (by kernel_rfl) (by kernel_rfl) (fun _ _ _ h => h) (Or.inl ⟨by rfl, ?hy2t⟩) hS ?r2t
          case hy2t => (intro w' hSw; have k0 := cell_keep hSw (by show b < w.heap.size; exact hbl) c0; have k1 := cell_keep hSw (by show b < w.heap.size; exact hbl) c1; have k2 := cell_keep hSw (by show b < w.heap.size; exact hbl) c2; have k3 := cell_keep hSw (by show b < w.heap.size; exact hbl) c3; go_simp; (try with_reducible rfl))
          simp only [List.getElem_toArray, List.getElem_cons_zero, List.getElem_cons_succ, Act.put, List.setIfInBounds_toArray, List.set_cons_zero, List.set_cons_succ]
          refine wpAnyH_take (i := 3) (v := ?v3t) rfl (by kernel_rfl) (by kernel_rfl) (by kernel_rfl) (fun _ _ _ h => h) (Or.inl ⟨by rfl, ?hy3t⟩) hS ?r3t
          case hy3t => (intro w' hSw; have k0 := cell_keep hSw (by show b < w.heap.size; exact hbl) c0; have k1 := cell_keep hSw (by show b < w.heap.size; exact hbl) c1; have k2 := cell_keep hSw (by show b < w.heap.size; exact hbl) c2; have k3 := cell_keep hSw (by show b < w.heap.size; exact hbl) c3; go_simp; (try with_reducible rfl))
          simp only [List.getElem_toArray, List.getElem_cons_zero, List.getElem_cons_succ, Act.put, List.setIfInBounds_toArray, List.set_cons_zero, List.set_cons_succ]
          refine wpAnyH_take (i := 4) (v := ?v4t) rfl (by kernel_rfl) (by kernel_rfl) (by kernel_rfl) (fun _ _ _ h => h) (Or.inl ⟨by rfl, ?hy4t⟩) hS ?r4t
          case hy4t => (intro w' hSw; have k0 := cell_keep hSw (by show b < w.heap.size; exact hbl) c0; have k1 := cell_keep hSw (by show b < w.heap.size; exact hbl) c1; have k2 := cell_keep hSw (by show b < w.heap.size; exact hbl) c2; have k3 := cell_keep hSw (by show b < w.heap.size; exact hbl) c3; go_simp; (try with_reducible rfl))
          simp only [List.getElem_toArray, List.getElem_cons_zero, List.getElem_cons_succ, Act.put, List.setIfInBounds_toArray, List.set_cons_zero, List.set_cons_succ]
          refine wpAnyH_take (i := 5) (v := ?v5t) rfl (by kernel_rfl) (by kernel_rfl) (by kernel_rfl) (fun _ _ _ h => h) (Or.inl ⟨by rfl, ?hy5t⟩) hS ?r5t
          case hy5t => (intro w' hSw; have k0 := cell_keep hSw (by show b < w.heap.size; exact hbl) c0; have k1 := cell_keep hSw (by show b < w.heap.size; exact hbl) c1; have k2 := cell_keep hSw (by show b < w.heap.size; exact hbl) c2; have k3 := cell_keep hSw (by show b < w.heap.size; exact hbl) c3; go_simp; (try with_reducible rfl))
          simp only [List.getElem_toArray, List.getElem_cons_zero, List.getElem_cons_succ, Act.put, List.setIfInBounds_toArray, List.set_cons_zero, List.set_cons_succ]
          refine wpAnyH_take (i := 6) (v := ?v6t) rfl (by kernel_rfl) (by kernel_rfl) (by kernel_rfl) (fun _ _ _ h => h) (Or.inl ⟨by rfl, ?hy6t⟩) hS ?r6t
          case hy6t => (intro w' hSw; have k0 := cell_keep hSw (by show b < w.heap.size; exact hbl) c0; have k1 := cell_keep hSw (by show b < w.heap.size; exact hbl) c1; have k2 := cell_keep hSw (by show b < w.heap.size; exact hbl) c2; have k3 := cell_keep hSw (by show b < w.heap.size; exact hbl) c3; go_simp; (try with_reducible rfl))
          simp only [List.getElem_toArray, List.getElem_cons_zero, List.getElem_cons_succ, Act.put, List.setIfInBounds_toArray, List.set_cons_zero, List.set_cons_succ]
          refine wpAnyH_take (i := 7) (v := ?v7t) rfl (by kernel_rfl) (by kernel_rfl) (by kernel_rfl) (fun _ _ _ h => h) (Or.inl ⟨by rfl, ?hy7t⟩) hS ?r7t
          case hy7t => (intro w' hSw; have k0 := cell_keep hSw (by show b < w.heap.size; exact hbl) c0; have k1 := cell_keep hSw (by show b < w.heap.size; exact hbl) c1; have k2 := cell_keep hSw (by show b < w.heap.size; exact hbl) c2; have k3 := cell_keep hSw (by show b < w.heap.size; exact hbl) c3; go_simp; (try with_reducible rfl))
          simp only [List.getElem_toArray, List.getElem_cons_zero, List.getElem_cons_succ, Act.put, List.setIfInBounds_toArray, List.set_cons_zero, List.set_cons_succ]
          refine wpAnyH_take (i := 8) (v := ?v8t) rfl (by kernel_rfl) (by kernel_rfl) (by kernel_rfl) (fun _ _ _ h => h) (Or.inl ⟨by rfl, ?hy8t⟩) hS ?r8t
          case hy8t => (intro w' hSw; have k0 := cell_keep hSw (by show b < w.heap.size; exact hbl) c0; have k1 := cell_keep hSw (by show b < w.heap.size; exact hbl) c1; have k2 := cell_keep hSw (by show b < w.heap.size; exact hbl) c2; have k3 := cell_keep hSw (by show b < w.heap.size; exact hbl) c3; go_simp; (try with_reducible rfl))
          simp only [List.getElem_toArray, List.getElem_cons_zero, List.getElem_cons_succ, Act.put, List.setIfInBounds_toArray, List.set_cons_zero, List.set_cons_succ]
          refine wpAnyH_take (i := 9) (v := ?v9t) rfl (by kernel_rfl) (by kernel_rfl) (by kernel_rfl) (fun _ _ _ h => h) (Or.inl ⟨by rfl, ?hy9t⟩) hS ?r9t
          case hy9t => (intro w' hSw; have k0 := cell_keep hSw (by show b < w.heap.size; exact hbl) c0; have k1 := cell_keep hSw (by show b < w.heap.size; exact hbl) c1; have k2 := cell_keep hSw (by show b < w.heap.size; exact hbl) c2; have k3 := cell_keep hSw (by show b < w.heap.size; exact hbl) c3; go_simp; (try with_reducible rfl))
          simp only [List.getElem_toArray, List.getElem_cons_zero, List.getElem_cons_succ, Act.put, List.setIfInBounds_toArray, List.set_cons_zero, List.set_cons_succ]
          refine wpAnyH_take (i := 10) (v := ?v10t) rfl (by kernel_rfl) (by kernel_rfl) (by kernel_rfl) (fun _ _ _ h => h) (Or.inl ⟨by rfl, ?hy10t⟩) hS ?r10t
          case hy10t => (intro w' hSw; have k0 := cell_keep hSw (by show b < w.heap.size; exact hbl) c0; have k1 := cell_keep hSw (by show b < w.heap.size; exact hbl) c1; have k2 := cell_keep hSw (by show b < w.heap.size; exact hbl) c2; have k3 := cell_keep hSw (by show b < w.heap.size; exact hbl) c3; go_simp; (try with_reducible rfl))
          simp only [List.getElem_toArray, List.getElem_cons_zero, List.getElem_cons_succ, Act.put, List.setIfInBounds_toArray, List.set_cons_zero, List.set_cons_succ]
          refine wpAnyH_take (i := 11) (v := ?v11t) rfl (by kernel_rfl) (by kernel_rfl) (by kernel_rfl) (fun _ _ _ h => h) (Or.inl ⟨by rfl, ?hy11t⟩) hS ?r11t
          case hy11t => (intro w' hSw; have k0 := cell_keep hSw (by show b < w.heap.size; exact hbl) c0; have k1 := cell_keep hSw (by show b < w.heap.size; exact hbl) c1; have k2 := cell_keep hSw (by show b < w.heap.size; exact hbl) c2; have k3 := cell_keep hSw (by show b < w.heap.size; exact hbl) c3; go_simp; (try with_reducible rfl))
          simp only [List.getElem_toArray, List.getElem_cons_zero, List.getElem_cons_succ, Act.put, List.setIfInBounds_toArray, List.set_cons_zero, List.set_cons_succ]
          refine wpAnyH_take (i := 12) (v := ?v12t) rfl (by kernel_rfl) (by kernel_rfl) (by kernel_rfl) (fun _ _ _ h => h) (Or.inl ⟨by rfl, ?hy12t⟩) hS ?r12t
          case hy12t => (intro w' hSw; have k0 := cell_keep hSw (by show b < w.heap.size; exact hbl) c0; have k1 := cell_keep hSw (by show b < w.heap.size; exact hbl) c1; have k2 := cell_keep hSw (by show b < w.heap.size; exact hbl) c2; have k3 := cell_keep hSw (by show b < w.heap.size; exact hbl) c3; go_simp; (try with_reducible rfl))
          simp only [List.getElem_toArray, List.getElem_cons_zero, List.getElem_cons_succ, Act.put, List.setIfInBounds_toArray, List.set_cons_zero, List.set_cons_succ]
          refine wpAnyH_take (i := 13) (v := ?v13t) rfl (by kernel_rfl) (by kernel_rfl) (by kernel_rfl) (fun _ _ _ h => h) (Or.inl ⟨by rfl, ?hy13t⟩) hS ?r13t
          case hy13t => (intro w' hSw; have k0 := cell_keep hSw (by show b < w.heap.size; exact hbl) c0; have k1 := cell_keep hSw (by show b < w.heap.size; exact hbl) c1; have k2 := cell_keep hSw (by show b < w.heap.size; exact hbl) c2; have k3 := cell_keep hSw (by show b < w.heap.size; exact hbl) c3; go_simp; (try with_reducible rfl))
          simp only [List.getElem_toArray, List.getElem_cons_zero, List.getElem_cons_succ, Act.put, List.setIfInBounds_toArray, List.set_cons_zero, List.set_cons_succ]
          refine wpAnyH_take (i := 14) (v := ?v14t) rfl (by kernel_rfl) (by kernel_rfl) (by kernel_rfl) (fun _ _ _ h => h) (Or.inl ⟨by rfl, ?hy14t⟩) hS ?r14t
          case hy14t => (intro w' hSw; have k0 := cell_keep hSw (by show b < w.heap.size; exact hbl) c0; have k1 := cell_keep hSw (by show b < w.heap.size; exact hbl) c1; have k2 := cell_keep hSw (by show b < w.heap.size; exact hbl) c2; have k3 := cell_keep hSw (by show b < w.heap.size; exact hbl) c3; go_simp; (try with_reducible rfl))
          simp only [List.getElem_toArray, List.getElem_cons_zero, List.getElem_cons_succ, Act.put, List.setIfInBounds_toArray, List.set_cons_zero, List.set_cons_succ]
          refine wpAnyH_ready (rs := [0, 15]) (by kernel_rfl) (by simp) (AllReadyH.cons rfl (fun K hK => ?_) (AllReadyH.cons rfl (fun K hK => ?_) AllReadyH.nil))
          · go_simp
            refine hK.out _ _ hS (fun hS => ?_)
            clear hK K
            refine wpAnyH_ready (rs := [15]) (by kernel_rfl) (by simp) (AllReadyH.cons rfl (fun K hK => ?_) AllReadyH.nil)
            go_simp
            refine hK.out _ _ hA15 (fun hS => ?_)
            clear hK K
            refine wpAnyH_ready (rs := [16]) (by kernel_rfl) (by simp) (AllReadyH.cons rfl (fun K hK => ?_) AllReadyH.nil)
            go_simp
            obtain ⟨A1, cn1, w1, hrun, hown1, hg1, hat1⟩ := run_appOp (P := Try.prog) (w := (Wr.alloc (.cells #[.int .i64 xa, .int .i64 xb, .int .i64 xc, .bool true] 67)).drew) (w.heap.size + 5) 36 36 67 i0 _ 4 32 Try.underlying36 hi0 hz0 hz1 hz2 rfl (by omega) (.slice Av LS.length cv) LS.length (LS.flatMap flR.enc) (World.ownsRow.drew (World.ownsRow.alloc HO.out _)) (Wr.heap.size + 1) (some ⟨Wr.heap.size, 0, none⟩) 1 1 (flR.enc ⟨xa, xb, xc, true⟩) (box_reads flR Wr #[.int .i64 xa, .int .i64 xb, .int .i64 xc, .bool true] 67 ⟨xa, xb, xc, true⟩ rfl) (flR.one _) (by have := hLl.out; simp only [maxLen]; omega) (by have := hLl.out; omega) (by simp; have := g7.out; omega)
            rw [hrun]
            have hS16 : Below w.heap.size Wr w1 := hA15.grown hg1 (by simp; omega) (fun k hk => by have := (World.ownsRow.lt HO.out k hk).1; omega)
            have hb1 : Blk w1 (w.heap.size + 1 + 1) #[.slice Av LS.length cv] 36 (0, 0) := ((G1.out.alloc (.cells #[.int .i64 xa, .int .i64 xb, .int .i64 xc, .bool true] 67)).drew).only (Only.of_grown hg1) hnb.out
            have hc1 : w1.cell? ⟨w.heap.size + 1 + 1, 0, none⟩ = some (.slice Av LS.length cv) := hb1.cell 0
            have hf1 : w1.frozen? ⟨w.heap.size + 1 + 1, 0, none⟩ = false := hb1.free 0
            have hl1 := hb1.lt
            have HE := Lib.hid (tk_end w xs pre x Wr LS Av cv ⟨xa, xb, xc, true⟩ (.cells #[.int .i64 xa, .int .i64 xb, .int .i64 xc, .bool true] 67) w1 A1 cn1 G1.out HO.out G3.out G4.out G5.out G6.out g7.out HLS.out (HOK.out.2 (by simp)) HRS.out hown1 hg1)
            have HS16 := Lib.hid hS16
            clear hb1 hown1 hg1 hat1 hrun hS16
            go_simp
            refine hK.out _ _ HS16.out (fun hS => ?_)
            clear hK K
            refine wpAnyH_ready (rs := [17]) (by kernel_rfl) (by simp) (AllReadyH.cons rfl (fun K hK => ?_) AllReadyH.nil)
            go_simp
            refine hK.out _ _ (HS16.out.setCell (p := ⟨w.heap.size + 1 + 1, 0, none⟩) (by show w.heap.size ≤ w.heap.size + 1 + 1; omega) _) (fun hS => ?_)
            clear hK K
            refine wpAnyH_done (by kernel_rfl) ?_ _
            exact HE.out
          · go_simp
            refine hK.out _ _ hA15 (fun hS => ?_)
            clear hK K
            have y1' := (World.cell?_alloc_lt Wr (.cells #[.int .i64 xa, .int .i64 xb, .int .i64 xc, .bool true] 67) ⟨w.heap.size + 1 + 1, 0, none⟩ l1).trans y1
            refine wpAnyH_ready (rs := [0]) (by kernel_rfl) (by simp) (AllReadyH.cons rfl (fun K hK => ?_) AllReadyH.nil)
            go_simp
            refine hK.out _ _ hA15 (fun hS => ?_)
            clear hK K y1'
            refine wpAnyH_ready (rs := [16]) (by kernel_rfl) (by simp) (AllReadyH.cons rfl (fun K hK => ?_) AllReadyH.nil)
            go_simp
            obtain ⟨A1, cn1, w1, hrun, hown1, hg1, hat1⟩ := run_appOp (P := Try.prog) (w := (Wr.alloc (.cells #[.int .i64 xa, .int .i64 xb, .int .i64 xc, .bool true] 67)).drew) (w.heap.size + 5) 36 36 67 i0 _ 4 32 Try.underlying36 hi0 hz0 hz1 hz2 rfl (by omega) (.slice Av LS.length cv) LS.length (LS.flatMap flR.enc) (World.ownsRow.drew (World.ownsRow.alloc HO.out _)) (Wr.heap.size + 1) (some ⟨Wr.heap.size, 0, none⟩) 1 1 (flR.enc ⟨xa, xb, xc, true⟩) (box_reads flR Wr #[.int .i64 xa, .int .i64 xb, .int .i64 xc, .bool true] 67 ⟨xa, xb, xc, true⟩ rfl) (flR.one _) (by have := hLl.out; simp only [maxLen]; omega) (by have := hLl.out; omega) (by simp; have := g7.out; omega)
            rw [hrun]
            have hS16 : Below w.heap.size Wr w1 := hA15.grown hg1 (by simp; omega) (fun k hk => by have := (World.ownsRow.lt HO.out k hk).1; omega)
            have hb1 : Blk w1 (w.heap.size + 1 + 1) #[.slice Av LS.length cv] 36 (0, 0) := ((G1.out.alloc (.cells #[.int .i64 xa, .int .i64 xb, .int .i64 xc, .bool true] 67)).drew).only (Only.of_grown hg1) hnb.out
            have hc1 : w1.cell? ⟨w.heap.size + 1 + 1, 0, none⟩ = some (.slice Av LS.length cv) := hb1.cell 0
            have hf1 : w1.frozen? ⟨w.heap.size + 1 + 1, 0, none⟩ = false := hb1.free 0
            have hl1 := hb1.lt
            have HE := Lib.hid (tk_end w xs pre x Wr LS Av cv ⟨xa, xb, xc, true⟩ (.cells #[.int .i64 xa, .int .i64 xb, .int .i64 xc, .bool true] 67) w1 A1 cn1 G1.out HO.out G3.out G4.out G5.out G6.out g7.out HLS.out (HOK.out.2 (by simp)) HRS.out hown1 hg1)
            have HS16 := Lib.hid hS16
            clear hb1 hown1 hg1 hat1 hrun hS16
            go_simp
            refine hK.out _ _ HS16.out (fun hS => ?_)
            clear hK K
            refine wpAnyH_ready (rs := [17]) (by kernel_rfl) (by simp) (AllReadyH.cons rfl (fun K hK => ?_) AllReadyH.nil)
            go_simp
            refine hK.out _ _ (HS16.out.setCell (p := ⟨w.heap.size + 1 + 1, 0, none⟩) (by show w.heap.size ≤ w.heap.size + 1 + 1; omega) _) (fun hS => ?_)
            clear hK K
            refine wpAnyH_done (by kernel_rfl) ?_ _
            exact HE.out
      · have d0 : (xd != 0) = true := by simp; omega
        have d1 : (xd != 1) = true := by simp; omega
        have hbad : takeN xs = none := takeN_some xs x.val (by have := H1.out; omega) (fun h => hd (HOK.out.1 h))
        have HBAD := Lib.hid hbad
        clear hbad
        gi_wp2
        have q4 : Blk ((Wr.setCell ⟨w.heap.size, 0, none⟩ (.slice none 0 0)).setCell ⟨w.heap.size + 1, 0, none⟩ (.bool false)) w.heap.size #[.slice none 0 0] 36 (0, 0) := by
          have := (G4.out.put 0 (.slice none 0 0)).far (p := ⟨w.heap.size + 1, 0, none⟩) (by simp) (.bool false)
          simpa using this
        have q5 : Blk ((Wr.setCell ⟨w.heap.size, 0, none⟩ (.slice none 0 0)).setCell ⟨w.heap.size + 1, 0, none⟩ (.bool false)) (w.heap.size + 1) #[.bool false] 4 (0, 0) := by
          have := (G5.out.far (p := ⟨w.heap.size, 0, none⟩) (by simp) (.slice none 0 0)).put 0 (.bool false)
          simpa using this
        exact ⟨(KeepsOthers.setCell _ _ _).trans (KeepsOthers.setCell _ _ _), ⟨rfl, HBAD.out, q4, q5⟩, (G6.out.setCell (p := ⟨w.heap.size, 0, none⟩) (Nat.le_refl _) _).setCell (p := ⟨w.heap.size + 1, 0, none⟩) (by simp) _⟩
    case done =>
      rintro D ys W' hD hys ⟨⟨⟨v, g1, g2, g3⟩, g4, g5⟩, g6, g7⟩ hK
      obtain ⟨LS, hLS⟩ : ∃ LS, LS = ys.map fun x => rsAt xs x.val := ⟨_, rfl⟩
      rw [← hLS] at g2
      obtain ⟨Av, cv, rfl, _⟩ := g2.read (by decide)
      have y4 : W'.cell? ⟨w.heap.size, 0, none⟩ = some (.slice none 0 0) := g4.cell 0
      have y5 : W'.cell? ⟨w.heap.size + 1, 0, none⟩ = some (.bool false) := g5.cell 0
      have y6 : W'.cell? ⟨w.heap.size + 1 + 1, 0, none⟩ = some (.slice Av LS.length cv) := g1.cell 0
      have z4 := g4.free 0
      have z5 := g5.free 0
      have hxl : xs.length = n / 4 * 4 := by have := H1.out; omega
      have hall : ∀ x, x < n / 4 → okAt xs x := fun x hx => by
        have hm : x ∈ ys.map Fin.val := by rw [hys]; exact List.mem_range.2 hx
        obtain ⟨y, hy, rfl⟩ := List.mem_map.1 hm
        exact g3 y hy
      have hrow : (List.range (n / 4)).map (rsAt xs) = LS := by rw [hLS, ← hys, List.map_map]; rfl
      have HT := Lib.hid ((takeN_all (n / 4) xs hxl hall).trans (congrArg some hrow))
      have HQ := Lib.hid (take_done w W' D LS Av cv g2 g4 g5 g6 (by omega) hK)
      clear g1 g2 g3 g4 g5 g6 hys hall hrow hxl tb hW hLS
      gi_wp2
      obtain ⟨hK', hc1, hc2, hown, hbel⟩ := HQ.out
      refine ⟨by simp, .inl ⟨_, _, rfl, run_takeDeferred hK', ?_⟩⟩
      refine ⟨.tuple #[.slice Av LS.length cv, .bool true], ?_, .inl ⟨_, _, HT.out, rfl, hown, hbel⟩⟩
      clear HQ HT hown hbel hK'
      simp [results, Try.f19, go_sem, hc1, hc2]
    case stop =>
      rintro D c pre W' hD hpre ⟨⟨rfl, hno, g4, g5⟩, g6⟩ hK
      gi_wp2
      have hc1 := cell_kept (g4.cell 0) (grownBy_putObj' W' D (.deferred none)) (fun r e => by cases e; exact ⟨_, hK, rfl⟩)
      have hc2 := cell_kept (g5.cell 0) (grownBy_putObj' W' D (.deferred none)) (fun r e => by cases e; exact ⟨_, hK, rfl⟩)
      have hDs : w.heap.size ≤ D := by omega
      refine ⟨by simp, .inl ⟨_, _, rfl, run_takeDeferred hK, ?_⟩⟩
      refine ⟨.tuple #[.slice none 0 0, .bool false], ?_, .inr ⟨hno, rfl, g6.trans (belowK_b (w := w) (Nat.le_refl _) W' D _ _ hDs hK rfl rfl)⟩⟩
      clear g4 g5 g6 hno hK
      simp at hc1 hc2
      simp [results, Try.f19, go_sem, hc1, hc2]
  · have hb : (((n : Int) % 4) != 0) = true := by simp; omega
    have hno : takeN xs = none := by
      cases h : takeN xs with
      | none => rfl
      | some ys => have := take_len _ _ h; have := H1.out; omega
    have HN := Lib.hid hno
    have HQ := Lib.hid (take_bad0 w)
    clear hno
    refine callsIn_of_wp Try.func19 rfl trivial ?_ rfl
    simp only [Try.ntmps19, List.size_toArray, List.length_cons, List.length_nil, Nat.reduceAdd, Nat.reduceSub, Array.replicate_succ, Array.replicate_zero, List.push_toArray, List.append_toArray, List.nil_append, List.cons_append]
    gi_wp2
    obtain ⟨hc1, hc2, hbel⟩ := HQ.out
    refine bodyPost_ret (v := .tuple #[.slice none 0 0, .bool false]) ?_ rfl (.inr ⟨HN.out, rfl, hbel⟩)
    clear hbel HN HQ
    simp [results, Try.f19, go_sem, hc1, hc2]
theorem Take_calls (A : Option Addr) (n c : Nat) (xs : List Int) (w : World) (hA : Rf flI w A n xs) (hn : n ≤ 1000000) (hnc : n ≤ c) (hc2 : c ≤ 9223372036854775807) :
    Calls Try.prog 19 #[.slice A n c] w (TakePost w xs) := callsIn_wide.1 (Take_in 3 (Nat.le_refl _) A n c xs w hA hn hnc hc2)
end Go.Proofs.Ytmaehdoejpecgaa
