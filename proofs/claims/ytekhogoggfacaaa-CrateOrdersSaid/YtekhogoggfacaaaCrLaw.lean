/- Walks of the laws' own helpers: long, plain, add, made. -/
import Derived.Test.YtekhogoggfacaaaCrIt
set_option linter.unusedVariables false
namespace Go.Proofs.Ytekhogoggfacaaa
open Go.RowKit

set_option maxHeartbeats 1000000 in
theorem long_calls (A : Option Addr) (n c : Nat) (xs : List Th) (w : World) (hA : Rf flTh w A n xs) :
    Calls Try.prog 12 #[.slice A n c] w fun e w' => (e = .returned (.bool false) ∨ e = .returned (.bool true)) ∧ Below w.heap.size w w' := by
  have h1 := hA.1
  have hn := hA.2.1
  go_enter Try.func12, Try.ntmps12
  go_wp2_with fail
  go_loopw [3, 4] (fun m i wr => ∃ (k : Nat) (s : Int), k ≤ n ∧ m = .int .i64 s ∧ i = .int .i64 k ∧ Below w.heap.size w wr) (fun m i _ => n - (intOf i).toNat)
  case atStart => exact ⟨0, 0, by omega, rfl, rfl, Below.refl _ _⟩
  case round =>
    obtain ⟨k, s, hk, rfl, rfl, hbr⟩ := hrel
    by_cases hlt : k < n
    · by_cases hs : s ≤ 3000
      · obtain ⟨bl, ol, x, rfl, hx, c0, c1, c2, c3⟩ := rfT_at hA hlt
        have c2 := cell_keep hbr (cell_lt c2) c2
        clear c0 c1 c3 hA
        go_wp2_with fail
        go_roundw
        case rel => exact ⟨k + 1, _, by omega, rfl, by go_num, hbr⟩
        case measure => simp [intOf]; omega
      · go_wp2_with fail
        go_ret
        exact ⟨.inr rfl, hbr⟩
    · go_wp2_with fail
      go_ret
      refine ⟨?_, hbr⟩
      by_cases hs : 3000 < s
      · exact .inr (ret_bool (decide_eq_true hs))
      · exact .inl (ret_bool (decide_eq_false hs))

theorem th_ret1 {fn : Func} {tmps : Array Value} {w : World} {p : Tmp} {g : Nat} {x y z r : Value} {t : TypeId} {fr : Nat × Nat} (h : fn.results = #[.cell p 31]) (hp : tmps.getD p undef = .pointer (some ⟨g, 0, none⟩)) (hg : Blk w g #[x, y, z, r] t fr) :
    (results fn tmps).run Try.prog w = .ok (.agg #[x, y, z, r]) w :=
  results_single h (.cell g t #[x, y, z, r] fr _ hp hg Try.underlying31 rfl (by kernel_rfl) .nil)
set_option maxHeartbeats 1000000 in
theorem plain_calls (x : Th) (w : World) :
    Calls Try.prog 21 #[.agg #[.int .i64 x.k, .int .i64 x.n, .string x.s, .bool x.b]] w fun e w' => e = .returned (plainT x).val ∧ Below w.heap.size w w' := by
  by_cases h1 : x.k = 1
  · have hp : plainT x = ⟨1, x.n, .empty, false⟩ := if_pos h1
    have HP := Lib.hid hp
    clear hp
    go_enter Try.func21, Try.ntmps21
    go_wp2_with fail
    refine bodyPost_ret (th_ret1 rfl rfl (Blk.at_ (by simp) _ _ _)) rfl ?_
    exact ⟨by rw [HP.out]; rfl, (below_new w _).alloc (by simp) _⟩
  by_cases h2 : x.k = 2
  · have hp : plainT x = ⟨2, 0, x.s, false⟩ := (if_neg h1).trans (if_pos h2)
    have HP := Lib.hid hp
    clear hp
    go_enter Try.func21, Try.ntmps21
    go_wp2_with fail
    refine bodyPost_ret (th_ret1 rfl rfl (Blk.at_ (by simp) _ _ _)) rfl ?_
    exact ⟨by rw [HP.out]; rfl, (below_new w _).alloc (by simp) _⟩
  · have hp : plainT x = ⟨3, 0, .empty, x.b⟩ := (if_neg h1).trans (if_neg h2)
    have HP := Lib.hid hp
    clear hp
    go_enter Try.func21, Try.ntmps21
    go_wp2_with fail
    refine bodyPost_ret (th_ret1 rfl rfl (Blk.at_ (by simp) _ _ _)) rfl ?_
    exact ⟨by rw [HP.out]; rfl, (below_new w _).alloc (by simp) _⟩

theorem BxPost.after {α : Type} {f : Fl α} {te tc : TypeId} {w W : World} {B b : Nat} {v : Value} {xs : List α} {x : α} {e : Ending} {w' : World} (hb : Below w.heap.size w W) (h : BxPost f te tc W B b v xs x e w') : BxPost f te tc w B b v xs x e w' := by
  rcases h with ⟨h1, h2, h3⟩ | ⟨h1, h2, v', h3, h4, h5⟩
  · exact .inl ⟨h1, h2, below_more hb h3⟩
  · refine .inr ⟨h1, h2, v', h3, (Only.of_below (S := fun _ => False) hb).trans h4 (fun _ _ h => h.elim) (fun _ _ h => h), fun k hk => ?_⟩
    rcases h5 k hk with h | h
    · exact .inl h
    · exact .inr (Nat.le_trans hb.size h)
set_option maxHeartbeats 1000000 in
theorem lawadd_calls (x : Th) (w : World) (B b : Nat) (v : Value) (its : List It) (h : Cr w B b v its) (hB : B ≤ w.heap.size) :
    Calls Try.prog 18 #[.pointer (some ⟨b, 0, none⟩), .agg #[.int .i64 x.k, .int .i64 x.n, .string x.s, .bool x.b]] w (AddPost w B b v its (itOf x)) := by
  have hw : ∀ o, Below w.heap.size w (w.alloc o) := below_new w
  have H := Lib.hid h
  clear h
  by_cases h1 : x.k = 1
  · have HP := Lib.hid (show itOf x = .num x.n from if_pos h1)
    go_enter Try.func18, Try.ntmps18
    go_wp2_with fail
    refine (AddInt_calls x.n _ B b v its (H.out.stay (hw _)) (by simp; omega)).mono ?_
    rw [← HP.out]
    rintro e w1 h
    have h' := BxPost.after (hw _) h
    rcases h' with ⟨h1, rfl, h2⟩ | ⟨h1, rfl, h2⟩
    · clear h
      go_wp2_with fail
      go_ret
      exact .inl ⟨h1, rfl, h2⟩
    · clear h
      go_wp2_with fail
      go_ret
      exact .inr ⟨h1, rfl, h2⟩
  by_cases h2 : x.k = 2
  · have HP := Lib.hid (show itOf x = .txt x.s from (if_neg h1).trans (if_pos h2))
    go_enter Try.func18, Try.ntmps18
    go_wp2_with fail
    refine (AddText_calls x.s _ B b v its (H.out.stay (hw _)) (by simp; omega)).mono ?_
    rw [← HP.out]
    rintro e w1 h
    have h' := BxPost.after (hw _) h
    rcases h' with ⟨h1, rfl, h2⟩ | ⟨h1, rfl, h2⟩
    · clear h
      go_wp2_with fail
      go_ret
      exact .inl ⟨h1, rfl, h2⟩
    · clear h
      go_wp2_with fail
      go_ret
      exact .inr ⟨h1, rfl, h2⟩
  · have HP := Lib.hid (show itOf x = .tru x.b from (if_neg h1).trans (if_neg h2))
    go_enter Try.func18, Try.ntmps18
    go_wp2_with fail
    refine (AddBool_calls x.b _ B b v its (H.out.stay (hw _)) (by simp; omega)).mono ?_
    rw [← HP.out]
    rintro e w1 h
    have h' := BxPost.after (hw _) h
    rcases h' with ⟨h1, rfl, h2⟩ | ⟨h1, rfl, h2⟩
    · clear h
      go_wp2_with fail
      go_ret
      exact .inl ⟨h1, rfl, h2⟩
    · clear h
      go_wp2_with fail
      go_ret
      exact .inr ⟨h1, rfl, h2⟩

/-- A crate and the document's, and the Thing at g. -/
structure Jd (W0 : World) (b b' g : Nat) (x : Th) (its : List It) (ts : List Th) (w : World) : Prop where
  cr : ∃ v, Cr w W0.heap.size b v its
  rc : ∃ v, Rc w W0.heap.size b' v ts ∧ v.ownBlock ≠ some g
  blk : Blk w g #[.int .i64 x.k, .int .i64 x.n, .string x.s, .bool x.b] 31 (0, 0)
  below : Below W0.heap.size W0 w
def addOne {α : Type} (xs : List α) (x : α) : List α := if xs.length < 100 then xs ++ [x] else xs
section
variable {W0 w w' : World} {b b' g : Nat} {x : Th} {its : List It} {ts : List Th}
theorem Jd.drew (h : Jd W0 b b' g x its ts w) : Jd W0 b b' g x its ts w.drew := by
  obtain ⟨⟨v, h1⟩, ⟨v', h2, h3⟩, h4, h5⟩ := h
  exact ⟨⟨v, h1.blk, h1.own, h1.low⟩, ⟨v', ⟨h2.blk, h2.own, h2.low⟩, h3⟩, h4, below_drawn h5 1⟩
theorem Jd.stay (h : Jd W0 b b' g x its ts w) (hb : Below w.heap.size w w') : Jd W0 b b' g x its ts w' := by
  obtain ⟨⟨v, h1⟩, ⟨v', h2, h3⟩, h4, h5⟩ := h
  exact ⟨⟨v, h1.stay hb⟩, ⟨v', h2.stay hb, h3⟩, h4.below hb h4.lt, h5.trans (hb.mono h5.size)⟩
theorem Jd.add (h : Jd W0 b b' g x its ts w) : Calls Try.prog 18 #[.pointer (some ⟨b, 0, none⟩), .agg #[.int .i64 x.k, .int .i64 x.n, .string x.s, .bool x.b]] w fun e w' => e = .returned (.bool (decide (its.length < 100))) ∧ Jd W0 b b' g x (addOne its (itOf x)) ts w' := by
  have hJ := h
  obtain ⟨⟨v, h1⟩, ⟨v', h2, h3⟩, h4, h5⟩ := h
  refine (lawadd_calls x w W0.heap.size b v its h1 h5.size).mono ?_
  rintro e w1 (⟨hl, rfl, hb⟩ | ⟨hl, rfl, v1, hc, ho, _⟩)
  · refine ⟨by rw [decide_eq_false (by omega)], ?_⟩
    rw [show addOne its (itOf x) = its from if_neg (by omega)]
    exact hJ.stay hb
  · refine ⟨by rw [decide_eq_true hl], ?_⟩
    rw [show addOne its (itOf x) = its ++ [itOf x] from if_pos hl]
    have e1 : b' ≠ b := (blk_not_blk h2.blk h1.blk (by decide))
    have e2 : g ≠ b := (blk_not_blk h4 h1.blk (by decide))
    refine ⟨⟨v1, hc⟩, ⟨v', h2.only ho ?_ ?_, h3⟩, h4.only ho ?_, h5.trans (ho.below h5.size (fun q hq hs => (h1.foot q hs).1))⟩
    · rintro (e | e)
      · exact e1 e
      · exact own_not_blk h1.own h2.blk (by decide) e
    · rintro k hk (e | e)
      · subst e; exact own_not_blk h2.own h1.blk (by decide) hk
      · exact own_not_own h1.own h2.own (by decide) k e hk
    · rintro (e | e)
      · exact e2 e
      · exact own_not_blk h1.own h4 (by decide) e
theorem Jd.Add (h : Jd W0 b b' g x its ts w) : Calls Try.prog 22 #[.pointer (some ⟨b', 0, none⟩), .agg #[.int .i64 x.k, .int .i64 x.n, .string x.s, .bool x.b]] w fun e w' => e = .returned (.bool (decide (ts.length < 100))) ∧ Jd W0 b b' g x its (addOne ts x) w' := by
  have hJ := h
  obtain ⟨⟨v, h1⟩, ⟨v', h2, h3⟩, h4, h5⟩ := h
  refine (RefAdd_calls x w W0.heap.size b' v' ts h2 h5.size).mono ?_
  rintro e w1 (⟨hl, rfl, hb⟩ | ⟨hl, rfl, v1, hc, ho, hat⟩)
  · refine ⟨by rw [decide_eq_false (by omega)], ?_⟩
    rw [show addOne ts x = ts from if_neg (by omega)]
    exact hJ.stay hb
  · refine ⟨by rw [decide_eq_true hl], ?_⟩
    rw [show addOne ts x = ts ++ [x] from if_pos hl]
    have e1 : b ≠ b' := (blk_not_blk h1.blk h2.blk (by decide))
    have e2 : g ≠ b' := (blk_not_blk h4 h2.blk (by decide))
    have hg := h4.lt
    refine ⟨⟨v, h1.only ho ?_ ?_⟩, ⟨v1, hc, fun e => ?_⟩, h4.only ho ?_, h5.trans (ho.below h5.size (fun q hq hs => (h2.foot q hs).1))⟩
    · rintro (e | e)
      · exact e1 e
      · exact own_not_blk h2.own h1.blk (by decide) e
    · rintro k hk (e | e)
      · subst e; exact own_not_blk h1.own h2.blk (by decide) hk
      · exact own_not_own h2.own h1.own (by decide) k e hk
    · rcases hat g e with e | e
      · exact h3 e
      · omega
    · rintro (e | e)
      · exact e2 e
      · exact h3 e
theorem Jd.cells (h : Jd W0 b b' g x its ts w) : w.cell? ⟨g, 0, none⟩ = some (.int .i64 x.k) ∧ w.cell? ⟨g, 1, none⟩ = some (.int .i64 x.n) ∧ w.cell? ⟨g, 2, none⟩ = some (.string x.s) ∧ w.cell? ⟨g, 3, none⟩ = some (.bool x.b) := ⟨h.blk.cell 0, h.blk.cell 1, h.blk.cell 2, h.blk.cell 3⟩
end
/-- The crate that is made of things. -/
def madeT (xs : List Th) : List Th := (xs.map plainT).foldl addOne []
theorem addOne_len {α : Type} (xs : List α) (x : α) (h : xs.length ≤ 100) : (addOne xs x).length ≤ 100 := by
  unfold addOne; split <;> (try simp) <;> omega
theorem addOne_map {α β : Type} (f : α → β) (xs : List α) (x : α) : (addOne xs x).map f = addOne (xs.map f) (f x) := by
  unfold addOne; split <;> simp_all
theorem fold_snoc {xs : List Th} {k : Nat} {x : Th} (hx : xs[k]? = some x) : madeT (xs.take (k + 1)) = addOne (madeT (xs.take k)) (plainT x) := by
  unfold madeT
  rw [List.take_add_one, hx]
  simp
def MadePost (w : World) (xs : List Th) (e : Ending) (w' : World) : Prop :=
  ∃ b v b' v', e = .returned (.tuple #[.pointer (some ⟨b, 0, none⟩), .pointer (some ⟨b', 0, none⟩)]) ∧ Cr w' w.heap.size b v ((madeT xs).map itOf) ∧ Rc w' w.heap.size b' v' (madeT xs) ∧ Below w.heap.size w w'
theorem NewBox_calls (w : World) : Calls Try.prog 17 #[] w fun e w' => ∃ b, e = .returned (.pointer (some ⟨b, 0, none⟩)) ∧ Cr w' w.heap.size b (.slice none 0 0) [] ∧ Below w.heap.size w w' :=
  (New_calls w).mono (by rintro e w1 ⟨rfl, rfl⟩; exact ⟨_, rfl, Cr.new w _ (Nat.le_refl _), below_new w _⟩)
theorem Rc.new (w : World) (B : Nat) (hB : B ≤ w.heap.size) : Rc (w.alloc (.cells #[.slice none 0 0] 29)) B w.heap.size (.slice none 0 0) [] := ⟨Blk.new _ _ _ _, Ow.nil_ _ _ _ _, hB⟩
theorem Jd.begin {W0 w2 : World} {b b' : Nat} {v v' : Value} {its : List It} {ts : List Th} (x : Th) (h1 : Cr w2 W0.heap.size b v its) (h2 : Rc w2 W0.heap.size b' v' ts) (h3 : Below W0.heap.size W0 w2) :
    Jd W0 b b' w2.heap.size x its ts (w2.alloc (.cells #[.int .i64 x.k, .int .i64 x.n, .string x.s, .bool x.b] 31)) :=
  ⟨⟨v, h1.stay (below_new _ _)⟩, ⟨v', h2.stay (below_new _ _), fun e => absurd (h2.own.lt_ _ e) (by omega)⟩, Blk.new _ _ _ _, h3.trans ((below_new _ _).mono h3.size)⟩
theorem plain_calls' (x : Th) (w : World) :
    Calls Try.prog 21 #[.agg #[.int .i64 x.k, .int .i64 x.n, .string x.s, .bool x.b]] w fun e w' => ∃ y, y = plainT x ∧ e = .returned (.agg #[.int .i64 y.k, .int .i64 y.n, .string y.s, .bool y.b]) ∧ Below w.heap.size w w' :=
  (plain_calls x w).mono (by rintro e w1 ⟨rfl, h⟩; exact ⟨_, rfl, rfl, h⟩)
set_option maxHeartbeats 4000000 in
theorem made_calls (A : Option Addr) (n c : Nat) (xs : List Th) (w : World) (hA : Rf flTh w A n xs) :
    Calls Try.prog 13 #[.slice A n c] w (MadePost w xs) := by
  have h1 := hA.1
  have hn := hA.2.1
  have H1 := Lib.hid h1
  clear h1
  go_enter Try.func13, Try.ntmps13
  go_wp2_with fail
  refine (NewBox_calls w).mono ?_
  rintro e w1 ⟨b, rfl, hc0, hb0⟩
  have hs0 := hb0.size
  go_wp2_with fail
  have hr1 := Rc.new w1 w.heap.size hs0
  have hc1 := hc0.stay (below_new w1 (.cells #[.slice none 0 0] 29))
  have hb1 := hb0.trans ((below_new w1 (.cells #[.slice none 0 0] 29)).mono hs0)
  clear hc0 hb0 hs0
  generalize w1.alloc (.cells #[.slice none 0 0] 29) = w2 at *
  generalize w1.heap.size = b' at *
  go_loopw [6] (fun i wr => ∃ (k : Nat) (v v' : Value), k ≤ n ∧ i = .int .i64 k ∧ Cr wr w.heap.size b v ((madeT (xs.take k)).map itOf) ∧ Rc wr w.heap.size b' v' (madeT (xs.take k)) ∧ Below w.heap.size w wr) (fun i _ => n - (intOf i).toNat)
  case atStart => exact ⟨0, _, _, by omega, rfl, hc1, hr1, hb1⟩
  case round =>
    obtain ⟨k, v, v', hk, rfl, hc, hr, hbr⟩ := hrel
    clear hc1 hr1 hb1
    by_cases hlt : k < n
    · obtain ⟨bl, ol, x, rfl, hx, c0, c1, c2, c3⟩ := rfT_at hA hlt
      have c0 := cell_keep hbr (cell_lt c0) c0
      have c1 := cell_keep hbr (cell_lt c1) c1
      have c2 := cell_keep hbr (cell_lt c2) c2
      have c3 := cell_keep hbr (cell_lt c3) c3
      have HX := Lib.hid hx
      have HC := Lib.hid hc
      have HR := Lib.hid hr
      have HB := Lib.hid hbr
      clear hx hA hc hr hbr
      go_wp2_with fail
      refine (plain_calls' x wr).mono ?_
      rintro e w3 ⟨y, hy, rfl, hb3⟩
      have HY := Lib.hid hy
      clear hy
      go_wp2_with fail
      have hB3 := HB.out.trans (hb3.mono HB.out.size)
      have hJ0 : Jd w b b' w3.heap.size y ((madeT (xs.take k)).map itOf) (madeT (xs.take k)) ((w3.alloc (.cells #[.int .i64 y.k, .int .i64 y.n, .string y.s, .bool y.b] 31)).drew) :=
        (Jd.begin y (HC.out.stay hb3) (HR.out.stay hb3) hB3).drew
      have q0 := hJ0.blk.cell 0
      have q1 := hJ0.blk.cell 1
      have q2 := hJ0.blk.cell 2
      have q3 := hJ0.blk.cell 3
      simp only [List.getElem?_toArray, List.getElem?_cons_zero, List.getElem?_cons_succ] at q0 q1 q2 q3
      clear c0 c1 c2 c3 hB3
      have hneq : (decide (((madeT (xs.take k)).map itOf).length < 100) != decide ((madeT (xs.take k)).length < 100)) = false := by simp
      have hneq2 : (decide ((madeT (xs.take k)).length < 100) != decide (((madeT (xs.take k)).map itOf).length < 100)) = false := by simp
      have fin : ∀ w6, Jd w b b' w3.heap.size y (addOne ((madeT (xs.take k)).map itOf) (itOf y)) (addOne (madeT (xs.take k)) y) w6 →
          ∃ v v', Cr w6 w.heap.size b v ((madeT (xs.take (k + 1))).map itOf) ∧ Rc w6 w.heap.size b' v' (madeT (xs.take (k + 1))) ∧ Below w.heap.size w w6 := by
        rintro w6 ⟨⟨v1, r1⟩, ⟨v2, r2, _⟩, _, r3⟩
        rw [fold_snoc HX.out, addOne_map, ← HY.out]
        exact ⟨v1, v2, r1, r2, r3⟩
      have FIN := Lib.hid fin
      clear fin
      go_region_held3 (fun w' => w'.cell? ⟨w3.heap.size, 0, none⟩ = some (.int .i64 y.k) ∧ w'.cell? ⟨w3.heap.size, 1, none⟩ = some (.int .i64 y.n) ∧ w'.cell? ⟨w3.heap.size, 2, none⟩ = some (.string y.s) ∧ w'.cell? ⟨w3.heap.size, 3, none⟩ = some (.bool y.b))
        (first | exact hJ1.cells | exact hJ2.cells | exact hJ0.cells | go_keep)
        (first
          | (go_at_call 18; refine (Jd.add (by first | exact hJ2 | exact hJ0)).mono ?_; rintro e w4 ⟨rfl, hJ1⟩)
          | (go_at_call 22; refine (Jd.Add (by first | exact hJ1 | exact hJ0)).mono ?_; rintro e w5 ⟨rfl, hJ2⟩))
      all_goals go_wp2_with fail
      all_goals go_roundw
      case rel =>
        obtain ⟨v1, v2, r1, r2, r3⟩ := FIN.out _ hJ2
        exact ⟨k + 1, v1, v2, by omega, by go_num, r1, r2, r3⟩
      case measure => simp [intOf]; omega
    · have hkn : k = n := by omega
      have e : xs.take k = xs := List.take_of_length_le (by have := H1.out; omega)
      rw [e] at hc hr
      have E := Lib.hid e
      clear e
      go_wp2_with fail
      go_ret2
      exact ⟨b, v, b', v', rfl, hc, hr, hbr⟩
end Go.Proofs.Ytekhogoggfacaaa
