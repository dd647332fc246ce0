/- Walk of GlyphEach. -/
import Derived.Test.YtjjcibbokeadiaaDoorGlBla
import Derived.Deep.RegionHeld3
set_option linter.unusedVariables false
namespace Go.Proofs.YtjjcibbokeadiaaDoor
open Go.RowKit

theorem Ow.readc {α : Type} {f : Fl α} {w : World} {base : Nat} {e : TypeId} {v : Value} {xs : List α} (h : Ow f w base e v xs) (hs : 0 < f.sz) : ∃ A c, v = .slice A xs.length c ∧ Rf f w A xs.length xs ∧ xs.length ≤ c ∧ c ≤ 9223372036854775807 := by
  obtain ⟨A, c, e, hR⟩ := h.read hs
  refine ⟨A, c, e, hR, ?_⟩
  subst e
  rcases h.2 with ⟨e, h0⟩ | ⟨g, cap, cur, e, _, _, h1, h2, _⟩
  · injection e with _ e1 e2; omega
  · injection e with _ e1 e2
    unfold maxLen at h2
    omega
/-- A name more makes a word more. -/
theorem each_words {s t : ByteArray} (hs : wholeR (rn (byt s)) = true) (ht : nameL (byt t) = true) :
    ∃ xs, wordsL (byt s) = (xs, -1) ∧ wordsL (byt (s ++ ⟨#[32]⟩ ++ t)) = (xs ++ [((t, ((rn (byt s)).length : Int) + 1) : Wd)], -1) ∧ xs.length ≤ (rn (byt s)).length := by
  obtain ⟨h1, h2, h3, _⟩ := name_whole ht
  have e : rn (byt (s ++ ⟨#[32]⟩ ++ t)) = rn (byt s) ++ ((32, 1) :: rn (byt t)) := by
    rw [byt_app, byt_app, show byt ⟨#[32]⟩ = [32] from rfl, List.append_assoc, rn_app _ (byt_lt s) hs, List.singleton_append, rn_head (by omega)]
  refine ⟨_, goW_all _ _ hs, ?_, ?_⟩
  · unfold wordsL
    rw [e, goW_all _ _ (whole_app hs (by unfold wholeR at *; rw [List.all_cons, h1]; rfl)), List.foldl_append, List.foldl_cons, stepW_blank _ (by rfl), fold_n, fold_new _ _ _ h3 h2, encAll_rn _ h1]
    simp
  · generalize rn (byt s) = l
    have key : ∀ (l : List (Nat × Nat)) (st : St), st.acc.length ≤ st.n → (l.foldl stepW st).acc.length ≤ (l.foldl stepW st).n := by
      intro l
      induction l with
      | nil => intro st h; exact h
      | cons x l ih =>
        intro st h
        rw [List.foldl_cons]
        refine ih _ ?_
        have hext : ∀ (a : List Wd) (b : ByteArray), (extLast a b).length = a.length := by
          intro a b
          induction a with
          | nil => rfl
          | cons y r ih =>
            cases r with
            | nil => rfl
            | cons z r => show (extLast (z :: r) b).length + 1 = _; rw [ih]; rfl
        unfold stepW
        split
        · simp only; omega
        · split
          · simp only [hext]; omega
          · simp; omega
    have := key l ⟨[], 0, false⟩ (by simp)
    rw [fold_n] at this
    simpa using this
set_option maxRecDepth 100000 in
set_option maxHeartbeats 8000000 in
theorem each_calls (s t : ByteArray) (w : World) (hT : Tabs w) (ht : t.size ≤ 1048576) :
    Calls Tryd.prog 9 #[.string s, .string t] w fun e w' => e = .returned (.bool true) ∧ Below w.heap.size w w' := by
  have HT := Lib.hid hT
  clear hT
  by_cases h1 : (300 : Int) < (s.size : Int)
  · go_enter Tryd.func9, Tryd.ntmps9
    go_wp2_with fail
    go_ret
    exact ⟨rfl, Below.refl _ _⟩
  have KA := Lib.hid (whole_calls w HT.out s (by omega))
  have KI := Lib.hid (fun W h => RefIsName_calls W h t (by omega))
  cases hws : wholeR (rn (byt s)) with
  | false =>
    rw [hws] at KA
    clear hws
    go_enter Tryd.func9, Tryd.ntmps9
    go_wp2_with fail
    refine KA.out.mono ?_
    rintro e w1 ⟨rfl, hb1⟩
    go_wp2_with fail
    go_ret
    exact ⟨rfl, hb1⟩
  | true =>
    rw [hws] at KA
    cases hwt : nameL (byt t) with
    | false =>
      rw [hwt] at KI
      clear hws hwt
      go_enter Tryd.func9, Tryd.ntmps9
      go_wp2_with fail
      refine KA.out.mono ?_
      rintro e w1 ⟨rfl, hb1⟩
      go_wp2_with fail
      refine (KI.out w1 (HT.out.stay hb1)).mono ?_
      rintro e w2 ⟨rfl, hb2⟩
      go_wp2_with fail
      go_ret
      exact ⟨rfl, below_more hb1 hb2⟩
    | true =>
      rw [hwt] at KI
      have ht32 := name_size hwt
      obtain ⟨xs, f1, f2, f3⟩ := each_words hws hwt
      have hrl := Nat.le_trans (rn_len (byt s)) (Nat.le_of_eq (byt_len s))
      have hsz1 : (s ++ ⟨#[32]⟩).size ≤ 301 := by rw [ByteArray.size_append]; show s.size + 1 ≤ _; omega
      have hsz2 : (s ++ ⟨#[32]⟩ ++ t).size ≤ 400 := by rw [ByteArray.size_append]; omega
      have hs8 : (s.size : Int) ≤ 8388608 := by omega
      have ht8 : (t.size : Int) ≤ 8388608 := by omega
      have hs9 : ((s ++ ⟨#[32]⟩).size : Int) ≤ 8388608 := by omega
      have KW := Lib.hid (fun W h => Words_calls W h s (by omega))
      have KX := Lib.hid (fun W h => Words_calls W h (s ++ ⟨#[32]⟩ ++ t) (by omega))
      have KR := Lib.hid (fun W h => Runes_calls W h s (by omega))
      have F1 := Lib.hid f1
      have F2 := Lib.hid f2
      clear hws hwt f1 f2 hsz1 hsz2
      go_enter Tryd.func9, Tryd.ntmps9
      go_wp2_with fail
      refine KA.out.mono ?_
      rintro e w1 ⟨rfl, hb1⟩
      go_wp2_with fail
      refine (KI.out w1 (HT.out.stay hb1)).mono ?_
      rintro e w2 ⟨rfl, hb2⟩
      have HB2 := Lib.hid (below_more hb1 hb2)
      clear hb1 hb2 KA KI
      go_wp2_with fail
      refine (KW.out w2 (HT.out.stay HB2.out)).mono ?_
      intro e w3 hp
      obtain ⟨A, c, rfl, hA, hb3⟩ := words_post hp
      rw [F1.out] at hA ⊢
      have HA := Lib.hid hA
      have HB3 := Lib.hid (below_more HB2.out hb3)
      clear hp hA hb3
      go_wp2_with fail
      refine (KX.out w3 (HT.out.stay HB3.out)).mono ?_
      intro e w4 hp
      obtain ⟨v, rfl, ho, hb4⟩ := hp
      rw [F2.out] at ho ⊢
      dsimp only at ho ⊢
      obtain ⟨B, d, hv, hB, hl1, hl2⟩ := ho.readc (by decide)
      obtain ⟨bb, ob, y, rfl, hy, q0⟩ := hB.at_ (j := xs.length) (by simp)
      have hyy : y = ((t, ((rn (byt s)).length : Int) + 1) : Wd) := by simpa using hy.symm
      subst hyy
      have c0 : w4.cell? ⟨bb, ob + xs.length * 2, none⟩ = some (.string t) := q0 0 _ rfl
      have c1 : w4.cell? ⟨bb, ob + xs.length * 2 + 1, none⟩ = some (.int .i64 (((rn (byt s)).length : Int) + 1)) := q0 1 _ rfl
      have hBt := hB.take (k := xs.length) (by simp)
      rw [List.take_left' rfl] at hBt
      rw [List.length_append, List.length_singleton] at hv hl1
      subst hv
      have hM : ∃ M : Nat, M = xs.length + 1 := ⟨_, rfl⟩
      obtain ⟨M, hM⟩ := hM
      have hm1 : ((M : Int) != (xs.length : Int) + 1) = false := by simp; omega
      have hm2 : (xs.length : Int) < (M : Int) := by omega
      rw [← hM]
      clear hM
      have HBT := Lib.hid hBt
      have HA4 := Lib.hid (HA.out.stay hb4)
      have HB4 := Lib.hid (below_more HB3.out hb4)
      have C0 := Lib.hid c0
      have C1 := Lib.hid c1
      have hl3 : (xs.length : Int) ≤ (d : Int) := by omega
      have hx3 : xs.length ≤ 300 := by omega
      clear ho hB hy q0 hBt hb4 c0 c1
      generalize hN : (rn (byt s)).length = N at *
      have hN3 : N ≤ 300 := by omega
      have HNN := Lib.hid hN
      clear hN
      have KS := same_calls (some ⟨bb, ob, none⟩) A xs.length xs.length d c xs xs w4 HBT.out HA4.out
      rw [decide_eq_true rfl] at KS
      go_wp2_with fail
      refine KS.mono ?_
      rintro e w5 ⟨rfl, hb5⟩
      have HB5 := Lib.hid (HB4.out.trans (hb5.mono HB4.out.size))
      have c0 := cell_stay hb5 C0.out
      have c1 := cell_stay hb5 C1.out
      have hq := fun W => run_eql_of (eqv_wd ((t, (N : Int) + 1) : Wd) ((t, (N : Int) + 1) : Wd)) (by omega) W
      rw [decide_eq_true rfl] at hq
      dsimp only at hq
      clear KS hb5
      go_wp2_with fail
      have HD5 : Hid (Below w.heap.size w w5.drew) := Lib.hid (below_drawn HB5.out 1)
      have c0 : w5.drew.cell? ⟨bb, ob + xs.length * 2, none⟩ = some (.string t) := c0
      have c1 : w5.drew.cell? ⟨bb, ob + xs.length * 2 + 1, none⟩ = some (.int .i64 ((N : Int) + 1)) := c1
      have hwr : IntKind.i64.wrap ((N : Int) + 1) = (N : Int) + 1 := by rw [IntKind.wrap_i64]; omega
      go_region_held3 (fun w' => w'.cell? ⟨bb, ob + xs.length * 2, none⟩ = some (.string t) ∧ w'.cell? ⟨bb, ob + xs.length * 2 + 1, none⟩ = some (.int .i64 ((N : Int) + 1))) (first | exact ⟨c0, c1⟩ | exact ⟨cell_stay (HC6.out) c0, cell_stay (HC6.out) c1⟩ | exact ⟨cell_stay (HC7.out) c0, cell_stay (HC7.out) c1⟩ | go_keep)
        (first
          | (go_at_call 19; refine (KR.out _ (HT.out.stay HD5.out)).mono ?_; intro e w6 hp6; obtain ⟨U, u, hv6, _, hb6⟩ := runes_post hp6; rw [HNN.out] at hv6; subst hv6; have HC6 := Lib.hid hb6; have HB6 := Lib.hid (below_more HD5.out hb6); clear hp6 hb6)
          | (go_at_call 15; refine (known_calls _ (HT.out.stay HB6.out)).mono ?_; rintro e w7 ⟨rfl, hb7⟩; have HC7 := Lib.hid (below_more HC6.out hb7); have HB7 := Lib.hid (below_more HB6.out hb7); clear hb7))
      all_goals go_wp2_with fail
      all_goals go_ret
      all_goals exact ⟨rfl, HB7.out⟩
end Go.Proofs.YtjjcibbokeadiaaDoor
