/- The document's Lay; the law FlatLays. -/
import Derived.Test.YtmaehdoejpecgaaFlLay
set_option linter.unusedVariables false
namespace Go.Proofs.Ytmaehdoejpecgaa
open Go.ChangeShapes Go.WideShapes Go.ChangeAt Go.RowKit

structure Lr (W0 : World) (b : Nat) (ts : List Th) (A : Option Addr) (c : Nat) (ns : List Int) (w : World) : Prop where
  rc : ∃ v, Rc w W0.heap.size b v ts
  row : Ow flI w W0.heap.size 3 (.slice A ns.length c) ns
  below : Below W0.heap.size W0 w
theorem Lr.thing {W0 w : World} {b c : Nat} {ts : List Th} {A : Option Addr} {ns : List Int} (h : Lr W0 b ts A c ns w) (x : Th) :
    Calls Try.prog 26 #[.pointer (some ⟨b, 0, none⟩), .agg #[.int .i64 x.k, .int .i64 x.n, .string x.s, .bool x.b]] w fun e w' => e = .returned (.bool (decide (ts.length < 100))) ∧ Lr W0 b (addTo ts x) A c ns w' := by
  obtain ⟨⟨v, h1⟩, h2, h5⟩ := h
  refine (RefAdd_calls x w W0.heap.size b v ts h1 h5.size).mono ?_
  rintro e w1 (⟨hl, rfl, hb⟩ | ⟨hl, rfl, v1, hc, ho, _⟩)
  · refine ⟨by rw [decide_eq_false (by omega)], ?_⟩
    rw [show addTo ts x = ts from if_neg (by omega)]
    exact ⟨⟨v, h1.stay hb⟩, h2.stay hb, h5.trans (hb.mono h5.size)⟩
  · refine ⟨by rw [decide_eq_true hl], ?_⟩
    rw [addTo_fit _ hl]
    refine ⟨⟨v1, hc⟩, h2.only ho ?_, h5.trans (ho.below h5.size (fun q hq hs => (h1.foot q hs).1))⟩
    rintro k hk (e | e)
    · subst e; exact own_not_blk h2 h1.blk (by decide) hk
    · exact own_not_own h1.own h2 (by decide) k e hk
def numT (n : Int) : Th := ⟨1, n, .empty, false⟩
def layT (ns : List Int) : List Th := ⟨2, 0, stateB, false⟩ :: ns.map numT
theorem layT_its (ns : List Int) : (layT ns).map itOf = layI ns := by
  unfold layT layI
  rw [List.map_cons, List.map_map]
  rfl
theorem layT_len (ns : List Int) : (layT ns).length = ns.length + 1 := by simp [layT]
theorem layT_step {ns : List Int} {k : Nat} {n : Int} (hx : ns[k]? = some n) : layT (ns.take k) ++ [numT n] = layT (ns.take (k + 1)) := by
  rw [List.take_add_one, hx]
  simp [layT]
def RefLayPost (w : World) (ns : List Int) (e : Ending) (w' : World) : Prop :=
  (ns.length ≤ 99 ∧ ∃ b v, e = .returned (.pointer (some ⟨b, 0, none⟩)) ∧ Rc w' w.heap.size b v (layT ns) ∧ Below w.heap.size w w') ∨
  (99 < ns.length ∧ e = .returned (.pointer none) ∧ Below w.heap.size w w')
set_option maxHeartbeats 4000000 in
theorem RefLay_calls (ep ct : Int) (A : Option Addr) (n c : Nat) (xs : List Rs) (w : World) (hA : Rf flR w A n xs) (hn : n ≤ 1000) :
    Calls Try.prog 32 #[.int .i64 ep, .int .i64 ct, .slice A n c] w (RefLayPost w (layN ep ct xs)) := by
  obtain ⟨i0, hi0, hz0, hz1, hz2⟩ := info_parts info_int
  have hxl := hA.1
  have HA := Lib.hid hA
  have HXL := Lib.hid hxl
  clear hA hxl
  go_enter Try.func32, Try.ntmps32
  go_wp2_with fail
  have hb3 : Below w.heap.size w (w.alloc (.cells #[.int .i64 ep, .int .i64 ct, .int .i64 (n : Int)] 3)) := below_new w _
  refine (RefOf_calls A n c xs _ (HA.out.stay hb3) (by omega)).mono ?_
  rintro e w4 ⟨v4, rfl, o4, b4⟩
  obtain ⟨A4, c4, rfl, R4⟩ := o4.read (by decide)
  have hL4 : Ow flI w4 w.heap.size 3 (.slice (some ⟨w.heap.size, 0, none⟩) 3 3) [ep, ct, (n : Int)] :=
    (Ow.lit (f := flI) (xs := [ep, ct, (n : Int)]) w w.heap.size 3 #[.int .i64 ep, .int .i64 ct, .int .i64 (n : Int)] (Nat.le_refl _) (by simp) rfl).stay b4
  have hb4 : Below w.heap.size w w4 := hb3.trans (b4.mono hb3.size)
  have hs4 := hb4.size
  have hs43 := b4.size
  rw [World.size_alloc] at hs43
  have hnl := Lib.hid (numsOf_len xs)
  have HR4 := Lib.hid R4
  have HB4 := Lib.hid hb4
  have HL4 := Lib.hid hL4
  have hxl2 := Lib.hid HXL.out
  clear o4 R4 b4 hb3 hL4 hb4
  go_wp2_with (at_builtin; refine wpList_append_any _ rfl (.tmp 14) (.tmp 16) _ rfl w.heap.size 3 i0 _ 1 8 Try.underlying22 hi0 hz0 hz1 hz2 rfl (by omega) (.slice (some ⟨w.heap.size, 0, none⟩) 3 3) 3 ([ep, ct, (n : Int)].flatMap flI.enc) rfl HL4.out w4.heap.size A4 (numsOf xs).length c4 ((numsOf xs).flatMap flI.enc) rfl (HR4.out.reads (by decide)) (flat_one flI _) (by have := hnl.out; have := hxl2.out; simp only [maxLen]; omega) (by have := hnl.out; have := hxl2.out; omega) (by omega) ?_; intro v5 w5 hown5 hg5 hat5; obtain ⟨A5, c5, rfl⟩ := row_form hown5; have HO5 := Lib.hid hown5; have HG5 := Lib.hid hg5; clear hown5 hg5 hat5)
  have hO5 : Ow flI w5 w.heap.size 3 (.slice A5 (3 + (numsOf xs).length) c5) (layN ep ct xs) := by
    have := Ow.join (f := flI) (xs := [ep, ct, (n : Int)]) (ys := numsOf xs) (m := (numsOf xs).length) rfl HO5.out
    rw [← hxl2.out] at this
    exact this
  have hN : 3 + (numsOf xs).length = (layN ep ct xs).length := by rw [layN_len, hnl.out]
  have hNn : (layN ep ct xs).length ≤ 4100 := by have := hxl2.out; rw [layN_len]; omega
  have hB5 : Below w.heap.size w w5 := HB4.out.grown HG5.out hs4 (fun k hk => by injection hk with hk; subst hk; exact Nat.le_refl _)
  have hs5 := hB5.size
  have hLr : Lr w (w5.heap.size + 1) (layT []) A5 c5 (layN ep ct xs) ((w5.alloc (.cells #[.int .i64 2, .int .i64 0, .string stateB, .bool false] 51)).alloc (.cells #[.slice (some ⟨w5.heap.size, 0, none⟩) 1 1] 47)) := by
    rw [hN] at hO5
    refine ⟨⟨_, Blk.at_ (by simp) _ _ _, ?_, by omega⟩, (hO5.stay (below_new _ _)).stay (below_new _ _), (hB5.alloc hs5 _).alloc (by simp; omega) _⟩
    exact (Ow.lit (f := flTh) (xs := layT []) w5 w.heap.size 51 #[.int .i64 2, .int .i64 0, .string stateB, .bool false] hs5 (by simp [layT]) rfl).stay (below_new _ _)
  have hN2 : (3 : Int) + ((numsOf xs).length : Int) = ((layN ep ct xs).length : Int) := by omega
  rw [hN]
  (try rw [hN2])
  generalize layN ep ct xs = ns at *
  have HLr := Lib.hid hLr
  have hRoom := hLr.row.room (by decide)
  clear hO5 hN hN2 hLr HO5 HG5 HR4 HB4 HL4 hnl hxl2 HXL HA hB5
  go_wp2_with fail
  go_loopw [9] (fun i wr => ∃ k : Nat, k ≤ ns.length ∧ k ≤ 99 ∧ i = .int .i64 k ∧ Hid (Lr w (w5.heap.size + 1) (layT (ns.take k)) A5 c5 ns wr)) (fun i _ => ns.length - (intOf i).toNat)
  case atStart => exact ⟨0, by omega, by omega, rfl, HLr⟩
  case round =>
    obtain ⟨k, hk, hk99, rfl, hly⟩ := hrel
    by_cases hkn : k < ns.length
    · obtain ⟨A', c', e', hR⟩ := hly.out.row.read (by decide)
      injection e' with e1 e2 e3
      subst e1 e3
      obtain ⟨bb, ob, x, rfl, hx, cb⟩ := rfI_at hR hkn
      have HX := Lib.hid hx
      clear hx hR
      have htl : (layT (ns.take k)).length = k + 1 := by rw [layT_len, List.length_take]; omega
      have HTL := Lib.hid htl
      clear htl
      go_wp2_with fail
      refine (hly.out.thing (numT x)).mono ?_
      rintro e w6 ⟨rfl, hly6⟩
      have HL6 := Lib.hid hly6
      clear hly6
      by_cases h98 : k ≤ 98
      · rw [decide_eq_true (show (layT (ns.take k)).length < 100 by have := HTL.out; omega)]
        go_wp2_with fail
        go_roundw
        case rel => exact ⟨k + 1, by omega, by omega, by go_num, Lib.hid (by have := HL6.out; rw [addTo_fit _ (by have := HTL.out; omega), layT_step HX.out] at this; exact this)⟩
        case measure => simp [intOf]; omega
      · rw [decide_eq_false (show ¬ (layT (ns.take k)).length < 100 by have := HTL.out; omega)]
        go_wp2_with fail
        go_ret
        exact .inr ⟨by omega, rfl, HL6.out.below⟩
    · have hkN : k = ns.length := by omega
      obtain ⟨v6, hc6⟩ := hly.out.rc
      have HC6 := Lib.hid hc6
      clear hc6
      go_wp2_with fail
      go_ret
      have := HC6.out
      rw [hkN, List.take_length] at this
      exact .inl ⟨by omega, _, v6, rfl, this, hly.out.below⟩
theorem rcT_at {w : World} {B b : Nat} {v : Value} {ts : List Th} (h : Rc w B b v ts) {k : Nat} {t : Th} (ht : ts[k]? = some t) :
    ∃ bl ol c, w.cell? ⟨b, 0, none⟩ = some (.slice (some ⟨bl, ol, none⟩) ts.length c) ∧ w.cell? ⟨bl, ol + k * 4, none⟩ = some (.int .i64 t.k) ∧ w.cell? ⟨bl, ol + k * 4 + 1, none⟩ = some (.int .i64 t.n) ∧ w.cell? ⟨bl, ol + k * 4 + 2, none⟩ = some (.string t.s) := by
  obtain ⟨A, c, rfl, hh, _⟩ := rc_head h
  obtain ⟨A', c', e', hR⟩ := h.own.read (by decide)
  injection e' with e1 e2 e3
  subst e1 e3
  have hk : k < ts.length := (List.getElem?_eq_some_iff.1 ht).1
  obtain ⟨bl, ol, x, rfl, hx, c0, c1, c2, _⟩ := rfT_at hR hk
  rw [ht] at hx
  injection hx with hx
  subst hx
  exact ⟨bl, ol, c, hh, c0, c1, c2⟩
/-- Each Thing is a number or a text, and nothing beside. -/
def Pl (ts : List Th) : Prop := ∀ t ∈ ts, (t.k = 1 ∧ t.s = .empty) ∨ (t.k = 2 ∧ t.n = 0)
theorem layT_pl (ns : List Int) : Pl (layT ns) := by
  intro t ht
  rcases List.mem_cons.1 ht with rfl | h
  · exact .inr ⟨rfl, rfl⟩
  · obtain ⟨n, _, rfl⟩ := List.mem_map.1 h
    exact .inl ⟨rfl, rfl⟩
theorem lk_map {ts : List Th} {k : Nat} {t : Th} (h : ts[k]? = some t) : lk (ts.map itOf) (k : Int) = some (itOf t) := by
  unfold lk
  rw [if_pos (by omega)]
  simp [h]
theorem itOf_1 {t : Th} (h : t.k = 1) : itOf t = .num t.n := by unfold itOf; rw [if_pos h]
theorem itOf_2 {t : Th} (h : t.k = 2) : itOf t = .txt t.s := by unfold itOf; rw [if_neg (by omega), if_pos h]
set_option maxRecDepth 100000 in
set_option maxHeartbeats 4000000 in
theorem things_calls (w : World) (b : Nat) (B' b' : Nat) (v' : Value) (ts : List Th) (h : Cz w (some ⟨b, 0, none⟩) (ts.map itOf)) (h' : Rc w B' b' v' ts) (hp : Pl ts) :
    Calls Try.prog 33 #[.pointer (some ⟨b, 0, none⟩), .pointer (some ⟨b', 0, none⟩)] w fun e w' => e = .returned (.bool true) ∧ Below w.heap.size w w' := by
  obtain ⟨Ar, cr, rfl, hh, hroom⟩ := rc_head h'
  have L1 := fun W (hb : Below w.heap.size w W) => Len_calls W _ _ (h.stay hb)
  simp only [List.length_map] at L1
  have L1 := Lib.hid L1
  have H := Lib.hid h
  have H' := Lib.hid h'
  have HP := Lib.hid hp
  clear h h' hp
  go_enter Try.func33, Try.ntmps33
  go_wp2_with fail
  have l1 := later_cell hh
  refine wp_region_later (by kernel_rfl) (by kernel_rfl) ?_
  repeat (go_big_quiet_step (first | (go_at_call 39; exact same_later _ (L1.out _ (Later.hb _)))))
  refine wpQuiet_nil ?_
  intro q
  obtain ⟨W, hb⟩ := q
  dsimp only
  have hhW := cell_stay hb hh
  clear l1 hh L1
  go_wp2_with fail
  go_loopw [5] (fun i wr => ∃ k : Nat, k ≤ ts.length ∧ i = .int .i64 k ∧ wr = W) (fun i _ => ts.length - (intOf i).toNat)
  case atStart => exact ⟨0, by omega, rfl, rfl⟩
  case round =>
    obtain ⟨k, hk, rfl, rfl⟩ := hrel
    by_cases hkn : k < ts.length
    · have ht : ts[k]? = some ts[k] := List.getElem?_eq_getElem hkn
      have hpl := HP.out ts[k] (List.getElem_mem hkn)
      generalize ts[k] = t at ht hpl
      obtain ⟨bl, ol, c, h0, c0, c1, c2⟩ := rcT_at (H'.out.stay hb) ht
      have hI := Int_calls wr _ _ (H.out.stay hb) k
      have hT := Text_calls wr _ _ (H.out.stay hb) k
      rw [lk_map ht] at hI hT
      rw [hhW] at h0
      injection h0 with h0
      injection h0 with e1 e2 e3
      subst e1 e3
      clear ht
      rcases hpl with ⟨hk1, hs⟩ | ⟨hk1, hn⟩
      · rw [itOf_1 hk1] at hI hT
        dsimp only [numOf, txtOf] at hI hT
        rw [hk1] at c0
        rw [hs] at c2
        clear hk1 hs
        go_wp2_with fail
        refine hI.mono ?_
        rintro e w1 ⟨rfl, rfl⟩
        go_wp2_with fail
        refine hT.mono ?_
        rintro e w1 ⟨rfl, rfl⟩
        go_wp2_with fail
        go_roundw
        case rel => exact ⟨k + 1, by omega, by go_num, trivial⟩
        case measure => simp [intOf]; omega
      · rw [itOf_2 hk1] at hI hT
        dsimp only [numOf, txtOf] at hI hT
        rw [hk1] at c0
        rw [hn] at c1
        clear hk1 hn
        go_wp2_with fail
        refine hI.mono ?_
        rintro e w1 ⟨rfl, rfl⟩
        go_wp2_with fail
        refine hT.mono ?_
        rintro e w1 ⟨rfl, rfl⟩
        go_wp2_with fail
        go_roundw
        case rel => exact ⟨k + 1, by omega, by go_num, trivial⟩
        case measure => simp [intOf]; omega
    · go_wp2_with fail
      go_ret
      exact ⟨rfl, hb⟩
theorem things_nil (w : World) : Calls Try.prog 33 #[.pointer none, .pointer none] w fun e w' => e = .returned (.bool true) ∧ Below w.heap.size w w' := by
  go_enter Try.func33, Try.ntmps33
  go_wp2_with fail
  go_ret
  exact ⟨rfl, Below.refl _ _⟩
/-- The plain law: what was laid is read. -/
theorem read_lay (ep ct : Int) (xs : List Rs) : readI (layI (layN ep ct xs)) = some (ep, ct, xs) := by
  have h1 : intsOf ((layI (layN ep ct xs)).drop 1) = some (layN ep ct xs) := intsOf_map _
  rw [readI_long h1 rfl (by rw [layN_len]; omega)]
  have h2 : (layN ep ct xs).drop 3 = numsOf xs := rfl
  rw [h2, takeN_nums]
  show (if (layN ep ct xs).getD 2 0 = (xs.length : Int) then _ else _) = _
  exact if_pos rfl
set_option maxHeartbeats 4000000 in
theorem lays_calls (ep ct : Int) (A : Option Addr) (n c : Nat) (xs : List Rs) (w : World) (hA : Rf flR w A n xs) :
    Calls Try.prog 11 #[.int .i64 ep, .int .i64 ct, .slice A n c] w fun e w' => e = .returned (.bool true) ∧ Below w.heap.size w w' := by
  have hn0 := hA.2.1
  by_cases h1 : (60 : Int) < n
  · go_enter Try.func11, Try.ntmps11
    go_wp2
    go_ret
    exact ⟨rfl, Below.refl _ _⟩
  have hxl := hA.1
  have HA := Lib.hid hA
  have HXL := Lib.hid hxl
  clear hA hxl
  go_enter Try.func11, Try.ntmps11
  go_wp2_with fail
  refine (Lay_calls ep ct A n c xs w HA.out (by omega)).mono ?_
  intro e w1 hp
  have hnl := Lib.hid (layN_len ep ct xs)
  have HRL := Lib.hid (read_lay ep ct xs)
  rcases hp with ⟨h99, b, v, rfl, hc, hb1⟩ | ⟨h99, rfl, hb1⟩
  · have HC := Lib.hid hc
    have HB1 := Lib.hid hb1
    clear hc hb1
    go_wp2_with fail
    refine (RefLay_calls ep ct A n c xs w1 (HA.out.stay HB1.out) (by omega)).mono ?_
    rintro e w2 (⟨_, b', v', rfl, hr, hb2⟩ | ⟨h, _, _⟩)
    rotate_left
    · omega
    have HC2 := Lib.hid (HC.out.stay hb2)
    have HR := Lib.hid hr
    have HB2 := Lib.hid (below_more HB1.out hb2)
    clear hr hb2 HC HB1
    go_wp2_with fail
    refine (things_calls w2 b _ b' v' (layT (layN ep ct xs)) (by rw [layT_its]; exact HC2.out.cz) HR.out (layT_pl _)).mono ?_
    rintro e w3 ⟨rfl, hb3⟩
    have HC3 := Lib.hid (HC2.out.stay hb3)
    have HB3 := Lib.hid (below_more HB2.out hb3)
    clear hb3 HC2 HR HB2
    go_wp2_with fail
    refine (Read_calls w3 _ (layI (layN ep ct xs)) HC3.out.cz (by simp [layI]; omega)).mono ?_
    intro e w4 h4
    obtain ⟨A4, c4, rfl, R4, b4⟩ := read_post h4
    rw [HRL.out] at R4 ⊢
    dsimp only [Option.getD_some, Option.isSome_some] at R4 ⊢
    have Q4 := Lib.hid (And.intro R4 (below_more HB3.out b4))
    clear h4 R4 b4 HC3 HB3
    go_wp2_with fail
    refine (sameR_calls A4 A _ n c4 c xs xs w4 Q4.out.1 (HA.out.stay Q4.out.2)).mono ?_
    rintro e w5 ⟨rfl, b5⟩
    rw [show decide (xs = xs) = true from decide_eq_true rfl]
    have Q5 := Lib.hid (below_more Q4.out.2 b5)
    clear b5 Q4
    go_wp2_with fail
    refine (known_calls _).mono ?_
    rintro e w6 ⟨rfl, b6⟩
    go_wp2_with fail
    go_ret
    exact ⟨rfl, below_more Q5.out b6⟩
  · have HB1 := Lib.hid hb1
    clear hb1
    have h20 : (20 : Int) < (n : Int) := by have := hnl.out; have := HXL.out; omega
    go_wp2_with fail
    refine (RefLay_calls ep ct A n c xs w1 (HA.out.stay HB1.out) (by omega)).mono ?_
    rintro e w2 (⟨h, _⟩ | ⟨_, rfl, hb2⟩)
    · omega
    have HB2 := Lib.hid (below_more HB1.out hb2)
    clear hb2 HB1
    go_wp2_with fail
    refine (things_nil w2).mono ?_
    rintro e w3 ⟨rfl, hb3⟩
    have HB3 := Lib.hid (below_more HB2.out hb3)
    clear hb3 HB2
    go_wp2_with fail
    refine (known_calls _).mono ?_
    rintro e w6 ⟨rfl, b6⟩
    go_wp2_with fail
    go_ret
    exact ⟨rfl, below_more HB3.out b6⟩
end Go.Proofs.Ytmaehdoejpecgaa
