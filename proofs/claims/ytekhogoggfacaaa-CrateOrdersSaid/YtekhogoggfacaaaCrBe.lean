/- Walk of CrateBehind. -/
import Derived.Test.YtekhogoggfacaaaCrKi
set_option linter.unusedVariables false
namespace Go.Proofs.Ytekhogoggfacaaa
open Go.RowKit

theorem plainT_kind (t : Th) : (plainT t).k = 1 ∨ (plainT t).k = 2 ∨ (plainT t).k = 3 := by
  unfold plainT
  split
  · exact .inl rfl
  · split
    · exact .inr (.inl rfl)
    · exact .inr (.inr rfl)
theorem RcPost.yes {w : World} {B b : Nat} {v : Value} {ts : List Th} {x : Th} {e : Ending} {w' : World} (h : RcPost w B b v ts x e w') (hB : B ≤ w.heap.size) (hf : Rc w B b v ts) (hl : ts.length < 100) :
    e = .returned (.bool true) ∧ ∃ v', Rc w' B b v' (ts ++ [x]) ∧ Only (CrS b v) w w' ∧ (∀ k, v'.ownBlock = some k → v.ownBlock = some k ∨ w.heap.size ≤ k) ∧ Below B w w' := by
  rcases h with ⟨h1, _⟩ | ⟨_, rfl, v', h3, h4, h5⟩
  · omega
  · exact ⟨rfl, v', h3, h4, h5, h4.below hB (fun q hq hs => (hf.foot q hs).1)⟩
/-- Made crates share no block with the document's. -/
theorem dj_kinds {w : World} {B b B' b' : Nat} {v v' : Value} {its : List It} {ts : List Th} (h1 : Cr w B b v its) (h2 : Rc w B' b' v' ts) : Dj b v b' v' := by
  rintro k (rfl | hk) (e | e)
  · exact blk_not_blk h1.blk h2.blk (by decide) e
  · exact own_not_blk h2.own h1.blk (by decide) e
  · subst e; exact own_not_blk h1.own h2.blk (by decide) hk
  · exact own_not_own h1.own h2.own (by decide) k hk e
set_option maxHeartbeats 4000000 in
theorem behind_calls (A : Option Addr) (n c : Nat) (xs : List Th) (t : Th) (w : World) (hA : Rf flTh w A n xs) :
    Calls Try.prog 6 #[.slice A n c, .agg #[.int .i64 t.k, .int .i64 t.n, .string t.s, .bool t.b]] w fun e w' => e = .returned (.bool true) ∧ Below w.heap.size w w' := by
  have hn := hA.2.1
  have H1 := Lib.hid hA.1
  have hb0 := below_new w (.cells #[.int .i64 t.k, .int .i64 t.n, .string t.s, .bool t.b] 31)
  have HA := Lib.hid (hA.stay hb0)
  have z0 := (Blk.new w #[.int .i64 t.k, .int .i64 t.n, .string t.s, .bool t.b] 31 (0, 0)).cell 0
  have z1 := (Blk.new w #[.int .i64 t.k, .int .i64 t.n, .string t.s, .bool t.b] 31 (0, 0)).cell 1
  have z2 := (Blk.new w #[.int .i64 t.k, .int .i64 t.n, .string t.s, .bool t.b] 31 (0, 0)).cell 2
  have z3 := (Blk.new w #[.int .i64 t.k, .int .i64 t.n, .string t.s, .bool t.b] 31 (0, 0)).cell 3
  go_enter Try.func6, Try.ntmps6
  go_wp2_with fail
  have L := long_calls A n c xs _ HA.out
  generalize w.alloc (.cells #[.int .i64 t.k, .int .i64 t.n, .string t.s, .bool t.b] 31) = w0 at *
  simp only [List.getElem?_toArray, List.getElem?_cons_zero, List.getElem?_cons_succ] at z0 z1 z2 z3
  have hg := cell_lt z0
  simp only at hg
  clear hA
  refine L.mono ?_
  rintro e w1 ⟨rfl | rfl, hb1⟩
  rotate_left
  · clear L
    go_wp2_with fail
    go_ret
    exact ⟨rfl, below_more hb0 hb1⟩
  clear L
  have hg1 : w.heap.size < w1.heap.size := Nat.lt_of_lt_of_le hg hb1.size
  have y0 := cell_stay hb1 z0
  have y1 := cell_stay hb1 z1
  have y2 := cell_stay hb1 z2
  have y3 := cell_stay hb1 z3
  clear z0 z1 z2 z3
  by_cases hT : 300 < t.s.size
  · have hT' : (300 : Int) < t.s.size := by omega
    go_wp2_with fail
    go_ret
    exact ⟨rfl, below_more hb0 hb1⟩
  have hT' : ¬ (300 : Int) < t.s.size := by omega
  by_cases hN : 100 ≤ n
  · have hN' : (100 : Int) ≤ n := by omega
    go_wp2_with fail
    go_ret
    exact ⟨rfl, below_more hb0 hb1⟩
  have hN' : ¬ (100 : Int) ≤ n := by omega
  go_wp2_with fail
  refine (made_calls A n c xs w1 (HA.out.stay hb1)).mono ?_
  rintro e w2 ⟨b, v, b', v', rfl, hc, hr, hb2⟩
  have hSZ : w1.heap.size ≤ w2.heap.size := hb2.size
  have hlen : (madeT xs).length < 100 := by rw [madeT_len, H1.out]; omega
  have hkinds := madeT_kinds xs
  generalize hts : madeT xs = ts at *
  have y0 := cell_stay hb2 y0
  have y1 := cell_stay hb2 y1
  have y2 := cell_stay hb2 y2
  have y3 := cell_stay hb2 y3
  have hb2 := Lib.hid (below_more (below_more hb0 hb1) hb2)
  have HSZ := Lib.hid hSZ
  have HC := Lib.hid hc
  have HR := Lib.hid hr
  have HL := Lib.hid hlen
  have HK := Lib.hid hkinds
  clear hb0 hb1 hc hr hlen hkinds hSZ
  go_wp2_with fail
  refine (plain_calls' t w2).mono ?_
  rintro e w3 ⟨y, hy, rfl, hb3⟩
  have HY := Lib.hid hy
  have hB3 : w1.heap.size ≤ w3.heap.size := Nat.le_trans HSZ.out hb3.size
  have y0 := cell_stay hb3 y0
  have y1 := cell_stay hb3 y1
  have y2 := cell_stay hb3 y2
  have y3 := cell_stay hb3 y3
  have hb2 := Lib.hid (below_more hb2.out hb3)
  have HC := Lib.hid (HC.out.stay hb3)
  have HR := Lib.hid (HR.out.stay hb3)
  clear hy hb3
  go_wp2_with fail
  refine (lawadd_calls y w3 w1.heap.size b v _ HC.out hB3).mono ?_
  rintro e w4 hp
  obtain ⟨rfl, v1, c1, o1, q1, g1⟩ := hp.yes hB3 HC.out (by rw [List.length_map]; exact HL.out)
  clear hp
  obtain ⟨r1, d1⟩ := HR.out.beside (dj_kinds HC.out HR.out) o1 q1
  have y0 := cell_keep g1 hg1 y0
  have y1 := cell_keep g1 hg1 y1
  have y2 := cell_keep g1 hg1 y2
  have y3 := cell_keep g1 hg1 y3
  have HC := Lib.hid c1
  have HR := Lib.hid r1
  have hb2 := Lib.hid (hb2.out.trans (g1.mono (by omega)))
  have hB4 : w1.heap.size ≤ w4.heap.size := Nat.le_trans hB3 g1.size
  clear c1 o1 q1 g1 r1 d1
  go_wp2_with fail
  refine (plain_calls' t w4).mono ?_
  rintro e w5 ⟨y', hy', rfl, hb3⟩
  have e1 : y' = y := hy'.trans HY.out.symm
  subst e1
  have hB5 : w1.heap.size ≤ w5.heap.size := Nat.le_trans hB4 hb3.size
  have hb2 := Lib.hid (below_more hb2.out hb3)
  have HC := Lib.hid (HC.out.stay hb3)
  have HR := Lib.hid (HR.out.stay hb3)
  clear hy' hb3 y0 y1 y2 y3
  go_wp2_with fail
  refine (RefAdd_calls y' w5 w1.heap.size b' v' _ HR.out hB5).mono ?_
  rintro e w6 hp
  obtain ⟨rfl, v2, r2, o1, q1, g1⟩ := RcPost.yes hp hB5 HR.out HL.out
  clear hp
  obtain ⟨c2, _⟩ := HC.out.beside (dj_kinds HC.out HR.out).symm o1 q1
  have hb2 := Lib.hid (hb2.out.trans (g1.mono (by omega)))
  have hkk : ∀ x ∈ ts ++ [y'], x.k = 1 ∨ x.k = 2 ∨ x.k = 3 := by
    intro x hx
    rcases List.mem_append.1 hx with h | h
    · exact HK.out x h
    · rw [List.mem_singleton.1 h, HY.out]; exact plainT_kind t
  have ee : ts.map itOf ++ [itOf y'] = (ts ++ [y']).map itOf := by simp
  rw [ee] at c2
  have hl : (ts ++ [y']).length ≤ 100 := by have := HL.out; simp; omega
  clear HC HR HK HL ee o1 q1 g1 hts
  generalize ts ++ [y'] = us at *
  obtain ⟨Ar, cr, hv', hh, hroom⟩ := rc_head r2
  have L1 := fun W (hb : Below w6.heap.size w6 W) => Len_calls W _ _ (c2.stay hb).cz
  simp only [List.length_map] at L1
  have L1 := Lib.hid L1
  have HH := Lib.hid hh
  have HC := Lib.hid c2
  have HR := Lib.hid r2
  have HK := Lib.hid hkk
  clear c2 r2 hh hv' hkk
  go_wp2_with fail
  go_loopw [7] (fun i wr => ∃ k : Nat, k ≤ us.length ∧ i = .int .i64 k ∧ Below w6.heap.size w6 wr) (fun i _ => us.length - (intOf i).toNat)
  case atStart => exact ⟨0, by omega, rfl, Below.refl _ _⟩
  case round =>
    obtain ⟨k, hk, rfl, hbr⟩ := hrel
    have hh := cell_stay hbr HH.out
    have HBR := Lib.hid hbr
    clear hbr
    by_cases hk : k < us.length
    · go_wp2_with fail
      refine (tells_calls wr _ _ _ b' v2 us k (HC.out.stay HBR.out).cz (HR.out.stay HBR.out) rfl HK.out).mono ?_
      rintro e w7 ⟨rfl, hb4⟩
      go_wp2_with fail
      go_roundw
      case rel => exact ⟨k + 1, by omega, by go_num, below_more HBR.out hb4⟩
      case measure => simp [intOf]; omega
    · have l1 := later_cell hh
      go_wp2_with fail
      refine wp_region_later (by kernel_rfl) (by kernel_rfl) ?_
      repeat (go_big_quiet_step (first | (go_at_call 19; exact same_later _ (L1.out _ (below_more HBR.out (Later.hb _)))) | (go_at_call 16; exact later_call _ (known_calls _))))
      refine wpQuiet_nil ?_
      intro q
      go_wp2_with fail
      go_ret
      exact ⟨rfl, below_more (below_more hb2.out HBR.out) q.hb⟩
end Go.Proofs.Ytekhogoggfacaaa
