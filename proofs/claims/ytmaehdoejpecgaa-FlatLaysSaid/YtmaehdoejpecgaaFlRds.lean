/- Walk of the law FlatReads. -/
import Derived.Test.YtmaehdoejpecgaaFlRef
import Derived.Test.YtmaehdoejpecgaaCrPr
set_option linter.unusedVariables false
namespace Go.Proofs.Ytmaehdoejpecgaa
open Go.ChangeShapes Go.WideShapes Go.ChangeAt Go.RowKit

theorem readI_nil : readI [] = none := by decide +kernel
/-- What Read tells: three values, and whether. -/
theorem read_post {w : World} {r : Option (Int × Int × List Rs)} {e : Ending} {w' : World} (h : ReadPost w r e w') :
    ∃ A c, e = .returned (.tuple #[.int .i64 (r.getD (0, 0, [])).1, .int .i64 (r.getD (0, 0, [])).2.1, .slice A (r.getD (0, 0, [])).2.2.length c, .bool r.isSome]) ∧ Rf flR w' A (r.getD (0, 0, [])).2.2.length (r.getD (0, 0, [])).2.2 ∧ Below w.heap.size w w' := by
  rcases h with ⟨a, b, l, v, rfl, rfl, h2, h3⟩ | ⟨rfl, rfl, h3⟩
  · obtain ⟨A, c, rfl, hR⟩ := h2.read (by decide)
    exact ⟨A, c, rfl, hR, h3⟩
  · exact ⟨none, 0, rfl, Rf.nil_ _ _ _, h3⟩
theorem knd_snoc {ts : List Th} {x : Th} (h : Knd ts) (hx : x.k = 1 ∨ x.k = 2 ∨ x.k = 3) : Knd (ts ++ [x]) := by
  intro t ht
  rcases List.mem_append.1 ht with h' | h'
  · exact h t h'
  · rw [List.mem_singleton.1 h']; exact hx
set_option maxHeartbeats 4000000 in
theorem reads_calls (s : ByteArray) (B : Option Addr) (m d : Nat) (ns : List Int) (odd : Int) (w : World) (hB : Rf flI w B m ns) :
    Calls Try.prog 10 #[.string s, .slice B m d, .int .i64 odd] w fun e w' => e = .returned (.bool true) ∧ Below w.heap.size w w' := by
  have hm0 := hB.2.1
  by_cases h1 : (50 : Int) < (s.size : Int)
  · go_enter Try.func10, Try.ntmps10
    go_wp2
    go_ret
    exact ⟨rfl, Below.refl _ _⟩
  by_cases h2 : (90 : Int) < m
  · go_enter Try.func10, Try.ntmps10
    go_wp2
    go_ret
    exact ⟨rfl, Below.refl _ _⟩
  have HB := Lib.hid hB
  clear hB
  go_enter Try.func10, Try.ntmps10
  go_wp2_with fail
  refine (boxNew_calls w).mono ?_
  rintro e w1 ⟨b, rfl, hc, hb1⟩
  have hP : Pr w b w1.heap.size [] [] (w1.alloc (.cells #[.slice none 0 0] 47)) := ⟨⟨_, hc.stay (below_new _ _)⟩, ⟨_, rcNew w1 _ hb1.size⟩, hb1.alloc hb1.size _⟩
  generalize hg : w1.heap.size = b' at *
  clear hc hb1
  go_wp2_with fail
  generalize hW : w1.alloc (.cells #[.slice none 0 0] 47) = W1 at *
  clear hW hg
  refine (hP.txt s).mono ?_
  rintro e w2 ⟨rfl, hP2⟩
  rw [addTo_fit _ (by decide)] at hP2
  clear hP
  go_wp2_with fail
  refine (hP2.thing ⟨2, 0, s, false⟩).mono ?_
  rintro e w3 ⟨rfl, hP3⟩
  rw [addTo_fit _ (by decide)] at hP3
  have HP3 := Lib.hid hP3
  clear hP3 hP2
  go_wp2_with fail
  go_loopw [9] (fun i wr => ∃ (k : Nat) (ts : List Th), k ≤ m ∧ i = .int .i64 k ∧ Hid (Pr w b b' (ts.map itOf) ts wr) ∧ Hid (Knd ts) ∧ Hid (ts.length = k + 1)) (fun i _ => m - (intOf i).toNat)
  case atStart => exact ⟨0, [⟨2, 0, s, false⟩], by omega, rfl, HP3, Lib.hid (fun t ht => by rw [List.mem_singleton.1 ht]; exact .inr (.inl rfl)), Lib.hid rfl⟩
  case round =>
    obtain ⟨k, ts, hk, rfl, hP, hkn, htl⟩ := hrel
    by_cases hlt : k < m
    · obtain ⟨bb, ob, x, rfl, hx, cb0⟩ := rfI_at HB.out hlt
      have cb := cell_keep hP.out.below (cell_lt cb0) cb0
      have hbb : bb < w.heap.size := cell_lt cb0
      clear hx
      have hl1 : (ts.map itOf).length < 100 := by have := htl.out; simp; omega
      have hl2 : ts.length < 100 := by have := htl.out; omega
      have HL1 := Lib.hid hl1
      have HL2 := Lib.hid hl2
      clear hl1 hl2
      by_cases hio : (k : Int) = odd
      · have hio2 : ((k : Int) == odd) = true := by simp [hio]
        clear hio
        have cb4 := fun W (hW : Below w.heap.size w W) => (hW.cell (p := ⟨bb, ob + k, none⟩) hbb).trans cb0
        go_wp2_with fail
        refine (hP.out.tru _).mono ?_
        rintro e w4 ⟨rfl, hP4⟩
        rw [addTo_fit _ HL1.out] at hP4
        have cb5 := cb4 w4 hP4.below
        have HP4 := Lib.hid hP4
        clear hP4 cb4 cb
        go_wp2_with fail
        refine (HP4.out.thing ⟨3, 0, .empty, _⟩).mono ?_
        rintro e w5 ⟨rfl, hP5⟩
        rw [addTo_fit _ HL2.out] at hP5
        have HP5 := Lib.hid hP5
        clear hP5
        go_wp2_with fail
        go_roundw
        case rel =>
          refine ⟨k + 1, ts ++ [⟨3, 0, .empty, (bits BinOp.and IntKind.i64 x 1 == 1)⟩], by omega, by go_num, Lib.hid ?_, Lib.hid (knd_snoc hkn.out (.inr (.inr rfl))), Lib.hid (by rw [List.length_append, htl.out]; rfl)⟩
          have e : (ts ++ [(⟨3, 0, .empty, (bits BinOp.and IntKind.i64 x 1 == 1)⟩ : Th)]).map itOf = ts.map itOf ++ [.tru (bits BinOp.and IntKind.i64 x 1 == 1)] := by rw [List.map_append]; rfl
          rw [e]
          exact HP5.out
        case measure => simp [intOf]; omega
      · have hio2 : ((k : Int) == odd) = false := by simp [hio]
        clear hio
        have cb4 := fun W (hW : Below w.heap.size w W) => (hW.cell (p := ⟨bb, ob + k, none⟩) hbb).trans cb0
        go_wp2_with fail
        refine (hP.out.int _).mono ?_
        rintro e w4 ⟨rfl, hP4⟩
        rw [addTo_fit _ HL1.out] at hP4
        have cb5 := cb4 w4 hP4.below
        have HP4 := Lib.hid hP4
        clear hP4 cb4 cb
        go_wp2_with fail
        refine (HP4.out.thing ⟨1, _, .empty, false⟩).mono ?_
        rintro e w5 ⟨rfl, hP5⟩
        rw [addTo_fit _ HL2.out] at hP5
        have HP5 := Lib.hid hP5
        clear hP5
        go_wp2_with fail
        go_roundw
        case rel =>
          refine ⟨k + 1, ts ++ [⟨1, x, .empty, false⟩], by omega, by go_num, Lib.hid ?_, Lib.hid (knd_snoc hkn.out (.inl rfl)), Lib.hid (by rw [List.length_append, htl.out]; rfl)⟩
          have e : (ts ++ [(⟨1, x, .empty, false⟩ : Th)]).map itOf = ts.map itOf ++ [.num x] := by rw [List.map_append]; rfl
          rw [e]
          exact HP5.out
        case measure => simp [intOf]; omega
    · have hkm : k = m := by omega
      have hl1 : (ts.map itOf).length ≤ 100 := by have := htl.out; simp; omega
      have hl2 : ts.length ≤ 100 := by have := htl.out; omega
      have HL1 := Lib.hid hl1
      have HL2 := Lib.hid hl2
      clear hl1 hl2
      have hge : ¬ (k : Int) < (m : Int) := by omega
      go_wp2_with fail
      refine (Read_calls wr _ (ts.map itOf) hP.out.cz HL1.out).mono ?_
      intro e w1 h1
      obtain ⟨A1, c1, rfl, R1, b1⟩ := read_post h1
      have hP1 := hP.out.stay b1
      obtain ⟨v', hrc⟩ := hP1.rc
      have HRC := Lib.hid hrc
      have Q1 := Lib.hid (And.intro R1 hP1.below)
      clear h1 R1 b1 hP1 hrc
      generalize hr0 : readI (ts.map itOf) = r at *
      have HR0 := Lib.hid hr0
      clear hr0
      generalize hra : (r.getD (0, 0, [])).1 = ra at *
      generalize hrb : (r.getD (0, 0, [])).2.1 = rb at *
      generalize hrl : (r.getD (0, 0, [])).2.2 = rl at *
      generalize hro : r.isSome = ro at *
      have HRA := Lib.hid (And.intro hra (And.intro hrb (And.intro hrl hro)))
      clear hra hrb hrl hro
      go_wp2_with fail
      refine (RefRead_calls w1 _ b' v' ts HRC.out hkn.out HL2.out).mono ?_
      intro e w2 h2
      obtain ⟨A2, c2, rfl, R2, b2⟩ := read_post h2
      rw [HR0.out, HRA.out.1, HRA.out.2.1, HRA.out.2.2.1, HRA.out.2.2.2] at *
      have Q2 := Lib.hid (And.intro (Q1.out.1.stay b2) (And.intro R2 (Q1.out.2.trans (b2.mono Q1.out.2.size))))
      clear h2 R2 b2 Q1
      go_wp2_with fail
      refine (Read_calls w2 none [] (Cz.nil_ _) (by simp)).mono ?_
      intro e w3 h3
      obtain ⟨A3, c3, rfl, R3, b3⟩ := read_post h3
      rw [readI_nil]
      have Q3 := Lib.hid (And.intro (Q2.out.1.stay b3) (And.intro (Q2.out.2.1.stay b3) (Q2.out.2.2.trans (b3.mono Q2.out.2.2.size))))
      clear h3 R3 b3 Q2
      dsimp only [Option.getD_none, Option.isSome_none, List.length_nil]
      go_wp2_with fail
      refine (sameR_calls A1 A2 _ _ c1 c2 _ _ w3 Q3.out.1 Q3.out.2.1).mono ?_
      rintro e w4 ⟨rfl, b4⟩
      rw [show decide (rl = rl) = true from decide_eq_true rfl]
      have Q4 := Lib.hid (Q3.out.2.2.trans (b4.mono Q3.out.2.2.size))
      clear b4 Q3
      go_wp2_with fail
      refine (known_calls _).mono ?_
      rintro e w5 ⟨rfl, b5⟩
      go_wp2_with fail
      go_ret
      exact ⟨rfl, Q4.out.trans (b5.mono Q4.out.size)⟩
end Go.Proofs.Ytmaehdoejpecgaa
