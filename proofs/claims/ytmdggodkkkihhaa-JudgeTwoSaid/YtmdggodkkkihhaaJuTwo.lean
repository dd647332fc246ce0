/- Walk of JudgeTwo. (Written by gen_two.py.) -/
import Derived.Test.YtmdggodkkkihhaaJuNon
import Derived.Test.YtmdggodkkkihhaaOnly
import Derived.Deep.DeepCutAuto
set_option linter.unusedVariables false
namespace Go.Proofs.Ytmdggodkkkihhaa
open Go.RowKit

def rR : Rte := ⟨bt [114], 0, 2, [0], [], []⟩
def rQ (s : Bool) : Rte := ⟨bt [113], 1, 2, [if s then 0 else 1], [], []⟩
def rO : Rte := ⟨bt [111], 1, 2, [2], [], []⟩
def twoL (s t : Bool) : Lay := ⟨[bt [97], bt [98], bt [99]], [], [bt [115], bt [116], bt [117]], if t then [rR, rQ s, rO] else [rR, rQ s]⟩
theorem two_ok (s t : Bool) : LayOk (twoL s t) := by
  have hm : ∀ x ∈ (twoL s t).rtes, x = rR ∨ x = rQ s ∨ x = rO := by
    intro x hx
    cases t <;> simp [twoL] at hx
    · rcases hx with h | h
      · exact .inl h
      · exact .inr (.inl h)
    · exact hx
  refine ⟨by cases t <;> simp [twoL], by simp [twoL], ?_, ?_, ?_, ?_⟩
  · intro x hx a ha
    have e : (twoL s t).secs.length = 3 := rfl
    rw [e]
    rcases hm x hx with rfl | rfl | rfl
    · obtain rfl : a = 0 := by simpa [rR] using ha
      decide
    · cases s
      · obtain rfl : a = 1 := by simpa [rQ] using ha
        decide
      · obtain rfl : a = 0 := by simpa [rQ] using ha
        decide
    · obtain rfl : a = 2 := by simpa [rO] using ha
      decide
  · intro x hx a ha
    rcases hm x hx with rfl | rfl | rfl <;> exact absurd ha (by simp [rR, rQ, rO])
  · intro x hx
    rcases hm x hx with rfl | rfl | rfl <;> simp [rR, rQ, rO]
  · intro x hx
    exact absurd hx (by simp [twoL])
theorem two_safe : ∀ s t : Bool, safeM (twoL s t) ⟨[false, false, false], []⟩ ⟨[], [true, true, false]⟩ = (!s || t) := by decide
/-- A block that holds a row of one or more. -/
theorem own_of_blk {w : World} {base g : Nat} {e : TypeId} {size n : Nat} {cs : Array Value} {xs : List Value} (hb : Blk w g cs e (0, 0)) (hg : base ≤ g) (hn : n ≤ 1000000) (hc : cs.toList = xs) (hs : xs.length = n * size) :
    w.ownsRow base e size (.slice (some ⟨g, 0, none⟩) n n) n xs :=
  ⟨hs, .inr ⟨g, n, cs, rfl, hg, hb, Nat.le_refl _, by simp only [maxLen]; omega, by rw [← Array.length_toList, hc, hs], by rw [hc, ← hs, List.take_length]⟩⟩
theorem path_ks {w : World} {g : Nat} {a : Int} (hb : Blk w g #[.int .i64 a] 3 (0, 0)) (ha : (Lit.int .i64 a).wf = true) : (Kd.slice (Kd.int .i64)).K w [a] [.slice (some ⟨g, 0, none⟩) 1 1] :=
  ks_of (sl_lit flI [a] 1 rfl hb rfl (by omega)) (fun x hx => by rw [List.mem_singleton.1 hx]; exact ⟨rfl, ha⟩) rfl
theorem need_nil (w : World) : (Kd.slice kNeed).K w [] [.slice none 0 0] := ks_of (sl_nil flN _) (fun x hx => by cases hx) rfl
theorem route_ks {w : World} {g : Nat} {a : Int} {x : Rte} (hb : Blk w g #[.int .i64 a] 3 (0, 0)) (hn : x.name.size ≤ 140737488351232) (h1 : (Lit.int .i64 x.frm).wf = true) (h2 : (Lit.int .i64 x.to).wf = true) (ha : (Lit.int .i64 a).wf = true) (hx : x.path = [a]) (hp : x.points = []) (hf : x.flank = []) :
    kRte.K w x [.string x.name, .int .i64 x.frm, .int .i64 x.to, .slice (some ⟨g, 0, none⟩) 1 1, .slice none 0 0, .slice none 0 0] :=
  rte_mk hn h1 h2 (by rw [hx]; exact path_ks hb ha) (by rw [hp]; exact need_nil w) (by rw [hf]; exact need_nil w)
def rcells (x : Rte) (g : Nat) : List Value := [.string x.name, .int .i64 x.frm, .int .i64 x.to, .slice (some ⟨g, 0, none⟩) 1 1, .slice none 0 0, .slice none 0 0]
def flRg : Fl (Rte × Nat) := ⟨6, fun p => rcells p.1 p.2, fun _ => rfl, fun _ u hu => by simp [rcells] at hu; rcases hu with rfl | rfl | rfl | rfl | rfl | rfl <;> rfl⟩
/-- A row of routes, from its block. -/
theorem rts_of {w : World} {g c : Nat} {ps : List (Rte × Nat)} (hn : ps.length ≤ 1000000) (hle : ps.length ≤ c) (hcap : c ≤ 9223372036854775807)
    (hc : ∀ i v, (ps.flatMap flRg.enc)[i]? = some v → w.cell? ⟨g, i, none⟩ = some v) (hk : ∀ p ∈ ps, kRte.K w p.1 (rcells p.1 p.2)) : Rts w (some ⟨g, 0, none⟩) ps.length c (ps.map (·.1)) := by
  refine ⟨⟨by simp, by omega, fun _ => ⟨g, 0, rfl, fun j x hx => ?_⟩⟩, hle, hcap⟩
  rw [List.getElem?_map, Option.map_eq_some_iff] at hx
  obtain ⟨y, hz, rfl⟩ := hx
  refine ⟨_, hk _ (List.mem_of_getElem? hz), fun i v hv => ?_⟩
  have hi : i < 6 := by
    rcases Nat.lt_or_ge i 6 with h | h
    · exact h
    · rw [List.getElem?_eq_none (by simpa [rcells] using h)] at hv; cases hv
  have := flat_get flRg ps j i hi
  have h2 := hc (j * 6 + i) v (by rw [show j * 6 + i = j * flRg.sz + i from rfl, this, hz]; exact hv)
  rw [show 0 + j * kRte.sz + i = j * 6 + i by show 0 + j * 6 + i = _; omega]
  exact h2
theorem rts_own {w : World} {base n c : Nat} {A : Option Addr} {ps : List (Rte × Nat)} (h : Ow flRg w base 47 (.slice A n c) ps) (hn : ps.length ≤ 1000000) (h0 : 0 < ps.length) (hk : ∀ p ∈ ps, kRte.K w p.1 (rcells p.1 p.2)) : Rts w A n c (ps.map (·.1)) := by
  rcases h.2 with ⟨_, h1⟩ | ⟨g, cap, cur, hv, hg, hh, h1, h2, h3, h4⟩
  · omega
  · injection hv with hA hn2 hc2
    subst hA hn2 hc2
    refine rts_of hn h1 h2 (fun i v hi => ?_) hk
    have hb : Blk w g cur 47 (0, 0) := hh
    rw [hb.cell i, ← Array.getElem?_toList]
    rw [← h4] at hi
    rw [List.getElem?_take] at hi
    split at hi
    · exact hi
    · cases hi
theorem reads_of_blk {w : World} {B g n size : Nat} {cs : Array Value} {t : TypeId} {fr : Nat × Nat} {xs : List Value} (hb : Blk w g cs t fr) (hc : cs.toList = xs) (hl : xs.length = n * size) (hB : g < B) : Reads w B size (some ⟨g, 0, none⟩) n xs := by
  refine ⟨hl, fun _ => ⟨_, rfl, hB, fun j u hu => ?_⟩⟩
  rw [add_off _ g 0 rfl, hb.cell, ← Array.getElem?_toList, hc, Nat.zero_add]
  exact hu
/-- All is laid. -/
def TwoP (w wx : World) (s t : Bool) (s5 s6 s7 : Value) : Prop := ∃ (g5 g6 g7 : Nat) (A1 A3 A4 B D : Option Addr) (n c : Nat), s5 = .pointer (some ⟨g5, 0, none⟩) ∧ s6 = .pointer (some ⟨g6, 0, none⟩) ∧ s7 = .pointer (some ⟨g7, 0, none⟩) ∧
  (wx.cell? ⟨g5, 0, none⟩ = some (.slice A1 3 3) ∧ wx.cell? ⟨g5, 1, none⟩ = some (.slice none 0 0) ∧ wx.cell? ⟨g5, 2, none⟩ = some (.slice A3 3 3) ∧ wx.cell? ⟨g5, 3, none⟩ = some (.slice A4 n c)) ∧
  (wx.cell? ⟨g6, 0, none⟩ = some (.slice B 3 3) ∧ wx.cell? ⟨g6, 1, none⟩ = some (.slice none 0 0)) ∧ (wx.cell? ⟨g7, 0, none⟩ = some (.slice none 0 0) ∧ wx.cell? ⟨g7, 1, none⟩ = some (.slice D 3 3)) ∧
  LayV wx (twoL s t) A1 none A3 A4 3 3 0 0 3 3 n c ∧ InV wx ⟨[false, false, false], []⟩ B none 3 3 0 0 ∧ OuV wx ⟨[], [true, true, false]⟩ none D 0 0 3 3 ∧ Below w.heap.size w wx
theorem two_laid {w wx : World} {s t : Bool} {g0 g1 g5 g6 g7 g8 g9 : Nat} {A4 : Option Addr} {n c : Nat}
    (h0 : Blk wx g0 #[.string ⟨#[97]⟩, .string ⟨#[98]⟩, .string ⟨#[99]⟩] 9 (0, 0)) (h1 : Blk wx g1 #[.string ⟨#[115]⟩, .string ⟨#[116]⟩, .string ⟨#[117]⟩] 9 (0, 0))
    (h5 : Blk wx g5 #[.slice (some ⟨g0, 0, none⟩) 3 3, .slice none 0 0, .slice (some ⟨g1, 0, none⟩) 3 3, .slice A4 n c] 40 (0, 0))
    (h6 : Blk wx g6 #[.bool false, .bool false, .bool false] 4 (0, 0)) (h7 : Blk wx g7 #[.slice (some ⟨g6, 0, none⟩) 3 3, .slice none 0 0] 28 (0, 0))
    (h8 : Blk wx g8 #[.bool true, .bool true, .bool false] 4 (0, 0)) (h9 : Blk wx g9 #[.slice none 0 0, .slice (some ⟨g8, 0, none⟩) 3 3] 25 (0, 0))
    (hr : Rts wx A4 n c (twoL s t).rtes) (hb : Below w.heap.size w wx) : TwoP w wx s t (.pointer (some ⟨g5, 0, none⟩)) (.pointer (some ⟨g7, 0, none⟩)) (.pointer (some ⟨g9, 0, none⟩)) :=
  ⟨g5, g7, g9, _, _, _, _, _, n, c, rfl, rfl, rfl, ⟨h5.cell 0, h5.cell 1, h5.cell 2, h5.cell 3⟩, ⟨h7.cell 0, h7.cell 1⟩, ⟨h9.cell 0, h9.cell 1⟩,
    ⟨sl_lit flS (twoL s t).secs 3 rfl h0 rfl (by omega), sl_nil flP _, sl_lit flS (twoL s t).sigs 3 rfl h1 rfl (by omega), hr⟩,
    ⟨sl_lit flT [false, false, false] 3 rfl h6 rfl (by omega), sl_nil flI _⟩, ⟨sl_nil flI _, sl_lit flT [true, true, false] 3 rfl h8 rfl (by omega)⟩, hb⟩
theorem two_rts {wx : World} {s : Bool} {g2 g3 g4 : Nat} {a : Int} (ha : a = if s then 0 else 1) (h2 : Blk wx g2 #[.int .i64 0] 3 (0, 0)) (h3 : Blk wx g3 #[.int .i64 a] 3 (0, 0))
    (h4 : Blk wx g4 #[.string ⟨#[114]⟩, .int .i64 0, .int .i64 2, .slice (some ⟨g2, 0, none⟩) 1 1, .slice none 0 0, .slice none 0 0, .string ⟨#[113]⟩, .int .i64 1, .int .i64 2, .slice (some ⟨g3, 0, none⟩) 1 1, .slice none 0 0, .slice none 0 0] 47 (0, 0)) :
    Rts wx (some ⟨g4, 0, none⟩) 2 2 (twoL s false).rtes := by
  have ha2 : (Lit.int .i64 a).wf = true := by subst ha; cases s <;> decide
  refine rts_of (ps := [(rR, g2), (rQ s, g3)]) (by simp) (by simp) (by simp) (fun i v hv => ?_) (fun p hp => ?_)
  · rw [h4.cell i, ← Array.getElem?_toList]; exact hv
  · have hp2 : p = (rR, g2) ∨ p = (rQ s, g3) := by simpa using hp
    rcases hp2 with rfl | rfl
    · exact route_ks h2 (by show (bt [114]).size ≤ _; decide) (by show (Lit.int .i64 0).wf = true; decide) (by show (Lit.int .i64 2).wf = true; decide) (by decide) rfl rfl rfl
    · exact route_ks h3 (by show (bt [113]).size ≤ _; decide) (by show (Lit.int .i64 1).wf = true; decide) (by show (Lit.int .i64 2).wf = true; decide) ha2 (by rw [ha]; rfl) rfl rfl
theorem ks3 {wx : World} {s : Bool} {g2 g3 g4 : Nat} {a : Int} (ha : a = if s then 0 else 1) (h2 : Blk wx g2 #[.int .i64 0] 3 (0, 0)) (h3 : Blk wx g3 #[.int .i64 a] 3 (0, 0)) (h4 : Blk wx g4 #[.int .i64 2] 3 (0, 0)) :
    ∀ p ∈ [(rR, g2), (rQ s, g3), (rO, g4)], kRte.K wx p.1 (rcells p.1 p.2) := by
  have ha2 : (Lit.int .i64 a).wf = true := by subst ha; cases s <;> decide
  intro p hp
  have hp2 : p = (rR, g2) ∨ p = (rQ s, g3) ∨ p = (rO, g4) := by simpa using hp
  rcases hp2 with rfl | rfl | rfl
  · exact route_ks h2 (by show (bt [114]).size ≤ _; decide) (by show (Lit.int .i64 0).wf = true; decide) (by show (Lit.int .i64 2).wf = true; decide) (by decide) rfl rfl rfl
  · exact route_ks h3 (by show (bt [113]).size ≤ _; decide) (by show (Lit.int .i64 1).wf = true; decide) (by show (Lit.int .i64 2).wf = true; decide) ha2 (by rw [ha]; rfl) rfl rfl
  · exact route_ks h4 (by show (bt [111]).size ≤ _; decide) (by show (Lit.int .i64 1).wf = true; decide) (by show (Lit.int .i64 2).wf = true; decide) (by decide) rfl rfl rfl
theorem info_rt : (Try.prog.info? 47).map (fun i => (i.zero, i.size, i.bytes)) = some (some (.agg #[.string .empty, .int .i64 0, .int .i64 0, .slice none 0 0, .slice none 0 0, .slice none 0 0]), 6, 104) := by kernel_rfl
theorem info_of {P : Program} {e : TypeId} {z : Value} {k b : Nat} (h : (P.info? e).map (fun i => (i.zero, i.size, i.bytes)) = some (some z, k, b)) : ∃ i : TypeInfo, P.info? e = some i ∧ i.zero = some z ∧ i.size = k ∧ i.bytes = b := by
  obtain ⟨i, hi, h2⟩ := Option.map_eq_some_iff.1 h
  simp only [Prod.mk.injEq] at h2
  exact ⟨i, hi, h2.1, h2.2.1, h2.2.2⟩
theorem ptr_inj {g h : Nat} (e : Value.pointer (some ⟨g, 0, none⟩) = .pointer (some ⟨h, 0, none⟩)) : g = h := by injection e with e; injection e with e; injection e
theorem mk_bool3 (w : World) : (Instr.makeSlice 23 (.int .i64 3) (.int .i64 3)).run Try.prog w = .ok (.slice (some ⟨w.heap.size, 0, none⟩) 3 3) (w.alloc (.cells #[.bool false, .bool false, .bool false] 4)) := by kernel_rfl
set_option maxHeartbeats 8000000 in
theorem two_ff (w : World) : Calls Try.prog 6 #[.bool false, .bool false] w fun e w' => e = .returned (.bool true) ∧ Below w.heap.size w w' := by
  have hk1 := mk_bool3
  go_enter Try.func6, Try.ntmps6
  go_upto_region 7 with fail
  go_cut [5, 6, 7] (fun s5 s6 s7 wx => TwoP w wx false false s5 s6 s7)
  case first =>
    go_wp2_with fail
    go_meet
    refine two_laid (g0 := w.heap.size) (g1 := w.heap.size + 1) (g5 := w.heap.size + 1 + 1 + 1 + 1 + 1) (g6 := w.heap.size + 1 + 1 + 1 + 1 + 1 + 1) (g7 := w.heap.size + 1 + 1 + 1 + 1 + 1 + 1 + 1) (g8 := w.heap.size + 1 + 1 + 1 + 1 + 1 + 1 + 1 + 1) (g9 := w.heap.size + 1 + 1 + 1 + 1 + 1 + 1 + 1 + 1 + 1) ?_ ?_ ?_ ?_ ?_ ?_ ?_ (two_rts (g2 := w.heap.size + 1 + 1) (g3 := w.heap.size + 1 + 1 + 1) (g4 := w.heap.size + 1 + 1 + 1 + 1) (a := 1) rfl ?_ ?_ ?_) ?_
    · exact (((((((((Blk.at_ (by simp) _ _ _).alloc _).alloc _).alloc _).alloc _).alloc _).alloc _).alloc _).alloc _).alloc _
    · exact ((((((((Blk.at_ (by simp) _ _ _).alloc _).alloc _).alloc _).alloc _).alloc _).alloc _).alloc _).alloc _
    · exact ((((Blk.at_ (by simp) _ _ _).alloc _).alloc _).alloc _).alloc _
    · exact (((Blk.at_ (by simp) _ _ _).alloc _).alloc _).alloc _
    · exact ((Blk.at_ (by simp) _ _ _).alloc _).alloc _
    · exact (Blk.at_ (by simp) _ _ _).alloc _
    · exact Blk.at_ (by simp) _ _ _
    · exact (((((((Blk.at_ (by simp) _ _ _).alloc _).alloc _).alloc _).alloc _).alloc _).alloc _).alloc _
    · exact ((((((Blk.at_ (by simp) _ _ _).alloc _).alloc _).alloc _).alloc _).alloc _).alloc _
    · exact (((((Blk.at_ (by simp) _ _ _).alloc _).alloc _).alloc _).alloc _).alloc _
    · repeat (first | exact Below.refl _ _ | refine Below.alloc ?_ (by simp; try omega) _)
  case rest =>
    obtain ⟨g5, g6, g7, A1, A3, A4, B, D, n, c, E5, rfl, rfl, ⟨p0, p1, p2, p3⟩, ⟨q0, q1⟩, ⟨r0, r1⟩, hl, hi, ho, hb⟩ := hcut
    subst E5
    have HL := Lib.hid hl
    have HI := Lib.hid hi
    have HO := Lib.hid ho
    have HB := Lib.hid hb
    clear hl hi ho hb
    go_wp2_with (first
      | (go_at_call 13; refine (Safe_calls _ HL.out HI.out HO.out (two_ok _ _)).mono ?_; rw [two_safe]; rintro e w5 ⟨rfl, hb5⟩; have HB5 := Lib.hid (below_more HB.out hb5); clear hb5)
      | (go_at_call 12; refine (known_calls _).mono ?_; rintro e w6 ⟨rfl, hb6⟩; have HB6 := Lib.hid (below_more HB5.out hb6); clear hb6)
      | fail)
    go_ret
    exact ⟨rfl, HB6.out⟩
set_option maxHeartbeats 8000000 in
theorem two_ft (w : World) : Calls Try.prog 6 #[.bool false, .bool true] w fun e w' => e = .returned (.bool true) ∧ Below w.heap.size w w' := by
  have hk1 := mk_bool3
  obtain ⟨i0, hi0, hz0, hz1, hz2⟩ : ∃ i : TypeInfo, Try.prog.info? 47 = some i ∧ i.zero = some (.agg #[.string .empty, .int .i64 0, .int .i64 0, .slice none 0 0, .slice none 0 0, .slice none 0 0]) ∧ i.size = 6 ∧ i.bytes = 104 := info_of info_rt
  go_enter Try.func6, Try.ntmps6
  go_upto_region 5 with fail
  go_cut [5] (fun s5 wx => ∃ g0 g1 g5 A c, s5 = .pointer (some ⟨g5, 0, none⟩) ∧ Blk wx g0 #[.string ⟨#[97]⟩, .string ⟨#[98]⟩, .string ⟨#[99]⟩] 9 (0, 0) ∧ Blk wx g1 #[.string ⟨#[115]⟩, .string ⟨#[116]⟩, .string ⟨#[117]⟩] 9 (0, 0) ∧ Blk wx g5 #[.slice (some ⟨g0, 0, none⟩) 3 3, .slice none 0 0, .slice (some ⟨g1, 0, none⟩) 3 3, .slice A 3 c] 40 (0, 0) ∧ Rts wx A 3 c (twoL false true).rtes ∧ Below w.heap.size w wx)
  case first =>
    go_wp2_with (at_builtin; refine wpList_append_any _ rfl (.tmp 24) (.tmp 27) _ rfl w.heap.size 47 i0 _ 6 104 Try.underlying38 hi0 hz0 hz1 hz2 rfl (by omega) (.slice (some ⟨w.heap.size + 1 + 1 + 1 + 1, 0, none⟩) 2 2) 2 ([(rR, w.heap.size + 1 + 1), (rQ false, w.heap.size + 1 + 1 + 1)].flatMap flRg.enc) rfl (own_of_blk ((((Blk.at_ (by simp) _ _ _).alloc _).alloc _).alloc _) (by omega) (by omega) rfl rfl) (w.heap.size + 1 + 1 + 1 + 1 + 1 + 1 + 1 + 1) (some ⟨w.heap.size + 1 + 1 + 1 + 1 + 1 + 1 + 1, 0, none⟩) 1 1 (flRg.enc (rO, w.heap.size + 1 + 1 + 1 + 1 + 1 + 1)) rfl (reads_of_blk (Blk.at_ (by simp) _ _ _) rfl rfl (by omega)) (flRg.one _) (by simp only [maxLen]; omega) (by omega) (by simp; try omega) ?_; intro v1 w1 hown1 hg1 hat1; obtain ⟨A1, c1, rfl⟩ := row_form hown1; have b0 := Blk.only ((((((((Blk.at_ (by simp) _ _ _).alloc _).alloc _).alloc _).alloc _).alloc _).alloc _).alloc _ : Blk _ (w.heap.size) #[.string ⟨#[97]⟩, .string ⟨#[98]⟩, .string ⟨#[99]⟩] 9 (0, 0)) (Only.of_grown hg1) (by simp [Value.ownBlock]; try omega); have b1 := Blk.only (((((((Blk.at_ (by simp) _ _ _).alloc _).alloc _).alloc _).alloc _).alloc _).alloc _ : Blk _ (w.heap.size + 1) #[.string ⟨#[115]⟩, .string ⟨#[116]⟩, .string ⟨#[117]⟩] 9 (0, 0)) (Only.of_grown hg1) (by simp [Value.ownBlock]; try omega); have b2 := Blk.only ((((((Blk.at_ (by simp) _ _ _).alloc _).alloc _).alloc _).alloc _).alloc _ : Blk _ (w.heap.size + 1 + 1) #[.int .i64 0] 3 (0, 0)) (Only.of_grown hg1) (by simp [Value.ownBlock]; try omega); have b3 := Blk.only (((((Blk.at_ (by simp) _ _ _).alloc _).alloc _).alloc _).alloc _ : Blk _ (w.heap.size + 1 + 1 + 1) #[.int .i64 1] 3 (0, 0)) (Only.of_grown hg1) (by simp [Value.ownBlock]; try omega); have b6 := Blk.only ((Blk.at_ (by simp) _ _ _).alloc _ : Blk _ (w.heap.size + 1 + 1 + 1 + 1 + 1 + 1) #[.int .i64 2] 3 (0, 0)) (Only.of_grown hg1) (by simp [Value.ownBlock]; try omega); have b5 := Blk.only (((Blk.at_ (by simp) _ _ _).alloc _).alloc _ : Blk _ (w.heap.size + 1 + 1 + 1 + 1 + 1) #[.slice (some ⟨w.heap.size, 0, none⟩) 3 3, .slice none 0 0, .slice (some ⟨w.heap.size + 1, 0, none⟩) 3 3, .slice (some ⟨w.heap.size + 1 + 1 + 1 + 1, 0, none⟩) 2 2] 40 (0, 0)) (Only.of_grown hg1) (by simp [Value.ownBlock]; try omega); have bw := Below.grown (B := w.heap.size) (a := w) (by repeat (first | exact Below.refl _ _ | refine Below.alloc ?_ (by simp; try omega) _)) hg1 (by simp; try omega) (fun q hq => by simp [Value.ownBlock] at hq; omega); have ho : Ow flRg w1 w.heap.size 47 (.slice A1 3 c1) [(rR, w.heap.size + 1 + 1), (rQ false, w.heap.size + 1 + 1 + 1), (rO, w.heap.size + 1 + 1 + 1 + 1 + 1 + 1)] := hown1; have hrt := rts_own ho (by simp) (by simp) (ks3 (a := 1) rfl b2 b3 b6); clear hg1 hat1 hown1; have f5 := b5.free 3; have c5 := b5.cell 3; simp only [List.getElem?_toArray, List.getElem?_cons_zero, List.getElem?_cons_succ] at c5)
    go_meet
    have hn := own_not_blk ho b5 (by decide)
    have ho := Ow.only ho (Only.put (w := w1) ⟨w.heap.size + 1 + 1 + 1 + 1 + 1, 3, none⟩ (.slice A1 3 c1)) (fun k hk he => hn (by rw [hk, he]))
    have hrt := rts_own ho (by simp) (by simp) (ks3 (a := 1) rfl (b2.far (by simp; try omega) _) (b3.far (by simp; try omega) _) (b6.far (by simp; try omega) _))
    exact ⟨_, _, _, A1, c1, rfl, b0.far (by simp; try omega) _, b1.far (by simp; try omega) _, b5.put 3 _, hrt, bw.setCell (by simp; try omega) _⟩
  case rest =>
    obtain ⟨g0, g1, g5, A, c, rfl, h0, h1, h5, hr, hb⟩ := hcut
    have HA := Lib.hid (And.intro h0 (And.intro h1 (And.intro h5 (And.intro hr hb))))
    clear h0 h1 h5 hr hb
    go_upto_region 7 with fail
    go_cut [6, 7] (fun s6 s7 wx => TwoP w wx false true (.pointer (some ⟨g5, 0, none⟩)) s6 s7)
    case first =>
      go_wp2_with fail
      go_meet
      refine two_laid (g0 := g0) (g1 := g1) (g5 := g5) (g6 := wc.heap.size) (g7 := wc.heap.size + 1) (g8 := wc.heap.size + 1 + 1) (g9 := wc.heap.size + 1 + 1 + 1) (((((HA.out.1).alloc _).alloc _).alloc _).alloc _) (((((HA.out.2.1).alloc _).alloc _).alloc _).alloc _) (((((HA.out.2.2.1).alloc _).alloc _).alloc _).alloc _) ((((Blk.at_ (by simp) _ _ _).alloc _).alloc _).alloc _) (((Blk.at_ (by simp) _ _ _).alloc _).alloc _) ((Blk.at_ (by simp) _ _ _).alloc _) (Blk.at_ (by simp) _ _ _) ?_ ?_
      · refine HA.out.2.2.2.1.stay ?_
        repeat (first | exact Below.refl _ _ | refine Below.alloc ?_ (by simp; try omega) _)
      · refine below_more HA.out.2.2.2.2 ?_
        repeat (first | exact Below.refl _ _ | refine Below.alloc ?_ (by simp; try omega) _)
    case rest =>
    obtain ⟨g5, g6, g7, A1, A3, A4, B, D, n, c, E5, rfl, rfl, ⟨p0, p1, p2, p3⟩, ⟨q0, q1⟩, ⟨r0, r1⟩, hl, hi, ho, hb⟩ := hcut
    obtain rfl := ptr_inj E5
    have HL := Lib.hid hl
    have HI := Lib.hid hi
    have HO := Lib.hid ho
    have HB := Lib.hid hb
    clear hl hi ho hb
    go_wp2_with (first
      | (go_at_call 13; refine (Safe_calls _ HL.out HI.out HO.out (two_ok _ _)).mono ?_; rw [two_safe]; rintro e w5 ⟨rfl, hb5⟩; have HB5 := Lib.hid (below_more HB.out hb5); clear hb5)
      | (go_at_call 12; refine (known_calls _).mono ?_; rintro e w6 ⟨rfl, hb6⟩; have HB6 := Lib.hid (below_more HB5.out hb6); clear hb6)
      | fail)
    go_ret
    exact ⟨rfl, HB6.out⟩
set_option maxHeartbeats 8000000 in
theorem two_tf (w : World) : Calls Try.prog 6 #[.bool true, .bool false] w fun e w' => e = .returned (.bool true) ∧ Below w.heap.size w w' := by
  have hk1 := mk_bool3
  go_enter Try.func6, Try.ntmps6
  go_upto_region 7 with fail
  go_cut [5, 6, 7] (fun s5 s6 s7 wx => TwoP w wx true false s5 s6 s7)
  case first =>
    go_wp2_with fail
    go_meet
    refine two_laid (g0 := w.heap.size) (g1 := w.heap.size + 1) (g5 := w.heap.size + 1 + 1 + 1 + 1 + 1) (g6 := w.heap.size + 1 + 1 + 1 + 1 + 1 + 1 + 1) (g7 := w.heap.size + 1 + 1 + 1 + 1 + 1 + 1 + 1 + 1) (g8 := w.heap.size + 1 + 1 + 1 + 1 + 1 + 1 + 1 + 1 + 1) (g9 := w.heap.size + 1 + 1 + 1 + 1 + 1 + 1 + 1 + 1 + 1 + 1) ?_ ?_ ?_ ?_ ?_ ?_ ?_ (two_rts (g2 := w.heap.size + 1 + 1) (g3 := w.heap.size + 1 + 1 + 1 + 1 + 1 + 1) (g4 := w.heap.size + 1 + 1 + 1 + 1) (a := 0) rfl ?_ ?_ ?_) ?_
    · exact ((((((((((Blk.at_ (by simp) _ _ _).alloc _).alloc _).alloc _).alloc _).alloc _).alloc _).alloc _).alloc _).alloc _).alloc _
    · exact (((((((((Blk.at_ (by simp) _ _ _).alloc _).alloc _).alloc _).alloc _).alloc _).alloc _).alloc _).alloc _).alloc _
    · exact (((((Blk.at_ (by simp) _ _ _).alloc _).alloc _).alloc _).alloc _).alloc _
    · exact (((Blk.at_ (by simp) _ _ _).alloc _).alloc _).alloc _
    · exact ((Blk.at_ (by simp) _ _ _).alloc _).alloc _
    · exact (Blk.at_ (by simp) _ _ _).alloc _
    · exact Blk.at_ (by simp) _ _ _
    · exact ((((((((Blk.at_ (by simp) _ _ _).alloc _).alloc _).alloc _).alloc _).alloc _).alloc _).alloc _).alloc _
    · exact ((((Blk.at_ (by simp) _ _ _).alloc _).alloc _).alloc _).alloc _
    · exact ((((((Blk.at_ (by simp) _ _ _).alloc _).alloc _).alloc _).alloc _).alloc _).alloc _
    · repeat (first | exact Below.refl _ _ | refine Below.alloc ?_ (by simp; try omega) _)
  case rest =>
    obtain ⟨g5, g6, g7, A1, A3, A4, B, D, n, c, E5, rfl, rfl, ⟨p0, p1, p2, p3⟩, ⟨q0, q1⟩, ⟨r0, r1⟩, hl, hi, ho, hb⟩ := hcut
    subst E5
    have HL := Lib.hid hl
    have HI := Lib.hid hi
    have HO := Lib.hid ho
    have HB := Lib.hid hb
    clear hl hi ho hb
    go_wp2_with (first
      | (go_at_call 13; refine (Safe_calls _ HL.out HI.out HO.out (two_ok _ _)).mono ?_; rw [two_safe]; rintro e w5 ⟨rfl, hb5⟩; have HB5 := Lib.hid (below_more HB.out hb5); clear hb5)
      | (go_at_call 12; refine (known_calls _).mono ?_; rintro e w6 ⟨rfl, hb6⟩; have HB6 := Lib.hid (below_more HB5.out hb6); clear hb6)
      | fail)
    go_ret
    exact ⟨rfl, HB6.out⟩
set_option maxHeartbeats 8000000 in
theorem two_tt (w : World) : Calls Try.prog 6 #[.bool true, .bool true] w fun e w' => e = .returned (.bool true) ∧ Below w.heap.size w w' := by
  have hk1 := mk_bool3
  obtain ⟨i0, hi0, hz0, hz1, hz2⟩ : ∃ i : TypeInfo, Try.prog.info? 47 = some i ∧ i.zero = some (.agg #[.string .empty, .int .i64 0, .int .i64 0, .slice none 0 0, .slice none 0 0, .slice none 0 0]) ∧ i.size = 6 ∧ i.bytes = 104 := info_of info_rt
  go_enter Try.func6, Try.ntmps6
  go_upto_region 5 with fail
  go_cut [5] (fun s5 wx => ∃ g0 g1 g5 A c, s5 = .pointer (some ⟨g5, 0, none⟩) ∧ Blk wx g0 #[.string ⟨#[97]⟩, .string ⟨#[98]⟩, .string ⟨#[99]⟩] 9 (0, 0) ∧ Blk wx g1 #[.string ⟨#[115]⟩, .string ⟨#[116]⟩, .string ⟨#[117]⟩] 9 (0, 0) ∧ Blk wx g5 #[.slice (some ⟨g0, 0, none⟩) 3 3, .slice none 0 0, .slice (some ⟨g1, 0, none⟩) 3 3, .slice A 3 c] 40 (0, 0) ∧ Rts wx A 3 c (twoL true true).rtes ∧ Below w.heap.size w wx)
  case first =>
    go_wp2_with (at_builtin; refine wpList_append_any _ rfl (.tmp 24) (.tmp 27) _ rfl w.heap.size 47 i0 _ 6 104 Try.underlying38 hi0 hz0 hz1 hz2 rfl (by omega) (.slice (some ⟨w.heap.size + 1 + 1 + 1 + 1, 0, none⟩) 2 2) 2 ([(rR, w.heap.size + 1 + 1), (rQ true, w.heap.size + 1 + 1 + 1 + 1 + 1 + 1)].flatMap flRg.enc) rfl (own_of_blk (((((Blk.at_ (by simp) _ _ _).alloc _).alloc _).alloc _).alloc _) (by omega) (by omega) rfl rfl) (w.heap.size + 1 + 1 + 1 + 1 + 1 + 1 + 1 + 1 + 1) (some ⟨w.heap.size + 1 + 1 + 1 + 1 + 1 + 1 + 1 + 1, 0, none⟩) 1 1 (flRg.enc (rO, w.heap.size + 1 + 1 + 1 + 1 + 1 + 1 + 1)) rfl (reads_of_blk (Blk.at_ (by simp) _ _ _) rfl rfl (by omega)) (flRg.one _) (by simp only [maxLen]; omega) (by omega) (by simp; try omega) ?_; intro v1 w1 hown1 hg1 hat1; obtain ⟨A1, c1, rfl⟩ := row_form hown1; have b0 := Blk.only (((((((((Blk.at_ (by simp) _ _ _).alloc _).alloc _).alloc _).alloc _).alloc _).alloc _).alloc _).alloc _ : Blk _ (w.heap.size) #[.string ⟨#[97]⟩, .string ⟨#[98]⟩, .string ⟨#[99]⟩] 9 (0, 0)) (Only.of_grown hg1) (by simp [Value.ownBlock]; try omega); have b1 := Blk.only ((((((((Blk.at_ (by simp) _ _ _).alloc _).alloc _).alloc _).alloc _).alloc _).alloc _).alloc _ : Blk _ (w.heap.size + 1) #[.string ⟨#[115]⟩, .string ⟨#[116]⟩, .string ⟨#[117]⟩] 9 (0, 0)) (Only.of_grown hg1) (by simp [Value.ownBlock]; try omega); have b2 := Blk.only (((((((Blk.at_ (by simp) _ _ _).alloc _).alloc _).alloc _).alloc _).alloc _).alloc _ : Blk _ (w.heap.size + 1 + 1) #[.int .i64 0] 3 (0, 0)) (Only.of_grown hg1) (by simp [Value.ownBlock]; try omega); have b3 := Blk.only (((Blk.at_ (by simp) _ _ _).alloc _).alloc _ : Blk _ (w.heap.size + 1 + 1 + 1 + 1 + 1 + 1) #[.int .i64 0] 3 (0, 0)) (Only.of_grown hg1) (by simp [Value.ownBlock]; try omega); have b6 := Blk.only ((Blk.at_ (by simp) _ _ _).alloc _ : Blk _ (w.heap.size + 1 + 1 + 1 + 1 + 1 + 1 + 1) #[.int .i64 2] 3 (0, 0)) (Only.of_grown hg1) (by simp [Value.ownBlock]; try omega); have b5 := Blk.only ((((Blk.at_ (by simp) _ _ _).alloc _).alloc _).alloc _ : Blk _ (w.heap.size + 1 + 1 + 1 + 1 + 1) #[.slice (some ⟨w.heap.size, 0, none⟩) 3 3, .slice none 0 0, .slice (some ⟨w.heap.size + 1, 0, none⟩) 3 3, .slice (some ⟨w.heap.size + 1 + 1 + 1 + 1, 0, none⟩) 2 2] 40 (0, 0)) (Only.of_grown hg1) (by simp [Value.ownBlock]; try omega); have bw := Below.grown (B := w.heap.size) (a := w) (by repeat (first | exact Below.refl _ _ | refine Below.alloc ?_ (by simp; try omega) _)) hg1 (by simp; try omega) (fun q hq => by simp [Value.ownBlock] at hq; omega); have ho : Ow flRg w1 w.heap.size 47 (.slice A1 3 c1) [(rR, w.heap.size + 1 + 1), (rQ true, w.heap.size + 1 + 1 + 1 + 1 + 1 + 1), (rO, w.heap.size + 1 + 1 + 1 + 1 + 1 + 1 + 1)] := hown1; have hrt := rts_own ho (by simp) (by simp) (ks3 (a := 0) rfl b2 b3 b6); clear hg1 hat1 hown1; have f5 := b5.free 3; have c5 := b5.cell 3; simp only [List.getElem?_toArray, List.getElem?_cons_zero, List.getElem?_cons_succ] at c5)
    go_meet
    have hn := own_not_blk ho b5 (by decide)
    have ho := Ow.only ho (Only.put (w := w1) ⟨w.heap.size + 1 + 1 + 1 + 1 + 1, 3, none⟩ (.slice A1 3 c1)) (fun k hk he => hn (by rw [hk, he]))
    have hrt := rts_own ho (by simp) (by simp) (ks3 (a := 0) rfl (b2.far (by simp; try omega) _) (b3.far (by simp; try omega) _) (b6.far (by simp; try omega) _))
    exact ⟨_, _, _, A1, c1, rfl, b0.far (by simp; try omega) _, b1.far (by simp; try omega) _, b5.put 3 _, hrt, bw.setCell (by simp; try omega) _⟩
  case rest =>
    obtain ⟨g0, g1, g5, A, c, rfl, h0, h1, h5, hr, hb⟩ := hcut
    have HA := Lib.hid (And.intro h0 (And.intro h1 (And.intro h5 (And.intro hr hb))))
    clear h0 h1 h5 hr hb
    go_upto_region 7 with fail
    go_cut [6, 7] (fun s6 s7 wx => TwoP w wx true true (.pointer (some ⟨g5, 0, none⟩)) s6 s7)
    case first =>
      go_wp2_with fail
      go_meet
      refine two_laid (g0 := g0) (g1 := g1) (g5 := g5) (g6 := wc.heap.size) (g7 := wc.heap.size + 1) (g8 := wc.heap.size + 1 + 1) (g9 := wc.heap.size + 1 + 1 + 1) (((((HA.out.1).alloc _).alloc _).alloc _).alloc _) (((((HA.out.2.1).alloc _).alloc _).alloc _).alloc _) (((((HA.out.2.2.1).alloc _).alloc _).alloc _).alloc _) ((((Blk.at_ (by simp) _ _ _).alloc _).alloc _).alloc _) (((Blk.at_ (by simp) _ _ _).alloc _).alloc _) ((Blk.at_ (by simp) _ _ _).alloc _) (Blk.at_ (by simp) _ _ _) ?_ ?_
      · refine HA.out.2.2.2.1.stay ?_
        repeat (first | exact Below.refl _ _ | refine Below.alloc ?_ (by simp; try omega) _)
      · refine below_more HA.out.2.2.2.2 ?_
        repeat (first | exact Below.refl _ _ | refine Below.alloc ?_ (by simp; try omega) _)
    case rest =>
    obtain ⟨g5, g6, g7, A1, A3, A4, B, D, n, c, E5, rfl, rfl, ⟨p0, p1, p2, p3⟩, ⟨q0, q1⟩, ⟨r0, r1⟩, hl, hi, ho, hb⟩ := hcut
    obtain rfl := ptr_inj E5
    have HL := Lib.hid hl
    have HI := Lib.hid hi
    have HO := Lib.hid ho
    have HB := Lib.hid hb
    clear hl hi ho hb
    go_wp2_with (first
      | (go_at_call 13; refine (Safe_calls _ HL.out HI.out HO.out (two_ok _ _)).mono ?_; rw [two_safe]; rintro e w5 ⟨rfl, hb5⟩; have HB5 := Lib.hid (below_more HB.out hb5); clear hb5)
      | (go_at_call 12; refine (known_calls _).mono ?_; rintro e w6 ⟨rfl, hb6⟩; have HB6 := Lib.hid (below_more HB5.out hb6); clear hb6)
      | fail)
    go_ret
    exact ⟨rfl, HB6.out⟩
theorem judgeTwo_calls (s t : Bool) (w : World) : Calls Try.prog 6 #[.bool s, .bool t] w fun e w' => e = .returned (.bool true) ∧ Below w.heap.size w w' := by
  cases s <;> cases t
  · exact two_ff w
  · exact two_ft w
  · exact two_tf w
  · exact two_tt w
end Go.Proofs.Ytmdggodkkkihhaa
