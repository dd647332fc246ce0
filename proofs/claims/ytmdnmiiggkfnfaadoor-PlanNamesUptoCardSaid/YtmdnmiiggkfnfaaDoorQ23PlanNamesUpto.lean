/- Texts put together for a claim. -/
import Derived.Test.YtmdnmiiggkfnfaaDoorQ22PlanNamesUpto
import Derived.Test.YtmdnmiiggkfnfaaDoorQ17PlanNamesUpto
/- slices.Concat of three rows of texts. -/
set_option linter.unusedVariables false
set_option linter.unusedSimpArgs false
namespace Go.Proofs.YtmdnmiiggkfnfaaDoor
open Go.RowKit

set_option maxRecDepth 20000 in
set_option maxHeartbeats 4000000 in
theorem CatS_calls (w : World) (g : Nat) (Q F H : Option Addr) (q qc f fc h hc : Nat) (qs fs hs : List ByteArray) (hQ : Sl flS w Q q qc qs) (hF : Sl flS w F f fc fs) (hH : Sl flS w H h hc hs)
    (h0 : w.cell? ⟨g, 0, none⟩ = some (.slice Q q qc)) (h1 : w.cell? ⟨g, 1, none⟩ = some (.slice F f fc)) (h2 : w.cell? ⟨g, 2, none⟩ = some (.slice H h hc)) (hn : q + f + h ≤ 8796093022208) :
    Calls Tryd.prog 33 #[.slice (some ⟨g, 0, none⟩) 3 3] w fun e w' => ∃ v, e = .returned v ∧ Ow flS w' w.heap.size 9 v ((qs ++ fs) ++ hs) ∧ Below w.heap.size w w' := by
  obtain ⟨i0, hi0, hz0, hz1, hz2⟩ := info_parts info_str
  have HLQ := Lib.hid hQ.len
  have HLF := Lib.hid hF.len
  have HLH := Lib.hid hH.len
  have HQ := Lib.hid hQ
  have HF := Lib.hid hF
  have HH := Lib.hid hH
  clear hQ hF hH
  go_enter Tryd.func33, Tryd.ntmps33
  go_wp2_with fail
  go_loopw [3, 11] (fun s i wr => wr = w ∧ ((i = .int .i64 0 ∧ s = .int .i64 0) ∨ (i = .int .i64 1 ∧ s = .int .i64 q) ∨ (i = .int .i64 2 ∧ s = .int .i64 (q + f)) ∨ (i = .int .i64 3 ∧ s = .int .i64 ((q + f) + h)))) (fun _ i _ => 3 - (intOf i).toNat)
  case atStart => exact ⟨rfl, .inl ⟨rfl, rfl⟩⟩
  case round =>
    obtain ⟨hwr, hrel⟩ := hrel
    obtain rfl : w = wr := hwr.symm
    obtain ⟨rfl, rfl⟩ | ⟨rfl, rfl⟩ | ⟨rfl, rfl⟩ | ⟨rfl, rfl⟩ := hrel
    · go_wp2_with fail
      go_roundw
      case rel => exact ⟨by first | trivial | rfl, .inr (.inl ⟨by go_num, by go_num⟩)⟩
      case measure => decide
    · go_wp2_with fail
      go_roundw
      case rel => exact ⟨by first | trivial | rfl, .inr (.inr (.inl ⟨by go_num, by go_num⟩))⟩
      case measure => decide
    · go_wp2_with fail
      go_roundw
      case rel => exact ⟨by first | trivial | rfl, .inr (.inr (.inr ⟨by go_num, by go_num⟩))⟩
      case measure => decide
    · have K := Lib.hid (GrowS_calls w (q + f + h) (by omega))
      rw [Int.natCast_add, Int.natCast_add] at K
      go_wp2_with (refine K.out.mono ?_; rintro e w1 ⟨v1, rfl, hown, hb⟩)
      have c0 := cell_stay hb h0
      have c1 := cell_stay hb h1
      have c2 := cell_stay hb h2
      obtain ⟨A1, cc1, rfl⟩ := row_form hown
      have HO := Lib.hid hown
      clear hown
      go_loopw [6, 27] (fun v i w2 => Below w.heap.size w w2 ∧ ((i = .int .i64 0 ∧ Ow flS w2 w.heap.size 9 v []) ∨ (i = .int .i64 1 ∧ Ow flS w2 w.heap.size 9 v qs) ∨ (i = .int .i64 2 ∧ Ow flS w2 w.heap.size 9 v (qs ++ fs)) ∨ (i = .int .i64 3 ∧ Ow flS w2 w.heap.size 9 v ((qs ++ fs) ++ hs)))) (fun _ i _ => 3 - (intOf i).toNat)
      case atStart => exact ⟨hb, .inl ⟨rfl, HO.out⟩⟩
      case round =>
        obtain ⟨hb2, ⟨rfl, hown⟩ | ⟨rfl, hown⟩ | ⟨rfl, hown⟩ | ⟨rfl, hown⟩⟩ := hrel
        · have c0 := cell_stay hb2 h0
          have HO := Lib.hid hown
          have HB := Lib.hid hb2
          clear hown hb2
          go_wp2_with (at_builtin; refine wpList_append_any _ rfl (.tmp 31) (.tmp 32) _ rfl w.heap.size 9 i0 _ 1 16 Tryd.underlying22 hi0 hz0 hz1 hz2 rfl (by omega) _ 0 [] rfl HO.out _ Q q qc (qs.flatMap flS.enc) rfl ((HQ.out.stay HB.out).rf.reads (by decide)) (flat_one flS qs) (by have := HLQ.out; have := HLF.out; have := HLH.out; simp only [maxLen]; omega) (by have := HLQ.out; have := HLF.out; have := HLH.out; omega) (by have := HB.out.size; omega) ?_; intro v3 w3 hown3 hg3 hat3)
          go_roundw
          case rel => refine ⟨_, _, _, _, _, _, _, _, _, _, ?_, rfl⟩; exact ⟨HB.out.grown hg3 HB.out.size HO.out.base_, .inr (.inl ⟨by go_num, by have := Ow.join (f := flS) (xs := []) (ys := qs) (m := q) HLQ.out hown3; simpa using this⟩)⟩
          case measure => simp [intOf]
        · have c1 := cell_stay hb2 h1
          have HO := Lib.hid hown
          have HB := Lib.hid hb2
          clear hown hb2
          go_wp2_with (at_builtin; refine wpList_append_any _ rfl (.tmp 31) (.tmp 32) _ rfl w.heap.size 9 i0 _ 1 16 Tryd.underlying22 hi0 hz0 hz1 hz2 rfl (by omega) _ qs.length (qs.flatMap flS.enc) rfl HO.out _ F f fc (fs.flatMap flS.enc) rfl ((HF.out.stay HB.out).rf.reads (by decide)) (flat_one flS fs) (by have := HLQ.out; have := HLF.out; have := HLH.out; simp only [maxLen]; omega) (by have := HLQ.out; have := HLF.out; have := HLH.out; omega) (by have := HB.out.size; omega) ?_; intro v3 w3 hown3 hg3 hat3)
          go_roundw
          case rel => refine ⟨_, _, _, _, _, _, _, _, _, _, ?_, rfl⟩; exact ⟨HB.out.grown hg3 HB.out.size HO.out.base_, .inr (.inr (.inl ⟨by go_num, Ow.join (f := flS) (xs := qs) (ys := fs) (m := f) HLF.out hown3⟩))⟩
          case measure => simp [intOf]
        · have c2 := cell_stay hb2 h2
          have HO := Lib.hid hown
          have HB := Lib.hid hb2
          clear hown hb2
          go_wp2_with (at_builtin; refine wpList_append_any _ rfl (.tmp 31) (.tmp 32) _ rfl w.heap.size 9 i0 _ 1 16 Tryd.underlying22 hi0 hz0 hz1 hz2 rfl (by omega) _ (qs ++ fs).length ((qs ++ fs).flatMap flS.enc) rfl HO.out _ H h hc (hs.flatMap flS.enc) rfl ((HH.out.stay HB.out).rf.reads (by decide)) (flat_one flS hs) (by have := HLQ.out; have := HLF.out; have := HLH.out; simp only [maxLen, List.length_append]; omega) (by have := HLQ.out; have := HLF.out; have := HLH.out; simp only [List.length_append]; omega) (by have := HB.out.size; omega) ?_; intro v3 w3 hown3 hg3 hat3)
          go_roundw
          case rel => refine ⟨_, _, _, _, _, _, _, _, _, _, ?_, rfl⟩; exact ⟨HB.out.grown hg3 HB.out.size HO.out.base_, .inr (.inr (.inr ⟨by go_num, Ow.join (f := flS) (xs := (qs ++ fs)) (ys := hs) (m := h) HLH.out hown3⟩))⟩
          case measure => simp [intOf]
        · go_wp2_with fail
          go_ret
          exact ⟨_, rfl, hown, hb2⟩
end Go.Proofs.YtmdnmiiggkfnfaaDoor

/- The reference's Print. -/
set_option linter.unusedVariables false
set_option linter.unusedSimpArgs false
namespace Go.Proofs.YtmdnmiiggkfnfaaDoor
open Go.RowKit

def secNm (L : Lay) (i : Int) : ByteArray := L.secs.getD i.toNat ByteArray.empty
def sigNm (L : Lay) (i : Int) : ByteArray := L.sigs.getD i.toNat ByteArray.empty
def secL (s x : ByteArray) : ByteArray := ((s ++ ⟨#[115, 101, 99, 116, 105, 111, 110, 32]⟩) ++ x) ++ ⟨#[10]⟩
def sigL (s x : ByteArray) : ByteArray := ((s ++ ⟨#[115, 105, 103, 110, 97, 108, 32]⟩) ++ x) ++ ⟨#[10]⟩
def ptL (L : Lay) (s : ByteArray) (p : Pt) : ByteArray := ((((s ++ ⟨#[112, 111, 105, 110, 116, 32]⟩) ++ p.name) ++ ⟨#[32, 105, 110, 32]⟩) ++ secNm L p.sec) ++ ⟨#[10]⟩
def viaS (L : Lay) (s : ByteArray) (i : Int) : ByteArray := (s ++ ⟨#[32]⟩) ++ secNm L i
def rt1 (L : Lay) (s : ByteArray) (r : Rte) : ByteArray := ((((((s ++ ⟨#[114, 111, 117, 116, 101, 32]⟩) ++ r.name) ++ ⟨#[32, 102, 114, 111, 109, 32]⟩) ++ sigNm L r.frm) ++ ⟨#[32, 116, 111, 32]⟩) ++ sigNm L r.dest) ++ ⟨#[32, 118, 105, 97]⟩
def wn (L : Lay) (word s : ByteArray) (ns : List Need) : ByteArray := if ns.length = 0 then s else (s ++ word) ++ wantsR L ns
def setB : ByteArray := ⟨#[32, 115, 101, 116]⟩
def flkB : ByteArray := ⟨#[32, 102, 108, 97, 110, 107]⟩
def rtL (L : Lay) (s : ByteArray) (r : Rte) : ByteArray := wn L flkB (wn L setB (r.path.foldl (viaS L) (rt1 L s r)) r.points) r.flank ++ ⟨#[10]⟩
def px1 (L : Lay) : ByteArray := L.secs.foldl secL ⟨#[]⟩
def px2 (L : Lay) : ByteArray := L.sigs.foldl sigL (px1 L)
def px3 (L : Lay) : ByteArray := L.pts.foldl (ptL L) (px2 L)
def printR (L : Lay) : ByteArray := L.rtes.foldl (rtL L) (px3 L)
theorem foldl_size {α : Type} {f : ByteArray → α → ByteArray} (hf : ∀ s x, s.size ≤ (f s x).size) : ∀ (l : List α) (s : ByteArray), s.size ≤ (l.foldl f s).size
  | [], s => Nat.le_refl _
  | x :: l, s => Nat.le_trans (hf s x) (foldl_size hf l (f s x))
theorem foldl_take_size {α : Type} {f : ByteArray → α → ByteArray} (hf : ∀ s x, s.size ≤ (f s x).size) (l : List α) (s : ByteArray) (k : Nat) : ((l.take k).foldl f s).size ≤ (l.foldl f s).size := by
  have := foldl_size hf (l.drop k) ((l.take k).foldl f s)
  rwa [← List.foldl_append, List.take_append_drop] at this
theorem foldl_more {α : Type} (f : ByteArray → α → ByteArray) {l : List α} {k : Nat} {y : α} (s : ByteArray) (hy : l[k]? = some y) : (l.take (k + 1)).foldl f s = f ((l.take k).foldl f s) y := by
  rw [take_more hy, List.foldl_append]
  rfl
theorem secL_size (s x : ByteArray) : s.size ≤ (secL s x).size := by simp only [secL, ByteArray.size_append]; omega
theorem sigL_size (s x : ByteArray) : s.size ≤ (sigL s x).size := by simp only [sigL, ByteArray.size_append]; omega
theorem ptL_size (L : Lay) (s : ByteArray) (x : Pt) : s.size ≤ (ptL L s x).size := by simp only [ptL, ByteArray.size_append]; omega
theorem viaS_size (L : Lay) (s : ByteArray) (x : Int) : s.size ≤ (viaS L s x).size := by simp only [viaS, ByteArray.size_append]; omega
theorem rt1_size (L : Lay) (s : ByteArray) (x : Rte) : s.size ≤ (rt1 L s x).size := by simp only [rt1, ByteArray.size_append]; omega
theorem wn_size (L : Lay) (word s : ByteArray) (ns : List Need) : s.size ≤ (wn L word s ns).size := by
  unfold wn
  split
  · exact Nat.le_refl _
  · simp only [ByteArray.size_append]; omega
theorem rtL_size (L : Lay) (s : ByteArray) (x : Rte) : s.size ≤ (rtL L s x).size := by
  have h1 := rt1_size L s x
  have h2 := foldl_size (viaS_size L) x.path (rt1 L s x)
  have h3 := wn_size L setB (x.path.foldl (viaS L) (rt1 L s x)) x.points
  have h4 := wn_size L flkB (wn L setB (x.path.foldl (viaS L) (rt1 L s x)) x.points) x.flank
  unfold rtL
  rw [ByteArray.size_append]
  omega
/-- All its numbers lie where they must. -/
structure InNums (L : Lay) : Prop where
  pts : ∀ x ∈ L.pts, 0 ≤ x.sec ∧ x.sec < L.secs.length
  ends : ∀ x ∈ L.rtes, 0 ≤ x.frm ∧ x.frm < L.sigs.length ∧ 0 ≤ x.dest ∧ x.dest < L.sigs.length
  path : ∀ x ∈ L.rtes, ∀ i ∈ x.path, 0 ≤ i ∧ i < L.secs.length
  points : ∀ x ∈ L.rtes, InPts L x.points ∧ (wantsR L x.points).size ≤ 1000000000000
  flank : ∀ x ∈ L.rtes, InPts L x.flank ∧ (wantsR L x.flank).size ≤ 1000000000000
  small : (printR L).size ≤ 1000000000000
  nm : NmOk L 3000
theorem pxnm_at {l : List ByteArray} {i : Nat} {y : ByteArray} (h : l[i]? = some y) : l.getD i ByteArray.empty = y := by
  rw [List.getD_eq_getElem?_getD, h]
  rfl
section
variable {L : Lay} {A1 A2 A3 A4 : Option Addr} {n1 c1 n2 c2 n3 c3 n4 c4 : Nat}
set_option maxRecDepth 20000 in
set_option maxHeartbeats 8000000 in
theorem RPrint_calls (w : World) (hL : LayV w L A1 A2 A3 A4 n1 c1 n2 c2 n3 c3 n4 c4) (hI : InNums L) :
    Calls Tryd.prog 14 #[.agg #[.slice A1 n1 c1, .slice A2 n2 c2, .slice A3 n3 c3, .slice A4 n4 c4]] w fun e w' => e = .returned (.string (printR L)) ∧ Below w.heap.size w w' := by
  have hbw : Below w.heap.size w (w.alloc (.cells #[.slice A1 n1 c1, .slice A2 n2 c2, .slice A3 n3 c3, .slice A4 n4 c4] 26)) := below_new w _
  have hB := Blk.new w #[.slice A1 n1 c1, .slice A2 n2 c2, .slice A3 n3 c3, .slice A4 n4 c4] 26 (0, 0)
  have HX : Hid (LayX (w.alloc (.cells #[.slice A1 n1 c1, .slice A2 n2 c2, .slice A3 n3 c3, .slice A4 n4 c4] 26)) w.heap.size L A1 A2 A3 A4 n1 c1 n2 c2 n3 c3 n4 c4) := Lib.hid ⟨hB.cell 0, hB.cell 1, hB.cell 2, hB.cell 3, hL.stay hbw⟩
  have HI := Lib.hid hI
  have HL := Lib.hid (And.intro hL.secs.len (And.intro hL.pts.len (And.intro hL.sigs.len hL.rtes.len)))
  have HBW := Lib.hid hbw
  have b0 := HX.out.b0
  have b1 := HX.out.b1
  have b2 := HX.out.b2
  have b3 := HX.out.b3
  have z1 := hL.secs.sz
  have z2 := hL.pts.sz
  have z3 := hL.sigs.sz
  have z4 := hL.rtes.rd.2.1
  have q1 := Nat.le_trans hL.secs.le hL.secs.cap
  have q2 := Nat.le_trans hL.pts.le hL.pts.cap
  have q3 := Nat.le_trans hL.sigs.le hL.sigs.cap
  have q4 := Nat.le_trans hL.rtes.le hL.rtes.cap
  have P3 : (px3 L).size ≤ 1000000000000 := Nat.le_trans (foldl_size (rtL_size L) L.rtes (px3 L)) hI.small
  have P2 : (px2 L).size ≤ 1000000000000 := Nat.le_trans (foldl_size (ptL_size L) L.pts (px2 L)) P3
  have P1 : (px1 L).size ≤ 1000000000000 := Nat.le_trans (foldl_size sigL_size L.sigs (px1 L)) P2
  have HP := Lib.hid (And.intro P1 (And.intro P2 P3))
  clear hL hI hB hbw P1 P2 P3
  go_enter Tryd.func14, Tryd.ntmps14
  go_upto_block 0 with fail
  generalize hg : w.heap.size = g at *
  have HG := Lib.hid hg
  generalize w.alloc (.cells #[.slice A1 n1 c1, .slice A2 n2 c2, .slice A3 n3 c3, .slice A4 n4 c4] 26) = W at *
  clear hg
  go_cut [3] (fun s3 wx => s3 = .string (px1 L) ∧ wx = W)
  case first =>
    go_wp2_with fail
    go_loop [3, 4] (fun s i => ∃ k : Nat, k ≤ n1 ∧ i = .int .i64 k ∧ s = .string ((L.secs.take k).foldl secL ⟨#[]⟩)) (fun _ i => n1 - (intOf i).toNat)
    case atStart => exact ⟨0, by omega, rfl, rfl⟩
    case round =>
      obtain ⟨k, hk, rfl, rfl⟩ := hrel
      by_cases hlt : k < n1
      · obtain ⟨b, off, y, rfl, hy, x0⟩ := HX.out.v.secs.str hlt
        have HS := Lib.hid (foldl_more secL ⟨#[]⟩ hy)
        have hs := Nat.le_trans (foldl_take_size secL_size L.secs ⟨#[]⟩ k) HP.out.1
        have hys := HI.out.nm.secs y (List.mem_of_getElem? hy)
        generalize (L.secs.take k).foldl secL ⟨#[]⟩ = s0 at *
        clear hy
        go_wp2_with fail
        go_round
        case rel => exact ⟨k + 1, by omega, by go_num, by rw [HS.out]; rfl⟩
        case measure => simp [intOf]; omega
      · obtain rfl : k = n1 := by omega
        have HT := Lib.hid (show L.secs.take k = L.secs from List.take_of_length_le (by rw [HL.out.1]; omega))
        go_wp2_with fail
        go_meet
        exact ⟨by rw [HT.out]; rfl, rfl⟩
  case rest =>
  obtain ⟨rfl, hwx⟩ := hcut
  obtain rfl : W = wc := hwx.symm
  clear hwx
  go_upto_block 2 with fail
  go_cut [3] (fun s3 wx => s3 = .string (px2 L) ∧ wx = W)
  case first =>
    go_wp2_with fail
    go_loop [3, 5] (fun s i => ∃ k : Nat, k ≤ n3 ∧ i = .int .i64 k ∧ s = .string ((L.sigs.take k).foldl sigL (px1 L))) (fun _ i => n3 - (intOf i).toNat)
    case atStart => exact ⟨0, by omega, rfl, rfl⟩
    case round =>
      obtain ⟨k, hk, rfl, rfl⟩ := hrel
      by_cases hlt : k < n3
      · obtain ⟨b, off, y, rfl, hy, x0⟩ := HX.out.v.sigs.str hlt
        have HS := Lib.hid (foldl_more sigL (px1 L) hy)
        have hs := Nat.le_trans (foldl_take_size sigL_size L.sigs (px1 L) k) HP.out.2.1
        have hys := HI.out.nm.sigs y (List.mem_of_getElem? hy)
        generalize (L.sigs.take k).foldl sigL (px1 L) = s0 at *
        clear hy
        go_wp2_with fail
        go_round
        case rel => exact ⟨k + 1, by omega, by go_num, by rw [HS.out]; rfl⟩
        case measure => simp [intOf]; omega
      · obtain rfl : k = n3 := by omega
        have HT := Lib.hid (show L.sigs.take k = L.sigs from List.take_of_length_le (by rw [HL.out.2.2.1]; omega))
        go_wp2_with fail
        go_meet
        exact ⟨by rw [HT.out]; rfl, rfl⟩
  case rest =>
  obtain ⟨rfl, hwx⟩ := hcut
  obtain rfl : W = wc := hwx.symm
  clear hwx
  go_upto_block 4 with fail
  go_cut [3] (fun s3 wx => s3 = .string (px3 L) ∧ Below W.heap.size W wx)
  case first =>
    go_wp2_with fail
    go_loopw [3, 6] (fun s i wr => ∃ k : Nat, k ≤ n2 ∧ i = .int .i64 k ∧ s = .string ((L.pts.take k).foldl (ptL L) (px2 L)) ∧ Below W.heap.size W wr) (fun _ i _ => n2 - (intOf i).toNat)
    case atStart => exact ⟨0, by omega, rfl, rfl, Below.refl _ _⟩
    case round =>
      obtain ⟨k, hk, rfl, rfl, hb⟩ := hrel
      replace b0 := cell_stay hb b0
      replace b1 := cell_stay hb b1
      by_cases hlt : k < n2
      · obtain ⟨b, off, y, rfl, hy, x0, x1⟩ := (HX.out.v.pts.stay hb).pt hlt
        have HS := Lib.hid (foldl_more (ptL L) (px2 L) hy)
        have hs := Nat.le_trans (foldl_take_size (ptL_size L) L.pts (px2 L) k) HP.out.2.2
        have hys := HI.out.nm.pts y (List.mem_of_getElem? hy)
        obtain ⟨hp0, hp1⟩ := HI.out.pts y (List.mem_of_getElem? hy)
        generalize (L.pts.take k).foldl (ptL L) (px2 L) = s0 at *
        obtain ⟨yn, ys⟩ := y
        simp only at hys hp0 hp1 x0 x1
        have hi : ys.toNat < n1 := by rw [← HL.out.1]; omega
        obtain ⟨b4, off4, z, rfl, hz, y0⟩ := (HX.out.v.secs.stay hb).str hi
        have hzs := HI.out.nm.secs z (List.mem_of_getElem? hz)
        have HN : Hid (secNm L ys = z) := Lib.hid (pxnm_at hz)
        have hyp : ((ys.toNat : Nat) : Int) = ys := by omega
        generalize hyn : ys.toNat = ypn at *
        subst hyp
        have HS2 : Hid ((L.pts.take (k + 1)).foldl (ptL L) (px2 L) = ((((s0 ++ ⟨#[112, 111, 105, 110, 116, 32]⟩) ++ yn) ++ ⟨#[32, 105, 110, 32]⟩) ++ z) ++ ⟨#[10]⟩) := Lib.hid (by rw [HS.out, ← HN.out]; rfl)
        have HB := Lib.hid hb
        clear hy hz hyn hb HS HN
        have Lb0 := later_cell b0
        have Lb1 := later_cell b1
        have Lx0 := later_cell x0
        have Lx1 := later_cell x1
        have Ly0 := later_cell y0
        go_wp2_with fail
        refine wp_region_later (by kernel_rfl) (by kernel_rfl) ?_
        repeat (go_big_quiet_step (fail))
        refine wpQuiet_nil ?_
        intro q0
        go_wp2_with fail
        go_roundw
        case rel => exact ⟨k + 1, by omega, by go_num, by rw [HS2.out], below_more HB.out q0.hb⟩
        case measure => simp [intOf]; omega
      · obtain rfl : k = n2 := by omega
        have HT := Lib.hid (show L.pts.take k = L.pts from List.take_of_length_le (by rw [HL.out.2.1]; omega))
        have HB := Lib.hid hb
        clear hb
        go_wp2_with fail
        go_meet
        exact ⟨by rw [HT.out]; rfl, HB.out⟩
  case rest =>
  obtain ⟨rfl, hbc⟩ := hcut
  have HBC := Lib.hid hbc
  clear hbc
  go_wp2_with fail
  go_loopw [3, 7] (fun s i wr => ∃ k : Nat, k ≤ n4 ∧ i = .int .i64 k ∧ s = .string ((L.rtes.take k).foldl (rtL L) (px3 L)) ∧ Below W.heap.size W wr) (fun _ i _ => n4 - (intOf i).toNat)
  case atStart => exact ⟨0, by omega, rfl, rfl, HBC.out⟩
  case round =>
    obtain ⟨k, hk, rfl, rfl, hb⟩ := hrel
    replace b0 := cell_stay hb b0
    replace b1 := cell_stay hb b1
    replace b2 := cell_stay hb b2
    replace b3 := cell_stay hb b3
    by_cases hlt : k < n4
    · obtain ⟨b, off, y, P, Q, F, p, pc, q, qc, f, fc, rfl, hy, e0, e1, e2, e3, e4, e5, hv⟩ := (HX.out.v.rtes.stay hb).at_ hlt
      have hmem := List.mem_of_getElem? hy
      have HS := Lib.hid (foldl_more (rtL L) (px3 L) hy)
      have hs := Nat.le_trans (foldl_take_size (rtL_size L) L.rtes (px3 L) k) HI.out.small
      have hs1 := Nat.le_trans (foldl_take_size (rtL_size L) L.rtes (px3 L) (k + 1)) HI.out.small
      have hys := HI.out.nm.rtes y hmem
      obtain ⟨hf0, hf1, hd0, hd1⟩ := HI.out.ends y hmem
      have HPA := Lib.hid (HI.out.path y hmem)
      have HPN := Lib.hid (HI.out.points y hmem)
      have HFL := Lib.hid (HI.out.flank y hmem)
      have HV := Lib.hid hv
      have HQL := Lib.hid (And.intro hv.path.len (And.intro hv.points.len hv.flank.len))
      have zp := Nat.le_trans hv.path.le hv.path.cap
      have zq := Nat.le_trans hv.points.le hv.points.cap
      have zf := Nat.le_trans hv.flank.le hv.flank.cap
      generalize (L.rtes.take k).foldl (rtL L) (px3 L) = s0 at *
      obtain ⟨rn, rf, rt, rp, rq, rl⟩ := y
      simp only at hys hf0 hf1 hd0 hd1 e0 e1 e2 HPA HPN HFL HQL
      have hi : rf.toNat < n3 := by rw [← HL.out.2.2.1]; omega
      obtain ⟨b5, off5, zf1, hA3, hz5, y5⟩ := (HX.out.v.sigs.stay hb).str hi
      have hj : rt.toNat < n3 := by rw [← HL.out.2.2.1]; omega
      obtain ⟨b6, off6, zt1, hA3', hz6, y6⟩ := (HX.out.v.sigs.stay hb).str hj
      rw [hA3] at hA3'
      injection hA3' with hA3'
      injection hA3' with h51 h52
      subst h51 h52 hA3
      have hz5s := HI.out.nm.sigs zf1 (List.mem_of_getElem? hz5)
      have hz6s := HI.out.nm.sigs zt1 (List.mem_of_getElem? hz6)
      have HN5 : Hid (sigNm L rf = zf1) := Lib.hid (pxnm_at hz5)
      have HN6 : Hid (sigNm L rt = zt1) := Lib.hid (pxnm_at hz6)
      have hr5 : ((rf.toNat : Nat) : Int) = rf := by omega
      have hr6 : ((rt.toNat : Nat) : Int) = rt := by omega
      have HR1 : Hid (rt1 L s0 ⟨rn, rf, rt, rp, rq, rl⟩ = ((((((s0 ++ ⟨#[114, 111, 117, 116, 101, 32]⟩) ++ rn) ++ ⟨#[32, 102, 114, 111, 109, 32]⟩) ++ zf1) ++ ⟨#[32, 116, 111, 32]⟩) ++ zt1) ++ ⟨#[32, 118, 105, 97]⟩) := Lib.hid (by rw [← HN5.out, ← HN6.out]; rfl)
      generalize rf.toNat = rfn at *
      generalize rt.toNat = rtn at *
      subst hr5 hr6
      have HB := Lib.hid hb
      have HS1 := Lib.hid hs1
      clear hb hv hy hz5 hz6 HN5 HN6 hmem hs1
      go_wp2_with fail
      have hbx := below_new wr (.cells #[.string rn, .int .i64 rfn, .int .i64 rtn, .slice P p pc, .slice Q q qc, .slice F f fc] 44)
      have hBX := Blk.new wr #[.string rn, .int .i64 rfn, .int .i64 rtn, .slice P p pc, .slice Q q qc, .slice F f fc] 44 (0, 0)
      have r0 := hBX.cell 0
      have r1 := hBX.cell 1
      have r2 := hBX.cell 2
      have r3 := hBX.cell 3
      have r4 := hBX.cell 4
      have r5 := hBX.cell 5
      simp only [List.getElem?_toArray, List.getElem?_cons_zero, List.getElem?_cons_succ] at r0 r1 r2 r3 r4 r5
      replace b0 := cell_stay hbx b0
      replace b1 := cell_stay hbx b1
      replace b2 := cell_stay hbx b2
      replace b3 := cell_stay hbx b3
      replace y5 := cell_stay hbx y5
      replace y6 := cell_stay hbx y6
      have HB1 := Lib.hid (below_more HB.out hbx)
      have HV1 := Lib.hid (HV.out.stay hbx)
      generalize hgr : wr.heap.size = gr at *
      generalize wr.alloc (.cells #[.string rn, .int .i64 rfn, .int .i64 rtn, .slice P p pc, .slice Q q qc, .slice F f fc] 44) = W1 at *
      clear hbx hBX e0 e1 e2 e3 e4 e5 HB HV hgr
      have Lb2 := later_cell b2
      have Lr0 := later_cell r0
      have Lr1 := later_cell r1
      have Lr2 := later_cell r2
      have Ly5 := later_cell y5
      have Ly6 := later_cell y6
      refine wp_region_later (by kernel_rfl) (by kernel_rfl) ?_
      repeat (go_big_quiet_step (fail))
      refine wpQuiet_nil ?_
      intro q0
      replace b0 := cell_stay q0.hb b0
      replace b1 := cell_stay q0.hb b1
      replace b2 := cell_stay q0.hb b2
      replace b3 := cell_stay q0.hb b3
      replace r3 := cell_stay q0.hb r3
      replace r4 := cell_stay q0.hb r4
      replace r5 := cell_stay q0.hb r5
      have HB2 := Lib.hid (below_more HB1.out q0.hb)
      have HV2 := Lib.hid (HV1.out.stay q0.hb)
      clear Lb2 Lr0 Lr1 Lr2 Ly5 Ly6 HB1 HV1 y5 y6 r0 r1 r2
      generalize q0.w1 = W2 at *
      generalize hs2 : rt1 L s0 ⟨rn, rfn, rtn, rp, rq, rl⟩ = s2 at *
      have HS2 : Hid ((rp.foldl (viaS L) s2).size ≤ 1000000000000 ∧ (wn L setB (rp.foldl (viaS L) s2) rq).size ≤ 1000000000000 ∧ (wn L flkB (wn L setB (rp.foldl (viaS L) s2) rq) rl).size < 1000000000000) := Lib.hid (by
        have h0 := HS1.out
        rw [HS.out] at h0
        unfold rtL at h0
        rw [hs2] at h0
        simp only [ByteArray.size_append] at h0
        have e1 : (⟨#[10]⟩ : ByteArray).size = 1 := rfl
        have h3 := wn_size L setB (rp.foldl (viaS L) s2) rq
        have h4 := wn_size L flkB (wn L setB (rp.foldl (viaS L) s2) rq) rl
        refine ⟨?_, ?_, ?_⟩ <;> omega)
      have HSE : Hid ((L.rtes.take (k + 1)).foldl (rtL L) (px3 L) = wn L flkB (wn L setB (rp.foldl (viaS L) s2) rq) rl ++ ⟨#[10]⟩) := Lib.hid (by
        rw [HS.out]
        unfold rtL
        rw [hs2])
      clear HS HS1 hs hys hs2
      rw [← HR1.out]
      clear HR1
      go_wp2_with fail
      go_loopw [3, 9] (fun s i wr => ∃ j : Nat, j ≤ p ∧ i = .int .i64 j ∧ s = .string ((rp.take j).foldl (viaS L) s2) ∧ Below W2.heap.size W2 wr) (fun _ i _ => p - (intOf i).toNat)
      case atStart => exact ⟨0, by omega, rfl, rfl, Below.refl _ _⟩
      case round =>
        obtain ⟨j, hj, rfl, rfl, hb⟩ := hrel
        have KB0 := HX.out.b0
        replace b0 := cell_stay hb b0
        replace b1 := cell_stay hb b1
        replace b2 := cell_stay hb b2
        replace b3 := cell_stay hb b3
        replace r3 := cell_stay hb r3
        replace r4 := cell_stay hb r4
        replace r5 := cell_stay hb r5
        by_cases hlt2 : j < p
        · obtain ⟨b7, off7, y, rfl, hy, x0⟩ := (HV2.out.path.stay hb).int hlt2
          obtain ⟨hp0, hp1⟩ := HPA.out y (List.mem_of_getElem? hy)
          have HS := Lib.hid (foldl_more (viaS L) s2 hy)
          have hs := Nat.le_trans (foldl_take_size (viaS_size L) rp s2 j) HS2.out.1
          generalize (rp.take j).foldl (viaS L) s2 = s3 at *
          have hi : y.toNat < n1 := by rw [← HL.out.1]; omega
          obtain ⟨b8, off8, z, rfl, hz, y0⟩ := (HX.out.v.secs.stay (below_more HB2.out hb)).str hi
          have hzs := HI.out.nm.secs z (List.mem_of_getElem? hz)
          have HN : Hid (secNm L y = z) := Lib.hid (pxnm_at hz)
          have hyp : ((y.toNat : Nat) : Int) = y := by omega
          have HSN : Hid ((rp.take (j + 1)).foldl (viaS L) s2 = (s3 ++ ⟨#[32]⟩) ++ z) := Lib.hid (by rw [HS.out, ← HN.out]; rfl)
          generalize y.toNat = ypn at *
          subst hyp
          have HB := Lib.hid hb
          clear hy hz hb HS HN KB0
          have Lb0 := later_cell b0
          have Lr3 := later_cell r3
          have Lx0 := later_cell x0
          have Ly0 := later_cell y0
          go_wp2_with fail
          refine wp_region_later (by kernel_rfl) (by kernel_rfl) ?_
          repeat (go_big_quiet_step (fail))
          refine wpQuiet_nil ?_
          intro q0
          go_wp2_with fail
          go_roundw
          case rel => exact ⟨j + 1, by omega, by go_num, by rw [HSN.out], below_more HB.out q0.hb⟩
          case measure => simp [intOf]; omega
        · obtain rfl : j = p := by omega
          have HT := Lib.hid (show (rp.take j).foldl (viaS L) s2 = rp.foldl (viaS L) s2 by rw [List.take_of_length_le (by rw [HQL.out.1]; omega)])
          rw [HT.out]
          have HB3 := Lib.hid (below_more HB2.out hb)
          have HV3 := Lib.hid (HV2.out.stay hb)
          generalize rp.foldl (viaS L) s2 = s3 at *
          have hs3 := HS2.out.1
          have hs4 := HS2.out.2.1
          have hs5 := HS2.out.2.2
          have hw1 := HPN.out.2
          have hw2 := HFL.out.2
          have KQ := Lib.hid (fun (U : World) (h : Below W.heap.size W U) (h2 : Sl flN U Q q qc rq) => RWants_calls U (HX.out.v.stay h) h2 HPN.out.1 hw1)
          have KF := Lib.hid (fun (U : World) (h : Below W.heap.size W U) (h2 : Sl flN U F f fc rl) => RWants_calls U (HX.out.v.stay h) h2 HFL.out.1 hw2)
          generalize hrq : wantsR L rq = tq at *
          generalize hrl : wantsR L rl = tl at *
          have HQ1 : Hid (q = 0 → wn L setB s3 rq = s3) := Lib.hid (fun h => by unfold wn; rw [if_pos (by rw [HQL.out.2.1]; exact h)])
          have HQ2 : Hid (0 < q → wn L setB s3 rq = (s3 ++ ⟨#[32, 115, 101, 116]⟩) ++ tq) := Lib.hid (fun h => by unfold wn; rw [if_neg (by rw [HQL.out.2.1]; omega), hrq]; rfl)
          have HF1 : Hid (∀ t, f = 0 → wn L flkB t rl = t) := Lib.hid (fun t h => by unfold wn; rw [if_pos (by rw [HQL.out.2.2]; exact h)])
          have HF2 : Hid (∀ t, 0 < f → wn L flkB t rl = (t ++ ⟨#[32, 102, 108, 97, 110, 107]⟩) ++ tl) := Lib.hid (fun t h => by unfold wn; rw [if_neg (by rw [HQL.out.2.2]; omega), hrl]; rfl)
          clear hb hrq hrl HT
          rcases Nat.eq_zero_or_pos q with hq | hq
          · rcases Nat.eq_zero_or_pos f with hf | hf
            · have hq' : ¬ ((0 : Int) < (q : Int)) := by omega
              have hf' : ¬ ((0 : Int) < (f : Int)) := by omega
              go_wp2_with (first | fail)
              go_roundw
              case rel => exact ⟨k + 1, by omega, by go_num, by rw [HSE.out, HQ1.out hq, HF1.out _ hf], HB3.out⟩
              case measure => simp [intOf]; omega
            · have hq' : ¬ ((0 : Int) < (q : Int)) := by omega
              go_wp2_with (first | (go_at_call 26; (with_reducible refine (KF.out _ HB3.out HV3.out.flank).mono ?_); rintro en w6 ⟨rfl, hb6⟩; have HB6 := Lib.hid (below_more HB3.out hb6); clear hb6) | fail)
              go_roundw
              case rel => exact ⟨k + 1, by omega, by go_num, by rw [HSE.out, HQ1.out hq, HF2.out _ hf], HB6.out⟩
              case measure => simp [intOf]; omega
          · rcases Nat.eq_zero_or_pos f with hf | hf
            · have hf' : ¬ ((0 : Int) < (f : Int)) := by omega
              go_wp2_with (first | (go_at_call 26; (with_reducible refine (KQ.out _ HB3.out HV3.out.points).mono ?_); rintro en w5 ⟨rfl, hb5⟩; have HB5 := Lib.hid (below_more HB3.out hb5); have HV5 := Lib.hid (HV3.out.stay hb5); replace b0 := cell_stay hb5 b0; replace b1 := cell_stay hb5 b1; replace b2 := cell_stay hb5 b2; replace b3 := cell_stay hb5 b3; replace r4 := cell_stay hb5 r4; replace r5 := cell_stay hb5 r5; clear hb5) | fail)
              go_roundw
              case rel => exact ⟨k + 1, by omega, by go_num, by rw [HSE.out, HQ2.out hq, HF1.out _ hf], HB5.out⟩
              case measure => simp [intOf]; omega
            · go_wp2_with (first | (go_at_call 26; (with_reducible refine (KQ.out _ HB3.out HV3.out.points).mono ?_); rintro en w5 ⟨rfl, hb5⟩; have HB5 := Lib.hid (below_more HB3.out hb5); have HV5 := Lib.hid (HV3.out.stay hb5); replace b0 := cell_stay hb5 b0; replace b1 := cell_stay hb5 b1; replace b2 := cell_stay hb5 b2; replace b3 := cell_stay hb5 b3; replace r4 := cell_stay hb5 r4; replace r5 := cell_stay hb5 r5; clear hb5) | (go_at_call 26; (with_reducible refine (KF.out _ HB5.out HV5.out.flank).mono ?_); rintro en w6 ⟨rfl, hb6⟩; have HB6 := Lib.hid (below_more HB5.out hb6); clear hb6) | fail)
              go_roundw
              case rel => exact ⟨k + 1, by omega, by go_num, by rw [HSE.out, HQ2.out hq, HF2.out _ hf], HB6.out⟩
              case measure => simp [intOf]; omega
    · obtain rfl : k = n4 := by omega
      have HT := Lib.hid (show L.rtes.take k = L.rtes from List.take_of_length_le (by rw [HL.out.2.2.2]; omega))
      have HB := Lib.hid hb
      clear hb
      go_wp2_with fail
      go_ret
      exact ⟨by rw [HT.out]; rfl, below_more (by rw [HG.out]; exact HBW.out) HB.out⟩
end
end Go.Proofs.YtmdnmiiggkfnfaaDoor

/- plan's wanted: Needs as words. -/
set_option linter.unusedVariables false
set_option linter.unusedSimpArgs false
namespace Go.Proofs.YtmdnmiiggkfnfaaDoor
open Go.RowKit

def needB (L : Lay) (x : Need) : ByteArray := ptNm L x.p ++ signB x.r
def wantW (L : Lay) (word : ByteArray) (ns : List Need) : List ByteArray := if ns.length = 0 then [] else word :: ns.map (needB L)
section
variable {L : Lay} {A1 A2 A3 A4 Q : Option Addr} {n1 c1 n2 c2 n3 c3 n4 c4 : Nat} {ns : List Need}
set_option maxRecDepth 20000 in
set_option maxHeartbeats 4000000 in
theorem Wanted_calls (w : World) (word : ByteArray) (q qc : Nat) (hL : LayV w L A1 A2 A3 A4 n1 c1 n2 c2 n3 c3 n4 c4) (hQ : Sl flN w Q q qc ns) (hP : InPts L ns) (hN : NmOk L 3000) (hq : q ≤ 1000000) :
    Calls Tryd.prog 34 #[.agg #[.slice A1 n1 c1, .slice A2 n2 c2, .slice A3 n3 c3, .slice A4 n4 c4], .string word, .slice Q q qc] w fun e w' => ∃ F f fc, e = .returned (.slice F f fc) ∧ Sl flS w' F f fc (wantW L word ns) ∧ Below w.heap.size w w' := by
  obtain ⟨i0, hi0, hz0, hz1, hz2⟩ := info_parts info_s3
  have hbw : Below w.heap.size w (w.alloc (.cells #[.slice A1 n1 c1, .slice A2 n2 c2, .slice A3 n3 c3, .slice A4 n4 c4] 26)) := below_new w _
  have hB := Blk.new w #[.slice A1 n1 c1, .slice A2 n2 c2, .slice A3 n3 c3, .slice A4 n4 c4] 26 (0, 0)
  have HX : Hid (LayX (w.alloc (.cells #[.slice A1 n1 c1, .slice A2 n2 c2, .slice A3 n3 c3, .slice A4 n4 c4] 26)) w.heap.size L A1 A2 A3 A4 n1 c1 n2 c2 n3 c3 n4 c4) := Lib.hid ⟨hB.cell 0, hB.cell 1, hB.cell 2, hB.cell 3, hL.stay hbw⟩
  have HQ : Hid (Sl flN (w.alloc (.cells #[.slice A1 n1 c1, .slice A2 n2 c2, .slice A3 n3 c3, .slice A4 n4 c4] 26)) Q q qc ns) := Lib.hid (hQ.stay hbw)
  have hsz : (w.alloc (.cells #[.slice A1 n1 c1, .slice A2 n2 c2, .slice A3 n3 c3, .slice A4 n4 c4] 26)).heap.size = w.heap.size + 1 := by simp
  have HL := Lib.hid hQ.len
  have HP := Lib.hid hP
  have HNM := Lib.hid hN
  have HL2 := Lib.hid hL.pts.len
  have HBW := Lib.hid hbw
  have hcap := Nat.le_trans hQ.le hQ.cap
  have hz2' := hL.pts.sz
  have hc2 := Nat.le_trans hL.pts.le hL.pts.cap
  clear hL hQ hP hB hbw hN
  rcases Nat.eq_zero_or_pos q with h0 | h0
  · have HE : Hid (wantW L word ns = []) := Lib.hid (by unfold wantW; rw [if_pos (by rw [HL.out]; exact h0)])
    subst h0
    go_enter Tryd.func34, Tryd.ntmps34
    go_wp2_with fail
    go_ret
    exact ⟨_, _, _, rfl, by rw [HE.out]; exact ⟨Rf.nil_ _ _ _, by omega, by omega, by omega⟩, HBW.out⟩
  · have HE : Hid (wantW L word ns = word :: ns.map (needB L)) := Lib.hid (by unfold wantW; rw [if_neg (by rw [HL.out]; omega)])
    have hq0 : (((q : Int)) == 0) = false := beq_eq_false_iff_ne.2 (by omega)
    go_enter Tryd.func34, Tryd.ntmps34
    go_wp2_with fail
    generalize hg : w.heap.size = g at *
    have HG := Lib.hid hg
    generalize w.alloc (.cells #[.slice A1 n1 c1, .slice A2 n2 c2, .slice A3 n3 c3, .slice A4 n4 c4] 26) = W at *
    have HO0 : Hid (Ow flS (W.alloc (.cells #[.string word] 9)) W.heap.size 9 (.slice (some ⟨g + 1, 0, none⟩) 1 1) [word]) := Lib.hid (by
      have := Ow.lit (f := flS) (xs := [word]) W W.heap.size 9 #[.string word] (Nat.le_refl _) (by simp) rfl
      rw [hsz] at this ⊢
      exact this)
    clear hg hsz
    go_loopw [7, 18] (fun t i wr => ∃ k : Nat, k ≤ q ∧ i = .int .i64 k ∧ Hid (Ow flS wr W.heap.size 9 t (word :: (ns.take k).map (needB L)) ∧ Below W.heap.size W wr)) (fun _ i _ => q - (intOf i).toNat)
    case atStart => exact ⟨0, by omega, rfl, Lib.hid ⟨HO0.out, below_new _ _⟩⟩
    case round =>
      obtain ⟨k, hk, rfl, hr⟩ := hrel
      obtain ⟨ho, hb⟩ := hr.out
      obtain ⟨Av, cv, rfl⟩ := row_form ho
      have hnl : (word :: (ns.take k).map (needB L)).length ≤ 1000001 := by rw [List.length_cons, List.length_map, List.length_take]; omega
      have HBB := Lib.hid hb
      have hws := hb.size
      by_cases hlt : k < q
      · obtain ⟨b, off, y, rfl, hy, x0, x1⟩ := (HQ.out.stay hb).need hlt
        obtain ⟨hp0, hp1⟩ := HP.out y (List.mem_of_getElem? hy)
        have HTK : Hid (word :: (ns.take (k + 1)).map (needB L) = (word :: (ns.take k).map (needB L)) ++ [needB L y]) := Lib.hid (by rw [map_tk (needB L) hy]; rfl)
        have b1 := (HX.out.stay hb).b1
        obtain ⟨yp, yr⟩ := y
        simp only at hp0 hp1 x0 x1
        have hi : yp.toNat < n2 := by rw [← HL2.out]; omega
        obtain ⟨b2, off2, z, rfl, hz, z0, z1⟩ := (HX.out.v.pts.stay hb).pt hi
        have hzs := HNM.out.pts z (List.mem_of_getElem? hz)
        have HN := Lib.hid (pt_nm hz)
        have HNB : Hid (needB L ⟨yp, yr⟩ = z.name ++ signB yr) := Lib.hid (by unfold needB; rw [HN.out])
        have hyp : ((yp.toNat : Nat) : Int) = yp := by omega
        rw [HNB.out] at HTK
        generalize hyn : yp.toNat = ypn at *
        subst hyp
        obtain ⟨zn, zs⟩ := z
        simp only at z0 z1 hzs HTK
        generalize hns : (word :: (ns.take k).map (needB L)) = us at *
        clear hns hr hy hb hz hyn HN HNB
        have hbx := below_new wr (.cells #[.int .i64 ypn, .bool yr] 46)
        have b1' := cell_stay hbx b1
        have z0' := cell_stay hbx z0
        have HO := Lib.hid (ho.alloc (.cells #[.int .i64 ypn, .bool yr] 46))
        clear ho hbx b1 z0 z1
        cases yr
        · have e1 : (⟨#[43]⟩ : ByteArray).size = 1 := rfl
          go_wp2_with (first
            | (at_builtin; refine wpList_append_any _ rfl (.tmp 24) (.tmp 34) _ rfl W.heap.size 9 i0 _ 1 16 Tryd.underlying22 hi0 hz0 hz1 hz2 rfl (by omega) _ us.length (us.flatMap flS.enc) rfl (HO.out.alloc _) (wr.heap.size + 1 + 1) (some ⟨wr.heap.size + 1, 0, none⟩) 1 1 (flS.enc (zn ++ ⟨#[43]⟩)) rfl (box_at flS (by simp) _ _ (zn ++ ⟨#[43]⟩) rfl) (flS.one _) (by simp only [maxLen]; omega) (by omega) (by simp; omega) ?_; intro v1 w1 hown1 hg1 hat1; have HB1 := Lib.hid (((HBB.out.alloc hws (.cells #[.int .i64 ypn, .bool false] 46)).alloc (by simp; omega) (.cells #[.string (zn ++ ⟨#[43]⟩)] 9)).grown hg1 (by simp; omega) HO.out.base_); have HO1 := Lib.hid (Ow.snoc hown1); clear hown1 hg1 hat1)
            | fail)
          go_roundw
          case rel => exact ⟨k + 1, by omega, by go_num, Lib.hid ⟨by rw [HTK.out]; exact HO1.out, HB1.out⟩⟩
          case measure => simp [intOf]; omega
        · have e1 : (⟨#[45]⟩ : ByteArray).size = 1 := rfl
          go_wp2_with (first
            | (at_builtin; refine wpList_append_any _ rfl (.tmp 24) (.tmp 34) _ rfl W.heap.size 9 i0 _ 1 16 Tryd.underlying22 hi0 hz0 hz1 hz2 rfl (by omega) _ us.length (us.flatMap flS.enc) rfl (HO.out.alloc _) (wr.heap.size + 1 + 1) (some ⟨wr.heap.size + 1, 0, none⟩) 1 1 (flS.enc (zn ++ ⟨#[45]⟩)) rfl (box_at flS (by simp) _ _ (zn ++ ⟨#[45]⟩) rfl) (flS.one _) (by simp only [maxLen]; omega) (by omega) (by simp; omega) ?_; intro v1 w1 hown1 hg1 hat1; have HB1 := Lib.hid (((HBB.out.alloc hws (.cells #[.int .i64 ypn, .bool true] 46)).alloc (by simp; omega) (.cells #[.string (zn ++ ⟨#[45]⟩)] 9)).grown hg1 (by simp; omega) HO.out.base_); have HO1 := Lib.hid (Ow.snoc hown1); clear hown1 hg1 hat1)
            | fail)
          go_roundw
          case rel => exact ⟨k + 1, by omega, by go_num, Lib.hid ⟨by rw [HTK.out]; exact HO1.out, HB1.out⟩⟩
          case measure => simp [intOf]; omega
      · obtain rfl : k = q := by omega
        have HT : Hid (word :: (ns.take k).map (needB L) = wantW L word ns) := Lib.hid (by rw [HE.out, List.take_of_length_le (by rw [HL.out]; omega)])
        have HLN : Hid ((wantW L word ns).length ≤ 140737488351232) := Lib.hid (by rw [← HT.out]; omega)
        rw [HT.out] at ho hr
        have HO := Lib.hid ho
        rw [HT.out]
        generalize hus : wantW L word ns = us at *
        have HUS := Lib.hid hus
        clear ho hr hlt hb hus
        go_wp2_with fail
        go_ret
        obtain ⟨A, c, e, hs⟩ := sl_ow HO.out (by decide) HLN.out
        injection e with e1 e2 e3
        subst e1 e3
        exact ⟨_, _, _, rfl, by rw [HUS.out]; exact hs, below_more (by rw [HG.out]; exact HBW.out) HBB.out⟩
end
end Go.Proofs.YtmdnmiiggkfnfaaDoor
