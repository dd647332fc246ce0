/- Texts put together for a claim. -/
import Derived.Test.YtmdggodkkkihhaaDoorQ20JudgeLocks
import Derived.Test.YtmdggodkkkihhaaDoorRes
/- Contract of the law's 'one'. -/
set_option linter.unusedVariables false
set_option linter.unusedSimpArgs false
namespace Go.Proofs.YtmdggodkkkihhaaDoor
open Go.RowKit

def bt (l : List UInt8) : ByteArray := ⟨l.toArray⟩
/-- A literal is a slice. -/
theorem sl_lit {α : Type} (f : Fl α) {w : World} {g : Nat} {cs : Array Value} {t : TypeId} {fr : Nat × Nat} (xs : List α) (n : Nat) (hl : xs.length = n) (hb : Blk w g cs t fr) (hc : cs.toList = xs.flatMap f.enc) (hn : n ≤ 1000000) : Sl f w (some ⟨g, 0, none⟩) n n xs := by
  subst hl
  exact ⟨lit_reads f xs hb hc (by omega), Nat.le_refl _, by omega, by omega⟩
theorem sl_nil {α : Type} (f : Fl α) (w : World) : Sl f w none 0 0 [] := ⟨⟨rfl, by omega, fun h => absurd h (by omega)⟩, by omega, by omega, by omega⟩
theorem rds_of {α : Type} {k : Kd α} {f : Fl α} {w : World} {A : Option Addr} {n c : Nat} {xs : List α} (h : Sl f w A n c xs) (hK : ∀ x ∈ xs, k.K w x (f.enc x)) (hs : k.sz = f.sz) : RdS k w A n xs := by
  obtain ⟨⟨h1, h2, h3⟩, h4, h5, h6⟩ := h
  refine ⟨h1, h6, fun hn => ?_⟩
  obtain ⟨b, off, e, hc⟩ := h3 hn
  refine ⟨b, off, e, fun j x hx => ⟨f.enc x, hK x (List.mem_of_getElem? hx), fun i v hv => ?_⟩⟩
  rw [hs]
  exact hc j x hx i v hv
theorem ks_of {α : Type} {k : Kd α} {f : Fl α} {w : World} {A : Option Addr} {n c : Nat} {xs : List α} (h : Sl f w A n c xs) (hK : ∀ x ∈ xs, k.K w x (f.enc x)) (hs : k.sz = f.sz) : (Kd.slice k).K w xs [.slice A n c] :=
  ⟨A, n, c, rfl, h.le, h.cap, rds_of h hK hs⟩
theorem rte_mk {w : World} {x : Rte} {P Q F : Option Addr} {p pc q qc f fc : Nat} (hn : x.name.size ≤ 140737488351232) (h1 : (Lit.int .i64 x.frm).wf = true) (h2 : (Lit.int .i64 x.dest).wf = true)
    (hP : (Kd.slice (Kd.int .i64)).K w x.path [.slice P p pc]) (hQ : (Kd.slice kNeed).K w x.points [.slice Q q qc]) (hF : (Kd.slice kNeed).K w x.flank [.slice F f fc]) :
    kRte.K w x [.string x.name, .int .i64 x.frm, .int .i64 x.dest, .slice P p pc, .slice Q q qc, .slice F f fc] :=
  ⟨[.string x.name], _, rfl, ⟨rfl, hn⟩, [_], _, rfl, ⟨rfl, h1⟩, [_], _, rfl, ⟨rfl, h2⟩, [_], _, rfl, hP, [_], _, rfl, hQ, [_], [], rfl, hF, rfl⟩
theorem kN_mk (w : World) (x : Need) (h : (Lit.int .i64 x.p).wf = true) : kNeed.K w x (flN.enc x) := ⟨[_], _, rfl, ⟨rfl, h⟩, [_], [], rfl, rfl, rfl⟩
def oneR : Rte := ⟨bt [114], 0, 1, [0], [⟨0, false⟩], []⟩
def oneL : Lay := ⟨[bt [97], bt [98]], [⟨bt [112], 0⟩], [bt [115], bt [116]], [oneR]⟩
theorem lay_ret {fn : Func} {tmps : Array Value} {w : World} {p : Tmp} {g : Nat} {x y z r : Value} {t : TypeId} {fr : Nat × Nat} (h : fn.results = #[.cell p 26]) (hp : tmps.getD p undef = .pointer (some ⟨g, 0, none⟩)) (hg : Blk w g #[x, y, z, r] t fr) :
    (results fn tmps).run Tryd.prog w = .ok (.agg #[x, y, z, r]) w :=
  results_single (r := .cell p 26) h (.cell g t #[x, y, z, r] fr _ hp hg Tryd.underlying26 rfl (by kernel_rfl) .nil)
set_option maxRecDepth 20000 in
set_option maxHeartbeats 2000000 in
theorem one_calls (w : World) : Calls Tryd.prog 31 #[] w fun e w' => ∃ A1 A2 A3 A4, e = .returned (.agg #[.slice A1 2 2, .slice A2 1 1, .slice A3 2 2, .slice A4 1 1]) ∧ LayV w' oneL A1 A2 A3 A4 2 2 1 1 2 2 1 1 ∧ Below w.heap.size w w' := by
  go_enter Tryd.func31, Tryd.ntmps31
  go_wp2_with fail
  have h0 := Blk.new w #[.slice (some ⟨w.heap.size + 1, 0, none⟩) 2 2, .slice (some ⟨w.heap.size + 1 + 1, 0, none⟩) 1 1, .slice (some ⟨w.heap.size + 1 + 1 + 1, 0, none⟩) 2 2, .slice (some ⟨w.heap.size + 1 + 1 + 1 + 1 + 1 + 1, 0, none⟩) 1 1] 26 (0, 0)
  have b0 := below_new w (.cells #[.slice (some ⟨w.heap.size + 1, 0, none⟩) 2 2, .slice (some ⟨w.heap.size + 1 + 1, 0, none⟩) 1 1, .slice (some ⟨w.heap.size + 1 + 1 + 1, 0, none⟩) 2 2, .slice (some ⟨w.heap.size + 1 + 1 + 1 + 1 + 1 + 1, 0, none⟩) 1 1] 26)
  have s0 : (w.alloc (.cells #[.slice (some ⟨w.heap.size + 1, 0, none⟩) 2 2, .slice (some ⟨w.heap.size + 1 + 1, 0, none⟩) 1 1, .slice (some ⟨w.heap.size + 1 + 1 + 1, 0, none⟩) 2 2, .slice (some ⟨w.heap.size + 1 + 1 + 1 + 1 + 1 + 1, 0, none⟩) 1 1] 26)).heap.size = w.heap.size + 1 := by simp
  generalize (w.alloc (.cells #[.slice (some ⟨w.heap.size + 1, 0, none⟩) 2 2, .slice (some ⟨w.heap.size + 1 + 1, 0, none⟩) 1 1, .slice (some ⟨w.heap.size + 1 + 1 + 1, 0, none⟩) 2 2, .slice (some ⟨w.heap.size + 1 + 1 + 1 + 1 + 1 + 1, 0, none⟩) 1 1] 26)) = w0 at *
  have h1 := Blk.at_ (w := w0) (g := w.heap.size + 1) s0.symm #[.string ⟨#[97]⟩, .string ⟨#[98]⟩] 9 (0, 0)
  have b1 := below_more b0 (below_new w0 (.cells #[.string ⟨#[97]⟩, .string ⟨#[98]⟩] 9))
  have s1 : (w0.alloc (.cells #[.string ⟨#[97]⟩, .string ⟨#[98]⟩] 9)).heap.size = w.heap.size + 1 + 1 := by simp; omega
  have h0 := h0.alloc (.cells #[.string ⟨#[97]⟩, .string ⟨#[98]⟩] 9)
  generalize (w0.alloc (.cells #[.string ⟨#[97]⟩, .string ⟨#[98]⟩] 9)) = w1 at *
  have h2 := Blk.at_ (w := w1) (g := w.heap.size + 1 + 1) s1.symm #[.string ⟨#[112]⟩, .int .i64 0] 59 (0, 0)
  have b2 := below_more b1 (below_new w1 (.cells #[.string ⟨#[112]⟩, .int .i64 0] 59))
  have s2 : (w1.alloc (.cells #[.string ⟨#[112]⟩, .int .i64 0] 59)).heap.size = w.heap.size + 1 + 1 + 1 := by simp; omega
  have h0 := h0.alloc (.cells #[.string ⟨#[112]⟩, .int .i64 0] 59)
  have h1 := h1.alloc (.cells #[.string ⟨#[112]⟩, .int .i64 0] 59)
  generalize (w1.alloc (.cells #[.string ⟨#[112]⟩, .int .i64 0] 59)) = w2 at *
  have h3 := Blk.at_ (w := w2) (g := w.heap.size + 1 + 1 + 1) s2.symm #[.string ⟨#[115]⟩, .string ⟨#[116]⟩] 9 (0, 0)
  have b3 := below_more b2 (below_new w2 (.cells #[.string ⟨#[115]⟩, .string ⟨#[116]⟩] 9))
  have s3 : (w2.alloc (.cells #[.string ⟨#[115]⟩, .string ⟨#[116]⟩] 9)).heap.size = w.heap.size + 1 + 1 + 1 + 1 := by simp; omega
  have h0 := h0.alloc (.cells #[.string ⟨#[115]⟩, .string ⟨#[116]⟩] 9)
  have h1 := h1.alloc (.cells #[.string ⟨#[115]⟩, .string ⟨#[116]⟩] 9)
  have h2 := h2.alloc (.cells #[.string ⟨#[115]⟩, .string ⟨#[116]⟩] 9)
  generalize (w2.alloc (.cells #[.string ⟨#[115]⟩, .string ⟨#[116]⟩] 9)) = w3 at *
  have h4 := Blk.at_ (w := w3) (g := w.heap.size + 1 + 1 + 1 + 1) s3.symm #[.int .i64 0] 3 (0, 0)
  have b4 := below_more b3 (below_new w3 (.cells #[.int .i64 0] 3))
  have s4 : (w3.alloc (.cells #[.int .i64 0] 3)).heap.size = w.heap.size + 1 + 1 + 1 + 1 + 1 := by simp; omega
  have h0 := h0.alloc (.cells #[.int .i64 0] 3)
  have h1 := h1.alloc (.cells #[.int .i64 0] 3)
  have h2 := h2.alloc (.cells #[.int .i64 0] 3)
  have h3 := h3.alloc (.cells #[.int .i64 0] 3)
  generalize (w3.alloc (.cells #[.int .i64 0] 3)) = w4 at *
  have h5 := Blk.at_ (w := w4) (g := w.heap.size + 1 + 1 + 1 + 1 + 1) s4.symm #[.int .i64 0, .bool false] 78 (0, 0)
  have b5 := below_more b4 (below_new w4 (.cells #[.int .i64 0, .bool false] 78))
  have s5 : (w4.alloc (.cells #[.int .i64 0, .bool false] 78)).heap.size = w.heap.size + 1 + 1 + 1 + 1 + 1 + 1 := by simp; omega
  have h0 := h0.alloc (.cells #[.int .i64 0, .bool false] 78)
  have h1 := h1.alloc (.cells #[.int .i64 0, .bool false] 78)
  have h2 := h2.alloc (.cells #[.int .i64 0, .bool false] 78)
  have h3 := h3.alloc (.cells #[.int .i64 0, .bool false] 78)
  have h4 := h4.alloc (.cells #[.int .i64 0, .bool false] 78)
  generalize (w4.alloc (.cells #[.int .i64 0, .bool false] 78)) = w5 at *
  generalize hg4 : w.heap.size + 1 + 1 + 1 + 1 = g4 at *
  generalize hg5 : g4 + 1 = g5 at *
  have h6 := Blk.at_ (w := w5) (g := g5 + 1) s5.symm #[.string ⟨#[114]⟩, .int .i64 0, .int .i64 1, .slice (some ⟨g4, 0, none⟩) 1 1, .slice (some ⟨g5, 0, none⟩) 1 1, .slice none 0 0] 62 (0, 0)
  have b6 := below_more b5 (below_new w5 (.cells #[.string ⟨#[114]⟩, .int .i64 0, .int .i64 1, .slice (some ⟨g4, 0, none⟩) 1 1, .slice (some ⟨g5, 0, none⟩) 1 1, .slice none 0 0] 62))
  have h0 := h0.alloc (.cells #[.string ⟨#[114]⟩, .int .i64 0, .int .i64 1, .slice (some ⟨g4, 0, none⟩) 1 1, .slice (some ⟨g5, 0, none⟩) 1 1, .slice none 0 0] 62)
  have h1 := h1.alloc (.cells #[.string ⟨#[114]⟩, .int .i64 0, .int .i64 1, .slice (some ⟨g4, 0, none⟩) 1 1, .slice (some ⟨g5, 0, none⟩) 1 1, .slice none 0 0] 62)
  have h2 := h2.alloc (.cells #[.string ⟨#[114]⟩, .int .i64 0, .int .i64 1, .slice (some ⟨g4, 0, none⟩) 1 1, .slice (some ⟨g5, 0, none⟩) 1 1, .slice none 0 0] 62)
  have h3 := h3.alloc (.cells #[.string ⟨#[114]⟩, .int .i64 0, .int .i64 1, .slice (some ⟨g4, 0, none⟩) 1 1, .slice (some ⟨g5, 0, none⟩) 1 1, .slice none 0 0] 62)
  have h4 := h4.alloc (.cells #[.string ⟨#[114]⟩, .int .i64 0, .int .i64 1, .slice (some ⟨g4, 0, none⟩) 1 1, .slice (some ⟨g5, 0, none⟩) 1 1, .slice none 0 0] 62)
  have h5 := h5.alloc (.cells #[.string ⟨#[114]⟩, .int .i64 0, .int .i64 1, .slice (some ⟨g4, 0, none⟩) 1 1, .slice (some ⟨g5, 0, none⟩) 1 1, .slice none 0 0] 62)
  refine bodyPost_ret (lay_ret rfl rfl h0) rfl ⟨_, _, _, _, rfl, ?_, b6⟩
  refine ⟨sl_lit flS oneL.secs 2 rfl h1 rfl (by omega), sl_lit flP oneL.pts 1 rfl h2 rfl (by omega), sl_lit flS oneL.sigs 2 rfl h3 rfl (by omega), ⟨⟨rfl, by omega, fun _ => ⟨g5 + 1, 0, rfl, fun j x hx => ?_⟩⟩, by omega, by omega⟩⟩
  obtain ⟨rfl, rfl⟩ : j = 0 ∧ x = oneR := by
    cases j with
    | zero => simp [oneL] at hx; exact ⟨rfl, hx.symm⟩
    | succ j => simp [oneL] at hx
  refine ⟨_, rte_mk (x := oneR) (by decide) (by decide) (by decide) (ks_of (sl_lit flI oneR.path 1 rfl h4 rfl (by omega)) (fun x hx => ?_) rfl) (ks_of (sl_lit flN oneR.points 1 rfl h5 rfl (by omega)) (fun x hx => ?_) rfl) (ks_of (sl_nil flN _) (fun x hx => by cases hx) rfl), fun i v hv => ?_⟩
  · rw [show x = 0 from by simpa [oneR] using hx]
    exact ⟨rfl, by decide⟩
  · rw [show x = ⟨0, false⟩ from by simpa [oneR] using hx]
    exact kN_mk _ _ (by decide)
  · rw [show 0 + 0 * kRte.sz + i = i by omega, h6.cell i, ← Array.getElem?_toList]
    exact hv
end Go.Proofs.YtmdggodkkkihhaaDoor
