/- Words for the walk of JudgeMany. (Written by gen_many.py.) -/
import Derived.Test.YtmdggodkkkihhaaJuNon
set_option linter.unusedVariables false
namespace Go.Proofs.Ytmdggodkkkihhaa
open Go.RowKit

theorem upto4 {n : Nat} (h : n ≤ 4) : n = 0 ∨ n = 1 ∨ n = 2 ∨ n = 3 ∨ n = 4 := by omega
def zB (n : Nat) : Array Value := Array.replicate n (.bool false)
def zI (n : Nat) : Array Value := Array.replicate n (.int .i64 0)
def zR : Nat → Array Value
  | 0 => #[]
  | 1 => #[.int .i64 0, .int .i64 0, .int .i64 0, .bool false]
  | 2 => #[.int .i64 0, .int .i64 0, .int .i64 0, .bool false, .int .i64 0, .int .i64 0, .int .i64 0, .bool false]
  | 3 => #[.int .i64 0, .int .i64 0, .int .i64 0, .bool false, .int .i64 0, .int .i64 0, .int .i64 0, .bool false, .int .i64 0, .int .i64 0, .int .i64 0, .bool false]
  | _ => #[.int .i64 0, .int .i64 0, .int .i64 0, .bool false, .int .i64 0, .int .i64 0, .int .i64 0, .bool false, .int .i64 0, .int .i64 0, .int .i64 0, .bool false, .int .i64 0, .int .i64 0, .int .i64 0, .bool false]
theorem mk_zb {n : Nat} (h : n ≤ 4) (w : World) : (Instr.makeSlice 23 (.int .i64 n) (.int .i64 n)).run Try.prog w = .ok (.slice (some ⟨w.heap.size, 0, none⟩) n n) (w.alloc (.cells (zB n) 4)) := by
  rcases upto4 h with rfl | rfl | rfl | rfl | rfl <;> kernel_rfl
theorem mk_zi {n : Nat} (h : n ≤ 4) (w : World) : (Instr.makeSlice 22 (.int .i64 n) (.int .i64 n)).run Try.prog w = .ok (.slice (some ⟨w.heap.size, 0, none⟩) n n) (w.alloc (.cells (zI n) 3)) := by
  rcases upto4 h with rfl | rfl | rfl | rfl | rfl <;> kernel_rfl
theorem mk_zr {n : Nat} (h : n ≤ 4) (w : World) : (Instr.makeSlice 34 (.int .i64 n) (.int .i64 n)).run Try.prog w = .ok (.slice (some ⟨w.heap.size, 0, none⟩) n n) (w.alloc (.cells (zR n) 33)) := by
  rcases upto4 h with rfl | rfl | rfl | rfl | rfl <;> kernel_rfl
theorem sl_zb {n : Nat} (h : n ≤ 4) {w : World} {g : Nat} {t : TypeId} (hb : Blk w g (zB n) t (0, 0)) : Sl flT w (some ⟨g, 0, none⟩) n n (List.replicate n false) :=
  sl_lit flT _ n (by simp) hb (by rcases upto4 h with rfl | rfl | rfl | rfl | rfl <;> rfl) (by omega)
theorem sl_zi {n : Nat} (h : n ≤ 4) {w : World} {g : Nat} {t : TypeId} (hb : Blk w g (zI n) t (0, 0)) : Sl flI w (some ⟨g, 0, none⟩) n n (List.replicate n 0) :=
  sl_lit flI _ n (by simp) hb (by rcases upto4 h with rfl | rfl | rfl | rfl | rfl <;> rfl) (by omega)
theorem sl_zr {n : Nat} (h : n ≤ 4) {w : World} {g : Nat} {t : TypeId} (hb : Blk w g (zR n) t (0, 0)) : Sl flR w (some ⟨g, 0, none⟩) n n (List.replicate n ⟨0, 0, 0, false⟩) :=
  sl_lit flR _ n (by simp) hb (by rcases upto4 h with rfl | rfl | rfl | rfl | rfl <;> rfl) (by omega)
def mIn (s p : Nat) : Inn := ⟨List.replicate s false, List.replicate p 0⟩
def mOu (d g : Nat) : Ou := ⟨List.replicate d 0, List.replicate g false⟩
def okM (s p d g : Nat) : Bool := (s : Int) == 2 && (p : Int) == 1 && (d : Int) == 1 && (g : Int) == 2
theorem many_all : ∀ (s g : Fin 5) (p d r : Fin 4),
    safeM oneL (mIn s p) (mOu d g) = okM s p d g ∧ heldM oneL (mIn s p) (mOu d g) (List.replicate r.val ⟨0, 0, 0, false⟩) = (okM s p d g && ((r.val : Int) == 1)) ∧ atmostM (mOu d g) (mOu 1 2) = ((d.val : Int) == 1 && (g.val : Int) == 2) := by
  decide +kernel
theorem many_of {s p d g r : Nat} (hs : s ≤ 4) (hp : p ≤ 3) (hd : d ≤ 3) (hg : g ≤ 4) (hr : r ≤ 3) :
    safeM oneL (mIn s p) (mOu d g) = okM s p d g ∧ heldM oneL (mIn s p) (mOu d g) (List.replicate r ⟨0, 0, 0, false⟩) = (okM s p d g && ((r : Int) == 1)) ∧ atmostM (mOu d g) (mOu 1 2) = ((d : Int) == 1 && (g : Int) == 2) :=
  many_all ⟨s, by omega⟩ ⟨g, by omega⟩ ⟨p, by omega⟩ ⟨d, by omega⟩ ⟨r, by omega⟩
/-- In, with its box. -/
def InP (wx : World) (s p : Nat) (v : Value) : Prop := ∃ (g : Nat) (A B : Option Addr), v = .pointer (some ⟨g, 0, none⟩) ∧ wx.cell? ⟨g, 0, none⟩ = some (.slice A s s) ∧ wx.cell? ⟨g, 1, none⟩ = some (.slice B p p) ∧ InV wx (mIn s p) A B s s p p
def OuP (wx : World) (d q : Nat) (v : Value) : Prop := ∃ (g : Nat) (A B : Option Addr), v = .pointer (some ⟨g, 0, none⟩) ∧ wx.cell? ⟨g, 0, none⟩ = some (.slice A d d) ∧ wx.cell? ⟨g, 1, none⟩ = some (.slice B q q) ∧ OuV wx (mOu d q) A B d d q q
theorem InP.mk {wx : World} {s p : Nat} (hs : s ≤ 4) (hp : p ≤ 4) {g g1 g2 : Nat} (h : Blk wx g #[.slice (some ⟨g1, 0, none⟩) s s, .slice (some ⟨g2, 0, none⟩) p p] 28 (0, 0)) (h1 : Blk wx g1 (zB s) 4 (0, 0)) (h2 : Blk wx g2 (zI p) 3 (0, 0)) : InP wx s p (.pointer (some ⟨g, 0, none⟩)) :=
  ⟨g, _, _, rfl, h.cell 0, h.cell 1, sl_zb hs h1, sl_zi hp h2⟩
theorem OuP.mk {wx : World} {d q : Nat} (hd : d ≤ 4) (hq : q ≤ 4) {g g1 g2 : Nat} (h : Blk wx g #[.slice (some ⟨g1, 0, none⟩) d d, .slice (some ⟨g2, 0, none⟩) q q] 25 (0, 0)) (h1 : Blk wx g1 (zI d) 3 (0, 0)) (h2 : Blk wx g2 (zB q) 4 (0, 0)) : OuP wx d q (.pointer (some ⟨g, 0, none⟩)) :=
  ⟨g, _, _, rfl, h.cell 0, h.cell 1, sl_zi hd h1, sl_zb hq h2⟩
theorem atm_l {d g : Nat} {A B : Option Addr} (w : World) (hO : OuV w (mOu d g) A B d d g g) :
    Calls Try.prog 9 #[.agg #[.slice A d d, .slice B g g], .agg #[.slice (some ⟨w.heap.size, 0, none⟩) 1 1, .slice (some ⟨w.heap.size + 1, 0, none⟩) 2 2]] ((w.alloc (.cells #[.int .i64 0] 3)).alloc (.cells #[.bool false, .bool false] 4)) fun e w' => e = .returned (.bool (atmostM (mOu d g) (mOu 1 2))) ∧ Below w.heap.size w w' := by
  have hn := (below_new w (.cells #[.int .i64 0] 3)).alloc (by simp) (.cells #[.bool false, .bool false] 4)
  have h2 : OuV ((w.alloc (.cells #[.int .i64 0] 3)).alloc (.cells #[.bool false, .bool false] 4)) (mOu 1 2) (some ⟨w.heap.size, 0, none⟩) (some ⟨w.heap.size + 1, 0, none⟩) 1 1 2 2 :=
    ⟨sl_zi (n := 1) (by omega) ((Blk.new w #[.int .i64 0] 3 (0, 0)).alloc _), sl_zb (n := 2) (by omega) (Blk.at_ (by simp) #[.bool false, .bool false] 4 (0, 0))⟩
  exact (Atmost_calls _ (hO.stay hn) h2).mono fun e w' ⟨h, hb⟩ => ⟨h, below_more hn hb⟩
theorem atm_r {d g : Nat} {A B : Option Addr} (w : World) (hO : OuV w (mOu d g) A B d d g g) :
    Calls Try.prog 9 #[.agg #[.slice A d d, .slice B g g], .agg #[.slice (some ⟨w.heap.size + 1, 0, none⟩) 1 1, .slice (some ⟨w.heap.size, 0, none⟩) 2 2]] ((w.alloc (.cells #[.bool false, .bool false] 4)).alloc (.cells #[.int .i64 0] 3)) fun e w' => e = .returned (.bool (atmostM (mOu d g) (mOu 1 2))) ∧ Below w.heap.size w w' := by
  have hn := (below_new w (.cells #[.bool false, .bool false] 4)).alloc (by simp) (.cells #[.int .i64 0] 3)
  have h2 : OuV ((w.alloc (.cells #[.bool false, .bool false] 4)).alloc (.cells #[.int .i64 0] 3)) (mOu 1 2) (some ⟨w.heap.size + 1, 0, none⟩) (some ⟨w.heap.size, 0, none⟩) 1 1 2 2 :=
    ⟨sl_zi (n := 1) (by omega) (Blk.at_ (by simp) #[.int .i64 0] 3 (0, 0)), sl_zb (n := 2) (by omega) ((Blk.new w #[.bool false, .bool false] 4 (0, 0)).alloc _)⟩
  exact (Atmost_calls _ (hO.stay hn) h2).mono fun e w' ⟨h, hb⟩ => ⟨h, below_more hn hb⟩
end Go.Proofs.Ytmdggodkkkihhaa
