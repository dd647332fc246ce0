/- Crates as the walks see them. -/
import Derived.Test.YtekhogoggfacaaaOnly
import Derived.Test.YtekhogoggfacaaaEqs
import Derived.Test.YtekhogoggfacaaaLater
import Derived.Test.YtekhogoggfacaaaRows
import Derived.BigRegion
import Derived.Deep.DeepCutAuto
import Derived.Deep.LoopGhost
import Derived.Deep.RegionLaw
import Derived.Outline
set_option linter.unusedVariables false
namespace Go.Proofs.Ytekhogoggfacaaa
open Go.RowKit

/-- A thing in a Crate. -/
inductive It where
  | num (n : Int)
  | txt (s : ByteArray)
  | tru (b : Bool)
  deriving DecidableEq
def It.val : It → Value
  | .num n => .iface 3 (.int .i64 n)
  | .txt s => .iface 9 (.string s)
  | .tru b => .iface 4 (.bool b)
def flA : Fl It := ⟨1, fun x => [x.val], fun _ => rfl, fun a u hu => by rw [List.mem_singleton.1 hu]; cases a <;> rfl⟩
/-- A box at block b that holds just a row v of the things xs. -/
structure Bx {α : Type} (f : Fl α) (te tc : TypeId) (w : World) (B b : Nat) (v : Value) (xs : List α) : Prop where
  blk : Blk w b #[v] tc (0, 0)
  own : Ow f w B te v xs
  low : B ≤ b
section
variable {α : Type} {f : Fl α} {te tc : TypeId} {w w1 : World} {B b : Nat} {v v1 : Value} {xs : List α}
theorem Bx.only {S : Nat → Prop} (h : Bx f te tc w B b v xs) (ho : Only S w w1) (h1 : ¬ S b) (h2 : ∀ k, v.ownBlock = some k → ¬ S k) : Bx f te tc w1 B b v xs := ⟨h.blk.only ho h1, h.own.only ho h2, h.low⟩
theorem Bx.stay (h : Bx f te tc w B b v xs) (hb : Below w.heap.size w w1) : Bx f te tc w1 B b v xs := h.only (S := fun _ => False) (Only.of_below hb) (fun h => h) (fun _ _ h => h)
theorem Bx.lower {B' : Nat} (h : Bx f te tc w B b v xs) (hB : B' ≤ B) : Bx f te tc w B' b v xs := ⟨h.blk, h.own.lower hB, Nat.le_trans hB h.low⟩
/-- The blocks of a box. -/
def CrS (b : Nat) (v : Value) : Nat → Prop := fun k => k = b ∨ v.ownBlock = some k
theorem Bx.foot (h : Bx f te tc w B b v xs) : ∀ k, CrS b v k → B ≤ k ∧ k < w.heap.size := by
  rintro k (rfl | hk)
  · exact ⟨h.low, h.blk.lt⟩
  · exact World.ownsRow.lt h.own k hk
/-- What an Add leaves. -/
def BxPost (f : Fl α) (te tc : TypeId) (w : World) (B b : Nat) (v : Value) (xs : List α) (x : α) (e : Ending) (w' : World) : Prop :=
  (100 ≤ xs.length ∧ e = .returned (.bool false) ∧ Below w.heap.size w w') ∨
  (xs.length < 100 ∧ e = .returned (.bool true) ∧ ∃ v', Bx f te tc w' B b v' (xs ++ [x]) ∧ Only (CrS b v) w w' ∧ ∀ k, v'.ownBlock = some k → v.ownBlock = some k ∨ w.heap.size ≤ k)
theorem add_head (h : Bx f te tc w B b v xs) (hn : v.ownBlock ≠ some b) {W : World} (hw : Below w.heap.size w W) (hg : W.grownBy w1 v.ownBlock) : Blk w1 b #[v] tc (0, 0) :=
  (h.blk.below hw h.blk.lt).only (Only.of_grown hg) hn
theorem add_done {x : α} {W : World} {us : List Value} (hne : te ≠ tc) (hw : Below w.heap.size w W) (h : Bx f te tc w B b v xs) (hn : v.ownBlock ≠ some b) (hu : f.enc x = us)
    (hown : w1.ownsRow B te f.sz v1 (xs.length + 1) (xs.flatMap f.enc ++ us)) (hb : Blk w1 b #[v] tc (0, 0)) (hg : W.grownBy w1 v.ownBlock)
    (hat : v1.ownBlock = v.ownBlock ∨ v1.ownBlock = some W.heap.size) :
    Bx f te tc (w1.setCell ⟨b, 0, none⟩ v1) B b v1 (xs ++ [x]) ∧ Only (CrS b v) w (w1.setCell ⟨b, 0, none⟩ v1) ∧ ∀ k, v1.ownBlock = some k → v.ownBlock = some k ∨ w.heap.size ≤ k := by
  have hO : Ow f w1 B te v1 (xs ++ [x]) := Ow.snoc (f := f) (x := x) (by rw [hu]; exact hown)
  have hn1 : v1.ownBlock ≠ some b := own_not_blk hO hb hne
  refine ⟨⟨by have := hb.put 0 v1; simpa using this, hO.only (Only.put ⟨b, 0, none⟩ v1) (fun k hk e => hn1 (by rw [hk, e])), h.low⟩, ?_, ?_⟩
  · have h1 : Only (fun _ => False) w W := Only.of_below hw
    have h2 := h1.trans (Only.of_grown hg) (U := CrS b v) (fun _ _ h => absurd h id) (fun q _ hq => .inr hq)
    exact h2.trans (Only.put ⟨b, 0, none⟩ v1) (fun _ _ h => h) (fun q _ hq => .inl hq)
  · intro k hk
    rcases hat with e | e
    · exact .inl (by rw [← e]; exact hk)
    · rw [e] at hk
      injection hk with hk
      refine .inr ?_
      have := hw.size
      omega
end
/-- A Crate. -/
abbrev Cr (w : World) (B b : Nat) (v : Value) (its : List It) : Prop := Bx flA 20 62 w B b v its
abbrev AddPost (w : World) (B b : Nat) (v : Value) (its : List It) (x : It) (e : Ending) (w' : World) : Prop := BxPost flA 20 62 w B b v its x e w'

theorem info_any : (Try.prog.info? 20).map (fun i => (i.zero, i.size, i.bytes)) = some (some .nilIface, 1, 16) := by kernel_rfl

theorem New_calls (w : World) : Calls Try.prog 17 #[] w fun e w' => e = .returned (.pointer (some ⟨w.heap.size, 0, none⟩)) ∧ w.alloc (.cells #[.slice none 0 0] 62) = w' := by
  go_enter Try.func17, Try.ntmps17
  go_wp2
  go_ret
  exact ⟨rfl, rfl⟩
theorem Cr.new (w : World) (B : Nat) (hB : B ≤ w.heap.size) : Cr (w.alloc (.cells #[.slice none 0 0] 62)) B w.heap.size (.slice none 0 0) [] := ⟨Blk.new _ _ _ _, Ow.nil_ _ _ _ _, hB⟩

set_option maxHeartbeats 1000000 in
theorem add_calls (x : It) (w : World) (B b : Nat) (v : Value) (its : List It) (h : Cr w B b v its) (hB : B ≤ w.heap.size) :
    Calls Try.prog 34 #[.pointer (some ⟨b, 0, none⟩), x.val] w (AddPost w B b v its x) := by
  obtain ⟨i0, hi0, hz0, hz1, hz2⟩ := info_parts info_any
  have hc := h.blk.cell 0
  have hf := h.blk.free 0
  have hbl := h.blk.lt
  obtain ⟨A, c, hv, hR⟩ := h.own.read (by decide)
  subst hv
  have hroom := h.own.room (by decide)
  have H := Lib.hid h
  have hnb := Lib.hid (own_not_blk h.own h.blk (by decide))
  simp only [List.getElem?_toArray, List.getElem?_cons_zero] at hc
  clear h hR
  by_cases hl : its.length < 100
  · obtain ⟨t, u, hx⟩ : ∃ t u, x.val = .iface t u := by cases x <;> exact ⟨_, _, rfl⟩
    have hbox := box_reads flA w #[.iface t u] 20 x (by rw [← hx]; rfl)
    rw [show flA.enc x = [.iface t u] by rw [← hx]; rfl] at hbox
    have HX := Lib.hid hx
    have HB := Lib.hid hbox
    rw [hx]
    clear hx hbox
    go_enter Try.func34, Try.ntmps34
    go_wp2_with (at_builtin; refine wpList_append_any _ rfl (.tmp 19) (.tmp 21) _ rfl B 20 i0 _ 1 16 Try.underlying60 hi0 hz0 hz1 hz2 rfl (by omega) (.slice A its.length c) its.length (its.flatMap flA.enc) rfl (H.out.own.alloc _) (w.heap.size + 1) (some ⟨w.heap.size, 0, none⟩) 1 1 [.iface t u] rfl HB.out (by intro q hq; rw [List.mem_singleton.1 hq]; rfl) (by simp only [maxLen]; omega) (by omega) (by simp; omega) ?_; intro v1 w1 hown1 hg1 hat1; obtain ⟨A1, c1, rfl⟩ := row_form hown1; have hblk1 := add_head H.out hnb.out (below_new w _) hg1; have hf1 := hblk1.free 0; have hc1 := hblk1.cell 0; simp only [List.getElem?_toArray, List.getElem?_cons_zero] at hc1; have HT1 := Lib.hid hat1; clear hat1; have hbl1 := hblk1.lt; have HB1 := Lib.hid hblk1; have HO1 := Lib.hid hown1; clear hblk1 hown1)
    go_ret
    exact .inr ⟨hl, rfl, _, add_done (f := flA) (x := x) (by decide) (below_new w _) H.out hnb.out (congrArg (fun u => [u]) HX.out) HO1.out HB1.out hg1 HT1.out⟩
  · go_enter Try.func34, Try.ntmps34
    go_wp2_with fail
    go_ret
    exact .inl ⟨by omega, rfl, Below.refl _ _⟩
end Go.Proofs.Ytekhogoggfacaaa
