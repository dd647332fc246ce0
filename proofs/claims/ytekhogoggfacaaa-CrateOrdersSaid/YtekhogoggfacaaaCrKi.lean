/- Walk of CrateKinds. -/
import Derived.Test.YtekhogoggfacaaaCrNo
set_option linter.unusedVariables false
namespace Go.Proofs.Ytekhogoggfacaaa
open Go.RowKit

/-- Two boxes that share no block. -/
def Dj (b : Nat) (v : Value) (b' : Nat) (v' : Value) : Prop := ∀ k, CrS b v k → ¬ CrS b' v' k
section
variable {α β : Type} {f : Fl α} {f' : Fl β} {te tc te' tc' : TypeId} {w w' : World} {B b B' b' : Nat} {v v1 v' : Value} {xs : List α} {ys : List β}
theorem Dj.symm (h : Dj b v b' v') : Dj b' v' b v := fun k h1 h2 => h k h2 h1
theorem Bx.other (h : Bx f te tc w B b v xs) (hd : Dj b v b' v') (ho : Only (CrS b' v') w w') : Bx f te tc w' B b v xs :=
  h.only ho (hd b (.inl rfl)) (fun k hk => hd k (.inr hk))
theorem Dj.next (hd : Dj b v b' v') (h : Bx f te tc w B b v xs) (ho : ∀ k, v1.ownBlock = some k → v'.ownBlock = some k ∨ w.heap.size ≤ k) : Dj b v b' v1 := by
  rintro k hk (e | e)
  · exact hd k hk (.inl e)
  · rcases ho k e with e | e
    · exact hd k hk (.inr e)
    · have := (h.foot k hk).2
      omega
theorem Bx.apart (h : Bx f te tc w B b v xs) (h' : Bx f' te' tc' w' B' b' v' ys) (hB : w.heap.size ≤ B') : Dj b v b' v' := by
  intro k h1 h2
  have := (h.foot k h1).2
  have := (h'.foot k h2).1
  omega
end
theorem Bx.beside {β : Type} {f' : Fl β} {te' tc' : TypeId} {w w' : World} {B' b b' : Nat} {v v1 v' : Value} {ys : List β} (h' : Bx f' te' tc' w B' b' v' ys) (hd : Dj b v b' v') (ho : Only (CrS b v) w w') (hq : ∀ k, v1.ownBlock = some k → v.ownBlock = some k ∨ w.heap.size ≤ k) :
    Bx f' te' tc' w' B' b' v' ys ∧ Dj b v1 b' v' := ⟨h'.other hd.symm ho, (hd.symm.next h' hq).symm⟩
theorem AddPost.yes {w : World} {B b : Nat} {v : Value} {its : List It} {x : It} {e : Ending} {w' : World} (h : AddPost w B b v its x e w') (hB : B ≤ w.heap.size) (hf : Cr w B b v its) (hl : its.length < 100) :
    e = .returned (.bool true) ∧ ∃ v', Cr w' B b v' (its ++ [x]) ∧ Only (CrS b v) w w' ∧ (∀ k, v'.ownBlock = some k → v.ownBlock = some k ∨ w.heap.size ≤ k) ∧ Below B w w' := by
  rcases h with ⟨h1, _⟩ | ⟨_, rfl, v', h3, h4, h5⟩
  · omega
  · exact ⟨rfl, v', h3, h4, h5, h4.below hB (fun q hq hs => (hf.foot q hs).1)⟩
set_option maxHeartbeats 4000000 in
theorem kinds_calls (n : Int) (s : ByteArray) (t : Bool) (w : World) :
    Calls Try.prog 10 #[.int .i64 n, .string s, .bool t] w fun e w' => e = .returned (.bool true) ∧ Below w.heap.size w w' := by
  by_cases h0 : 200 < s.size
  · have h0' : (200 : Int) < s.size := by omega
    go_enter Try.func10, Try.ntmps10
    go_wp2_with fail
    go_ret
    exact ⟨rfl, Below.refl _ _⟩
  have h0' : ¬ (200 : Int) < s.size := by omega
  go_enter Try.func10, Try.ntmps10
  go_wp2_with fail
  refine (NewBox_calls w).mono ?_
  rintro e w1 ⟨b1, rfl, c1, g1⟩
  go_wp2_with fail
  refine (NewBox_calls w1).mono ?_
  rintro e w2 ⟨b2, rfl, c2, g2⟩
  go_wp2_with fail
  refine (NewBox_calls w2).mono ?_
  rintro e w3 ⟨b3, rfl, c3, g3⟩
  have d12 := c1.apart c2 (Nat.le_refl _)
  have d13 := (c1.stay g2).apart c3 (Nat.le_refl _)
  have d23 := c2.apart c3 (Nat.le_refl _)
  have c1 := ((c1.stay g2).stay g3)
  have c2 := ((c2.stay g3).lower g1.size)
  have c3 := (c3.lower (Nat.le_trans g1.size g2.size))
  have g := below_more (below_more g1 g2) g3
  have C1 := Lib.hid c1
  have C2 := Lib.hid c2
  have C3 := Lib.hid c3
  have G := Lib.hid g
  clear c1 c2 c3 g g1 g2 g3
  go_wp2_with fail
  refine (AddInt_calls n w3 w.heap.size b1 _ [] C1.out G.out.size).mono ?_
  rintro e w4 hp
  obtain ⟨rfl, v1, c1, o1, q1, g1⟩ := hp.yes G.out.size C1.out (by decide)
  clear hp
  obtain ⟨c2, d12⟩ := C2.out.beside d12 o1 q1
  obtain ⟨c3, d13⟩ := C3.out.beside d13 o1 q1
  have C1 := Lib.hid c1
  have C2 := Lib.hid c2
  have C3 := Lib.hid c3
  have G := Lib.hid (G.out.trans g1)
  clear c1 c2 c3 o1 q1 g1
  go_wp2_with fail
  refine (AddText_calls s w4 w.heap.size b2 _ [] C2.out G.out.size).mono ?_
  rintro e w5 hp
  obtain ⟨rfl, v2, c2, o1, q1, g1⟩ := hp.yes G.out.size C2.out (by decide)
  clear hp
  obtain ⟨c1, d12⟩ := C1.out.beside d12.symm o1 q1
  obtain ⟨c3, d23⟩ := C3.out.beside d23 o1 q1
  have C1 := Lib.hid c1
  have C2 := Lib.hid c2
  have C3 := Lib.hid c3
  have G := Lib.hid (G.out.trans g1)
  clear c1 c2 c3 o1 q1 g1
  go_wp2_with fail
  refine (AddBool_calls t w5 w.heap.size b3 _ [] C3.out G.out.size).mono ?_
  rintro e w6 hp
  obtain ⟨rfl, v3, c3, o1, q1, g1⟩ := hp.yes G.out.size C3.out (by decide)
  clear hp
  obtain ⟨c1, d13⟩ := C1.out.beside d13.symm o1 q1
  obtain ⟨c2, d23⟩ := C2.out.beside d23.symm o1 q1
  have C1 := Lib.hid c1.cz
  have C2 := Lib.hid c2.cz
  have C3 := Lib.hid c3.cz
  have G := Lib.hid (G.out.trans g1)
  have n12 : decide (([] : List It) ++ [.num n] = [] ++ [.txt s]) = false := by simp
  have n23 : decide (([] : List It) ++ [.txt s] = [] ++ [.tru t]) = false := by simp
  have n13 : decide (([] : List It) ++ [.num n] = [] ++ [.tru t]) = false := by simp
  have S12 := fun w h => Same_calls w _ _ _ _ (C1.out.stay (w1 := w) h) (C2.out.stay h)
  have S23 := fun w h => Same_calls w _ _ _ _ (C2.out.stay (w1 := w) h) (C3.out.stay h)
  have S13 := fun w h => Same_calls w _ _ _ _ (C1.out.stay (w1 := w) h) (C3.out.stay h)
  rw [n12] at S12
  rw [n23] at S23
  rw [n13] at S13
  have S12 := Lib.hid S12
  have S13 := Lib.hid S13
  have S23 := Lib.hid S23
  clear c1 c2 c3 o1 q1 g1 d12 d13 d23 n12 n13 n23
  go_wp2_with fail
  refine (Int_calls w6 _ _ C1.out 0).mono ?_
  rintro e w7 ⟨rfl, rfl⟩
  go_wp2_with fail
  refine (Text_calls w6 _ _ C2.out 0).mono ?_
  rintro e w7 ⟨rfl, rfl⟩
  go_wp2_with fail
  refine (Bool_calls w6 _ _ C3.out 0).mono ?_
  rintro e w7 ⟨rfl, rfl⟩
  go_wp2_with fail
  refine (S12.out w6 (Below.refl _ _)).mono ?_
  rintro e w7 ⟨rfl, x7⟩
  go_wp2_with fail
  refine (S23.out w7 x7).mono ?_
  rintro e w8 ⟨rfl, x8⟩
  have x8 := below_more x7 x8
  go_wp2_with fail
  refine (S13.out w8 x8).mono ?_
  rintro e w9 ⟨rfl, x9⟩
  have x9 := below_more x8 x9
  go_wp2_with fail
  refine (known_calls w9).mono ?_
  rintro e w10 ⟨rfl, x10⟩
  have x10 := G.out.trans ((below_more x9 x10).mono G.out.size)
  clear x7 x8 x9
  go_wp2_with fail
  go_ret
  exact ⟨by simp, x10⟩
end Go.Proofs.Ytekhogoggfacaaa
