/- flat.Read, and the document's. -/
import Derived.Test.YtmaehdoejpecgaaFlLaw
import Derived.Test.YtmaehdoejpecgaaRcDef
set_option linter.unusedVariables false
namespace Go.Proofs.Ytmaehdoejpecgaa
open Go.ChangeShapes Go.WideShapes Go.ChangeAt Go.RowKit

def stateB : ByteArray := ⟨#[115, 116, 97, 116, 101]⟩
def intsOf : List It → Option (List Int)
  | [] => some []
  | .num n :: r => (intsOf r).map (n :: ·)
  | _ :: _ => none
theorem intsOf_map : ∀ ns : List Int, intsOf (ns.map It.num) = some ns
  | [] => rfl
  | n :: r => by rw [List.map_cons, intsOf, intsOf_map r]; rfl
theorem intsOf_some : ∀ (l : List It) (ns : List Int), intsOf l = some ns → l = ns.map It.num
  | [], ns, h => by injection h with h; subst h; rfl
  | .num n :: r, ns, h => by
    rw [intsOf] at h
    obtain ⟨l, hl, rfl⟩ := Option.map_eq_some_iff.1 h
    rw [intsOf_some r l hl]
    rfl
  | .txt _ :: _, _, h => by simp [intsOf] at h
  | .tru _ :: _, _, h => by simp [intsOf] at h
theorem intsOf_none {l : List It} {k : Nat} {x : It} (hx : l[k]? = some x) (hn : ∀ n, x ≠ .num n) : intsOf l = none := by
  cases h : intsOf l with
  | none => rfl
  | some ns =>
    rw [intsOf_some l ns h, List.getElem?_map] at hx
    obtain ⟨n, _, rfl⟩ := Option.map_eq_some_iff.1 hx
    exact absurd rfl (hn n)
def readI (its : List It) : Option (Int × Int × List Rs) :=
  match intsOf (its.drop 1) with
  | none => none
  | some ns => if lk its 0 = some (.txt stateB) ∧ 3 ≤ ns.length then
      match takeN (ns.drop 3) with
      | none => none
      | some l => if ns.getD 2 0 = l.length then some (ns.getD 0 0, ns.getD 1 0, l) else none
    else none
def ReadPost (w : World) (r : Option (Int × Int × List Rs)) (e : Ending) (w' : World) : Prop :=
  (∃ a b l v, r = some (a, b, l) ∧ e = .returned (.tuple #[.int .i64 a, .int .i64 b, v, .bool true]) ∧ Ow flR w' w.heap.size 67 v l ∧ Below w.heap.size w w') ∨
  (r = none ∧ e = .returned (.tuple #[.int .i64 0, .int .i64 0, .slice none 0 0, .bool false]) ∧ Below w.heap.size w w')
theorem Rf.from {w : World} {b off n : Nat} {xs : List Int} (h : Rf flI w (some ⟨b, off, none⟩) n xs) (k : Nat) : Rf flI w (some ⟨b, off + k, none⟩) (n - k) (xs.drop k) := by
  obtain ⟨h1, h2, h3⟩ := h
  refine ⟨by rw [List.length_drop, h1], by omega, fun hn => ⟨b, off + k, rfl, fun j x hx i v hv => ?_⟩⟩
  obtain ⟨b', off', e, hc⟩ := h3 (by omega)
  cases e
  have := hc (k + j) x (by rw [List.getElem?_drop] at hx; exact hx) i v hv
  have e2 : off + k + j * flI.sz + i = off + (k + j) * flI.sz + i := by show off + k + j * 1 + i = off + (k + j) * 1 + i; omega
  rw [e2]
  exact this
theorem lk_at {its : List It} {k : Nat} {x : It} (h : its[k + 1]? = some x) : lk its ((k : Int) + 1) = some x := by
  unfold lk
  have e : ((k : Int) + 1).toNat = k + 1 := by omega
  rw [if_pos (by omega), e, h]
theorem drop1_at {its : List It} {k : Nat} {x : It} (h : its[k + 1]? = some x) : (its.drop 1)[k]? = some x := by
  rw [List.getElem?_drop, Nat.add_comm]; exact h
theorem take_more {its : List It} {k : Nat} {n : Int} {ns : List Int} (h : (its.drop 1).take k = ns.map It.num) (hx : (its.drop 1)[k]? = some (.num n)) : (its.drop 1).take (k + 1) = (ns ++ [n]).map It.num := by
  rw [List.take_add_one, h, hx]
  simp
theorem readI_ints {its : List It} (h : intsOf (its.drop 1) = none) : readI its = none := by unfold readI; rw [h]
theorem readI_of {its : List It} {ns : List Int} (h : intsOf (its.drop 1) = some ns) : readI its = (if lk its 0 = some (.txt stateB) ∧ 3 ≤ ns.length then
      match takeN (ns.drop 3) with
      | none => none
      | some l => if ns.getD 2 0 = l.length then some (ns.getD 0 0, ns.getD 1 0, l) else none
    else none) := by unfold readI; rw [h]
theorem state_is : (stateB.toList == [115, 116, 97, 116, 101]) = true := by decide +kernel
theorem state_not (s : ByteArray) (h : s ≠ stateB) : (s.toList == [115, 116, 97, 116, 101]) = false := by
  rw [beq_eq_false_iff_ne]
  intro e
  apply h
  have e2 : stateB.toList = [115, 116, 97, 116, 101] := by decide +kernel
  have e3 := e.trans e2.symm
  simp [ByteArray.toList_eq] at e3
  exact ByteArray.ext e3
theorem txt_not {o : Option It} {s : ByteArray} {b : Bool} (h : txtOf o = (s, b)) : (o = some (.txt stateB)) ↔ (b = true ∧ s = stateB) := by
  rcases o with _ | (n | t | x) <;> simp [txtOf] at h <;> obtain ⟨rfl, rfl⟩ := h <;> simp
set_option maxHeartbeats 4000000 in
theorem Read_calls (w : World) (p : Option Addr) (its : List It) (h : Cz w p its) (hl : its.length ≤ 100) :
    Calls Try.prog 29 #[.pointer p] w (ReadPost w (readI its)) := by
  obtain ⟨i0, hi0, hz0, hz1, hz2⟩ := info_parts info_int
  have H := Lib.hid h
  clear h
  go_enter Try.func29, Try.ntmps29
  go_wp2_with fail
  go_loopw [6, 7] (fun v i wr => ∃ (k : Nat) (ns : List Int), k ≤ its.length - 1 ∧ i = .int .i64 ((k : Int) + 1) ∧ Ow flI wr w.heap.size 3 v ns ∧ Hid (ns.length = k) ∧ Hid ((its.drop 1).take k = ns.map It.num) ∧ Below w.heap.size w wr) (fun _ i _ => its.length - (intOf i).toNat)
  case atStart => exact ⟨0, [], by omega, rfl, Ow.nil_ _ _ _ _, Lib.hid rfl, Lib.hid rfl, Below.refl _ _⟩
  case round =>
    obtain ⟨k, ns, hk, rfl, hown, hnl, hpre, hbr⟩ := hrel
    have hLen := Len_calls wr p its (H.out.stay hbr)
    have HO := Lib.hid hown
    have HB := Lib.hid hbr
    by_cases hlt : k + 1 < its.length
    · have hlt' : (k : Int) + 1 < (its.length : Int) := by omega
      have hx : its[k + 1]? = some its[k + 1] := List.getElem?_eq_getElem hlt
      generalize its[k + 1] = x at hx
      have hI := Int_calls wr p its (H.out.stay hbr) ((k : Int) + 1)
      rw [lk_at hx] at hI
      have HX := Lib.hid (drop1_at hx)
      clear hx
      rcases x with n | s | t
      · dsimp only [numOf] at hI
        obtain ⟨Av, cv, rfl⟩ := row_form hown
        clear hown hbr
        have hw1 : IntKind.i64.wrap ((k : Int) + 1 + 1) = (k : Int) + 1 + 1 := by rw [IntKind.wrap_i64]; omega
        go_wp2_with fail
        refine hLen.mono ?_
        rintro e w1 ⟨rfl, rfl⟩
        go_wp2_with fail
        refine hI.mono ?_
        rintro e w1 ⟨rfl, rfl⟩
        clear hLen hI
        go_wp2_with (at_builtin; refine wpList_append_any _ rfl (.tmp 26) (.tmp 28) _ rfl w.heap.size 3 i0 _ 1 8 Try.underlying22 hi0 hz0 hz1 hz2 rfl (by omega) (.slice Av ns.length cv) ns.length (ns.flatMap flI.enc) rfl (HO.out.alloc _) (wr.heap.size + 1) (some ⟨wr.heap.size, 0, none⟩) 1 1 (flI.enc n) rfl (box_reads flI wr _ _ n rfl) (flI.one _) (by have := hnl.out; simp only [maxLen]; omega) (by have := hnl.out; omega) (by simp; have := HB.out.size; omega) ?_; intro v1 w1 hown1 hg1 hat1)
        go_roundw
        case rel => exact ⟨k + 1, ns ++ [n], by omega, by go_num, Ow.snoc hown1, Lib.hid (by rw [List.length_append, hnl.out]; rfl), Lib.hid (take_more hpre.out HX.out), (HB.out.alloc HB.out.size _).grown hg1 (by simp; have := HB.out.size; omega) (HO.out.base_)⟩
        case measure => simp [intOf]; omega
      · dsimp only [numOf] at hI
        have HN := Lib.hid (readI_ints (intsOf_none HX.out (fun n hn => by cases hn)))
        clear hown hbr
        go_wp2_with fail
        refine hLen.mono ?_
        rintro e w1 ⟨rfl, rfl⟩
        go_wp2_with fail
        refine hI.mono ?_
        rintro e w1 ⟨rfl, rfl⟩
        go_wp2_with fail
        refine bodyPost_ret (results_list (rs := [.tmp 2, .tmp 3, .tmp 4, .tmp 5]) rfl (by simp) (.tmp (.tmp (.tmp (.tmp .nil))))) rfl ?_
        exact .inr ⟨HN.out, rfl, HB.out⟩
      · dsimp only [numOf] at hI
        have HN := Lib.hid (readI_ints (intsOf_none HX.out (fun n hn => by cases hn)))
        clear hown hbr
        go_wp2_with fail
        refine hLen.mono ?_
        rintro e w1 ⟨rfl, rfl⟩
        go_wp2_with fail
        refine hI.mono ?_
        rintro e w1 ⟨rfl, rfl⟩
        go_wp2_with fail
        refine bodyPost_ret (results_list (rs := [.tmp 2, .tmp 3, .tmp 4, .tmp 5]) rfl (by simp) (.tmp (.tmp (.tmp (.tmp .nil))))) rfl ?_
        exact .inr ⟨HN.out, rfl, HB.out⟩
    · have hge : ¬ (k : Int) + 1 < (its.length : Int) := by omega
      have hall : intsOf (its.drop 1) = some ns := by
        have := hpre.out
        rw [List.take_of_length_le (by simp; omega)] at this
        rw [this, intsOf_map]
      have HR := Lib.hid (readI_of hall)
      have hT := Text_calls wr p its (H.out.stay hbr) 0
      have hnk : ns.length ≤ 100 := by have := hnl.out; omega
      clear hall hlt
      rcases hsb : txtOf (lk its 0) with ⟨s, b⟩
      have HT := Lib.hid (txt_not hsb)
      rw [hsb] at hT
      dsimp only at hT
      clear hsb
      by_cases hgood : b = true ∧ s = stateB
      · obtain ⟨rfl, rfl⟩ := hgood
        have hs1 := state_is
        by_cases h3 : ns.length < 3
        · have HN : Hid (readI its = none) := Lib.hid (by rw [HR.out, if_neg (fun hh => by have := hh.2; omega)])
          have h3' : (ns.length : Int) < 3 := by omega
          obtain ⟨A, c, rfl, hRd, hc1, hc2⟩ := hown.readc (by decide)
          clear hown hbr hRd
          go_wp2_with fail
          refine hLen.mono ?_
          rintro e w1 ⟨rfl, rfl⟩
          go_wp2_with fail
          refine hT.mono ?_
          rintro e w1 ⟨rfl, rfl⟩
          go_wp2_with fail
          refine bodyPost_ret (results_list (rs := [.tmp 2, .tmp 3, .tmp 4, .tmp 5]) rfl (by simp) (.tmp (.tmp (.tmp (.tmp .nil))))) rfl ?_
          exact .inr ⟨HN.out, rfl, HB.out⟩
        · have h3' : ¬ (ns.length : Int) < 3 := by omega
          obtain ⟨A, c, rfl, hRd, hc1, hc2⟩ := hown.readc (by decide)
          obtain ⟨b0, o0, x0, rfl, hx0, d0⟩ := rfI_at hRd (j := 0) (by omega)
          obtain ⟨_, _, x1, e1, hx1, d1⟩ := rfI_at hRd (j := 1) (by omega)
          obtain ⟨_, _, x2, e2, hx2, d2⟩ := rfI_at hRd (j := 2) (by omega)
          cases e1
          cases e2
          have hq1 : (3 : Int) ≤ (ns.length : Int) := by omega
          have hq3 : (0 : Int) < (ns.length : Int) := by omega
          have hq4 : (1 : Int) < (ns.length : Int) := by omega
          have hq5 : (2 : Int) < (ns.length : Int) := by omega
          simp only [Nat.add_zero] at d0
          have hq2 : (ns.length : Int) ≤ (c : Int) := by omega
          have HR2 : Hid (readI its = match takeN (ns.drop 3) with | none => none | some l => if x2 = l.length then some (x0, x1, l) else none) := Lib.hid (by
            rw [HR.out, if_pos ⟨HT.out.2 ⟨rfl, rfl⟩, by omega⟩, List.getD_eq_getElem?_getD, List.getD_eq_getElem?_getD, List.getD_eq_getElem?_getD, hx0, hx1, hx2]; rfl)
          have e0 : ns.drop 3 = ns.drop 3 := rfl
          by_cases hc3 : c = 3
          · have hz : ns.length - 3 = 0 := by omega
            have hnil : ns.drop 3 = [] := List.drop_of_length_le (by omega)
            have HTk : Hid (Calls Try.prog 19 #[.slice (some ⟨b0, o0, none⟩) (ns.length - 3) 0] wr (TakePost wr (ns.drop 3))) := Lib.hid (by rw [hz, hnil]; exact Take_calls (some ⟨b0, o0, none⟩) 0 0 [] wr (Rf.nil_ _ _ _) (by omega) (by omega) (by omega))
            clear hz hnil e0
            clear hown hbr hRd hx0 hx1 hx2 HR HT
            go_wp2_with fail
            refine hLen.mono ?_
            rintro e w1 ⟨rfl, rfl⟩
            go_wp2_with fail
            refine hT.mono ?_
            rintro e w1 ⟨rfl, rfl⟩
            clear hLen hT
            go_wp2_with fail
            refine HTk.out.mono ?_
            rintro e w2 (⟨ys, v2, hy, rfl, o2, b2⟩ | ⟨hy, rfl, b2⟩)
            · have d0 := cell_stay b2 d0
              have d1 := cell_stay b2 d1
              have d2 := cell_stay b2 d2
              obtain ⟨A2, c2, rfl, -⟩ := o2.read (by decide)
              have HO2 := Lib.hid (Ow.lower o2 (base' := w.heap.size) HB.out.size)
              have HB2 := Lib.hid (HB.out.trans (b2.mono HB.out.size))
              have HR3 := HR2.out
              rw [hy] at HR3
              dsimp only at HR3
              clear o2 b2 hy HTk HR2
              by_cases hx : x2 = (ys.length : Int)
              · have hxb : (x2 != (ys.length : Int)) = false := by simp [hx]
                have HN := Lib.hid (HR3.trans (if_pos hx))
                clear HR3 hx
                go_wp2_with fail
                go_quiet (fail)
                go_wp2_with fail
                refine bodyPost_ret (results_list (rs := [.tmp 2, .tmp 3, .tmp 4, .tmp 5]) rfl (by simp) (.tmp (.tmp (.tmp (.tmp .nil))))) rfl ?_
                exact .inl ⟨x0, x1, ys, _, HN.out, rfl, HO2.out.drewN _, below_drawn HB2.out _⟩
              · have hxb : (x2 != (ys.length : Int)) = true := by simp [hx]
                have HN := Lib.hid (HR3.trans (if_neg hx))
                clear HR3 hx
                go_wp2_with fail
                refine bodyPost_ret (results_list (rs := [.tmp 2, .tmp 3, .tmp 4, .tmp 5]) rfl (by simp) (.tmp (.tmp (.tmp (.tmp .nil))))) rfl ?_
                exact .inr ⟨HN.out, rfl, HB2.out⟩
            · have HB2 := Lib.hid (HB.out.trans (b2.mono HB.out.size))
              have HN : Hid (readI its = none) := Lib.hid (by rw [HR2.out, hy])
              clear b2 hy HTk HR2
              go_wp2_with fail
              refine bodyPost_ret (results_list (rs := [.tmp 2, .tmp 3, .tmp 4, .tmp 5]) rfl (by simp) (.tmp (.tmp (.tmp (.tmp .nil))))) rfl ?_
              exact .inr ⟨HN.out, rfl, HB2.out⟩
          · have HTk : Hid (Calls Try.prog 19 #[.slice (some ⟨b0, o0 + 3, none⟩) (ns.length - 3) (c - 3)] wr (TakePost wr (ns.drop 3))) := Lib.hid (Take_calls (some ⟨b0, o0 + 3, none⟩) (ns.length - 3) (c - 3) (ns.drop 3) wr (hRd.from 3) (by omega) (by omega) (by omega))
            clear e0
            clear hown hbr hRd hx0 hx1 hx2 HR HT
            go_wp2_with fail
            refine hLen.mono ?_
            rintro e w1 ⟨rfl, rfl⟩
            go_wp2_with fail
            refine hT.mono ?_
            rintro e w1 ⟨rfl, rfl⟩
            clear hLen hT
            go_wp2_with fail
            refine HTk.out.mono ?_
            rintro e w2 (⟨ys, v2, hy, rfl, o2, b2⟩ | ⟨hy, rfl, b2⟩)
            · have d0 := cell_stay b2 d0
              have d1 := cell_stay b2 d1
              have d2 := cell_stay b2 d2
              obtain ⟨A2, c2, rfl, -⟩ := o2.read (by decide)
              have HO2 := Lib.hid (Ow.lower o2 (base' := w.heap.size) HB.out.size)
              have HB2 := Lib.hid (HB.out.trans (b2.mono HB.out.size))
              have HR3 := HR2.out
              rw [hy] at HR3
              dsimp only at HR3
              clear o2 b2 hy HTk HR2
              by_cases hx : x2 = (ys.length : Int)
              · have hxb : (x2 != (ys.length : Int)) = false := by simp [hx]
                have HN := Lib.hid (HR3.trans (if_pos hx))
                clear HR3 hx
                go_wp2_with fail
                go_quiet (fail)
                go_wp2_with fail
                refine bodyPost_ret (results_list (rs := [.tmp 2, .tmp 3, .tmp 4, .tmp 5]) rfl (by simp) (.tmp (.tmp (.tmp (.tmp .nil))))) rfl ?_
                exact .inl ⟨x0, x1, ys, _, HN.out, rfl, HO2.out.drewN _, below_drawn HB2.out _⟩
              · have hxb : (x2 != (ys.length : Int)) = true := by simp [hx]
                have HN := Lib.hid (HR3.trans (if_neg hx))
                clear HR3 hx
                go_wp2_with fail
                refine bodyPost_ret (results_list (rs := [.tmp 2, .tmp 3, .tmp 4, .tmp 5]) rfl (by simp) (.tmp (.tmp (.tmp (.tmp .nil))))) rfl ?_
                exact .inr ⟨HN.out, rfl, HB2.out⟩
            · have HB2 := Lib.hid (HB.out.trans (b2.mono HB.out.size))
              have HN : Hid (readI its = none) := Lib.hid (by rw [HR2.out, hy])
              clear b2 hy HTk HR2
              go_wp2_with fail
              refine bodyPost_ret (results_list (rs := [.tmp 2, .tmp 3, .tmp 4, .tmp 5]) rfl (by simp) (.tmp (.tmp (.tmp (.tmp .nil))))) rfl ?_
              exact .inr ⟨HN.out, rfl, HB2.out⟩
      · have HN : Hid (readI its = none) := Lib.hid (by rw [HR.out, if_neg (fun hh => hgood (HT.out.1 hh.1))])
        cases b with
        | false =>
          clear hown hbr
          go_wp2_with fail
          refine hLen.mono ?_
          rintro e w1 ⟨rfl, rfl⟩
          go_wp2_with fail
          refine hT.mono ?_
          rintro e w1 ⟨rfl, rfl⟩
          go_wp2_with fail
          refine bodyPost_ret (results_list (rs := [.tmp 2, .tmp 3, .tmp 4, .tmp 5]) rfl (by simp) (.tmp (.tmp (.tmp (.tmp .nil))))) rfl ?_
          exact .inr ⟨HN.out, rfl, HB.out⟩
        | true =>
          have hs1 := state_not s (fun hh => hgood ⟨rfl, hh⟩)
          clear hown hbr
          go_wp2_with fail
          refine hLen.mono ?_
          rintro e w1 ⟨rfl, rfl⟩
          go_wp2_with fail
          refine hT.mono ?_
          rintro e w1 ⟨rfl, rfl⟩
          go_wp2_with fail
          refine bodyPost_ret (results_list (rs := [.tmp 2, .tmp 3, .tmp 4, .tmp 5]) rfl (by simp) (.tmp (.tmp (.tmp (.tmp .nil))))) rfl ?_
          exact .inr ⟨HN.out, rfl, HB.out⟩
end Go.Proofs.Ytmaehdoejpecgaa
