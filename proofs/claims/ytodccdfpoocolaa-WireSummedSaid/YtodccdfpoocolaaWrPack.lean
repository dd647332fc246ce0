/- wire.Pack. -/
import Derived.Test.YtodccdfpoocolaaWrThg
import Derived.Test.YtodccdfpoocolaaSumKn
set_option linter.unusedVariables false
namespace Go.Proofs.Ytodccdfpoocolaa
open Go.RowKit Go.Lib

def bodyB (its : List It) : List Nat := (its.length % 256) :: its.flatMap thingB
def headB (body : List Nat) : List Nat := bigB (crcAll [body]) 4 ++ bigB body.length 2
def packB (its : List It) : Option (List Nat) := if its.all okB = true ∧ (bodyB its).length ≤ 4000 then some (headB (bodyB its) ++ bodyB its) else none
theorem byteAt_lt (z m i : Nat) : byteAt z m i < 256 := Nat.mod_lt _ (by decide)
theorem bigB_byte (z m : Nat) : ∀ x ∈ bigB z m, x < 256 := by
  intro x hx
  obtain ⟨i, _, rfl⟩ := List.mem_map.1 hx
  exact byteAt_lt _ _ _
theorem strB_byte (s : ByteArray) : ∀ x ∈ strB s, x < 256 := by
  intro x hx
  obtain ⟨b, _, rfl⟩ := List.mem_map.1 hx
  exact b.toNat_lt
theorem thingB_byte (x : It) : ∀ y ∈ thingB x, y < 256 := by
  intro y hy
  cases x with
  | num n =>
    rcases List.mem_cons.1 hy with rfl | h
    · decide
    · exact bigB_byte _ _ _ h
  | txt s =>
    rcases List.mem_cons.1 hy with rfl | h
    · decide
    · rcases List.mem_cons.1 h with rfl | h
      · exact Nat.mod_lt _ (by decide)
      · exact strB_byte _ _ h
  | tru b =>
    rcases List.mem_cons.1 hy with rfl | h
    · decide
    · rw [List.mem_singleton.1 h]; cases b <;> decide
theorem bodyB_byte (its : List It) : ∀ y ∈ bodyB its, y < 256 := by
  intro y hy
  rcases List.mem_cons.1 hy with rfl | h
  · exact Nat.mod_lt _ (by decide)
  · obtain ⟨x, _, hx⟩ := List.mem_flatMap.1 h
    exact thingB_byte x y hx
theorem crcAll_u32 (ls : List (List Nat)) : crcAll ls < 4294967296 := by unfold crcAll crcNot; omega
/-- A row of bytes is read as bytes. -/
theorem rdb_of {w : World} {A : Option Addr} {n : Nat} {xs : List Nat} (h : Rf flB w A n xs) (hx : ∀ x ∈ xs, x < 256) : RdB w A n xs := by
  refine ⟨h.1, h.2.1, hx, fun hn => ?_⟩
  obtain ⟨b, off, e, hc⟩ := h.2.2 hn
  refine ⟨b, off, e, fun j hj => ?_⟩
  have hg : xs[j]? = some (xs.getD j 0) := by rw [List.getD_eq_getElem?_getD, List.getElem?_eq_getElem (by rw [h.1]; exact hj)]; rfl
  have := hc j _ hg 0 _ rfl
  simpa [flB] using this
theorem take_flat {its : List It} {k : Nat} {x : It} (hx : its[k]? = some x) : (its.take (k + 1)).flatMap thingB = (its.take k).flatMap thingB ++ thingB x := by
  rw [List.take_add_one, hx]
  simp
theorem flat_take_le (its : List It) (k : Nat) : ((its.take k).flatMap thingB).length ≤ (its.flatMap thingB).length := by
  conv => rhs; rw [← List.take_append_drop k its, List.flatMap_append, List.length_append]
  omega
theorem thing_le {its : List It} {x : It} (h : x ∈ its) : (thingB x).length ≤ (its.flatMap thingB).length := by
  induction its with
  | nil => cases h
  | cons y r ih =>
    rw [List.flatMap_cons, List.length_append]
    rcases List.mem_cons.1 h with rfl | h
    · omega
    · have := ih h; omega
def PackPost (w : World) (r : Option (List Nat)) (e : Ending) (w' : World) : Prop :=
  (∃ bs v, r = some bs ∧ e = .returned (.tuple #[v, .int .i64 0]) ∧ Ow flB w' w.heap.size 5 v bs ∧ Below w.heap.size w w') ∨
  (r = none ∧ e = .returned (.tuple #[.slice none 0 0, .int .i64 1]) ∧ Below w.heap.size w w')
set_option maxHeartbeats 4000000 in
theorem Pack_calls (w : World) (b : Nat) (its : List It) (hc : Cz w (some ⟨b, 0, none⟩) its) (hl : (bodyB its).length ≤ 400000) (hn : its.length ≤ 100) :
    Calls Try.prog 15 #[.pointer (some ⟨b, 0, none⟩)] w (PackPost w (packB its)) := by
  obtain ⟨i0, hi0, hz0, hz1, hz2⟩ := info_parts info_b
  have HC := Lib.hid hc
  have HL := Lib.hid hl
  have hL1 := Len_calls w _ its hc
  have hb1 : Below w.heap.size w (w.alloc (.cells #[.int .u8 (its.length : Int)] 5)) := below_new w _
  have hL2 := Lib.hid (Len_calls _ _ its (hc.stay hb1))
  have hO0 : Ow flB (w.alloc (.cells #[.int .u8 (its.length : Int)] 5)) w.heap.size 5 (.slice (some ⟨w.heap.size, 0, none⟩) 1 1) [its.length % 256] :=
    Ow.lit (f := flB) (xs := [its.length % 256]) w w.heap.size 5 #[.int .u8 (its.length : Int)] (Nat.le_refl _) (by simp) (by show _ = [Value.int .u8 ((its.length % 256 : Nat) : Int)]; rw [Nat.mod_eq_of_lt (by omega)])
  have HO0 := Lib.hid hO0
  have HB1 := Lib.hid hb1
  clear hO0 hb1 hc hl
  go_enter Try.func15, Try.ntmps15
  go_wp2_with fail
  refine hL1.mono ?_
  rintro e w1 ⟨rfl, rfl⟩
  clear hL1
  go_wp2_with fail
  refine hL2.out.mono ?_
  rintro e w1 ⟨rfl, rfl⟩
  clear hL2
  go_wp2_with fail
  go_loopw [4, 17] (fun v i wr => ∃ k : Nat, k ≤ its.length ∧ i = .int .i64 k ∧ Hid (Ow flB wr w.heap.size 5 v ((its.length % 256) :: (its.take k).flatMap thingB)) ∧ Hid (Below w.heap.size w wr) ∧ Hid (∀ x ∈ its.take k, okB x = true)) (fun _ i _ => its.length - (intOf i).toNat)
  case atStart => exact ⟨0, by omega, rfl, HO0, HB1, Lib.hid (by simp)⟩
  case round =>
    obtain ⟨k, hk, rfl, hO, hB, hok⟩ := hrel
    by_cases hlt : k < its.length
    · have hx : its[k]? = some its[k] := List.getElem?_eq_getElem hlt
      have hmem : its[k] ∈ its := List.getElem_mem hlt
      generalize its[k] = x at hx hmem
      have hxl := thing_le hmem
      obtain ⟨R, hR⟩ : ∃ R, R = (its.length % 256) :: (its.take k).flatMap thingB := ⟨_, rfl⟩
      rw [← hR] at hO
      obtain ⟨Av, cv, rfl⟩ := row_form hO.out
      have hbd := HL.out
      unfold bodyB at hbd
      rw [List.length_cons] at hbd
      have hlen : R.length ≤ 500000 := by
        have := flat_take_le its k
        rw [hR, List.length_cons]
        omega
      have hTh := thing_calls w _ its HC.out _ _ wr hB.out hO.out hlen k x hx (fun s e => by
        subst e
        simp only [thingB, List.length_cons, strB_len] at hxl
        omega)
      have HT := Lib.hid hTh
      have HX := Lib.hid hx
      have HRR := Lib.hid hR
      clear hTh hx hmem hxl hlen hbd hR
      go_wp2_with fail
      refine HT.out.mono ?_
      rintro e w2 ⟨v2, rfl, o2, b2⟩
      have HO2 := Lib.hid o2
      have HB2 := Lib.hid b2
      clear o2 b2 HT
      cases hox : okB x with
      | false =>
        have HN : Hid (packB its = none) := Lib.hid (by
          unfold packB
          rw [if_neg]
          rintro ⟨h, _⟩
          rw [List.all_eq_true] at h
          have := h x (List.mem_of_getElem? HX.out)
          rw [hox] at this
          cases this)
        clear hox
        go_wp2_with fail
        go_ret2
        exact .inr ⟨HN.out, rfl, HB2.out⟩
      | true =>
        have HOX := Lib.hid hox
        clear hox
        go_wp2_with fail
        go_roundw
        case rel => exact ⟨k + 1, by omega, by go_num, Lib.hid (by have h2 := HO2.out; rw [HRR.out] at h2; rw [take_flat HX.out]; exact h2), HB2, Lib.hid (fun y hy => by
          rw [List.take_add_one, HX.out] at hy
          rcases List.mem_append.1 hy with h | h
          · exact hok.out y h
          · have : y = x := by simpa using h
            rw [this]; exact HOX.out)⟩
        case measure => simp [intOf]; omega
    · have hkL : k = its.length := by omega
      have hO' := hO.out
      rw [hkL, List.take_length] at hO'
      change Ow flB wr _ _ _ (bodyB its) at hO'
      have hall : its.all okB = true := by
        rw [List.all_eq_true]
        intro y hy
        have := hok.out
        rw [hkL, List.take_length] at this
        exact this y hy
      obtain ⟨A, c, rfl, hR⟩ := hO'.read (by decide)
      have hbl := HL.out
      generalize hbody : bodyB its = body at *
      have hby : ∀ x ∈ body, x < 256 := by rw [← hbody]; exact bodyB_byte its
      by_cases h4 : body.length ≤ 4000
      · have HP : Hid (packB its = some (headB body ++ body)) := Lib.hid (by unfold packB; rw [hbody, if_pos ⟨hall, h4⟩])
        have hb2 : Below wr.heap.size wr (wr.alloc (.cells #[.slice A body.length c] 25)) := below_new wr _
        have HS := Lib.hid (Of_calls _ 1 1 [body] (wr.alloc (.cells #[.slice A body.length c] 25)) (rows_one wr.heap.size _ (rdb_of (hR.stay hb2) hby) ((Blk.new wr _ _ (0, 0)).cell 0)))
        have hcr := crcAll_u32 [body]
        have HR := Lib.hid (hR.stay hb2)
        have HB2 := Lib.hid (below_more hB.out hb2)
        clear hO' hall hR hby hb2 hkL hbody hO hB hok HC HL
        go_wp2_with fail
        refine HS.out.mono ?_
        rintro e w2 ⟨rfl, rfl⟩
        clear HS
        generalize hW : wr.alloc (.cells #[.slice A body.length c] 25) = W at *
        clear hW
        go_wp2_with fail
        refine (number_calls W (.slice none 0 0) [] (crcAll [body]) 4 (by omega) (by omega) W (Below.refl _ _) (Ow.nil_ _ _ _ _) (by simp)).mono ?_
        rintro e w2 ⟨v2, rfl, o2, b2⟩
        obtain ⟨A2, c2, rfl, -⟩ := o2.read (by decide)
        have hl2 : ([] ++ bigB (crcAll [body]) 4).length = 4 := by simp [bigB, bigTo_len]
        rw [hl2]
        have HO2 := Lib.hid o2
        have HB3 := Lib.hid b2
        clear o2 b2
        go_wp2_with fail
        refine (number_calls W _ ([] ++ bigB (crcAll [body]) 4) body.length 2 (by omega) (by omega) w2 HB3.out (by have := HO2.out; rw [hl2] at this; exact this) (by rw [hl2]; omega)).mono ?_
        rintro e w3 ⟨v3, rfl, o3, b3⟩
        have o3' : Ow flB w3 W.heap.size 5 v3 (headB body) := o3
        obtain ⟨A3, c3, rfl, -⟩ := o3'.read (by decide)
        have hl3 : (headB body).length = 6 := by simp [headB, bigB, bigTo_len]
        have HO3 := Lib.hid (show w3.ownsRow W.heap.size 5 1 (.slice A3 6 c3) 6 ((headB body).flatMap flB.enc) from by have h := o3'; unfold Ow at h; rw [hl3] at h; exact h)
        have HB4 := Lib.hid b3
        have HR3 := Lib.hid (HR.out.stay b3)
        have hs3 := b3.size
        rw [hl3]
        have hl3 := Lib.hid hl3
        clear o3 o3' b3 HO2 HB3 hl2 HR
        go_wp2_with (at_builtin; refine wpList_append_any _ rfl (.tmp 43) (.tmp 44) _ rfl W.heap.size 5 i0 _ 1 1 Try.underlying25 hi0 hz0 hz1 hz2 rfl (by omega) (.slice A3 6 c3) 6 ((headB body).flatMap flB.enc) rfl HO3.out w3.heap.size A body.length c (body.flatMap flB.enc) rfl (HR3.out.reads (by decide)) (flat_one flB _) (by simp only [maxLen]; omega) (by omega) hs3 ?_; intro v5 w5 hown5 hg5 hat5)
        have hO5 : Ow flB w5 W.heap.size 5 v5 (headB body ++ body) := Ow.join (f := flB) (xs := headB body) (ys := body) (m := body.length) rfl (by rw [hl3.out]; exact hown5)
        have hB5 : Below W.heap.size W w5 := HB4.out.grown hg5 hs3 (fun q hq => (World.ownsRow.lt HO3.out q hq).1)
        have HO5 := Lib.hid (Ow.lower hO5 (base' := w.heap.size) HB2.out.size)
        have HB6 := Lib.hid (below_more HB2.out hB5)
        clear hO5 hB5 hown5 hg5 hat5 HO3 HB4 HR3
        go_ret2
        exact .inl ⟨_, _, HP.out, rfl, HO5.out, HB6.out⟩
      · have HP : Hid (packB its = none) := Lib.hid (by unfold packB; rw [hbody, if_neg (fun h => h4 h.2)])
        clear hO' hall hR hby hbody
        go_wp2_with fail
        go_ret2
        exact .inr ⟨HP.out, rfl, hB.out⟩
end Go.Proofs.Ytodccdfpoocolaa
