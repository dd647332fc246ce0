/- wire.Unpack. -/
import Derived.Test.YtodccdfpoocolaaWrAdd
set_option linter.unusedVariables false
namespace Go.Proofs.Ytodccdfpoocolaa
open Go.RowKit Go.Lib

def parse : Nat → List It → List Nat → Option (List It)
  | 0, acc, _ => some acc
  | n + 1, acc, bs => if acc.length < 100 then match takeI bs with | none => none | some (x, r) => parse n (acc ++ [x]) r else none
def unpackP (bs : List Nat) : Option (List It) :=
  if bs.length ≤ 6 then none else match parse (bs.getD 6 0) [] (bs.drop 7) with
    | none => none
    | some its => if packB its = some bs then some its else none
theorem takeI_len {bs r : List Nat} {x : It} (h : takeI bs = some (x, r)) : (thingB x).length + r.length = bs.length := by
  unfold takeI at h
  split at h
  · cases h
  · rename_i k t
    split at h
    · split at h
      · injection h with h; injection h with h1 h2; subst h1; subst h2
        simp [thingB, bigB, bigTo_len]; omega
      · cases h
    · split at h
      · split at h
        · cases h
        · split at h
          · injection h with h; injection h with h1 h2; subst h1; subst h2
            simp only [thingB, List.length_cons, strB_len, List.length_drop]
            unfold strOfB
            rw [strOfNums_size, List.length_map, List.length_take]
            omega
          · cases h
      · split at h
        · split at h
          · cases h
          · injection h with h; injection h with h1 h2; subst h1; subst h2
            simp [thingB]; omega
        · cases h
theorem takeI_byte {bs r : List Nat} {x : It} (h : takeI bs = some (x, r)) (hb : ∀ y ∈ bs, y < 256) : ∀ y ∈ r, y < 256 := by
  unfold takeI at h
  split at h
  · cases h
  · rename_i k t
    have ht : ∀ y ∈ t, y < 256 := fun y hy => hb y (List.mem_cons_of_mem _ hy)
    split at h
    · split at h
      · injection h with h; injection h with h1 h2; subst h2
        exact fun y hy => ht y (List.mem_of_mem_drop hy)
      · cases h
    · split at h
      · split at h
        · cases h
        · split at h
          · injection h with h; injection h with h1 h2; subst h2
            exact fun y hy => ht y (List.mem_cons_of_mem _ (List.mem_of_mem_drop hy))
          · cases h
      · split at h
        · split at h
          · cases h
          · injection h with h; injection h with h1 h2; subst h2
            exact fun y hy => ht y (List.mem_cons_of_mem _ hy)
        · cases h
theorem strOfB_inj {xs ys : List Nat} (hx : ∀ x ∈ xs, x < 256) (hy : ∀ y ∈ ys, y < 256) (h : strOfB xs = strOfB ys) : xs = ys := by
  have h1 : (strOfB xs).data.toList.map UInt8.toNat = (strOfB ys).data.toList.map UInt8.toNat := by rw [h]
  have key : ∀ zs : List Nat, (∀ z ∈ zs, z < 256) → (strOfB zs).data.toList.map UInt8.toNat = zs := by
    intro zs hz
    unfold strOfB
    rw [strOfNums_data, List.map_map, List.map_map]
    conv => rhs; rw [← List.map_id zs]
    refine List.map_congr_left fun z hzm => ?_
    have := hz z hzm
    simp [UInt8.toNat_ofNat]
    omega
  rw [key xs hx, key ys hy] at h1
  exact h1
theorem Equal_calls (w : World) (A B : Option Addr) (n m c d : Nat) (xs ys : List Nat) (hA : Rf flB w A n xs) (hB : Rf flB w B m ys) (hx : ∀ x ∈ xs, x < 256) (hy : ∀ y ∈ ys, y < 256) :
    Calls Try.prog 38 #[.slice A n c, .slice B m d] w fun e w' => e = .returned (.bool (decide (xs = ys))) ∧ w = w' := by
  have k1 := conv_str (c := c) hA
  have k2 := conv_str (c := d) hB
  by_cases h : xs = ys
  · have hs : ((strOfB xs).toList == (strOfB ys).toList) = true := by rw [h]; exact beq_self_eq_true _
    rw [decide_eq_true h]
    clear hA hB hx hy h
    generalize strOfB xs = s at *
    generalize strOfB ys = t at *
    go_enter Try.func38, Try.ntmps38
    go_wp2_with fail
    go_ret
    exact ⟨rfl, rfl⟩
  · have hs : ((strOfB xs).toList == (strOfB ys).toList) = false := by
      rw [beq_eq_false_iff_ne]
      intro e
      rw [ByteArray.toList_eq, ByteArray.toList_eq] at e
      exact h (strOfB_inj hx hy (ByteArray.ext (Array.toList_inj.1 e)))
    rw [decide_eq_false h]
    clear hA hB hx hy h
    generalize strOfB xs = s at *
    generalize strOfB ys = t at *
    go_enter Try.func38, Try.ntmps38
    go_wp2_with fail
    go_ret
    exact ⟨rfl, rfl⟩
def UnpackPost (w : World) (r : Option (List It)) (e : Ending) (w' : World) : Prop :=
  (∃ its b v, r = some its ∧ e = .returned (.tuple #[.pointer (some ⟨b, 0, none⟩), .int .i64 0]) ∧ Cr w' w.heap.size b v its ∧ Below w.heap.size w w') ∨
  (r = none ∧ e = .returned (.tuple #[.pointer none, .int .i64 2]) ∧ Below w.heap.size w w')
theorem parse_step {n : Nat} {acc : List It} {bs r : List Nat} {x : It} (h : takeI bs = some (x, r)) (hl : acc.length < 100) : parse (n + 1) acc bs = parse n (acc ++ [x]) r := by
  rw [parse, if_pos hl, h]
theorem parse_stop {n : Nat} {acc : List It} {bs : List Nat} (h : takeI bs = none ∨ 100 ≤ acc.length) : parse (n + 1) acc bs = none := by
  rw [parse]
  split
  · rename_i hl
    rcases h with h | h
    · rw [h]
    · omega
  · rfl
theorem unpackP_short {bs : List Nat} (h : bs.length ≤ 6) : unpackP bs = none := if_pos h
theorem unpackP_long {bs : List Nat} (h : ¬ bs.length ≤ 6) : unpackP bs = match parse (bs.getD 6 0) [] (bs.drop 7) with
    | none => none
    | some its => if packB its = some bs then some its else none := by
  unfold unpackP
  rw [if_neg h]
set_option maxRecDepth 100000 in
set_option maxHeartbeats 8000000 in
theorem Unpack_calls (w : World) (A : Option Addr) (len c : Nat) (bs : List Nat) (hR : Rf flB w A len bs) (hx : ∀ x ∈ bs, x < 256) (hlc : len ≤ c) (hc2 : c ≤ 9223372036854775807) (hlen : len ≤ 300000) :
    Calls Try.prog 20 #[.slice A len c] w (UnpackPost w (unpackP bs)) := by
  have hbl : bs.length = len := hR.1
  by_cases h6 : len ≤ 6
  · have h6' : (len : Int) ≤ 6 := by omega
    have HN := Lib.hid (unpackP_short (bs := bs) (by omega))
    clear hR hx
    go_enter Try.func20, Try.ntmps20
    go_wp2_with fail
    go_ret2
    exact .inr ⟨HN.out, rfl, Below.refl _ _⟩
  · have h6' : ¬ (len : Int) ≤ 6 := by omega
    have hq1 : (6 : Int) ≤ (len : Int) := by omega
    have hq2 : (len : Int) ≤ (c : Int) := by omega
    have hc6 : ¬ c = 6 := by omega
    obtain ⟨bl, off, x0, rfl, _, _⟩ := rfB_at hR (j := 0) (by omega)
    have hU := Lib.hid (unpackP_long (bs := bs) (by omega))
    have hR6 : Rf flB w (some ⟨bl, off + 6, none⟩) (len - 6) (bs.drop 6) := by
      have := hR.cutB 6 (by omega) hlc
      rwa [show cutA (some ⟨bl, off, none⟩) c 6 = some ⟨bl, off + 6, none⟩ from if_neg hc6] at this
    have hx6 : ∀ x ∈ bs.drop 6, x < 256 := fun x h => hx x (List.mem_of_mem_drop h)
    have hn6 : numB ((bs.drop 6).take 1) = bs.getD 6 0 := by
      have hd : bs.drop 6 = bs[6]'(by omega) :: bs.drop 7 := List.drop_eq_getElem_cons (by omega)
      have hg : bs.getD 6 0 = bs[6]'(by omega) := by rw [List.getD_eq_getElem?_getD, List.getElem?_eq_getElem (show 6 < bs.length by omega)]; rfl
      rw [hd, hg]
      show 0 * 256 + bs[6]'(by omega) = _
      omega
    have hd7 : (bs.drop 6).drop 1 = bs.drop 7 := by rw [List.drop_drop]
    have HR := Lib.hid hR
    have HX := Lib.hid hx
    have HR6 := Lib.hid hR6
    have HX6 := Lib.hid hx6
    have HN6 := Lib.hid hn6
    have HD7 := Lib.hid hd7
    have HBL := Lib.hid hbl
    have hN256 : bs.getD 6 0 < 256 := by
      rw [List.getD_eq_getElem?_getD, List.getElem?_eq_getElem (show 6 < bs.length by omega)]
      exact hx _ (List.getElem_mem _)
    clear hR hx hR6 hx6 hn6 hd7 hbl
    go_enter Try.func20, Try.ntmps20
    go_wp2_with fail
    refine (boxNew_calls w).mono ?_
    rintro e w1 ⟨b, rfl, hc1, hb1⟩
    have HC1 := Lib.hid hc1
    have HB1 := Lib.hid hb1
    clear hc1 hb1
    go_wp2_with fail
    refine (taken_calls w1 (some ⟨bl, off + 6, none⟩) (len - 6) (c - 6) (bs.drop 6) (HR6.out.stay HB1.out) HX6.out (by omega) (by omega) 1 (by omega) (by omega)).mono ?_
    rintro e w2 ⟨rfl, b2⟩
    rw [if_pos (by omega), HN6.out]
    have HR7 := HR6.out.cutB (c := c - 6) 1 (by omega) (by omega)
    rw [HD7.out] at HR7
    have HB2 := Lib.hid (below_more HB1.out b2)
    have HC2 := Lib.hid (HC1.out.stay b2)
    have HX7 := Lib.hid (show ∀ x ∈ bs.drop 7, x < 256 from fun x h => HX.out x (List.mem_of_mem_drop h))
    have HL7 := Lib.hid (show (bs.drop 7).length = len - 6 - 1 from HR7.1)
    have HR7 := Lib.hid HR7
    generalize bs.getD 6 0 = N at *
    generalize cutA (some ⟨bl, off + 6, none⟩) (c - 6) 1 = A7 at *
    clear b2 HC1 HB1 HR6 HX6 HN6 HD7
    go_wp2_with fail
    go_loopw [6, 23] (fun rv i wr => ∃ (j : Nat) (acc : List It) (rest : List Nat) (A' : Option Addr) (c' : Nat), j ≤ N ∧ i = .int .u64 j ∧ rv = .slice A' rest.length c' ∧ Hid (Rf flB w A' rest.length rest ∧ (∀ x ∈ rest, x < 256) ∧ rest.length ≤ c' ∧ c' ≤ 9223372036854775807) ∧
      Hid ((∃ v, Cr wr w.heap.size b v acc) ∧ Below w.heap.size w wr) ∧ Hid (acc.length = j ∧ j ≤ 100 ∧ (acc.flatMap thingB).length + rest.length = len - 6 - 1 ∧ parse N [] (bs.drop 7) = parse (N - j) acc rest)) (fun _ i _ => N - (intOf i).toNat)
    case atStart =>
      exact ⟨0, [], bs.drop 7, A7, c - 6 - 1, by omega, rfl, by rw [HL7.out], Lib.hid ⟨by rw [HL7.out]; exact HR7.out, HX7.out, by rw [HL7.out]; omega, by omega⟩, Lib.hid ⟨⟨_, HC2.out⟩, HB2.out⟩, Lib.hid ⟨rfl, by omega, by rw [HL7.out]; simp, rfl⟩⟩
    case round =>
      obtain ⟨j, acc, rest, A', c', hj, rfl, rfl, hr1, hr2, hr3⟩ := hrel
      obtain ⟨v, hcr⟩ := hr2.out.1
      have HCR := Lib.hid hcr
      clear hcr
      by_cases hlt : j < N
      · go_wp2_with fail
        refine (addB_calls w wr hr2.out.2 b v acc HCR.out A' rest.length c' rest hr1.out.1 hr1.out.2.1 hr1.out.2.2.1 hr1.out.2.2.2).mono ?_
        rintro e w3 (⟨x, r, A3, c3, v3, ht, h100, rfl, hR3, hl3, hl4, hc3, hb3⟩ | ⟨hno, ⟨A3, n3, c3, rfl⟩, hb3⟩)
        · have HS := Lib.hid (And.intro (And.intro hR3 (And.intro (takeI_byte ht hr1.out.2.1) (And.intro hl3 hl4))) (And.intro (And.intro hc3 hb3) (And.intro ht h100)))
          clear hR3 hl3 hl4 hc3 hb3 ht h100
          go_wp2_with fail
          go_roundw
          case rel =>
            refine ⟨j + 1, acc ++ [x], r, A3, c3, by omega, by go_num, rfl, Lib.hid HS.out.1, Lib.hid ⟨⟨_, HS.out.2.1.1⟩, HS.out.2.1.2⟩, Lib.hid ⟨by rw [List.length_append, hr3.out.1]; rfl, ?_, ?_, ?_⟩⟩
            · have := HS.out.2.2.2; have := hr3.out.1; omega
            · have h1 := takeI_len HS.out.2.2.1
              have h2 := hr3.out.2.2.1
              rw [List.flatMap_append, List.length_append, List.flatMap_cons, List.flatMap_nil, List.append_nil]
              omega
            · rw [hr3.out.2.2.2, show N - j = (N - (j + 1)) + 1 by omega, parse_step HS.out.2.2.1 HS.out.2.2.2]
          case measure => simp [intOf]; omega
        · have HB3 := Lib.hid hb3
          have hpn : parse N [] (bs.drop 7) = none := by
            rw [hr3.out.2.2.2, show N - j = (N - (j + 1)) + 1 by omega]
            exact parse_stop hno
          have HN : Hid (unpackP bs = none) := Lib.hid (by rw [hU.out, hpn])
          clear hb3 hpn hno
          go_wp2_with fail
          go_ret2
          exact .inr ⟨HN.out, rfl, HB3.out⟩
      · have hjN : j = N := by omega
        have hpn : parse N [] (bs.drop 7) = some acc := by
          rw [hr3.out.2.2.2, hjN, Nat.sub_self]
          rfl
        have hUU : unpackP bs = if packB acc = some bs then some acc else none := by rw [hU.out, hpn]
        have HU := Lib.hid hUU
        have hbody : (bodyB acc).length ≤ 400000 := by
          have := hr3.out.2.2.1
          unfold bodyB
          rw [List.length_cons]
          omega
        have hacc := Lib.hid (show acc.length ≤ 100 by have := hr3.out.1; have := hr3.out.2.1; omega)
        have HBD := Lib.hid hbody
        clear hpn hUU hU hbody
        go_wp2_with fail
        refine (Pack_calls wr b acc HCR.out.cz HBD.out hacc.out).mono ?_
        rintro e w3 (⟨ps, v3, hp, rfl, o3, b3⟩ | ⟨hp, rfl, b3⟩)
        · obtain ⟨A3, c3, rfl, R3⟩ := o3.read (by decide)
          have HB3 := Lib.hid (hr2.out.2.trans (b3.mono hr2.out.2.size))
          have HC3 := Lib.hid (HCR.out.stay b3)
          have hps : ∀ x ∈ ps, x < 256 := by
            intro y hy
            unfold packB at hp
            split at hp
            · injection hp with hp
              rw [← hp] at hy
              rcases List.mem_append.1 hy with h | h
              · rcases List.mem_append.1 h with h | h
                · exact bigB_byte _ _ _ h
                · exact bigB_byte _ _ _ h
              · exact bodyB_byte _ _ h
            · cases hp
          have HE := Lib.hid (Equal_calls w3 A3 (some ⟨bl, off, none⟩) ps.length len c3 c ps bs R3 (HR.out.stay HB3.out) hps HX.out)
          have HPP := Lib.hid hp
          clear o3 b3 R3 hps hp
          go_wp2_with fail
          refine HE.out.mono ?_
          rintro e w4 ⟨rfl, rfl⟩
          by_cases heq : ps = bs
          · have HN : Hid (unpackP bs = some acc) := Lib.hid (by rw [HU.out, if_pos (by rw [HPP.out, heq])])
            rw [decide_eq_true heq]
            clear heq HE
            go_wp2_with fail
            go_ret2
            exact .inl ⟨acc, b, v, HN.out, rfl, HC3.out, HB3.out⟩
          · have HN : Hid (unpackP bs = none) := Lib.hid (by
              rw [HU.out, if_neg]
              intro h
              rw [HPP.out] at h
              injection h with h
              exact heq h)
            rw [decide_eq_false heq]
            clear heq HE
            go_wp2_with fail
            go_ret2
            exact .inr ⟨HN.out, rfl, HB3.out⟩
        · have HB3 := Lib.hid (hr2.out.2.trans (b3.mono hr2.out.2.size))
          have HN : Hid (unpackP bs = none) := Lib.hid (by rw [HU.out, hp]; exact if_neg (fun h => by cases h))
          clear b3 hp
          go_wp2_with fail
          go_ret2
          exact .inr ⟨HN.out, rfl, HB3.out⟩
end Go.Proofs.Ytodccdfpoocolaa
