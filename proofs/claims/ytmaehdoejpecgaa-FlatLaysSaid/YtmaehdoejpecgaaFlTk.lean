/- Numbers as routes: the document's Take. -/
import Derived.Test.YtmaehdoejpecgaaFlOf
set_option linter.unusedVariables false
namespace Go.Proofs.Ytmaehdoejpecgaa
open Go.ChangeShapes Go.WideShapes Go.ChangeAt Go.RowKit

def takeN : List Int → Option (List Rs)
  | [] => some []
  | a :: b :: c :: d :: r => if d = 0 ∨ d = 1 then (takeN r).map (⟨a, b, c, d == 1⟩ :: ·) else none
  | _ => none
theorem drop4 {xs : List Int} {p : Nat} {a b c d : Int} (ha : xs[p]? = some a) (hb : xs[p + 1]? = some b) (hc : xs[p + 2]? = some c) (hd : xs[p + 3]? = some d) : xs.drop p = a :: b :: c :: d :: xs.drop (p + 4) := by
  have e : ∀ (q : Nat) (y : Int), xs[q]? = some y → xs.drop q = y :: xs.drop (q + 1) := fun q y h => by
    rw [List.drop_eq_getElem_cons (List.getElem?_eq_some_iff.1 h).1, (List.getElem?_eq_some_iff.1 h).2]
  rw [e p a ha, e (p + 1) b hb, e (p + 2) c hc, e (p + 3) d hd]
theorem take_bad {xs : List Int} {p : Nat} {a b c d : Int} (h : xs.drop p = a :: b :: c :: d :: xs.drop (p + 4)) (h0 : d ≠ 0) (h1 : d ≠ 1) : takeN (xs.drop p) = none := by
  rw [h, takeN, if_neg (by omega)]
theorem take_ok {xs : List Int} {ys : List Rs} {p : Nat} {a b c d : Int} (hr : takeN xs = (takeN (xs.drop p)).map (ys ++ ·)) (h : xs.drop p = a :: b :: c :: d :: xs.drop (p + 4)) (h0 : d = 0 ∨ d = 1) :
    takeN xs = (takeN (xs.drop (p + 4))).map ((ys ++ [⟨a, b, c, d == 1⟩]) ++ ·) := by
  rw [hr, h, takeN, if_pos h0, Option.map_map]
  congr 1
  funext l
  simp
theorem take_len : ∀ (xs : List Int) (ys : List Rs), takeN xs = some ys → xs.length = ys.length * 4
  | [], ys, h => by injection h with h; subst h; rfl
  | a :: b :: c :: d :: r, ys, h => by
    rw [takeN] at h
    split at h
    · obtain ⟨l, hl, rfl⟩ := Option.map_eq_some_iff.1 h
      have := take_len r l hl
      simp; omega
    · cases h
  | [_], _, h => by simp [takeN] at h
  | [_, _], _, h => by simp [takeN] at h
  | [_, _, _], _, h => by simp [takeN] at h
def TakePost (w : World) (xs : List Int) (e : Ending) (w' : World) : Prop :=
  (∃ ys v, takeN xs = some ys ∧ e = .returned (.tuple #[v, .bool true]) ∧ Ow flR w' w.heap.size 67 v ys ∧ Below w.heap.size w w') ∨
  (takeN xs = none ∧ e = .returned (.tuple #[.slice none 0 0, .bool false]) ∧ Below w.heap.size w w')
theorem info_r : (Try.prog.info? 67).map (fun i => (i.zero, i.size, i.bytes)) = some (some (.agg #[.int .i64 0, .int .i64 0, .int .i64 0, .bool false]), 4, 32) := by kernel_rfl
set_option maxHeartbeats 4000000 in
theorem RefTake_calls (A : Option Addr) (n c : Nat) (xs : List Int) (w : World) (hA : Rf flI w A n xs) (hn : n ≤ 1000000) :
    Calls Try.prog 20 #[.slice A n c] w (TakePost w xs) := by
  obtain ⟨i0, hi0, hz0, hz1, hz2⟩ := info_parts info_r
  have H1 := Lib.hid hA.1
  by_cases h4 : n % 4 = 0
  · have hb : (((n : Int) % 4) != 0) = false := by simp; omega
    go_enter Try.func20, Try.ntmps20
    go_wp2_with fail
    go_loopw [4, 5] (fun v i wr => ∃ (P : Nat) (ys : List Rs), P ≤ n ∧ P % 4 = 0 ∧ ys.length * 4 = P ∧ i = .int .i64 P ∧ Ow flR wr w.heap.size 67 v ys ∧ Hid (takeN xs = (takeN (xs.drop P)).map (ys ++ ·)) ∧ Below w.heap.size w wr) (fun v i _ => n - (intOf i).toNat)
    case atStart => exact ⟨0, [], by omega, rfl, rfl, rfl, Ow.nil_ _ _ _ _, Lib.hid (by simp), Below.refl _ _⟩
    case round =>
      obtain ⟨P, ys, hP, hP4, hyl, rfl, hown, hr, hbr⟩ := hrel
      obtain ⟨Av, cv, rfl, _⟩ := hown.read (by decide)
      have HO := Lib.hid hown
      have HB := Lib.hid hbr
      by_cases hlt : P < n
      · obtain ⟨bl, ol, xa, rfl, ha, d0⟩ := rfI_at hA (j := P) (by omega)
        obtain ⟨_, _, xb, e1, hb1, d1⟩ := rfI_at hA (j := P + 1) (by omega)
        obtain ⟨_, _, xc, e2, hc1, d2⟩ := rfI_at hA (j := P + 2) (by omega)
        obtain ⟨_, _, xd, e3, hd1, d3⟩ := rfI_at hA (j := P + 3) (by omega)
        cases e1
        cases e2
        cases e3
        have c0 := cell_keep hbr (cell_lt d0) d0
        have c1 := cell_keep hbr (cell_lt d1) d1
        have c2 := cell_keep hbr (cell_lt d2) d2
        have c3 := cell_keep hbr (cell_lt d3) d3
        have hbl : bl < w.heap.size := cell_lt d0
        have HD := Lib.hid (drop4 ha hb1 hc1 hd1)
        have hsz := hbr.size
        have hnb := Lib.hid (show (Value.slice Av ys.length cv).ownBlock ≠ some bl from fun e => absurd (World.ownsRow.lt HO.out _ e).1 (by omega))
        clear hA hown hbr ha hb1 hc1 hd1 d0 d1 d2 d3
        by_cases hd0 : xd < 0
        · go_wp2_with fail
          go_ret2
          exact .inr ⟨by rw [hr.out, take_bad HD.out (by omega) (by omega)]; rfl, rfl, HB.out⟩
        by_cases hd1 : 1 < xd
        · go_wp2_with fail
          go_ret2
          exact .inr ⟨by rw [hr.out, take_bad HD.out (by omega) (by omega)]; rfl, rfl, HB.out⟩
        have hP0 : (0 : Int) ≤ (P : Int) := Int.natCast_nonneg _
        have hP1 : (P : Int) + 3 < (n : Int) := by omega
        have hP2 : (P : Int) + 2 < (n : Int) := by omega
        have hP3 : (P : Int) + 1 < (n : Int) := by omega
        have hP5 : (P : Int) < (n : Int) := by omega
        have hQ1 : (0 : Int) ≤ (P : Int) + 1 := by omega
        have hQ2 : (0 : Int) ≤ (P : Int) + 2 := by omega
        have hQ3 : (0 : Int) ≤ (P : Int) + 3 := by omega
        have hw1 : IntKind.i64.wrap ((P : Int) + 1) = (P : Int) + 1 := by rw [IntKind.wrap_i64]; omega
        have hw2 : IntKind.i64.wrap ((P : Int) + 2) = (P : Int) + 2 := by rw [IntKind.wrap_i64]; omega
        have hw3 : IntKind.i64.wrap ((P : Int) + 3) = (P : Int) + 3 := by rw [IntKind.wrap_i64]; omega
        have ht1 : ((P : Int) + 1).toNat = P + 1 := by omega
        have ht2 : ((P : Int) + 2).toNat = P + 2 := by omega
        have ht3 : ((P : Int) + 3).toNat = P + 3 := by omega
        go_wp2_with fail
        go_region_held3 (fun w' => w'.cell? ⟨bl, ol + P, none⟩ = some (.int .i64 xa) ∧ w'.cell? ⟨bl, ol + (P + 1), none⟩ = some (.int .i64 xb) ∧ w'.cell? ⟨bl, ol + (P + 2), none⟩ = some (.int .i64 xc) ∧ w'.cell? ⟨bl, ol + (P + 3), none⟩ = some (.int .i64 xd))
          (first | assumption | exact keep4 (below_new _ _) (by assumption) | exact keep4g hg1 hnb.out (by assumption) | go_keep)
          (first
            | (refine step_append_any _ (by rfl) (.tmp 30) (.tmp 52) _ (by rfl) w.heap.size 67 i0 _ 4 32 Try.underlying36 hi0 hz0 hz1 hz2 rfl (by omega) (.slice Av ys.length cv) ys.length (ys.flatMap flR.enc) (by rfl) (HO.out.drew.alloc _) (wr.heap.size + 1) (some ⟨wr.heap.size, 0, none⟩) 1 1 (flR.enc ⟨xa, xb, xc, xd == 1⟩) (by rfl) (box_reads flR wr.drew #[.int .i64 xa, .int .i64 xb, .int .i64 xc, .bool (xd == 1)] 67 ⟨xa, xb, xc, xd == 1⟩ rfl) (flR.one _) (by simp only [maxLen]; omega) (by omega) (by simp; omega) ?_; intro v1 w1 hown1 hg1 hat1; obtain ⟨A1, c1, rfl⟩ := row_form hown1)
            | fail)
        all_goals (have HN := Lib.hid hown1; have HG := Lib.hid hg1; clear hown1 hg1 hat1)
        all_goals go_wp2_with fail
        all_goals go_roundw
        case rel =>
          refine ⟨P + 4, ys ++ [⟨xa, xb, xc, xd == 1⟩], by omega, by omega, by simp; omega, by go_num, ?_, Lib.hid (take_ok hr.out HD.out (by omega)), ?_⟩
          · exact Ow.snoc (f := flR) HN.out
          · exact (((below_drawn HB.out 1).alloc (by show w.heap.size ≤ wr.heap.size; omega) _)).grown HG.out (by simp; omega) (fun k hk => (World.ownsRow.lt HO.out k hk).1)
        case measure => simp [intOf]; omega
      · have hPn : P = n := by omega
        have hfin : takeN xs = some ys := by
          rw [hr.out, hPn, List.drop_of_length_le (by have := H1.out; omega)]
          simp [takeN]
        have HF := Lib.hid hfin
        clear hfin
        go_wp2_with fail
        go_ret2
        exact .inl ⟨ys, _, HF.out, rfl, HO.out, HB.out⟩
  · have hb : (((n : Int) % 4) != 0) = true := by simp; omega
    have hno : takeN xs = none := by
      cases h : takeN xs with
      | none => rfl
      | some ys => have := take_len _ _ h; have := H1.out; omega
    have HN := Lib.hid hno
    clear hno
    go_enter Try.func20, Try.ntmps20
    go_wp2_with fail
    go_ret2
    exact .inr ⟨HN.out, rfl, Below.refl _ _⟩
end Go.Proofs.Ytmaehdoejpecgaa
