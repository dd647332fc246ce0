/- Walk of SumLinear. -/
import Derived.Test.YthpekahjifneoaaSumTurn
import Derived.BigRegion
import Derived.Deep.OwnRows
import Derived.Deep.DeepCutAuto
import Derived.Deep.LoopGhost
namespace Go.Proofs.Ythpekahjifneoaa
open Go.ChangeShapes Go.WideShapes Go.ChangeAt Go.RowKit

/-- A row of bytes of the call's own at block g. -/
def OwnB (w : World) (base g n : Nat) (xs : List Nat) : Prop := w.ownsRow base 5 1 (.slice (some ⟨g, 0, none⟩) n n) n (vbytes xs)
theorem zero_cells (n : Nat) : (madeCells #[Value.int .u8 0] n).toList = vbytes (List.replicate n 0) := by
  apply List.ext_getElem
  · simp [vbytes, madeCells]
  · intro i h1 h2
    simp [vbytes, madeCells, Nat.mod_one]
theorem OwnB.made (W : World) (base n : Nat) (hb : base ≤ W.heap.size) (hn : n ≤ 9223372036854775807) : OwnB (W.alloc (.cells (madeCells #[.int .u8 0] n) 5)) base W.heap.size n (List.replicate n 0) := by
  have h := World.ownsRow_lit (base := base) (e := 5) (size := 1) W (madeCells #[.int .u8 0] n) n hb (by simpa [maxLen] using hn) (by simp [size_madeCells])
  unfold OwnB
  rwa [zero_cells] at h

theorem OwnB.alloc {w : World} {base g n : Nat} {xs : List Nat} (h : OwnB w base g n xs) (o : Obj) : OwnB (w.alloc o) base g n xs := World.ownsRow.alloc h o
theorem OwnB.drew {w : World} {base g n : Nat} {xs : List Nat} (h : OwnB w base g n xs) : OwnB w.drew base g n xs := World.ownsRow.drew h
theorem OwnB.far {w : World} {base g n : Nat} {xs : List Nat} (h : OwnB w base g n xs) {p : Addr} (hp : g ≠ p.block) (u : Value) : OwnB (w.setCell p u) base g n xs := by
  obtain ⟨h1, h2⟩ := h
  refine ⟨h1, ?_⟩
  rcases h2 with h2 | ⟨g', cap, cur, hv, hg, hh, r⟩
  · exact .inl h2
  · have e : g = g' := by injection hv with hv; injection hv with hv; injection hv
    subst e
    exact .inr ⟨g, cap, cur, hv, hg, by rw [Below.heap_setCell _ _ _ _ hp]; exact hh, r⟩
theorem OwnB.put {w : World} {base g n : Nat} {xs : List Nat} (h : OwnB w base g n xs) (k z : Nat) : OwnB (w.setCell ⟨g, k, none⟩ (.int .u8 (z : Int))) base g n (xs.set k z) := by
  have := (World.ownsRow.stored h k (.int .u8 (z : Int))).1
  rw [vb_set] at this
  exact this
theorem OwnB.len {w : World} {base g n : Nat} {xs : List Nat} (h : OwnB w base g n xs) : xs.length = n := by have := h.1; simpa [vbytes] using this
theorem OwnB.cell {w : World} {base g n : Nat} {xs : List Nat} (h : OwnB w base g n xs) (k : Nat) (hk : k < n) : w.cell? ⟨g, k, none⟩ = some (.int .u8 ((xs.getD k 0 : Nat) : Int)) := by
  have := World.ownsRow.cellAt h k (by omega)
  rw [vb_at _ _ (by rw [h.len]; exact hk)] at this
  exact this
theorem OwnB.free {w : World} {base g n : Nat} {xs : List Nat} (h : OwnB w base g n xs) (k : Nat) : w.frozen? ⟨g, k, none⟩ = false := World.ownsRow.frozenAt h k
theorem getD_set_ne {l : List Nat} {k j v : Nat} (h : j ≠ k) : (l.set k v).getD j 0 = l.getD j 0 := by
  simp [List.getD_eq_getElem?_getD, List.getElem?_set_ne (Ne.symm h)]
theorem getD_set_eq {l : List Nat} {k v : Nat} (h : k < l.length) : (l.set k v).getD k 0 = v := by
  simp [List.getD_eq_getElem?_getD, h]
theorem lin_step (xs X Y Z : List Nat) (a b k x0 y0 : Nat) (hk : k < xs.length) (hX : X.length = xs.length) (hY : Y.length = xs.length) (hZ : Z.length = xs.length) (hx : xs.getD k 0 = x0) (hy : x0 * b % 256 = y0)
    (h : ∀ j, j < k → X.getD j 0 = xs.getD j 0 ^^^ a ∧ Y.getD j 0 = xs.getD j 0 * b % 256 ∧ Z.getD j 0 = xs.getD j 0 ^^^ X.getD j 0 ^^^ Y.getD j 0) :
    ∀ j, j < k + 1 → (X.set k (x0 ^^^ a)).getD j 0 = xs.getD j 0 ^^^ a ∧ (Y.set k y0).getD j 0 = xs.getD j 0 * b % 256 ∧ (Z.set k (x0 ^^^ (x0 ^^^ a) ^^^ y0)).getD j 0 = xs.getD j 0 ^^^ (X.set k (x0 ^^^ a)).getD j 0 ^^^ (Y.set k y0).getD j 0 := by
  intro j hj
  by_cases e : j = k
  · subst e
    rw [getD_set_eq (by omega), getD_set_eq (by omega), getD_set_eq (by omega), hx, hy]
    exact ⟨rfl, rfl, rfl⟩
  · rw [getD_set_ne e, getD_set_ne e, getD_set_ne e]
    exact h j (by omega)
theorem ownb_base {w : World} {base g n : Nat} {xs : List Nat} (h : OwnB w base g n xs) : base ≤ g := (World.ownsRow.lt h g rfl).1
theorem three_zero (w : World) (n : Nat) (hn : n ≤ 9223372036854775807) (o : Obj) (ho : o = .cells (madeCells #[.int .u8 0] n) 5) : OwnB (((w.alloc o).alloc o).alloc o).drew w.heap.size w.heap.size n (List.replicate n 0) ∧
    OwnB (((w.alloc o).alloc o).alloc o).drew w.heap.size (w.heap.size + 1) n (List.replicate n 0) ∧ OwnB (((w.alloc o).alloc o).alloc o).drew w.heap.size (w.heap.size + 1 + 1) n (List.replicate n 0) ∧
    Below w.heap.size w (((w.alloc o).alloc o).alloc o).drew := by
  subst ho
  refine ⟨(((OwnB.made w w.heap.size n (Nat.le_refl _) hn).alloc _).alloc _).drew, ?_, ?_, ?_⟩
  · have := OwnB.made (w.alloc (.cells (madeCells #[.int .u8 0] n) 5)) w.heap.size n (by simp) hn
    rw [size_new] at this
    exact (this.alloc _).drew
  · have := OwnB.made ((w.alloc (.cells (madeCells #[.int .u8 0] n) 5)).alloc (.cells (madeCells #[.int .u8 0] n) 5)) w.heap.size n (by simp; omega) hn
    rw [size_new, size_new] at this
    exact this.drew
  · exact (((below_new w _).alloc (by simp) _).alloc (by simp; omega) _).drew

theorem lin_lt (xs X Y Z : List Nat) (a b : Nat) (hX : X.length = xs.length) (hY : Y.length = xs.length) (hZ : Z.length = xs.length)
    (h : ∀ j, j < xs.length → X.getD j 0 = xs.getD j 0 ^^^ a ∧ Y.getD j 0 = xs.getD j 0 * b % 256 ∧ Z.getD j 0 = xs.getD j 0 ^^^ X.getD j 0 ^^^ Y.getD j 0) (hx : ∀ x ∈ xs, x < 256) (ha : a < 256) :
    (∀ x ∈ X, x < 256) ∧ (∀ x ∈ Y, x < 256) ∧ (∀ x ∈ Z, x < 256) := by
  have hxb : ∀ j, j < xs.length → xs.getD j 0 < 256 := fun j hj => byte_at hx j hj
  have hX1 : ∀ j, j < xs.length → X.getD j 0 < 256 := fun j hj => by rw [(h j hj).1]; exact Nat.xor_lt_two_pow (n := 8) (hxb j hj) ha
  have hY1 : ∀ j, j < xs.length → Y.getD j 0 < 256 := fun j hj => by rw [(h j hj).2.1]; exact Nat.mod_lt _ (by omega)
  have hZ1 : ∀ j, j < xs.length → Z.getD j 0 < 256 := fun j hj => by rw [(h j hj).2.2]; exact Nat.xor_lt_two_pow (n := 8) (Nat.xor_lt_two_pow (n := 8) (hxb j hj) (hX1 j hj)) (hY1 j hj)
  have key : ∀ L : List Nat, L.length = xs.length → (∀ j, j < xs.length → L.getD j 0 < 256) → ∀ x ∈ L, x < 256 := by
    intro L hL hj x hxL
    obtain ⟨i, hi, rfl⟩ := List.getElem_of_mem hxL
    have := hj i (by omega)
    simpa [List.getD_eq_getElem?_getD, List.getElem?_eq_getElem hi] using this
  exact ⟨key X hX hX1, key Y hY hY1, key Z hZ hZ1⟩
theorem ones_xor' {n : Nat} (h : n < 4294967296) : crcNot n = 4294967295 ^^^ n := (ones_xor n h).symm
theorem lin_sum (xs X Y Z : List Nat) (a b : Nat) (hx : ∀ x ∈ xs, x < 256) (hb : (∀ x ∈ X, x < 256) ∧ (∀ x ∈ Y, x < 256) ∧ (∀ x ∈ Z, x < 256)) (hX : X.length = xs.length) (hY : Y.length = xs.length) (hZ : Z.length = xs.length)
    (h : ∀ j, j < xs.length → X.getD j 0 = xs.getD j 0 ^^^ a ∧ Y.getD j 0 = xs.getD j 0 * b % 256 ∧ Z.getD j 0 = xs.getD j 0 ^^^ X.getD j 0 ^^^ Y.getD j 0) :
    crcAll [Z] = crcAll [xs] ^^^ crcAll [X] ^^^ crcAll [Y] := by
  have hz : Z = List.zipWith (· ^^^ ·) (List.zipWith (· ^^^ ·) xs X) Y := by
    apply List.ext_getElem
    · simp; omega
    · intro i h1 h2
      have := (h i (by omega)).2.2
      simp only [List.getD_eq_getElem?_getD, List.getElem?_eq_getElem (show i < xs.length by omega), List.getElem?_eq_getElem (show i < X.length by omega), List.getElem?_eq_getElem (show i < Y.length by omega), List.getElem?_eq_getElem h1, Option.getD_some] at this
      simpa using this
  have e0 : (4294967295 : Nat) = 4294967295 ^^^ 4294967295 ^^^ 4294967295 := by decide
  have l1 := crcRow_lt xs 4294967295 (by omega) hx
  have l2 := crcRow_lt X 4294967295 (by omega) hb.1
  have l3 := crcRow_lt Y 4294967295 (by omega) hb.2.1
  have l4 := crcRow_lt Z 4294967295 (by omega) hb.2.2
  have hr : crcRow 4294967295 Z = crcRow 4294967295 xs ^^^ crcRow 4294967295 X ^^^ crcRow 4294967295 Y := by
    rw [hz]
    have h1 := crcRow_xor (List.zipWith (· ^^^ ·) xs X) Y (4294967295 ^^^ 4294967295) 4294967295 (by simp; omega)
    rw [← e0, crcRow_xor xs X 4294967295 4294967295 hX.symm] at h1
    exact h1
  rw [crcAll_one, crcAll_one, crcAll_one, crcAll_one, ones_xor' l1, ones_xor' l2, ones_xor' l3, ones_xor' l4, hr]
  generalize crcRow 4294967295 xs = A
  generalize crcRow 4294967295 X = B
  generalize crcRow 4294967295 Y = C
  have e1 := xor4 4294967295 A 4294967295 B
  have e2 := xor4 (4294967295 ^^^ 4294967295) (A ^^^ B) 4294967295 C
  rw [e1, e2, ← e0]
set_option maxHeartbeats 1000000 in
theorem linear_calls (A : Option Addr) (n c : Nat) (xs : List Nat) (a b : Nat) (ha : a < 256) (w : World) (h : RdB w A n xs) :
    Calls Try.prog 6 #[.slice A n c, .int .u8 a, .int .u8 b] w fun e w' => e = .returned (.bool true) ∧ Below w.heap.size w w' := by
  by_cases h1 : (300 : Int) < n
  · go_enter Try.func6, Try.ntmps6
    go_wp2
    go_ret
    exact ⟨rfl, Below.refl _ _⟩
  have hmk := fun W => Go.run_make_row' (P := Try.prog) 22 5 (.int .u8 0) 1 Try.underlying22 info_u8 rfl .i64 .i64 n (by omega) (by omega) W
  go_enter Try.func6, Try.ntmps6
  go_upto_region 3 with fail
  go_cut [7, 8, 9] (fun s7 s8 s9 wx => ∃ g7 g8 g9 : Nat, s7 = .slice (some ⟨g7, 0, none⟩) n n ∧ s8 = .slice (some ⟨g8, 0, none⟩) n n ∧ s9 = .slice (some ⟨g9, 0, none⟩) n n ∧ g7 ≠ g8 ∧ g7 ≠ g9 ∧ g8 ≠ g9 ∧
    OwnB wx w.heap.size g7 n (List.replicate n 0) ∧ OwnB wx w.heap.size g8 n (List.replicate n 0) ∧ OwnB wx w.heap.size g9 n (List.replicate n 0) ∧ Below w.heap.size w wx)
  case first =>
    obtain ⟨z0, z1, z2, zb⟩ := three_zero w n (by omega) _ rfl
    go_region
    all_goals (go_wp2_with fail; go_meet)
    · exact ⟨_, _, _, rfl, rfl, rfl, by omega, by omega, by omega, z0, z1, z2, zb⟩
    · exact ⟨_, _, _, rfl, rfl, rfl, by omega, by omega, by omega, z0, z2, z1, zb⟩
    · exact ⟨_, _, _, rfl, rfl, rfl, by omega, by omega, by omega, z1, z0, z2, zb⟩
    · exact ⟨_, _, _, rfl, rfl, rfl, by omega, by omega, by omega, z2, z0, z1, zb⟩
    · exact ⟨_, _, _, rfl, rfl, rfl, by omega, by omega, by omega, z1, z2, z0, zb⟩
    · exact ⟨_, _, _, rfl, rfl, rfl, by omega, by omega, by omega, z2, z1, z0, zb⟩
  case rest =>
    obtain ⟨g7, g8, g9, rfl, rfl, rfl, n78, n79, n89, o7, o8, o9, hbw⟩ := hcut
    clear hmk
    have hlx := h.1
    go_wp2_with fail
    go_loopw [10] (fun i wr => ∃ (k : Nat) (X Y Z : List Nat), k ≤ n ∧ i = .int .i64 k ∧ OwnB wr w.heap.size g7 n X ∧ OwnB wr w.heap.size g8 n Y ∧ OwnB wr w.heap.size g9 n Z ∧ Below w.heap.size w wr ∧
      Hid (∀ j, j < k → X.getD j 0 = xs.getD j 0 ^^^ a ∧ Y.getD j 0 = xs.getD j 0 * b % 256 ∧ Z.getD j 0 = xs.getD j 0 ^^^ X.getD j 0 ^^^ Y.getD j 0)) (fun i _ => n - (intOf i).toNat)
    case atStart => exact ⟨0, _, _, _, by omega, rfl, o7, o8, o9, hbw, Lib.hid (fun j hj => absurd hj (by omega))⟩
    case round =>
      obtain ⟨k, X, Y, Z, hk, rfl, p7, p8, p9, hbr, hr⟩ := hrel
      by_cases hlt : k < n
      · obtain ⟨bb, off, rfl, hcell⟩ := h.2.2.2 (by omega)
        have hx0 := (hbr.cell (p := ⟨bb, off + k, none⟩) (cell_lt (hcell k hlt))).trans (hcell k hlt)
        have hxl := byte_at h.2.2.1 k (by omega)
        obtain ⟨x0, hxe⟩ : ∃ x0, Hid (xs.getD k 0 = x0) := ⟨_, Lib.hid rfl⟩
        rw [hxe.out] at hx0 hxl
        have e1 := u8_xor_nat x0 a hxl ha
        have c7 := p7.cell k hlt
        have c8 := p8.cell k hlt
        have c9 := p9.cell k hlt
        have f7 := p7.free k
        have f8 := p8.free k
        have f9 := p9.free k
        obtain ⟨y0, hye⟩ : ∃ y0, Hid (x0 * b % 256 = y0) := ⟨_, Lib.hid rfl⟩
        have hyl : y0 < 256 := by have := hye.out; omega
        have e2 : ((x0 : Int) * (b : Int) % 256) = (y0 : Int) := by have := hye.out; rw [← this]; simp
        have h7l : (X.set k (x0 ^^^ a)).getD k 0 = x0 ^^^ a := by simp [List.getD_eq_getElem?_getD, p7.len, hlt]
        have h8l : (Y.set k y0).getD k 0 = y0 := by simp [List.getD_eq_getElem?_getD, p8.len, hlt]
        have q7 := ((p7.put k (x0 ^^^ a)).far (p := ⟨g8, k, none⟩) n78 (.int .u8 (y0 : Int))).drew
        have q8 := ((p8.far (p := ⟨g7, k, none⟩) n78.symm (.int .u8 ((x0 ^^^ a : Nat) : Int))).put k y0).drew
        have q9 := ((p9.far (p := ⟨g7, k, none⟩) n79.symm (.int .u8 ((x0 ^^^ a : Nat) : Int))).far (p := ⟨g8, k, none⟩) n89.symm (.int .u8 (y0 : Int))).drew
        have qb : Below w.heap.size w (((wr.setCell ⟨g7, k, none⟩ (.int .u8 ((x0 ^^^ a : Nat) : Int))).setCell ⟨g8, k, none⟩ (.int .u8 (y0 : Int))).drew) := ((hbr.setCell (p := ⟨g7, k, none⟩) (ownb_base p7) _).setCell (p := ⟨g8, k, none⟩) (ownb_base p8) _).drew
        have Q := Lib.hid (And.intro q7 (And.intro q8 (And.intro q9 qb)))
        have H78 := Lib.hid (And.intro h7l h8l)
        have Hn := Lib.hid (And.intro n78 (And.intro n79 n89))
        have HX := Lib.hid hlx
        have HL := Lib.hid (And.intro (p7.len.trans hlx.symm) (And.intro (p8.len.trans hlx.symm) (p9.len.trans hlx.symm)))
        have e2w : IntKind.u8.wrap ((x0 : Int) * (b : Int)) = (y0 : Int) := by rw [IntKind.wrap_u8]; exact e2
        clear q7 q8 q9 qb h7l h8l n79 n89 hlx o7 o8 o9 hbw
        go_wp2
        go_region
        clear c7 c8 c9 f7 f8 f9 hx0 n78
        go_wp2_with fail
        generalize ((wr.setCell ⟨g7, k, none⟩ (.int .u8 ((x0 ^^^ a : Nat) : Int))).setCell ⟨g8, k, none⟩ (.int .u8 (y0 : Int))).drew = W1 at *
        have hx0 := (Q.out.2.2.2.cell (p := ⟨bb, off + k, none⟩) (cell_lt (hcell k hlt))).trans (hcell k hlt)
        rw [hxe.out] at hx0
        have c7 := Q.out.1.cell k hlt
        have c8 := Q.out.2.1.cell k hlt
        have c9 := Q.out.2.2.1.cell k hlt
        rw [H78.out.1] at c7
        rw [H78.out.2] at c8
        have f9 := Q.out.2.2.1.free k
        have e3 := u8_xor_nat x0 (x0 ^^^ a) hxl (Nat.xor_lt_two_pow (n := 8) hxl ha)
        have e4 := u8_xor_nat (x0 ^^^ (x0 ^^^ a)) y0 (Nat.xor_lt_two_pow (n := 8) hxl (Nat.xor_lt_two_pow (n := 8) hxl ha)) hyl
        clear p7 p8 p9 hbr
        go_region
        go_wp2
        go_roundw
        case rel =>
          exact ⟨k + 1, _, _, Z.set k (x0 ^^^ (x0 ^^^ a) ^^^ y0), by omega, by go_num, (Q.out.1.far (p := ⟨g9, k, none⟩) Hn.out.2.1 _).drew, (Q.out.2.1.far (p := ⟨g9, k, none⟩) Hn.out.2.2 _).drew, (Q.out.2.2.1.put k _).drew,
            (Q.out.2.2.2.setCell (p := ⟨g9, k, none⟩) (ownb_base Q.out.2.2.1) _).drew, Lib.hid (lin_step xs X Y Z a b k x0 y0 (by rw [HX.out]; exact hlt) HL.out.1 HL.out.2.1 HL.out.2.2 hxe.out hye.out hr.out)⟩
        case measure => simp [intOf]; omega
      · have hn : k = n := by omega
        subst hn
        have hXb := lin_lt xs X Y Z a b (p7.len.trans hlx.symm) (p8.len.trans hlx.symm) (p9.len.trans hlx.symm) (by rw [hlx]; exact hr.out) h.2.2.1 ha
        have HS := Lib.hid (lin_sum xs X Y Z a b h.2.2.1 hXb (p7.len.trans hlx.symm) (p8.len.trans hlx.symm) (p9.len.trans hlx.symm) (by rw [hlx]; exact hr.out))
        have r7 := (own_rdb p7 (by omega) hXb.1)
        have r8 := (own_rdb p8 (by omega) hXb.2.1)
        have r9 := (own_rdb p9 (by omega) hXb.2.2)
        clear hr hlx o7 o8 o9 hbw p7 p8 p9 n78 n79 n89
        go_wp2_with fail
        refine (Of_calls _ _ _ [Z] _ (rows_one (c := k) _ _ (r9.below (below_new _ _)) (cell_new rfl _ _))).mono ?_
        rintro e w' ⟨rfl, rfl⟩
        go_wp2_with fail
        refine (Of_calls _ _ _ [xs] _ (rows_one (c := c) _ _ (h.below ((hbr.alloc hbr.size _).alloc (by simp; have := hbr.size; omega) _)) (cell_new (by simp) _ _))).mono ?_
        rintro e w' ⟨rfl, rfl⟩
        go_wp2_with fail
        refine (Of_calls _ _ _ [X] _ (rows_one (c := k) _ _ (r7.below (((below_new _ _).alloc (by simp) _).alloc (by simp; omega) _)) (cell_new (by simp) _ _))).mono ?_
        rintro e w' ⟨rfl, rfl⟩
        have e1 := u32_xor_nat (crcAll [xs]) (crcAll [X]) (crcAll_lt _) (crcAll_lt _)
        go_wp2_with fail
        refine (Of_calls _ _ _ [Y] _ (rows_one (c := k) _ _ (r8.below ((((below_new _ _).alloc (by simp) _).alloc (by simp; omega) _).alloc (by simp; omega) _)) (cell_new (by simp) _ _))).mono ?_
        rintro e w' ⟨rfl, rfl⟩
        have e2 := u32_xor_nat (crcAll [xs] ^^^ crcAll [X]) (crcAll [Y]) (xor_lt _ _ (crcAll_lt _) (crcAll_lt _)) (crcAll_lt _)
        have e3 : ((crcAll [Z] : Int) == ((crcAll [xs] ^^^ crcAll [X] ^^^ crcAll [Y] : Nat) : Int)) = true := by rw [HS.out]; simp
        go_wp2_with fail
        refine (known_calls _).mono ?_
        rintro e w' ⟨rfl, hk⟩
        go_wp2_with fail
        go_ret
        exact ⟨rfl, ((((hbr.alloc hbr.size _).alloc (by simp; have := hbr.size; omega) _).alloc (by simp; have := hbr.size; omega) _).alloc (by simp; have := hbr.size; omega) _).trans (hk.mono (by simp; have := hbr.size; omega))⟩
end Go.Proofs.Ythpekahjifneoaa
