/- The law's comparison of a crate with the document's; what the document takes is plain. -/
import Derived.Test.YtodccdfpoocolaaWrNot
set_option linter.unusedVariables false
namespace Go.Proofs.Ytodccdfpoocolaa
open Go.RowKit Go.Lib Go.ChangeShapes Go.WideShapes Go.ChangeAt

theorem takeR_plain {bs : List Nat} {t : Th} {k : Nat} (h : takeR bs = some (t, k)) : plainT t = t := by
  unfold takeR at h
  split at h
  · cases h
  · split at h
    · split at h
      · injection h with h; injection h with h2 h3; subst h2; rfl
      · cases h
    · split at h
      · split at h
        · cases h
        · split at h
          · injection h with h; injection h with h2 h3; subst h2; rfl
          · cases h
      · split at h
        · split at h
          · cases h
          · split at h
            · injection h with h; injection h with h2 h3; subst h2; rfl
            · cases h
        · cases h
theorem parseR_plain : ∀ (n : Nat) (acc ts : List Th) (bs r : List Nat), (∀ t ∈ acc, plainT t = t) → parseR n acc bs = some (ts, r) → ∀ t ∈ ts, plainT t = t
  | 0, acc, ts, bs, r, ha, h => by
    rw [parseR] at h
    injection h with h
    injection h with h1 h2
    subst h1
    exact ha
  | n + 1, acc, ts, bs, r, ha, h => by
    rw [parseR] at h
    split at h
    · cases h
    · rename_i t k ht
      split at h
      · exact parseR_plain n _ ts _ r (fun y hy => by
          rcases List.mem_append.1 hy with h | h
          · exact ha y h
          · rw [List.mem_singleton.1 h]; exact takeR_plain ht) h
      · cases h
theorem refU_plain {bs : List Nat} {ts : List Th} (h : refU bs = some ts) : ∀ t ∈ ts, plainT t = t := by
  unfold refU at h
  split at h
  · cases h
  · split at h
    · cases h
    · split at h
      · cases h
      · rename_i ts' r hp
        split at h
        · injection h with h
          subst h
          exact parseR_plain _ _ _ _ _ (by simp) hp
        · cases h
theorem plain_or {t : Th} (h : plainT t = t) : (∃ n, t = ⟨1, n, .empty, false⟩) ∨ (∃ s, t = ⟨2, 0, s, false⟩) ∨ (∃ b, t = ⟨3, 0, .empty, b⟩) := by
  rw [← h]
  unfold plainT
  split
  · exact .inl ⟨_, rfl⟩
  · split
    · exact .inr (.inl ⟨_, rfl⟩)
    · exact .inr (.inr ⟨_, rfl⟩)
theorem rcQ_at {w : World} {B b : Nat} {v : Value} {ts : List Th} (h : Rc w B b v ts) {k : Nat} {t : Th} (ht : ts[k]? = some t) :
    ∃ bl ol c, w.cell? ⟨b, 0, none⟩ = some (.slice (some ⟨bl, ol, none⟩) ts.length c) ∧ w.cell? ⟨bl, ol + k * 4, none⟩ = some (.int .i64 t.k) ∧ w.cell? ⟨bl, ol + k * 4 + 1, none⟩ = some (.int .i64 t.n) ∧ w.cell? ⟨bl, ol + k * 4 + 2, none⟩ = some (.string t.s) ∧ w.cell? ⟨bl, ol + k * 4 + 3, none⟩ = some (.bool t.b) := by
  obtain ⟨A, c, rfl, hh, _⟩ := rc_head h
  obtain ⟨A', c', e', hR⟩ := h.own.read (by decide)
  injection e' with e1 e2 e3
  subst e1 e3
  have hk : k < ts.length := (List.getElem?_eq_some_iff.1 ht).1
  obtain ⟨bl, ol, x, rfl, hx, c0, c1, c2, c3⟩ := rfT_at hR hk
  rw [ht] at hx
  injection hx with hx
  subst hx
  exact ⟨bl, ol, c, hh, c0, c1, c2, c3⟩
theorem lkQ_map {ts : List Th} {k : Nat} {t : Th} (h : ts[k]? = some t) : lk (ts.map itOf) (k : Int) = some (itOf t) := by
  unfold lk
  rw [if_pos (by omega)]
  simp [h]
set_option maxRecDepth 100000 in
set_option maxHeartbeats 8000000 in
theorem alike8_calls (w : World) (p : Option Addr) (B' b' : Nat) (v' : Value) (ts : List Th) (h : Cz w p (ts.map itOf)) (h' : Rc w B' b' v' ts) (hp : ∀ t ∈ ts, plainT t = t) :
    Calls Try.prog 22 #[.pointer p, .pointer (some ⟨b', 0, none⟩)] w fun e w' => e = .returned (.bool true) ∧ Below w.heap.size w w' := by
  obtain ⟨Ar, cr, rfl, hh, hroom⟩ := rc_head h'
  have L1 := fun W (hb : Below w.heap.size w W) => Len_calls W _ _ (h.stay hb)
  simp only [List.length_map] at L1
  have L1 := Lib.hid L1
  have H := Lib.hid h
  have H' := Lib.hid h'
  have HP := Lib.hid hp
  have HBB := Lib.hid h'.low
  clear h h' hp
  go_enter Try.func22, Try.ntmps22
  go_wp2_with fail
  have l1 := later_cell hh
  refine wp_region_later (by kernel_rfl) (by kernel_rfl) ?_
  repeat (go_big_quiet_step (first | (go_at_call 26; exact same_later _ (L1.out _ (Later.hb _)))))
  refine wpQuiet_nil ?_
  intro q
  obtain ⟨W, hb⟩ := q
  dsimp only
  have HB0 := Lib.hid hb
  clear l1 L1 hb
  go_wp2_with fail
  go_loopw [5] (fun i wr => ∃ k : Nat, k ≤ ts.length ∧ i = .int .i64 k ∧ Hid (Below w.heap.size w wr)) (fun i _ => ts.length - (intOf i).toNat)
  case atStart => exact ⟨0, by omega, rfl, HB0⟩
  case round =>
    obtain ⟨k, hk, rfl, hb⟩ := hrel
    have hhW := cell_stay hb.out hh
    by_cases hkn : k < ts.length
    · have ht : ts[k]? = some ts[k] := List.getElem?_eq_getElem hkn
      have hpl := plain_or (HP.out ts[k] (List.getElem_mem hkn))
      generalize ts[k] = t at ht hpl
      obtain ⟨bl, ol, c, h0, c0, c1, c2, c3⟩ := rcQ_at (H'.out.stay hb.out) ht
      have hI := Int_calls wr _ _ (H.out.stay hb.out) k
      have hT := Text_calls wr _ _ (H.out.stay hb.out) k
      have hB := Bool_calls wr _ _ (H.out.stay hb.out) k
      rw [lkQ_map ht] at hI hT hB
      rw [hhW] at h0
      injection h0 with h0
      injection h0 with e1 e2 e3
      subst e1 e3
      clear ht
      rcases hpl with ⟨n, rfl⟩ | ⟨s, rfl⟩ | ⟨b, rfl⟩
      · rw [show itOf ⟨1, n, .empty, false⟩ = It.num n from rfl] at hI hT hB
        dsimp only [numOf, txtOf, truOf] at hI hT hB c0 c1 c2 c3
        go_wp2_with fail
        refine hI.mono ?_
        rintro e w1 ⟨rfl, rfl⟩
        go_wp2_with fail
        refine hT.mono ?_
        rintro e w1 ⟨rfl, rfl⟩
        go_wp2_with fail
        refine hB.mono ?_
        rintro e w1 ⟨rfl, rfl⟩
        go_wp2_with fail
        go_roundw
        case rel => exact ⟨k + 1, by omega, by go_num, Lib.hid (hb.out.trans ((below_new _ _).mono hb.out.size))⟩
        case measure => simp [intOf]; omega
      · rw [show itOf ⟨2, 0, s, false⟩ = It.txt s from rfl] at hI hT hB
        dsimp only [numOf, txtOf, truOf] at hI hT hB c0 c1 c2 c3
        go_wp2_with fail
        refine hI.mono ?_
        rintro e w1 ⟨rfl, rfl⟩
        go_wp2_with fail
        refine hT.mono ?_
        rintro e w1 ⟨rfl, rfl⟩
        go_wp2_with fail
        refine hB.mono ?_
        rintro e w1 ⟨rfl, rfl⟩
        go_wp2_with fail
        go_roundw
        case rel => exact ⟨k + 1, by omega, by go_num, Lib.hid (hb.out.trans ((below_new _ _).mono hb.out.size))⟩
        case measure => simp [intOf]; omega
      · rw [show itOf ⟨3, 0, .empty, b⟩ = It.tru b from rfl] at hI hT hB
        dsimp only [numOf, txtOf, truOf] at hI hT hB c0 c1 c2 c3
        go_wp2_with fail
        refine hI.mono ?_
        rintro e w1 ⟨rfl, rfl⟩
        go_wp2_with fail
        refine hT.mono ?_
        rintro e w1 ⟨rfl, rfl⟩
        go_wp2_with fail
        refine hB.mono ?_
        rintro e w1 ⟨rfl, rfl⟩
        go_wp2_with fail
        go_roundw
        case rel => exact ⟨k + 1, by omega, by go_num, Lib.hid (hb.out.trans ((below_new _ _).mono hb.out.size))⟩
        case measure => simp [intOf]; omega
    · go_wp2_with fail
      go_ret
      exact ⟨rfl, hb.out⟩
end Go.Proofs.Ytodccdfpoocolaa
