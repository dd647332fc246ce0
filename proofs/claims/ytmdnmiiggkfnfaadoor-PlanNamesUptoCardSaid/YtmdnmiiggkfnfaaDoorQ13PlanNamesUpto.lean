/- Texts put together for a claim. -/
import Derived.Test.YtmdnmiiggkfnfaaDoorQ8PlanNamesUpto
import Derived.Test.YtmdnmiiggkfnfaaDoorEqs
import Derived.BigQuiet
import Derived.Deep.QuietTactic
/- Layouts and what stands in them: plain definitions, and how they lie in memory. -/
set_option linter.unusedVariables false
set_option linter.unusedSimpArgs false
namespace Go.Proofs.YtmdnmiiggkfnfaaDoor
open Go.RowKit

structure Need where
  p : Int
  r : Bool
deriving DecidableEq
structure Pt where
  name : ByteArray
  sec : Int
deriving DecidableEq
structure Rte where
  name : ByteArray
  frm : Int
  dest : Int
  path : List Int
  points : List Need
  flank : List Need
deriving DecidableEq
structure Lay where
  secs : List ByteArray
  pts : List Pt
  sigs : List ByteArray
  rtes : List Rte
deriving DecidableEq
structure Inn where
  occ : List Bool
  lies : List Int
deriving DecidableEq
structure Ou where
  drive : List Int
  proceed : List Bool
deriving DecidableEq

theorem two_one {a b u : Value} (h : u ∈ [a, b]) (ha : a.oneCell' = true) (hb : b.oneCell' = true) : u.oneCell' = true := by
  rcases List.mem_cons.1 h with rfl | h
  · exact ha
  · rw [List.mem_singleton.1 h]; exact hb
def flN : Fl Need := ⟨2, fun x => [.int .i64 x.p, .bool x.r], fun _ => rfl, fun _ u hu => two_one hu rfl rfl⟩
def flP : Fl Pt := ⟨2, fun x => [.string x.name, .int .i64 x.sec], fun _ => rfl, fun _ u hu => two_one hu rfl rfl⟩

def kNeed : Kd Need := Kd.iso (Kd.pair (Kd.int .i64) (Kd.pair Kd.bool Kd.unit)) fun c => (c.p, c.r, ())
def kPt : Kd Pt := Kd.iso (Kd.pair Kd.str (Kd.pair (Kd.int .i64) Kd.unit)) fun c => (c.name, c.sec, ())
def kRte : Kd Rte := Kd.iso (Kd.pair Kd.str (Kd.pair (Kd.int .i64) (Kd.pair (Kd.int .i64) (Kd.pair (Kd.slice (Kd.int .i64)) (Kd.pair (Kd.slice kNeed) (Kd.pair (Kd.slice kNeed) Kd.unit)))))) fun c => (c.name, c.frm, c.dest, c.path, c.points, c.flank, ())
def kLay : Kd Lay := Kd.iso (Kd.pair (Kd.slice Kd.str) (Kd.pair (Kd.slice kPt) (Kd.pair (Kd.slice Kd.str) (Kd.pair (Kd.slice kRte) Kd.unit)))) fun c => (c.secs, c.pts, c.sigs, c.rtes, ())
def kIn : Kd Inn := Kd.iso (Kd.pair (Kd.slice Kd.bool) (Kd.pair (Kd.slice (Kd.int .i64)) Kd.unit)) fun c => (c.occ, c.lies, ())
def kOu : Kd Ou := Kd.iso (Kd.pair (Kd.slice (Kd.int .i64)) (Kd.pair (Kd.slice Kd.bool) Kd.unit)) fun c => (c.drive, c.proceed, ())

theorem kN_enc (w : World) (x : Need) (cs : List Value) (h : kNeed.K w x cs) : cs = flN.enc x := by
  obtain ⟨_, _, rfl, ⟨rfl, _⟩, _, _, rfl, rfl, rfl⟩ := h
  rfl
theorem kP_enc (w : World) (x : Pt) (cs : List Value) (h : kPt.K w x cs) : cs = flP.enc x := by
  obtain ⟨_, _, rfl, ⟨rfl, _⟩, _, _, rfl, ⟨rfl, _⟩, rfl⟩ := h
  rfl
theorem kI_enc (w : World) (x : Int) (cs : List Value) (h : (Kd.int .i64).K w x cs) : cs = flI.enc x := h.1
theorem kT_enc (w : World) (x : Bool) (cs : List Value) (h : Kd.bool.K w x cs) : cs = flT.enc x := h
theorem kS_enc (w : World) (x : ByteArray) (cs : List Value) (h : Kd.str.K w x cs) : cs = flS.enc x := h.1

/-- A slice value that holds a row. -/
structure Sl {α : Type} (f : Fl α) (w : World) (A : Option Addr) (n c : Nat) (xs : List α) : Prop where
  rf : Rf f w A n xs
  le : n ≤ c
  cap : c ≤ 9223372036854775807
  sz : n ≤ 140737488351232
theorem Sl.stay {α : Type} {f : Fl α} {w w1 : World} {A : Option Addr} {n c : Nat} {xs : List α} (h : Sl f w A n c xs) (hb : Below w.heap.size w w1) : Sl f w1 A n c xs := ⟨h.rf.stay hb, h.le, h.cap, h.sz⟩
theorem sl_of {α : Type} {f : Fl α} {k : Kd α} {w : World} {xs : List α} {cs : List Value} (hk : ∀ w x cs, k.K w x cs → cs = f.enc x) (hs : k.sz = f.sz) (h : (Kd.slice k).K w xs cs) : ∃ A n c, cs = [.slice A n c] ∧ Sl f w A n c xs := by
  obtain ⟨A, n, c, rfl, h1, h2, h3⟩ := h
  exact ⟨A, n, c, rfl, Rf.of_rds hk hs h3, h1, h2, h3.2.1⟩
/-- A route's cells. -/
structure RteV (w : World) (x : Rte) (P Q F : Option Addr) (p pc q qc f fc : Nat) : Prop where
  path : Sl flI w P p pc x.path
  points : Sl flN w Q q qc x.points
  flank : Sl flN w F f fc x.flank
theorem RteV.stay {w w1 : World} {x : Rte} {P Q F : Option Addr} {p pc q qc f fc : Nat} (h : RteV w x P Q F p pc q qc f fc) (hb : Below w.heap.size w w1) : RteV w1 x P Q F p pc q qc f fc := ⟨h.path.stay hb, h.points.stay hb, h.flank.stay hb⟩
theorem rte_open {w : World} {x : Rte} {cs : List Value} (h : kRte.K w x cs) : ∃ P Q F p pc q qc f fc, cs = [.string x.name, .int .i64 x.frm, .int .i64 x.dest, .slice P p pc, .slice Q q qc, .slice F f fc] ∧ RteV w x P Q F p pc q qc f fc := by
  obtain ⟨_, _, rfl, ⟨rfl, _⟩, _, _, rfl, ⟨rfl, _⟩, _, _, rfl, ⟨rfl, _⟩, _, _, rfl, h1, _, _, rfl, h2, _, _, rfl, h3, rfl⟩ := h
  obtain ⟨P, p, pc, rfl, k1⟩ := sl_of kI_enc rfl h1
  obtain ⟨Q, q, qc, rfl, k2⟩ := sl_of kN_enc rfl h2
  obtain ⟨F, f, fc, rfl, k3⟩ := sl_of kN_enc rfl h3
  exact ⟨P, Q, F, p, pc, q, qc, f, fc, rfl, k1, k2, k3⟩
/-- A row of routes. -/
structure Rts (w : World) (A : Option Addr) (n c : Nat) (xs : List Rte) : Prop where
  rd : RdS kRte w A n xs
  le : n ≤ c
  cap : c ≤ 9223372036854775807
theorem Rts.stay {w w1 : World} {A : Option Addr} {n c : Nat} {xs : List Rte} (h : Rts w A n c xs) (hb : Below w.heap.size w w1) : Rts w1 A n c xs := ⟨h.rd.stay hb, h.le, h.cap⟩
theorem Rts.at_ {w : World} {A : Option Addr} {n c : Nat} {xs : List Rte} (h : Rts w A n c xs) {j : Nat} (hj : j < n) : ∃ b off x P Q F p pc q qc f fc, A = some ⟨b, off, none⟩ ∧ xs[j]? = some x ∧
    w.cell? ⟨b, off + j * 6, none⟩ = some (.string x.name) ∧ w.cell? ⟨b, off + j * 6 + 1, none⟩ = some (.int .i64 x.frm) ∧ w.cell? ⟨b, off + j * 6 + 2, none⟩ = some (.int .i64 x.dest) ∧
    w.cell? ⟨b, off + j * 6 + 3, none⟩ = some (.slice P p pc) ∧ w.cell? ⟨b, off + j * 6 + 4, none⟩ = some (.slice Q q qc) ∧ w.cell? ⟨b, off + j * 6 + 5, none⟩ = some (.slice F f fc) ∧ RteV w x P Q F p pc q qc f fc := by
  obtain ⟨h1, _, h3⟩ := h.rd
  obtain ⟨b, off, e, hc⟩ := h3 (by omega)
  have hx : xs[j]? = some (xs[j]'(by omega)) := List.getElem?_eq_getElem _
  obtain ⟨cs, hk, hcell⟩ := hc j _ hx
  obtain ⟨P, Q, F, p, pc, q, qc, f, fc, rfl, hv⟩ := rte_open hk
  exact ⟨b, off, _, P, Q, F, p, pc, q, qc, f, fc, e, hx, hcell 0 _ rfl, hcell 1 _ rfl, hcell 2 _ rfl, hcell 3 _ rfl, hcell 4 _ rfl, hcell 5 _ rfl, hv⟩
/-- A layout's four slices. -/
structure LayV (w : World) (L : Lay) (A1 A2 A3 A4 : Option Addr) (n1 c1 n2 c2 n3 c3 n4 c4 : Nat) : Prop where
  secs : Sl flS w A1 n1 c1 L.secs
  pts : Sl flP w A2 n2 c2 L.pts
  sigs : Sl flS w A3 n3 c3 L.sigs
  rtes : Rts w A4 n4 c4 L.rtes
theorem LayV.stay {w w1 : World} {L : Lay} {A1 A2 A3 A4 : Option Addr} {n1 c1 n2 c2 n3 c3 n4 c4 : Nat} (h : LayV w L A1 A2 A3 A4 n1 c1 n2 c2 n3 c3 n4 c4) (hb : Below w.heap.size w w1) : LayV w1 L A1 A2 A3 A4 n1 c1 n2 c2 n3 c3 n4 c4 := ⟨h.secs.stay hb, h.pts.stay hb, h.sigs.stay hb, h.rtes.stay hb⟩
theorem lay_open {w : World} {L : Lay} {cs : List Value} (h : kLay.K w L cs) : ∃ A1 A2 A3 A4 n1 c1 n2 c2 n3 c3 n4 c4, cs = [.slice A1 n1 c1, .slice A2 n2 c2, .slice A3 n3 c3, .slice A4 n4 c4] ∧ LayV w L A1 A2 A3 A4 n1 c1 n2 c2 n3 c3 n4 c4 := by
  obtain ⟨_, _, rfl, h1, _, _, rfl, h2, _, _, rfl, h3, _, _, rfl, h4, rfl⟩ := h
  obtain ⟨A1, n1, c1, rfl, k1⟩ := sl_of kS_enc rfl h1
  obtain ⟨A2, n2, c2, rfl, k2⟩ := sl_of kP_enc rfl h2
  obtain ⟨A3, n3, c3, rfl, k3⟩ := sl_of kS_enc rfl h3
  obtain ⟨A4, n4, c4, rfl, e1, e2, e3⟩ := h4
  exact ⟨A1, A2, A3, A4, n1, c1, n2, c2, n3, c3, n4, c4, rfl, k1, k2, k3, e3, e1, e2⟩
structure InV (w : World) (I : Inn) (A B : Option Addr) (n c m d : Nat) : Prop where
  occ : Sl flT w A n c I.occ
  lies : Sl flI w B m d I.lies
theorem InV.stay {w w1 : World} {I : Inn} {A B : Option Addr} {n c m d : Nat} (h : InV w I A B n c m d) (hb : Below w.heap.size w w1) : InV w1 I A B n c m d := ⟨h.occ.stay hb, h.lies.stay hb⟩
theorem in_open {w : World} {I : Inn} {cs : List Value} (h : kIn.K w I cs) : ∃ A B n c m d, cs = [.slice A n c, .slice B m d] ∧ InV w I A B n c m d := by
  obtain ⟨_, _, rfl, h1, _, _, rfl, h2, rfl⟩ := h
  obtain ⟨A, n, c, rfl, k1⟩ := sl_of kT_enc rfl h1
  obtain ⟨B, m, d, rfl, k2⟩ := sl_of kI_enc rfl h2
  exact ⟨A, B, n, c, m, d, rfl, k1, k2⟩
structure OuV (w : World) (O : Ou) (A B : Option Addr) (n c m d : Nat) : Prop where
  drive : Sl flI w A n c O.drive
  proceed : Sl flT w B m d O.proceed
theorem OuV.stay {w w1 : World} {O : Ou} {A B : Option Addr} {n c m d : Nat} (h : OuV w O A B n c m d) (hb : Below w.heap.size w w1) : OuV w1 O A B n c m d := ⟨h.drive.stay hb, h.proceed.stay hb⟩
theorem ou_open {w : World} {O : Ou} {cs : List Value} (h : kOu.K w O cs) : ∃ A B n c m d, cs = [.slice A n c, .slice B m d] ∧ OuV w O A B n c m d := by
  obtain ⟨_, _, rfl, h1, _, _, rfl, h2, rfl⟩ := h
  obtain ⟨A, n, c, rfl, k1⟩ := sl_of kI_enc rfl h1
  obtain ⟨B, m, d, rfl, k2⟩ := sl_of kT_enc rfl h2
  exact ⟨A, B, n, c, m, d, rfl, k1, k2⟩
/-- Elements. -/
theorem Sl.int {w : World} {A : Option Addr} {n c : Nat} {xs : List Int} (h : Sl flI w A n c xs) {j : Nat} (hj : j < n) : ∃ b off x, A = some ⟨b, off, none⟩ ∧ xs[j]? = some x ∧ w.cell? ⟨b, off + j, none⟩ = some (.int .i64 x) := by
  obtain ⟨b, off, x, rfl, hx, hc⟩ := h.rf.at_ hj
  exact ⟨b, off, x, rfl, hx, by have := hc 0 _ rfl; simpa [flI] using this⟩
theorem Sl.tru {w : World} {A : Option Addr} {n c : Nat} {xs : List Bool} (h : Sl flT w A n c xs) {j : Nat} (hj : j < n) : ∃ b off x, A = some ⟨b, off, none⟩ ∧ xs[j]? = some x ∧ w.cell? ⟨b, off + j, none⟩ = some (.bool x) := by
  obtain ⟨b, off, x, rfl, hx, hc⟩ := h.rf.at_ hj
  exact ⟨b, off, x, rfl, hx, by have := hc 0 _ rfl; simpa [flT] using this⟩
theorem Sl.str {w : World} {A : Option Addr} {n c : Nat} {xs : List ByteArray} (h : Sl flS w A n c xs) {j : Nat} (hj : j < n) : ∃ b off x, A = some ⟨b, off, none⟩ ∧ xs[j]? = some x ∧ w.cell? ⟨b, off + j, none⟩ = some (.string x) := by
  obtain ⟨b, off, x, rfl, hx, hc⟩ := h.rf.at_ hj
  exact ⟨b, off, x, rfl, hx, by have := hc 0 _ rfl; simpa [flS] using this⟩
theorem Sl.need {w : World} {A : Option Addr} {n c : Nat} {xs : List Need} (h : Sl flN w A n c xs) {j : Nat} (hj : j < n) : ∃ b off x, A = some ⟨b, off, none⟩ ∧ xs[j]? = some x ∧ w.cell? ⟨b, off + j * 2, none⟩ = some (.int .i64 x.p) ∧ w.cell? ⟨b, off + j * 2 + 1, none⟩ = some (.bool x.r) := by
  obtain ⟨b, off, x, rfl, hx, hc⟩ := h.rf.at_ hj
  exact ⟨b, off, x, rfl, hx, hc 0 _ rfl, hc 1 _ rfl⟩
theorem Sl.pt {w : World} {A : Option Addr} {n c : Nat} {xs : List Pt} (h : Sl flP w A n c xs) {j : Nat} (hj : j < n) : ∃ b off x, A = some ⟨b, off, none⟩ ∧ xs[j]? = some x ∧ w.cell? ⟨b, off + j * 2, none⟩ = some (.string x.name) ∧ w.cell? ⟨b, off + j * 2 + 1, none⟩ = some (.int .i64 x.sec) := by
  obtain ⟨b, off, x, rfl, hx, hc⟩ := h.rf.at_ hj
  exact ⟨b, off, x, rfl, hx, hc 0 _ rfl, hc 1 _ rfl⟩
theorem Sl.len {α : Type} {f : Fl α} {w : World} {A : Option Addr} {n c : Nat} {xs : List α} (h : Sl f w A n c xs) : xs.length = n := h.rf.1
theorem Rts.len {w : World} {A : Option Addr} {n c : Nat} {xs : List Rte} (h : Rts w A n c xs) : xs.length = n := h.rd.1
end Go.Proofs.YtmdnmiiggkfnfaaDoor
