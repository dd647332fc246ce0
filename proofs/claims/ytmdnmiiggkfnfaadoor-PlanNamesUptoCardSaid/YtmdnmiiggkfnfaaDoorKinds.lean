/- How arguments of any shape are read: kinds of data, and the one law that a datum that came in is of its kind. Plain lemmas over any program. -/
import Derived.Test.YtmdnmiiggkfnfaaDoorBase
import Derived.Deep.Slices
import Derived.SizedLaws
import Derived.ChangeSlices
set_option linter.unusedVariables false
set_option linter.unusedSimpArgs false
namespace Go.Proofs.YtmdnmiiggkfnfaaDoor
open Go.RowKit Go.ChangeShapes Go.WideShapes Go.Deep

/-- A kind: how many cells, and when cells hold a thing. -/
structure Kd (α : Type) where
  sz : Nat
  K : World → α → List Value → Prop
  len : ∀ {w a cs}, K w a cs → cs.length = sz
  stay : ∀ {w w1 a cs}, Below w.heap.size w w1 → K w a cs → K w1 a cs

/-- A slice value holds a row of things. -/
def RdS {α : Type} (k : Kd α) (w : World) (A : Option Addr) (n : Nat) (xs : List α) : Prop :=
  xs.length = n ∧ n ≤ 140737488351232 ∧ (0 < n → ∃ b off, A = some ⟨b, off, none⟩ ∧ ∀ j x, xs[j]? = some x → ∃ cs, k.K w x cs ∧ ∀ i v, cs[i]? = some v → w.cell? ⟨b, off + j * k.sz + i, none⟩ = some v)
theorem RdS.stay {α : Type} {k : Kd α} {w w1 : World} {A : Option Addr} {n : Nat} {xs : List α} (hb : Below w.heap.size w w1) (h : RdS k w A n xs) : RdS k w1 A n xs := by
  obtain ⟨h1, h2, h3⟩ := h
  refine ⟨h1, h2, fun hn => ?_⟩
  obtain ⟨b, off, e, hc⟩ := h3 hn
  refine ⟨b, off, e, fun j x hx => ?_⟩
  obtain ⟨cs, hk, hcs⟩ := hc j x hx
  exact ⟨cs, k.stay hb hk, fun i v hv => cell_stay hb (hcs i v hv)⟩
theorem RdS.nil_ {α : Type} (k : Kd α) (w : World) (A : Option Addr) : RdS k w A 0 [] := ⟨rfl, by omega, fun h => absurd h (by omega)⟩

def Kd.int (q : IntKind) : Kd Int := ⟨1, fun _ n cs => cs = [.int q n] ∧ (Lit.int q n).wf = true, fun h => by rw [h.1]; rfl, fun _ h => h⟩
def Kd.bool : Kd Bool := ⟨1, fun _ b cs => cs = [.bool b], fun h => by rw [h]; rfl, fun _ h => h⟩
def Kd.str : Kd ByteArray := ⟨1, fun _ s cs => cs = [.string s] ∧ s.size ≤ 140737488351232, fun h => by rw [h.1]; rfl, fun _ h => h⟩
def Kd.slice {α : Type} (k : Kd α) : Kd (List α) := ⟨1, fun w xs cs => ∃ A n c, cs = [.slice A n c] ∧ n ≤ c ∧ c ≤ 9223372036854775807 ∧ RdS k w A n xs, fun ⟨A, n, c, h, _⟩ => by rw [h]; rfl,
  fun hb ⟨A, n, c, h, h1, h2, h3⟩ => ⟨A, n, c, h, h1, h2, h3.stay hb⟩⟩
def Kd.unit : Kd Unit := ⟨0, fun _ _ cs => cs = [], fun h => by rw [h]; rfl, fun _ h => h⟩
def Kd.pair {α β : Type} (k : Kd α) (l : Kd β) : Kd (α × β) := ⟨k.sz + l.sz, fun w x cs => ∃ c d, cs = c ++ d ∧ k.K w x.1 c ∧ l.K w x.2 d, fun ⟨c, d, h, h1, h2⟩ => by rw [h, List.length_append, k.len h1, l.len h2],
  fun hb ⟨c, d, h, h1, h2⟩ => ⟨c, d, h, k.stay hb h1, l.stay hb h2⟩⟩
def Kd.iso {α β : Type} (k : Kd α) (f : β → α) : Kd β := ⟨k.sz, fun w b cs => k.K w (f b) cs, fun h => k.len h, fun hb h => k.stay hb h⟩

/-- What reads as a datum of type t, within the reach, is of kind k. -/
def Opens (P : Program) (t : TypeId) {α : Type} (k : Kd α) : Prop :=
  P.cellsOf t = k.sz ∧ ∀ {H : Type} {enc : TypeId × Value → H} {w : World} {base : Nat} {spare : Nat → Bool} {held : Bool} {fuel : Nat} {cs : List Value} {x : DataW H × List MemPlace},
    DataW.trod enc P w base spare held fuel t cs = some x → (DataW.weights P t x.1).all (· ≤ reachBytes) = true → ∃ a, k.K w a cs
theorem opens_int {P : Program} {t : TypeId} {q : IntKind} (ht : P.underlying t = some (.int q)) (hc : P.cellsOf t = 1) : Opens P t (Kd.int q) :=
  ⟨hc, fun h _ => by
    obtain ⟨n, rfl, rfl, hw⟩ := DataW.trod_int ht h
    exact ⟨n, rfl, hw⟩⟩
theorem opens_bool {P : Program} {t : TypeId} (ht : P.underlying t = some .bool) (hc : P.cellsOf t = 1) : Opens P t Kd.bool :=
  ⟨hc, fun h _ => by
    obtain ⟨b, rfl, rfl⟩ := DataW.trod_bool ht h
    exact ⟨b, rfl⟩⟩
theorem opens_str {P : Program} {t : TypeId} (ht : P.underlying t = some .string) (hc : P.cellsOf t = 1) : Opens P t Kd.str :=
  ⟨hc, fun h hw => by
    obtain ⟨s, rfl, rfl, hs⟩ := DataW.trod_string ht h
    refine ⟨s, rfl, ?_⟩
    simp [DataW.weights, reachBytes] at hw
    exact of_decide_eq_true hw⟩
theorem weightsAll_mem {H : Type} {P : Program} {e : TypeId} : ∀ {l : List (DataW H)} {d : DataW H}, (DataW.weightsAll P e l).all (· ≤ reachBytes) = true → d ∈ l → (DataW.weights P e d).all (· ≤ reachBytes) = true
  | [], _, _, hd => by cases hd
  | y :: r, d, h, hd => by
    rw [DataW.weightsAll, List.all_append, Bool.and_eq_true] at h
    rcases List.mem_cons.1 hd with rfl | hd
    · exact h.1
    · exact weightsAll_mem h.2 hd
theorem choose_list {α β : Type} {p : Nat → α → Prop} : ∀ n : Nat, (∀ i, i < n → ∃ a, p i a) → ∃ l : List α, l.length = n ∧ ∀ i a, l[i]? = some a → p i a
  | 0, _ => ⟨[], rfl, fun i a h => by simp at h⟩
  | n + 1, h => by
    obtain ⟨l, hl, hp⟩ := choose_list (β := β) n (fun i hi => h i (by omega))
    obtain ⟨a, ha⟩ := h n (by omega)
    refine ⟨l ++ [a], by simp [hl], fun i b hb => ?_⟩
    rcases Nat.lt_or_ge i n with hi | hi
    · rw [List.getElem?_append_left (by omega)] at hb
      exact hp i b hb
    · rw [List.getElem?_append_right (by omega)] at hb
      have e : i = n := by
        rcases Nat.lt_or_ge n i with h' | h'
        · rw [List.getElem?_eq_none (by simp; omega)] at hb
          cases hb
        · omega
      subst e
      simp [hl] at hb
      subst hb
      exact ha
theorem add_off (a : Addr) (b off : Nat) (h : a = ⟨b, off, none⟩) (j : Nat) : a.add j = ⟨b, off + j, none⟩ := by
  subst h
  unfold Addr.add
  split <;> simp_all
theorem opens_slice {P : Program} {t e : TypeId} {α : Type} {k : Kd α} (ht : P.underlying t = some (.slice e)) (hc : P.cellsOf t = 1) (hs : 0 < k.sz) (hby : 0 < P.bytesOf e) (hk : Opens P e k) : Opens P t (Kd.slice k) :=
  ⟨hc, fun {H enc w base spare held fuel cs x} h hw => by
    rcases open_slice ht h with ⟨rfl, _⟩ | ⟨a, len, cap, m, n, D, Pl, rfl, hb, hl, hm, hmm, rfl, hx⟩
    · exact ⟨[], none, 0, 0, rfl, by omega, by omega, RdS.nil_ _ _ _⟩
    · have hlm : len ≤ m := by rw [hmm]; split <;> omega
      rw [DataW.weights, ht] at hw
      simp only [List.all_cons, List.all_append, Bool.and_eq_true, List.length_map, List.length_range] at hw
      obtain ⟨hw0, hw1, hw2⟩ := hw
      have hbig : len ≤ 140737488351232 := by
        have h1 : (len + (m - len)) * P.bytesOf e ≤ reachBytes := of_decide_eq_true hw0
        have h2 : len + (m - len) ≤ (len + (m - len)) * P.bytesOf e := Nat.le_mul_of_pos_right _ hby
        simp only [reachBytes] at h1
        omega
      have each : ∀ i, i < len → ∃ y : α × List Value, k.K w y.1 y.2 ∧ ∀ q v, y.2[q]? = some v → w.cell? (a.add (i * k.sz + q)) = some v := by
        intro i hi
        obtain ⟨cs', h1, h2⟩ := hx i (by omega)
        rw [hk.1] at h1
        obtain ⟨_, hl', hat⟩ := World.cells?_some h1
        obtain ⟨y, hy⟩ := hk.2 h2 (weightsAll_mem hw1 (List.mem_map.2 ⟨i, List.mem_range.2 hi, rfl⟩))
        refine ⟨(y, cs'), hy, fun q v hv => ?_⟩
        have hq : q < k.sz := by
          rw [← hl']
          rcases Nat.lt_or_ge q cs'.length with h' | h'
          · exact h'
          · simp [List.getElem?_eq_none h'] at hv
        have := hat q hq
        rw [Go.Deep.add_add] at this
        rw [this]
        exact hv
      obtain ⟨l, hll, hp⟩ := choose_list (β := Unit) len each
      refine ⟨l.map (·.1), some a, len, cap, rfl, hl, by unfold maxLen at hm; omega, by simp [hll], hbig, fun hn => ?_⟩
      obtain ⟨y0, hy0⟩ : ∃ y, l[0]? = some y := ⟨l[0]'(by omega), List.getElem?_eq_getElem (by omega)⟩
      obtain ⟨hk0, hc0⟩ := hp 0 y0 hy0
      have hlen0 := k.len hk0
      obtain ⟨v0, hv0⟩ : ∃ v, y0.2[0]? = some v := ⟨y0.2[0]'(by omega), List.getElem?_eq_getElem (by omega)⟩
      have hcell := hc0 0 v0 hv0
      obtain ⟨b, off, spot⟩ := a
      have hspot : spot = none := by simpa [Addr.add] using World.cell?_spot hcell
      subst hspot
      refine ⟨b, off, rfl, fun j x hxj => ?_⟩
      rw [List.getElem?_map, Option.map_eq_some_iff] at hxj
      obtain ⟨y, hy, rfl⟩ := hxj
      obtain ⟨h1, h2⟩ := hp j y hy
      refine ⟨y.2, h1, fun i v hv => ?_⟩
      have := h2 i v hv
      rw [add_off _ b off rfl] at this
      rw [← this, Nat.add_assoc]⟩

/-- Fields from an offset on. -/
def OpensF (P : Program) (fs : List Field) (off : Nat) {α : Type} (k : Kd α) : Prop :=
  ∀ {H : Type} {enc : TypeId × Value → H} {w : World} {base : Nat} {spare : Nat → Bool} {held : Bool} {n : Nat} {cs : List Value} {ys : List (DataW H × List MemPlace)},
    ys.length = fs.length → (∀ (i : Nat) (f : Field), fs[i]? = some f → DataW.trod enc P w base spare held n f.type ((cs.drop f.offset).take (P.cellsOf f.type)) = ys[i]?) →
    (DataW.weightsEach P (fs.map (·.type)) (ys.map (·.1))).all (· ≤ reachBytes) = true → cs.length = off + k.sz → ∃ a, k.K w a (cs.drop off)
theorem opensF_nil {P : Program} {off : Nat} : OpensF P [] off Kd.unit := fun _ _ _ hl => ⟨(), by
  show List.drop off _ = []
  exact List.drop_eq_nil_of_le (by simp [Kd.unit] at hl; omega)⟩
theorem opensF_cons {P : Program} {f : Field} {fs : List Field} {off : Nat} {α β : Type} {k : Kd α} {l : Kd β} (ho : f.offset = off) (hk : Opens P f.type k) (hl : OpensF P fs (off + k.sz) l) : OpensF P (f :: fs) off (Kd.pair k l) := by
  intro H enc w base spare held n cs ys hy hf hw hc
  cases ys with
  | nil => simp at hy
  | cons y r =>
    rw [List.map_cons, List.map_cons, DataW.weightsEach, List.all_append, Bool.and_eq_true] at hw
    have h0 := hf 0 f rfl
    rw [ho, hk.1] at h0
    obtain ⟨a, ha⟩ := hk.2 h0 hw.1
    have hc' : cs.length = off + (k.sz + l.sz) := hc
    obtain ⟨b, hb⟩ := hl (ys := r) (by simpa using hy) (fun i g hg => by have := hf (i + 1) g (by simpa using hg); simpa using this) hw.2 (by omega)
    refine ⟨(a, b), (cs.drop off).take k.sz, cs.drop (off + k.sz), ?_, ha, hb⟩
    rw [← List.drop_drop, List.take_append_drop]
theorem opens_struct {P : Program} {t : TypeId} {fs : Array Field} {α : Type} {k : Kd α} (ht : P.underlying t = some (.struct fs)) (hc : P.cellsOf t = k.sz) (hf : OpensF P fs.toList 0 k) : Opens P t k :=
  ⟨hc, fun {H enc w base spare held fuel cs x} h hw => by
    obtain ⟨xs, n, rfl, rfl, hcl, hxl, hg⟩ := DataW.trod_struct ht h
    rw [DataW.weights, ht] at hw
    obtain ⟨a, ha⟩ := hf (ys := xs) (by simpa using hxl) (fun i f hif => hg i f (by simpa using hif)) hw (by omega)
    exact ⟨a, by simpa using ha⟩⟩
theorem opens_iso {P : Program} {t : TypeId} {α β : Type} {k : Kd α} (f : β → α) (g : α → β) (hfg : ∀ a, f (g a) = a) (hk : Opens P t k) : Opens P t (Kd.iso k f) :=
  ⟨hk.1, fun h hw => by
    obtain ⟨a, ha⟩ := hk.2 h hw
    exact ⟨g a, by show k.K _ (f (g a)) _; rw [hfg]; exact ha⟩⟩
theorem weights_at {H : Type} {P : Program} {ts : List TypeId} {ds : List (DataW H)} (h : (DataW.weightsEach P ts ds).all (· ≤ reachBytes) = true) {j : Nat} {t : TypeId} {d : DataW H} (ht : ts[j]? = some t) (hd : ds[j]? = some d) :
    (DataW.weights P t d).all (· ≤ reachBytes) = true := by
  rw [List.all_eq_true] at h ⊢
  exact fun n hn => h n (DataW.weights_mem_each ht hd n hn)
/-- An argument, as the frame has it. -/
theorem opens_arg {P : Program} {t : TypeId} {α : Type} {k : Kd α} (hk : Opens P t k) {H : Type} {enc : TypeId × Value → H} {W : World} {base : Nat} {spare : Nat → Bool} {held : Bool} {v : Value} {d : DataW H} {p : List MemPlace}
    (h : DataW.Trod enc P W base spare held t v d p) (hw : (DataW.weights P t d).all (· ≤ reachBytes) = true) : ∃ a, k.K W a v.cells.toList := by
  obtain ⟨fuel, hf⟩ := h
  exact hk.2 hf hw
end Go.Proofs.YtmdnmiiggkfnfaaDoor
