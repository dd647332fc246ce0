/- Texts put together for a claim. -/
import Derived.Test.YtmdnmiiggkfnfaaDoorQ10PlanNamesUpto
import Derived.Test.YtmdnmiiggkfnfaaDoorQ25PlanNamesUpto
import Derived.Test.YtmdnmiiggkfnfaaDoorQ18PlanNamesUpto
import Derived.Test.YtmdnmiiggkfnfaaDoorQ23PlanNamesUpto
import Derived.Deep.RegionHeld3
import Derived.Test.YtmdnmiiggkfnfaaDoorQ22PlanNamesUpto
/- The words of a line that is made of words and blanks: plain. -/
set_option linter.unusedVariables false
set_option linter.unusedSimpArgs false
namespace Go.Proofs.YtmdnmiiggkfnfaaDoor
open Go.RowKit

/-- A text that is one word. -/
structure Tok (t : ByteArray) : Prop where
  whole : wholeR (rn (byt t)) = true
  plain : ∀ x ∈ rn (byt t), blankR x = false
  ne : rn (byt t) ≠ []
theorem Tok.name {t : ByteArray} (h : nameL (byt t) = true) : Tok t := ⟨(name_whole h).1, (name_whole h).2.1, (name_whole h).2.2.1⟩
def blankB (l : List Nat) : Prop := ∀ c ∈ l, c = 32 ∨ c = 9
/-- Words with blanks between, blanks behind. -/
def lineB (sep tr : List Nat) : List ByteArray → List Nat
  | [] => tr
  | [t] => byt t ++ tr
  | t :: u :: r => byt t ++ (sep ++ lineB sep tr (u :: r))
theorem rn_blank {l : List Nat} (h : blankB l) (t : List Nat) : rn (l ++ t) = l.map (fun c => (c, 1)) ++ rn t := by
  induction l with
  | nil => rfl
  | cons c r ih =>
    have hc : c < 128 := by rcases h c (by simp) with e | e <;> omega
    rw [List.cons_append, rn_head hc, ih (fun x hx => h x (List.mem_cons_of_mem _ hx))]
    rfl
theorem fold_blank {l : List Nat} (h : blankB l) : ∀ (acc : List Wd) (n : Nat) (b : Bool), l ≠ [] ∨ b = false → (l.map fun c => (c, 1)).foldl stepW ⟨acc, n, b⟩ = ⟨acc, n + l.length, false⟩ := by
  induction l with
  | nil =>
    intro acc n b hb
    rcases hb with hb | hb
    · exact absurd rfl hb
    · subst hb; rfl
  | cons c r ih =>
    intro acc n b hb
    have hc : blankR (c, 1) = true := by
      unfold blankR
      rcases h c (by simp) with e | e <;> subst e <;> rfl
    rw [List.map_cons, List.foldl_cons, stepW_blank _ hc, ih (fun x hx => h x (List.mem_cons_of_mem _ hx)) acc (n + 1) false (.inr rfl), List.length_cons]
    congr 1
    omega
theorem whole_blank {l : List Nat} (h : blankB l) : wholeR (l.map fun c => (c, 1)) = true := by
  unfold wholeR
  rw [List.all_eq_true]
  intro x hx
  obtain ⟨c, hc, rfl⟩ := List.mem_map.1 hx
  rcases h c hc with e | e <;> subst e <;> rfl
theorem whole_two {a b : List (Nat × Nat)} (ha : wholeR a = true) (hb : wholeR b = true) : wholeR (a ++ b) = true := by
  unfold wholeR at *
  rw [List.all_append, ha, hb]
  rfl
theorem line_fold {sep tr : List Nat} (hs : blankB sep) (hs0 : sep ≠ []) (ht : blankB tr) : ∀ (ts : List ByteArray), (∀ t ∈ ts, Tok t) → wholeR (rn (lineB sep tr ts)) = true ∧ ∀ (acc : List Wd) (n : Nat), ∃ ws m b, (rn (lineB sep tr ts)).foldl stepW ⟨acc, n, false⟩ = ⟨acc ++ ws, m, b⟩ ∧ ws.map Prod.fst = ts
  | [], _ => by
    have e : rn (lineB sep tr []) = tr.map (fun c => (c, 1)) := by
      have := rn_blank ht []
      rw [List.append_nil, rn_nil, List.append_nil] at this
      exact this
    rw [e]
    exact ⟨whole_blank ht, fun acc n => ⟨[], _, _, by rw [fold_blank ht acc n false (.inr rfl), List.append_nil], rfl⟩⟩
  | [t], h => by
    have hk := h t (by simp)
    have e : rn (lineB sep tr [t]) = rn (byt t) ++ tr.map (fun c => (c, 1)) := by
      have := rn_blank ht []
      rw [List.append_nil, rn_nil, List.append_nil] at this
      rw [lineB, rn_app tr (byt_lt t) hk.whole, this]
    rw [e]
    refine ⟨whole_two hk.whole (whole_blank ht), fun acc n => ?_⟩
    rw [List.foldl_append, fold_new _ acc n hk.ne hk.plain]
    cases tr with
    | nil => exact ⟨[(encAll (rn (byt t)), (n : Int))], _, _, rfl, by rw [encAll_rn t hk.whole]; rfl⟩
    | cons c r => exact ⟨[(encAll (rn (byt t)), (n : Int))], _, _, fold_blank ht _ _ _ (.inl (by simp)), by rw [encAll_rn t hk.whole]; rfl⟩
  | t :: u :: r, h => by
    have hk := h t (by simp)
    have ih := line_fold hs hs0 ht (u :: r) (fun x hx => h x (List.mem_cons_of_mem _ hx))
    have e : rn (lineB sep tr (t :: u :: r)) = rn (byt t) ++ (sep.map (fun c => (c, 1)) ++ rn (lineB sep tr (u :: r))) := by
      rw [lineB, rn_app _ (byt_lt t) hk.whole, rn_blank hs]
    rw [e]
    refine ⟨whole_two hk.whole (whole_two (whole_blank hs) ih.1), fun acc n => ?_⟩
    rw [List.foldl_append, fold_new _ acc n hk.ne hk.plain, List.foldl_append, fold_blank hs _ _ _ (.inl hs0)]
    obtain ⟨ws, m, b, h1, h2⟩ := ih.2 (acc ++ [(encAll (rn (byt t)), (n : Int))]) (n + (rn (byt t)).length + sep.length)
    exact ⟨(encAll (rn (byt t)), (n : Int)) :: ws, m, b, by rw [h1, List.append_assoc]; rfl, by rw [List.map_cons, h2, encAll_rn t hk.whole]⟩
/-- A line's words. -/
theorem words_line {sep tr : List Nat} (hs : blankB sep) (hs0 : sep ≠ []) (ht : blankB tr) (ts : List ByteArray) (h : ∀ t ∈ ts, Tok t) : (wordsL (lineB sep tr ts)).2 = -1 ∧ (wordsL (lineB sep tr ts)).1.map Prod.fst = ts := by
  obtain ⟨hw, hf⟩ := line_fold hs hs0 ht ts h
  obtain ⟨ws, m, b, h1, h2⟩ := hf [] 0
  unfold wordsL
  rw [goW_all _ _ hw, h1]
  exact ⟨rfl, by simpa using h2⟩
/-- No byte of a text is one. -/
def NoB (t : ByteArray) (c : Nat) : Prop := c ∉ byt t
theorem enc_no {r c : Nat} (hc : c < 128) (hr : r ≠ c) : c ∉ encN r := by
  unfold encN
  repeat' split
  all_goals simp
  all_goals omega
theorem encAll_no {c : Nat} (hc : c < 128) : ∀ l : List (Nat × Nat), (∀ x ∈ l, okR x.1 ∧ x.1 ≠ c) → c ∉ byt (encAll l)
  | [], _ => by simp [encAll, byt]
  | x :: l, h => by
    have h1 := h x (by simp)
    rw [encAll, byt_app3, byt_encode _ (by omega) (by simpa using h1.1)]
    intro hm
    rcases List.mem_append.1 hm with h2 | h2
    · exact enc_no hc (by simpa using h1.2) h2
    · exact encAll_no hc l (fun y hy => h y (List.mem_cons_of_mem _ hy)) h2
end Go.Proofs.YtmdnmiiggkfnfaaDoor

/- A layout that may be, told line by line, is read as it is: plain. -/
set_option linter.unusedVariables false
set_option linter.unusedSimpArgs false
namespace Go.Proofs.YtmdnmiiggkfnfaaDoor
open Go.RowKit

theorem nm_name {t : ByteArray} (h : nmB t = true) : nameL (byt t) = true ∧ t ≠ setT ∧ t ≠ flankT := by
  unfold nmB at h
  simp only [Bool.and_eq_true, Bool.not_eq_true', decide_eq_false_iff_not] at h
  refine ⟨h.1.1, fun e => h.1.2 (by rw [e, ByteArray.toList_eq]; rfl), fun e => h.2 (by rw [e, ByteArray.toList_eq]; rfl)⟩
/-- No name has a byte that is none of a letter or digit. -/
theorem name_no {t : ByteArray} (h : nameL (byt t) = true) {c : Nat} (hc : c < 128) (h1 : letB c = false) (h2 : digB c = false) : c ∉ byt t := by
  have hw := name_whole h
  rw [← encAll_rn t hw.1]
  refine encAll_no hc _ (fun x hx => ?_)
  have ho : ∀ (f : Bool) (l : List (Nat × Nat)), okN f l = true → ∀ x ∈ l, (letB x.1 || digB x.1) = true := by
    intro f l
    induction l generalizing f with
    | nil => intro _ x hx; cases hx
    | cons y r ih =>
      intro hok x hx
      rw [okN] at hok
      simp only [Bool.and_eq_true] at hok
      rcases List.mem_cons.1 hx with rfl | hx
      · have := hok.1.2
        cases hl : letB x.1 with
        | true => rfl
        | false =>
          rw [hl] at this
          simp at this
          rw [this.2]
          rfl
      · exact ih false hok.2 x hx
  unfold nameL nameR at h
  rw [Bool.and_eq_true] at h
  have hx2 := ho true _ h.1 x hx
  refine ⟨?_, ?_⟩
  · unfold okR
    unfold letB digB at hx2
    simp at hx2
    omega
  · rintro e
    rw [e, h1, h2] at hx2
    cases hx2
theorem tok_plus {t : ByteArray} (h : nameL (byt t) = true) {c : UInt8} (hc : c = 43 ∨ c = 45) : Tok (t ++ ⟨#[c]⟩) := by
  have hw := name_whole h
  have e : byt (t ++ ⟨#[c]⟩) = byt t ++ [c.toNat] := by rw [byt_app3]; rfl
  have hlt : c.toNat < 128 := by rcases hc with e | e <;> subst e <;> decide
  have e2 : rn (byt (t ++ ⟨#[c]⟩)) = rn (byt t) ++ [(c.toNat, 1)] := by rw [e, rn_plain _ hlt]
  refine ⟨?_, ?_, ?_⟩
  · rw [e2]
    refine whole_two hw.1 ?_
    rcases hc with e | e <;> subst e <;> rfl
  · rw [e2]
    intro x hx
    rcases List.mem_append.1 hx with h1 | h1
    · exact hw.2.1 x h1
    · rw [List.mem_singleton.1 h1]
      rcases hc with e | e <;> subst e <;> rfl
  · rw [e2]; simp
theorem ends_plus (t : ByteArray) (c d : UInt8) : endsB (t ++ ⟨#[c]⟩) d = (d == c) := by
  unfold endsB
  rw [ByteArray.data_append, Array.toList_append]
  show ([d].isSuffixOf (t.data.toList ++ [c])) = _
  unfold List.isSuffixOf
  simp [List.isPrefixOf]
theorem chop_plus (t : ByteArray) (c : UInt8) : chop (t ++ ⟨#[c]⟩) = t := by
  unfold chop
  rw [ByteArray.data_append, Array.toList_append]
  show ByteArray.mk ((t.data.toList ++ [c]).take ((t.data.toList ++ [c]).length - 1)).toArray = t
  rw [List.length_append, List.length_singleton, Nat.add_sub_cancel, List.take_left]
/-- A need, as a word. -/
def needTok (L : Lay) (n : Need) : ByteArray := nth (ptNames L) n.p.toNat ++ (if n.r then ⟨#[45]⟩ else ⟨#[43]⟩)
theorem want_tok {t : ByteArray} (h : nmB t = true) (r : Bool) : wantOf (t ++ (if r then ⟨#[45]⟩ else ⟨#[43]⟩)) = (⟨t, r⟩, 0) := by
  cases r with
  | true =>
    show wantOf (t ++ ⟨#[45]⟩) = _
    unfold wantOf
    rw [ends_plus, ends_plus, chop_plus, if_neg (by decide), if_pos (by decide), h]
    rfl
  | false =>
    show wantOf (t ++ ⟨#[43]⟩) = _
    unfold wantOf
    rw [ends_plus, chop_plus, if_pos (by decide), h]
    rfl
theorem tok_need {t : ByteArray} (h : nameL (byt t) = true) (r : Bool) : Tok (t ++ (if r then ⟨#[45]⟩ else ⟨#[43]⟩)) := by
  cases r with
  | true => exact tok_plus h (.inr rfl)
  | false => exact tok_plus h (.inl rfl)
theorem need_ne {t : ByteArray} (r : Bool) : t ++ (if r then (⟨#[45]⟩ : ByteArray) else ⟨#[43]⟩) ≠ flankT ∧ t ++ (if r then (⟨#[45]⟩ : ByteArray) else ⟨#[43]⟩) ≠ setT := by
  have key : ∀ c d : UInt8, ∀ u : ByteArray, endsB u d = true → (d == c) = false → t ++ ⟨#[c]⟩ ≠ u := by
    intro c d u hu hd e
    rw [← e, ends_plus, hd] at hu
    cases hu
  cases r with
  | true => exact ⟨key 45 107 flankT (by decide) (by decide), key 45 116 setT (by decide) (by decide)⟩
  | false => exact ⟨key 43 107 flankT (by decide) (by decide), key 43 116 setT (by decide) (by decide)⟩
/-- Wants of a line. -/
theorem wantsL_need : ∀ (ns : List (ByteArray × Bool)) (rest : List ByteArray), (∀ n ∈ ns, nmB n.1 = true) → (rest = [] ∨ ∃ u, rest = flankT :: u) →
    wantsL (ns.map (fun n => n.1 ++ (if n.2 then ⟨#[45]⟩ else ⟨#[43]⟩)) ++ rest) = (ns.map (fun n => ⟨n.1, n.2⟩), ⟨rest, 0⟩)
  | [], rest, _, hr => by
    rcases hr with rfl | ⟨u, rfl⟩
    · rfl
    · show wantsL (flankT :: u) = _
      rw [wantsL, if_pos rfl]
      rfl
  | n :: ns, rest, h, hr => by
    rw [List.map_cons, List.cons_append, wantsL, if_neg (need_ne n.2).1, want_tok (h n (by simp)), if_pos rfl, wantsL_need ns rest (fun x hx => h x (List.mem_cons_of_mem _ hx)) hr]
    rfl
theorem viaL_names : ∀ (ns : List ByteArray) (rest : List ByteArray), (∀ n ∈ ns, nmB n = true) → (rest = [] ∨ (∃ u, rest = setT :: u) ∨ ∃ u, rest = flankT :: u) → viaL (ns ++ rest) = (ns, ⟨rest, 0⟩)
  | [], rest, _, hr => by
    rcases hr with rfl | ⟨u, rfl⟩ | ⟨u, rfl⟩
    · rfl
    · show viaL (setT :: u) = _
      rw [viaL, if_pos rfl]
    · show viaL (flankT :: u) = _
      rw [viaL, if_neg (by decide), if_pos rfl]
  | n :: ns, rest, h, hr => by
    have hn := nm_name (h n (by simp))
    rw [List.cons_append, viaL, if_neg hn.2.1, if_neg hn.2.2, if_pos (h n (by simp)), viaL_names ns rest (fun x hx => h x (List.mem_cons_of_mem _ hx)) hr]
theorem word_at_ (s : ByteArray) (t : List ByteArray) : Rd.word ⟨s :: t, 0⟩ s = ⟨t, 0⟩ := if_pos rfl
theorem name_at {x : ByteArray} (h : nmB x = true) (t : List ByteArray) : Rd.name ⟨x :: t, 0⟩ = (x, ⟨t, 0⟩) := by
  show (x, if (0 : Int) = 0 ∧ nmB x = false then _ else _) = _
  rw [if_neg (by rw [h]; simp)]
  rfl
def needW (n : ByteArray × Bool) : ByteArray := n.1 ++ (if n.2 then ⟨#[45]⟩ else ⟨#[43]⟩)
/-- Wants, with their word ahead, if there are any. -/
def wantsW (s : ByteArray) (ns : List (ByteArray × Bool)) : List ByteArray := if ns = [] then [] else s :: ns.map needW
theorem wants_at (s : ByteArray) (ns : List (ByteArray × Bool)) (rest : List ByteArray) (h : ∀ n ∈ ns, nmB n.1 = true) (hr : rest = [] ∨ ∃ u, rest = flankT :: u) (hs : ns = [] → ∀ u, rest ≠ s :: u) :
    Rd.wants ⟨wantsW s ns ++ rest, 0⟩ s = (ns.map (fun n => ⟨n.1, n.2⟩), ⟨rest, 0⟩) := by
  unfold wantsW
  cases ns with
  | nil =>
    rw [if_pos rfl]
    show Rd.wants ⟨rest, 0⟩ s = ([], ⟨rest, 0⟩)
    unfold Rd.wants
    rw [if_neg]
    unfold Rd.isW
    cases rest with
    | nil => simp [Rd.more]
    | cons u r =>
      have : u ≠ s := fun e => hs rfl r (by rw [e])
      simp [this]
  | cons n ns =>
    rw [if_neg (by simp)]
    have hi : Rd.isW ⟨s :: (n :: ns).map needW ++ rest, 0⟩ s = true := by simp [Rd.isW, Rd.more]
    unfold Rd.wants
    rw [if_pos hi]
    have e1 : Rd.want (Rd.skip ⟨s :: (n :: ns).map needW ++ rest, 0⟩) = (⟨n.1, n.2⟩, ⟨ns.map needW ++ rest, 0⟩) := by
      show ((wantOf (needW n)).1, Rd.fail ⟨ns.map needW ++ rest, 0⟩ (wantOf (needW n)).2) = _
      unfold needW
      rw [want_tok (h n (by simp)) n.2]
      rfl
    rw [e1]
    have e2 : Rd.wantsGo ⟨ns.map needW ++ rest, 0⟩ = (ns.map (fun n => ⟨n.1, n.2⟩), ⟨rest, 0⟩) := wantsL_need ns rest (fun x hx => h x (List.mem_cons_of_mem _ hx)) hr
    dsimp only
    rw [e2]
    rfl
/-- A route's line, taken. -/
theorem take_route {nm f t v : ByteArray} {vs : List ByteArray} {ss fs : List (ByteArray × Bool)} (hn : nmB nm = true) (hf : nmB f = true) (ht : nmB t = true) (hv : nmB v = true) (hvs : ∀ x ∈ vs, nmB x = true) (hss : ∀ x ∈ ss, nmB x.1 = true) (hfs : ∀ x ∈ fs, nmB x.1 = true) :
    Rd.take ⟨rtW :: nm :: fromW :: f :: toW :: t :: viaW :: v :: (vs ++ (wantsW setT ss ++ wantsW flankT fs)), 0⟩ = (⟨rtW, [nm, f, t], v :: vs, ss.map (fun n => ⟨n.1, n.2⟩), fs.map (fun n => ⟨n.1, n.2⟩)⟩, ⟨[], 0⟩) := by
  have hF : wantsW flankT fs = [] ∨ ∃ u, wantsW flankT fs = flankT :: u := by
    unfold wantsW
    split
    · exact .inl rfl
    · exact .inr ⟨_, rfl⟩
  have hS : wantsW setT ss ++ wantsW flankT fs = [] ∨ (∃ u, wantsW setT ss ++ wantsW flankT fs = setT :: u) ∨ ∃ u, wantsW setT ss ++ wantsW flankT fs = flankT :: u := by
    by_cases h : ss = []
    · subst h
      rcases hF with e | ⟨u, e⟩
      · exact .inl (by rw [e]; rfl)
      · exact .inr (.inr ⟨u, by rw [e]; rfl⟩)
    · exact .inr (.inl ⟨ss.map needW ++ wantsW flankT fs, by unfold wantsW; rw [if_neg h]; rfl⟩)
  have e1 : Rd.route ⟨fromW :: f :: toW :: t :: viaW :: v :: (vs ++ (wantsW setT ss ++ wantsW flankT fs)), 0⟩ = (⟨[f, t], v :: vs, ss.map (fun n => ⟨n.1, n.2⟩), fs.map (fun n => ⟨n.1, n.2⟩)⟩, ⟨[], 0⟩) := by
    unfold Rd.route
    dsimp only
    rw [word_at_, name_at hf]
    dsimp only
    rw [word_at_, name_at ht]
    dsimp only
    rw [word_at_, name_at hv]
    dsimp only
    have e2 : Rd.viaGo ⟨vs ++ (wantsW setT ss ++ wantsW flankT fs), 0⟩ = (vs, ⟨wantsW setT ss ++ wantsW flankT fs, 0⟩) := viaL_names vs _ hvs hS
    rw [e2]
    dsimp only
    rw [wants_at setT ss _ hss hF (fun _ u e => by rcases hF with h | ⟨q, h⟩ <;> rw [h] at e <;> first | (cases e) | (injection e with e; exact absurd e (by decide)))]
    dsimp only
    have e3 := wants_at flankT fs [] hfs (.inl rfl) (fun _ u e => by cases e)
    rw [List.append_nil] at e3
    rw [e3]
  unfold Rd.take
  dsimp only
  have e0 : Rd.next ⟨rtW :: nm :: fromW :: f :: toW :: t :: viaW :: v :: (vs ++ (wantsW setT ss ++ wantsW flankT fs)), 0⟩ = (rtW, ⟨nm :: fromW :: f :: toW :: t :: viaW :: v :: (vs ++ (wantsW setT ss ++ wantsW flankT fs)), 0⟩) := rfl
  rw [e0]
  dsimp only
  rw [name_at hn]
  dsimp only
  rw [e1, if_neg (by decide), if_neg (by decide), if_neg (by decide), if_pos rfl]
  rfl
end Go.Proofs.YtmdnmiiggkfnfaaDoor

/- What a layout that may be meets (for this seat); its lines, read. -/
set_option linter.unusedVariables false
set_option linter.unusedSimpArgs false
namespace Go.Proofs.YtmdnmiiggkfnfaaDoor
open Go.RowKit

theorem any_range_false {p : Nat → Bool} {n : Nat} (h : (!((List.range n).any p)) = true) : ∀ j, j < n → p j = false := by
  intro j hj
  cases hp : p j with
  | false => rfl
  | true => rw [List.any_eq_true.2 ⟨j, List.mem_range.2 hj, hp⟩] at h; cases h
structure NeedsOk (L : Lay) (ns : List Need) : Prop where
  at_ : ∀ a ∈ ns, 0 ≤ a.p ∧ a.p < L.pts.length
  few : ns.length ≤ L.pts.length
theorem needs_ok {L : Lay} {ns : List Need} {path : List Int} {inn : Bool} (h : needsM L ns path inn = true) : NeedsOk L ns := by
  have hb := any_range_false h
  have at1 : ∀ j, j < ns.length → 0 ≤ (ns.getD j nd0).p ∧ (ns.getD j nd0).p < L.pts.length ∧ (0 < j → (ns.getD (j - 1) nd0).p < (ns.getD j nd0).p) := by
    intro j hj
    have := hb j hj
    unfold needBad at this
    simp only [Bool.or_eq_false_iff, decide_eq_false_iff_not, Bool.and_eq_false_iff] at this
    obtain ⟨⟨⟨h1, h2⟩, h3⟩, _⟩ := this
    refine ⟨by omega, by omega, fun h0 => ?_⟩
    rcases h3 with h3 | h3
    · exact absurd h0 h3
    · omega
  have low : ∀ j, j < ns.length → (j : Int) ≤ (ns.getD j nd0).p := by
    intro j
    induction j with
    | zero => intro hj; exact (at1 0 hj).1
    | succ j ih =>
      intro hj
      have h1 := ih (by omega)
      have h2 := (at1 (j + 1) hj).2.2 (by omega)
      rw [Nat.add_sub_cancel] at h2
      omega
  refine ⟨fun a ha => ?_, ?_⟩
  · obtain ⟨j, hj⟩ := List.mem_iff_getElem?.1 ha
    have hl := (List.getElem?_eq_some_iff.1 hj).1
    have e : ns.getD j nd0 = a := by rw [List.getD_eq_getElem?_getD, hj]; rfl
    have := at1 j hl
    rw [e] at this
    exact ⟨this.1, this.2.1⟩
  · rcases Nat.eq_zero_or_pos ns.length with h0 | h0
    · omega
    · have h1 := low (ns.length - 1) (by omega)
      have h2 := (at1 (ns.length - 1) (by omega)).2.1
      omega
theorem route_ok {L : Lay} {x : Rte} (h : routeM L x = true) : (∀ a ∈ x.path, 0 ≤ a ∧ a < L.secs.length) ∧ NeedsOk L x.points ∧ NeedsOk L x.flank ∧ endsOk L x = true := by
  unfold routeM at h
  simp only [Bool.and_eq_true] at h
  obtain ⟨⟨⟨⟨h1, h2⟩, _⟩, h4⟩, h5⟩ := h
  refine ⟨fun a ha => ?_, needs_ok h4, needs_ok h5, h1⟩
  obtain ⟨j, hj⟩ := List.mem_iff_getElem?.1 ha
  have hl := (List.getElem?_eq_some_iff.1 hj).1
  have e : x.path.getD j 0 = a := by rw [List.getD_eq_getElem?_getD, hj]; rfl
  have hb := any_range_false h2 j hl
  unfold pathBad at hb
  rw [e] at hb
  simp only [Bool.or_eq_false_iff, decide_eq_false_iff_not] at hb
  exact ⟨by omega, by omega⟩
structure IsOk (L : Lay) : Prop where
  sz : 1 ≤ L.secs.length ∧ L.secs.length ≤ 10 ∧ 1 ≤ L.sigs.length ∧ L.sigs.length ≤ 6 ∧ L.pts.length ≤ 5 ∧ L.rtes.length ≤ 6
  pts : ∀ x ∈ L.pts, 0 ≤ x.sec ∧ x.sec < L.secs.length
  rts : ∀ x ∈ L.rtes, routeM L x = true
  names : namesM L.secs = true ∧ namesM L.sigs = true ∧ namesM (L.pts.map Pt.name) = true ∧ namesM (L.rtes.map Rte.name) = true
theorem is_ok {L : Lay} (h : isM L = true) : IsOk L := by
  unfold isM at h
  simp only [Bool.and_eq_true] at h
  obtain ⟨⟨⟨h1, h2⟩, ⟨⟨⟨n1, n2⟩, n3⟩, n4⟩⟩, h4⟩ := h
  unfold sizesOk at h1
  simp only [Bool.and_eq_true, decide_eq_true_eq] at h1
  refine ⟨⟨h1.1.1.1.1.1, h1.1.1.1.1.2, h1.1.1.1.2, h1.1.1.2, h1.1.2, h1.2⟩, fun x hx => ?_, fun x hx => ?_, n1, n2, n3, n4⟩
  · obtain ⟨j, hj⟩ := List.mem_iff_getElem?.1 hx
    have hl := (List.getElem?_eq_some_iff.1 hj).1
    have hb := any_range_false h2 j hl
    unfold ptBad at hb
    have e : secOf L (j : Int) = x.sec := by unfold secOf; rw [Int.toNat_natCast, hj]; rfl
    rw [e] at hb
    simp only [Bool.or_eq_false_iff, decide_eq_false_iff_not] at hb
    exact ⟨by omega, by omega⟩
  · obtain ⟨j, hj⟩ := List.mem_iff_getElem?.1 hx
    have hl := (List.getElem?_eq_some_iff.1 hj).1
    have hb := any_range_false h4 j hl
    unfold rtBad at hb
    rw [hj] at hb
    simpa using hb
theorem names_ok {l : List ByteArray} (h : namesM l = true) : (∀ x ∈ l, nmB x = true) ∧ l.Nodup := by
  have hb := any_range_false h
  have hg : ∀ (j : Nat) (hj : j < l.length), l.getD j nb0 = l[j] := fun j hj => by rw [List.getD_eq_getElem?_getD, List.getElem?_eq_getElem hj]; rfl
  refine ⟨fun x hx => ?_, ?_⟩
  · obtain ⟨j, hj, rfl⟩ := List.mem_iff_getElem.1 hx
    have := hb j hj
    unfold nmBad at this
    rw [Bool.or_eq_false_iff, hg j hj] at this
    simpa using this.1
  · rw [List.nodup_iff_pairwise_ne, List.pairwise_iff_getElem]
    intro a b ha hb' hab e
    have := hb b hb'
    unfold nmBad at this
    rw [Bool.or_eq_false_iff] at this
    have h2 := List.any_eq_false.1 this.2 a (List.mem_range.2 hab)
    rw [hg a ha, hg b hb', e] at h2
    simp at h2
theorem idx_nodup {l : List ByteArray} (h : l.Nodup) {i : Nat} {x : ByteArray} (hx : l[i]? = some x) : idxS l x = i := by
  have hi := (List.getElem?_eq_some_iff.1 hx).1
  have hd : ∀ (j : Nat) (hj : j < l.length), l.getD j ByteArray.empty = l[j] := fun j hj => by rw [List.getD_eq_getElem?_getD, List.getElem?_eq_getElem hj]; rfl
  have hxe := (List.getElem?_eq_some_iff.1 hx).2
  have := Lib.idxOfS_hit l l.length i x hi (Nat.le_refl _) (by rw [hd i hi, hxe]) (fun j hj => by
    rw [hd j (by omega), ← hxe]
    exact (List.pairwise_iff_getElem.1 (List.nodup_iff_pairwise_ne.1 h)) j i (by omega) hi hj)
  rw [List.take_length] at this
  exact this
theorem newE_no {l : List ByteArray} {s : ByteArray} (h : s ∉ l) (e : Int) : newE l s e = e := by
  unfold newE
  rw [if_neg]
  intro hc
  exact h ((Lib.containsS_iff l s).1 hc)
theorem fitE_no {n m : Int} (h : n ≤ m) : fitE n m 0 = 0 := by
  unfold fitE or0
  rw [if_pos rfl, if_neg (by omega)]
theorem placeE_in {l : List ByteArray} {s : ByteArray} (h : s ∈ l) : placeE l 0 s = 0 := by
  unfold placeE or0
  rw [if_pos rfl, if_neg]
  have := (Lib.idxOfS_nonneg_iff l s).2 h
  unfold idxS
  omega
theorem placesE_in {l : List ByteArray} : ∀ {ss : List ByteArray}, (∀ s ∈ ss, s ∈ l) → placesE l 0 ss = 0
  | [], _ => rfl
  | s :: ss, h => by
    unfold placesE
    rw [List.foldl_cons, placeE_in (h s (by simp))]
    exact placesE_in (fun x hx => h x (List.mem_cons_of_mem _ hx))
theorem read_sec {L : Lay} {s : ByteArray} (h : nmB s = true) (hn : s ∉ L.secs) (hl : L.secs.length < 10) : readT L [secW, s] = ({ L with secs := L.secs ++ [s] }, 0) := by
  have e : Rd.take ⟨[secW, s], 0⟩ = (⟨secW, [s], [], [], []⟩, ⟨[], 0⟩) := by
    unfold Rd.take
    dsimp only
    have e0 : Rd.next ⟨[secW, s], 0⟩ = (secW, ⟨[s], 0⟩) := rfl
    rw [e0]
    dsimp only
    rw [name_at h, if_pos rfl]
    rfl
  unfold readT
  rw [if_neg (by simp), e, if_neg (by simp)]
  unfold putsM
  dsimp only
  rw [if_pos rfl]
  have e1 : nth [s] 0 = s := rfl
  rw [e1, newE_no hn, fitE_no (by omega), if_pos rfl]
theorem read_sig {L : Lay} {s : ByteArray} (h : nmB s = true) (hn : s ∉ L.sigs) (hl : L.sigs.length < 6) : readT L [sigW, s] = ({ L with sigs := L.sigs ++ [s] }, 0) := by
  have e : Rd.take ⟨[sigW, s], 0⟩ = (⟨sigW, [s], [], [], []⟩, ⟨[], 0⟩) := by
    unfold Rd.take
    dsimp only
    have e0 : Rd.next ⟨[sigW, s], 0⟩ = (sigW, ⟨[s], 0⟩) := rfl
    rw [e0]
    dsimp only
    rw [name_at h, if_neg (by decide), if_pos rfl]
    rfl
  unfold readT
  rw [if_neg (by simp), e, if_neg (by simp)]
  unfold putsM
  dsimp only
  rw [if_neg (by decide), if_pos rfl]
  have e1 : nth [s] 0 = s := rfl
  rw [e1, newE_no hn, fitE_no (by omega), if_pos rfl]
theorem read_pt {L : Lay} {s t : ByteArray} (h : nmB s = true) (ht : nmB t = true) (hn : s ∉ ptNames L) (hl : L.pts.length < 5) (hm : t ∈ L.secs) : readT L [ptW, s, inW, t] = ({ L with pts := L.pts ++ [⟨s, idxS L.secs t⟩] }, 0) := by
  have e : Rd.take ⟨[ptW, s, inW, t], 0⟩ = (⟨ptW, [s, t], [], [], []⟩, ⟨[], 0⟩) := by
    unfold Rd.take
    dsimp only
    have e0 : Rd.next ⟨[ptW, s, inW, t], 0⟩ = (ptW, ⟨[s, inW, t], 0⟩) := rfl
    rw [e0]
    dsimp only
    rw [name_at h, if_neg (by decide), if_neg (by decide), if_pos rfl]
    dsimp only
    rw [word_at_, name_at ht]
    rfl
  unfold readT
  rw [if_neg (by simp), e, if_neg (by simp)]
  unfold putsM
  dsimp only
  rw [if_neg (by decide), if_neg (by decide), if_pos rfl]
  have e1 : nth [s, t] 0 = s := rfl
  have e2 : nth [s, t] 1 = t := rfl
  rw [e1, e2, newE_no hn, placeE_in hm, fitE_no (by omega), if_pos rfl]
end Go.Proofs.YtmdnmiiggkfnfaaDoor

/- A route's line, read; the lines of a layout, one behind the other. -/
set_option linter.unusedVariables false
set_option linter.unusedSimpArgs false
namespace Go.Proofs.YtmdnmiiggkfnfaaDoor
open Go.RowKit

theorem idx_at {l : List ByteArray} (h : l.Nodup) {i : Int} (h0 : 0 ≤ i) (h1 : i < l.length) : idxS l (l.getD i.toNat ByteArray.empty) = i ∧ l.getD i.toNat ByteArray.empty ∈ l := by
  have hi : i.toNat < l.length := by omega
  have e : l.getD i.toNat ByteArray.empty = l[i.toNat] := by rw [List.getD_eq_getElem?_getD, List.getElem?_eq_getElem hi]; rfl
  rw [e]
  refine ⟨?_, List.getElem_mem hi⟩
  rw [idx_nodup h (List.getElem?_eq_getElem hi)]
  omega
theorem pt_names {L : Lay} {i : Int} (h0 : 0 ≤ i) (h1 : i < L.pts.length) : ptNm L i = (ptNames L).getD i.toNat ByteArray.empty := by
  have hi : i.toNat < L.pts.length := by omega
  unfold ptNm ptNames
  rw [List.getD_eq_getElem?_getD, List.getD_eq_getElem?_getD, List.getElem?_map, List.getElem?_eq_getElem hi]
  rfl
def needP (L : Lay) (n : Need) : ByteArray × Bool := (ptNm L n.p, n.r)
def rtToks (L : Lay) (x : Rte) : List ByteArray :=
  rtW :: x.name :: fromW :: sigNm L x.frm :: toW :: sigNm L x.dest :: viaW :: (x.path.map (secNm L) ++ (wantsW setT (x.points.map (needP L)) ++ wantsW flankT (x.flank.map (needP L))))
/-- All names are names, none twice. -/
structure NmAll (L : Lay) : Prop where
  secs : (∀ x ∈ L.secs, nmB x = true) ∧ L.secs.Nodup
  sigs : (∀ x ∈ L.sigs, nmB x = true) ∧ L.sigs.Nodup
  pts : (∀ x ∈ ptNames L, nmB x = true) ∧ (ptNames L).Nodup
/-- A route that may be, beside names. -/
structure RtIn (L : Lay) (x : Rte) : Prop where
  nm : nmB x.name = true
  frm : 0 ≤ x.frm ∧ x.frm < L.sigs.length
  dest : 0 ≤ x.dest ∧ x.dest < L.sigs.length
  path : ∀ i ∈ x.path, 0 ≤ i ∧ i < L.secs.length
  len : 1 ≤ x.path.length ∧ x.path.length ≤ 5
  points : InPts L x.points
  flank : InPts L x.flank
  pl : x.points.length ≤ 5
  fl : x.flank.length ≤ 5
theorem needs_back {L : Lay} (h : NmAll L) {ns : List Need} (hn : InPts L ns) : needsP (ptNames L) ((ns.map (needP L)).map fun n => ⟨n.1, n.2⟩) = ns ∧ (∀ s ∈ (((ns.map (needP L)).map fun n => (⟨n.1, n.2⟩ : Wnt)).map Wnt.name), s ∈ ptNames L) ∧ ∀ n ∈ ns.map (needP L), nmB n.1 = true := by
  have key : ∀ n ∈ ns, idxS (ptNames L) (ptNm L n.p) = n.p ∧ ptNm L n.p ∈ ptNames L := fun n hm => by
    obtain ⟨h0, h1⟩ := hn n hm
    rw [pt_names h0 h1]
    exact idx_at h.pts.2 h0 (by unfold ptNames; rw [List.length_map]; exact h1)
  refine ⟨?_, ?_, ?_⟩
  · unfold needsP
    rw [List.map_map, List.map_map]
    conv => rhs; rw [← List.map_id ns]
    refine List.map_congr_left (fun n hm => ?_)
    show (⟨idxS (ptNames L) (ptNm L n.p), n.r⟩ : Need) = n
    rw [(key n hm).1]
  · intro s hs
    simp only [List.mem_map] at hs
    obtain ⟨a, ⟨b, ⟨c, hc, rfl⟩, rfl⟩, rfl⟩ := hs
    exact (key c hc).2
  · intro n hm
    obtain ⟨c, hc, rfl⟩ := List.mem_map.1 hm
    exact h.pts.1 _ (key c hc).2
theorem read_rt {L : Lay} {x : Rte} (h : NmAll L) (hx : RtIn L x) (hn : x.name ∉ rtNames L) (hl : L.rtes.length < 6) : readT L (rtToks L x) = ({ L with rtes := L.rtes ++ [x] }, 0) := by
  obtain ⟨p1, p2, p3⟩ := needs_back h hx.points
  obtain ⟨f1, f2, f3⟩ := needs_back h hx.flank
  have kp : ∀ i ∈ x.path, idxS L.secs (secNm L i) = i ∧ secNm L i ∈ L.secs := fun i hi => idx_at h.secs.2 (hx.path i hi).1 (hx.path i hi).2
  have kf : idxS L.sigs (sigNm L x.frm) = x.frm ∧ sigNm L x.frm ∈ L.sigs := idx_at h.sigs.2 hx.frm.1 hx.frm.2
  have kd : idxS L.sigs (sigNm L x.dest) = x.dest ∧ sigNm L x.dest ∈ L.sigs := idx_at h.sigs.2 hx.dest.1 hx.dest.2
  obtain ⟨xn, xf, xt, xp, xq, xl⟩ := x
  have hlen := hx.len
  have hpl := hx.pl
  have hfl := hx.fl
  have hnm := hx.nm
  simp only at *
  cases xp with
  | nil => simp at hlen
  | cons v vs =>
    have hv := kp v (by simp)
    have e : Rd.take ⟨rtToks L ⟨xn, xf, xt, v :: vs, xq, xl⟩, 0⟩ = _ := take_route (nm := xn) (f := sigNm L xf) (t := sigNm L xt) (v := secNm L v) (vs := vs.map (secNm L)) (ss := xq.map (needP L)) (fs := xl.map (needP L)) hnm (h.sigs.1 _ kf.2) (h.sigs.1 _ kd.2) (h.secs.1 _ hv.2) (fun y hy => by
      obtain ⟨i, hi, rfl⟩ := List.mem_map.1 hy
      exact h.secs.1 _ (kp i (List.mem_cons_of_mem _ hi)).2) p3 f3
    unfold readT
    rw [if_neg (by unfold rtToks; simp), e, if_neg (by simp)]
    generalize hW : (xq.map (needP L)).map (fun n => (⟨n.1, n.2⟩ : Wnt)) = W at *
    generalize hF : (xl.map (needP L)).map (fun n => (⟨n.1, n.2⟩ : Wnt)) = F at *
    have lw : W.length = xq.length := by rw [← hW]; simp
    have lf : F.length = xl.length := by rw [← hF]; simp
    unfold putsM
    dsimp only
    rw [if_neg (by decide), if_neg (by decide), if_neg (by decide)]
    have hE : routeE L ⟨rtW, [xn, sigNm L xf, sigNm L xt], secNm L v :: vs.map (secNm L), W, F⟩ = 0 := by
      unfold routeE
      dsimp only
      have n0 : nth [xn, sigNm L xf, sigNm L xt] 0 = xn := rfl
      have n1 : nth [xn, sigNm L xf, sigNm L xt] 1 = sigNm L xf := rfl
      have n2 : nth [xn, sigNm L xf, sigNm L xt] 2 = sigNm L xt := rfl
      rw [n0, n1, n2, newE_no hn, placeE_in kf.2, placeE_in kd.2, placesE_in, placesE_in p2, placesE_in f2]
      intro s hs
      rw [← List.map_cons] at hs
      obtain ⟨i, hi, rfl⟩ := List.mem_map.1 hs
      exact (kp i hi).2
    have hG : routeG L ⟨rtW, [xn, sigNm L xf, sigNm L xt], secNm L v :: vs.map (secNm L), W, F⟩ = 0 := by
      unfold routeG routeF
      rw [hE]
      dsimp only
      simp only [List.length_cons] at hlen
      rw [fitE_no (by omega), fitE_no (by simp only [List.length_cons, List.length_map]; omega), fitE_no (by rw [lw, lf]; omega)]
    rw [hG, if_pos rfl]
    have hV : routeV L ⟨rtW, [xn, sigNm L xf, sigNm L xt], secNm L v :: vs.map (secNm L), W, F⟩ = ⟨xn, xf, xt, v :: vs, xq, xl⟩ := by
      unfold routeV
      dsimp only
      have n0 : nth [xn, sigNm L xf, sigNm L xt] 0 = xn := rfl
      have n1 : nth [xn, sigNm L xf, sigNm L xt] 1 = sigNm L xf := rfl
      have n2 : nth [xn, sigNm L xf, sigNm L xt] 2 = sigNm L xt := rfl
      rw [n0, n1, n2, kf.1, kd.1, p1, f1]
      congr 1
      rw [← List.map_cons, List.map_map]
      conv => rhs; rw [← List.map_id (v :: vs)]
      exact List.map_congr_left (fun i hi => (kp i hi).1)
    rw [hV]
end Go.Proofs.YtmdnmiiggkfnfaaDoor

/- The lines of a layout, read one behind the other. -/
set_option linter.unusedVariables false
set_option linter.unusedSimpArgs false
namespace Go.Proofs.YtmdnmiiggkfnfaaDoor
open Go.RowKit

/-- A layout that may be. -/
structure PlanIn (L : Lay) : Prop where
  nm : NmAll L
  rn : (∀ x ∈ rtNames L, nmB x = true) ∧ (rtNames L).Nodup
  sz : L.secs.length ≤ 10 ∧ L.sigs.length ≤ 6 ∧ L.pts.length ≤ 5 ∧ L.rtes.length ≤ 6
  pts : ∀ x ∈ L.pts, 0 ≤ x.sec ∧ x.sec < L.secs.length
  rts : ∀ x ∈ L.rtes, RtIn L x
theorem plan_in {L : Lay} (h : isM L = true) : PlanIn L := by
  have ho := is_ok h
  obtain ⟨s1, s2, s3, s4, s5, s6⟩ := ho.sz
  obtain ⟨n1, n2, n3, n4⟩ := ho.names
  refine ⟨⟨names_ok n1, names_ok n2, names_ok n3⟩, names_ok n4, ⟨s2, s4, s5, s6⟩, ho.pts, fun x hx => ?_⟩
  obtain ⟨hp, hq, hf, he⟩ := route_ok (ho.rts x hx)
  unfold endsOk at he
  simp only [Bool.and_eq_true, decide_eq_true_eq, Bool.not_eq_true', decide_eq_false_iff_not] at he
  obtain ⟨⟨⟨⟨⟨⟨e1, e2⟩, e3⟩, e4⟩, e5⟩, e6⟩, e7⟩ := he
  have l1 := hq.few
  have l2 := hf.few
  exact ⟨(names_ok n4).1 _ (List.mem_map.2 ⟨x, hx, rfl⟩), ⟨e1, e2⟩, ⟨e3, e4⟩, hp, ⟨e6, e7⟩, hq.at_, hf.at_, by omega, by omega⟩
def ptToks (L : Lay) (p : Pt) : List ByteArray := [ptW, p.name, inW, secNm L p.sec]
def toks (L : Lay) : List (List ByteArray) := L.secs.map (fun s => [secW, s]) ++ (L.sigs.map (fun s => [sigW, s]) ++ (L.pts.map (ptToks L) ++ L.rtes.map (rtToks L)))
/-- What the first k lines make. -/
def preL (L : Lay) (k : Nat) : Lay := { secs := L.secs.take k, sigs := L.sigs.take (k - L.secs.length), pts := L.pts.take (k - L.secs.length - L.sigs.length), rtes := L.rtes.take (k - L.secs.length - L.sigs.length - L.pts.length) }
theorem nodup_take {l : List ByteArray} (h : l.Nodup) {k : Nat} {x : ByteArray} (hx : l[k]? = some x) : x ∉ l.take k := by
  intro hm
  obtain ⟨j, hj, e⟩ := List.mem_iff_getElem.1 hm
  rw [List.length_take] at hj
  rw [List.getElem_take] at e
  obtain ⟨hk, e2⟩ := List.getElem?_eq_some_iff.1 hx
  exact (List.pairwise_iff_getElem.1 (List.nodup_iff_pairwise_ne.1 h)) j k (by omega) hk (by omega) (by rw [e, e2])
theorem take_all {α : Type} (l : List α) {k : Nat} (h : l.length ≤ k) : l.take k = l := List.take_of_length_le h
theorem read_step {L : Lay} (h : PlanIn L) {k : Nat} {t : List ByteArray} (ht : (toks L)[k]? = some t) : readT (preL L k) t = (preL L (k + 1), 0) := by
  obtain ⟨s1, s2, s3, s4⟩ := h.sz
  unfold toks at ht
  rcases Nat.lt_or_ge k L.secs.length with h1 | h1
  · rw [List.getElem?_append_left (by rw [List.length_map]; exact h1), List.getElem?_map, List.getElem?_eq_getElem h1] at ht
    have hx := List.getElem?_eq_getElem h1
    generalize L.secs[k] = s at *
    injection ht with ht
    subst ht
    rw [read_sec (h.nm.secs.1 s (List.mem_of_getElem? hx)) (nodup_take h.nm.secs.2 hx) (by show (L.secs.take k).length < 10; rw [List.length_take]; omega)]
    unfold preL
    dsimp only
    have e1 : k - L.secs.length = 0 := by omega
    have e2 : k + 1 - L.secs.length = 0 := by omega
    rw [← take_more hx, e1, e2]
  rw [List.getElem?_append_right (by rw [List.length_map]; exact h1), List.length_map] at ht
  have T1 : L.secs.take k = L.secs := take_all _ h1
  have T1' : L.secs.take (k + 1) = L.secs := take_all _ (by omega)
  rcases Nat.lt_or_ge (k - L.secs.length) L.sigs.length with h2 | h2
  · rw [List.getElem?_append_left (by rw [List.length_map]; exact h2), List.getElem?_map, List.getElem?_eq_getElem h2] at ht
    have hx := List.getElem?_eq_getElem h2
    generalize L.sigs[k - L.secs.length] = s at *
    injection ht with ht
    subst ht
    rw [read_sig (h.nm.sigs.1 s (List.mem_of_getElem? hx)) (nodup_take h.nm.sigs.2 hx) (by show (L.sigs.take _).length < 6; rw [List.length_take]; omega)]
    unfold preL
    dsimp only
    have e1 : k - L.secs.length - L.sigs.length = 0 := by omega
    have e2 : k + 1 - L.secs.length - L.sigs.length = 0 := by omega
    have e3 : k + 1 - L.secs.length = k - L.secs.length + 1 := by omega
    rw [← take_more hx, e1, e2, e3, T1, T1']
  rw [List.getElem?_append_right (by rw [List.length_map]; exact h2), List.length_map] at ht
  have T2 : L.sigs.take (k - L.secs.length) = L.sigs := take_all _ h2
  have T2' : L.sigs.take (k + 1 - L.secs.length) = L.sigs := take_all _ (by omega)
  rcases Nat.lt_or_ge (k - L.secs.length - L.sigs.length) L.pts.length with h3 | h3
  · rw [List.getElem?_append_left (by rw [List.length_map]; exact h3), List.getElem?_map, List.getElem?_eq_getElem h3] at ht
    have hx := List.getElem?_eq_getElem h3
    generalize L.pts[k - L.secs.length - L.sigs.length] = s at *
    injection ht with ht
    subst ht
    have hm := List.mem_of_getElem? hx
    obtain ⟨p0, p1⟩ := h.pts s hm
    have ki : idxS L.secs (secNm L s.sec) = s.sec ∧ secNm L s.sec ∈ L.secs := idx_at h.nm.secs.2 p0 p1
    have hxn : (ptNames L)[k - L.secs.length - L.sigs.length]? = some s.name := by unfold ptNames; rw [List.getElem?_map, hx]; rfl
    have hP : preL L k = { secs := L.secs, sigs := L.sigs, pts := L.pts.take (k - L.secs.length - L.sigs.length), rtes := L.rtes.take (k - L.secs.length - L.sigs.length - L.pts.length) } := by
      unfold preL
      rw [T1, T2]
    rw [hP]
    unfold ptToks
    have key := read_pt (L := { secs := L.secs, sigs := L.sigs, pts := L.pts.take (k - L.secs.length - L.sigs.length), rtes := L.rtes.take (k - L.secs.length - L.sigs.length - L.pts.length) }) (h.nm.pts.1 s.name (List.mem_map.2 ⟨s, hm, rfl⟩)) (h.nm.secs.1 _ ki.2) (by
      show s.name ∉ (L.pts.take _).map Pt.name
      rw [List.map_take]
      exact nodup_take h.nm.pts.2 hxn) (by show (L.pts.take _).length < 5; rw [List.length_take]; omega) ki.2
    rw [key]
    unfold preL
    dsimp only
    have e1 : k - L.secs.length - L.sigs.length - L.pts.length = 0 := by omega
    have e2 : k + 1 - L.secs.length - L.sigs.length - L.pts.length = 0 := by omega
    have e3 : k + 1 - L.secs.length - L.sigs.length = k - L.secs.length - L.sigs.length + 1 := by omega
    rw [ki.1, ← take_more hx, e1, e2, e3, T1', T2']
  rw [List.getElem?_append_right (by rw [List.length_map]; exact h3), List.length_map, List.getElem?_map] at ht
  have T3 : L.pts.take (k - L.secs.length - L.sigs.length) = L.pts := take_all _ h3
  have T3' : L.pts.take (k + 1 - L.secs.length - L.sigs.length) = L.pts := take_all _ (by omega)
  have e3 : k + 1 - L.secs.length - L.sigs.length - L.pts.length = k - L.secs.length - L.sigs.length - L.pts.length + 1 := by omega
  unfold preL
  rw [T1, T1', T2, T2', T3, T3', e3]
  generalize k - L.secs.length - L.sigs.length - L.pts.length = j at *
  cases hx : L.rtes[j]? with
  | none => rw [hx] at ht; cases ht
  | some x =>
    rw [hx] at ht
    injection ht with ht
    subst ht
    have hm := List.mem_of_getElem? hx
    have hxn : (rtNames L)[j]? = some x.name := by unfold rtNames; rw [List.getElem?_map, hx]; rfl
    have hj := (List.getElem?_eq_some_iff.1 hx).1
    have hr := h.rts x hm
    have := read_rt (L := { L with rtes := L.rtes.take j }) (x := x) ⟨h.nm.secs, h.nm.sigs, h.nm.pts⟩ ⟨hr.nm, hr.frm, hr.dest, hr.path, hr.len, hr.points, hr.flank, hr.pl, hr.fl⟩ (by
      show x.name ∉ (L.rtes.take j).map Rte.name
      rw [List.map_take]
      exact nodup_take h.rn.2 hxn) (by show (L.rtes.take j).length < 6; rw [List.length_take]; omega)
    rw [take_more hx]
    exact this
theorem parse_steps : ∀ (ts : List (List Nat)) (Ls : Nat → Lay) (n : Nat), (∀ k l, ts[k]? = some l → readM (Ls (n + k)) l = (Ls (n + k + 1), 0)) → n + ts.length ≤ 60 → parseGo (Ls n) n ts = (Ls (n + ts.length), n + ts.length, 0)
  | [], Ls, n, _, _ => rfl
  | l :: ts, Ls, n, h, hn => by
    rw [List.length_cons] at hn ⊢
    have h0 := h 0 l rfl
    rw [Nat.add_zero] at h0
    rw [parseGo, if_neg (by omega), h0, if_neg (by simp)]
    have := parse_steps ts Ls (n + 1) (fun k m hm => by
      have := h (k + 1) m hm
      rw [show n + (k + 1) = n + 1 + k by omega] at this
      exact this) (by omega)
    rw [show n + (ts.length + 1) = n + 1 + ts.length by omega]
    exact this
/-- A word that a line may hold. -/
structure GoodT (t : ByteArray) : Prop where
  tok : Tok t
  nl : 10 ∉ byt t
  hash : 35 ∉ byt t
theorem good_name {t : ByteArray} (h : nameL (byt t) = true) : GoodT t := ⟨Tok.name h, name_no h (by decide) (by decide) (by decide), name_no h (by decide) (by decide) (by decide)⟩
theorem good_nm {t : ByteArray} (h : nmB t = true) : GoodT t := good_name (nm_name h).1
theorem good_need {t : ByteArray} (h : nmB t = true) (r : Bool) : GoodT (t ++ (if r then ⟨#[45]⟩ else ⟨#[43]⟩)) := by
  have hn := (nm_name h).1
  refine ⟨tok_need hn r, ?_, ?_⟩
  all_goals
    rw [byt_app3]
    intro hm
    rcases List.mem_append.1 hm with h' | h'
    · exact name_no hn (by decide) (by decide) (by decide) h'
    · cases r <;> revert h' <;> decide
theorem good_line {sep tr : List Nat} (c : Nat) (hs : c ∉ sep) (ht : c ∉ tr) : ∀ (ts : List ByteArray), (∀ t ∈ ts, c ∉ byt t) → c ∉ lineB sep tr ts
  | [], _ => ht
  | [t], h => by
    intro hm
    rcases List.mem_append.1 hm with h' | h'
    · exact h t (by simp) h'
    · exact ht h'
  | t :: u :: r, h => by
    intro hm
    rcases List.mem_append.1 hm with h' | h'
    · exact h t (by simp) h'
    · rcases List.mem_append.1 h' with h' | h'
      · exact hs h'
      · exact good_line c hs ht (u :: r) (fun x hx => h x (List.mem_cons_of_mem _ hx)) h'
theorem while_all {l : List Nat} (h : 35 ∉ l) (t : List Nat) : (l ++ t).takeWhile (fun c => c != 35) = l ++ t.takeWhile (fun c => c != 35) := by
  induction l with
  | nil => rfl
  | cons c r ih =>
    have hc : c ≠ 35 := fun e => h (by rw [e]; simp)
    have : (c != 35) = true := by simpa using hc
    rw [List.cons_append, List.takeWhile_cons, this]
    simp [ih (fun hm => h (List.mem_cons_of_mem _ hm))]
theorem blank_no {l : List Nat} (h : blankB l) {c : Nat} (h1 : c ≠ 32) (h2 : c ≠ 9) : c ∉ l := fun hm => by rcases h c hm with e | e <;> contradiction
/-- A line of words, with whatever behind a '#'. -/
theorem read_line {sep tr rem : List Nat} (hs : blankB sep) (hs0 : sep ≠ []) (ht : blankB tr) (hr : rem = [] ∨ ∃ u, rem = 35 :: u) {ts : List ByteArray} (h : ∀ t ∈ ts, GoodT t) (L : Lay) : readM L (lineB sep tr ts ++ rem) = readT L ts := by
  have hb : bare (lineB sep tr ts ++ rem) = lineB sep tr ts := by
    unfold bare
    rw [while_all (good_line 35 (blank_no hs (by decide) (by decide)) (blank_no ht (by decide) (by decide)) ts (fun t hm => (h t hm).hash))]
    rcases hr with rfl | ⟨u, rfl⟩
    · simp
    · rw [List.takeWhile_cons]
      simp
  obtain ⟨w1, w2⟩ := words_line hs hs0 ht ts (fun t hm => (h t hm).tok)
  unfold readM
  rw [hb, w1, if_neg (by decide), w2]
end Go.Proofs.YtmdnmiiggkfnfaaDoor

/- What is printed is a layout's lines. -/
set_option linter.unusedVariables false
set_option linter.unusedSimpArgs false
namespace Go.Proofs.YtmdnmiiggkfnfaaDoor
open Go.RowKit

def tailB (ts : List ByteArray) : List Nat := (ts.map fun t => 32 :: byt t).flatten
theorem tailB_app (a b : List ByteArray) : tailB (a ++ b) = tailB a ++ tailB b := by simp [tailB]
theorem tailB_cons (t : ByteArray) (b : List ByteArray) : tailB (t :: b) = 32 :: (byt t ++ tailB b) := by simp [tailB]
theorem line_tail (t : ByteArray) (ts : List ByteArray) : lineB [32] [] (t :: ts) = byt t ++ tailB ts := by
  induction ts generalizing t with
  | nil => rfl
  | cons u r ih =>
    show byt t ++ ([32] ++ lineB [32] [] (u :: r)) = _
    rw [ih u, tailB_cons]
    rfl
theorem byt_fold {α : Type} {f : ByteArray → α → ByteArray} {g : α → List Nat} (h : ∀ s x, byt (f s x) = byt s ++ g x) : ∀ (l : List α) (s : ByteArray), byt (l.foldl f s) = byt s ++ (l.map g).flatten
  | [], s => by simp
  | x :: l, s => by
    rw [List.foldl_cons, byt_fold h l, h, List.map_cons, List.flatten_cons, List.append_assoc]
theorem via_fold (L : Lay) (path : List Int) (s : ByteArray) : byt (path.foldl (viaS L) s) = byt s ++ tailB (path.map (secNm L)) := by
  rw [byt_fold (g := fun i => 32 :: byt (secNm L i)) (fun s x => by unfold viaS; rw [byt_app3, byt_app3, List.append_assoc]; rfl)]
  unfold tailB
  rw [List.map_map]
  rfl
theorem wants_fold (L : Lay) (ns : List Need) : byt (wantsR L ns) = tailB ((ns.map (needP L)).map needW) := by
  unfold wantsR
  rw [byt_fold (g := fun n => 32 :: byt (needW (needP L n))) (fun s x => by
    rw [byt_app3, byt_app3, byt_app3, List.append_assoc, List.append_assoc]
    unfold needW
    rw [byt_app3]
    rfl)]
  unfold tailB
  rw [List.map_map, List.map_map]
  rfl
theorem wn_byt (L : Lay) (word kw s : ByteArray) (hw : byt word = 32 :: byt kw) (ns : List Need) : byt (wn L word s ns) = byt s ++ tailB (wantsW kw (ns.map (needP L))) := by
  unfold wn wantsW
  cases ns with
  | nil => simp [tailB]
  | cons n ns =>
    rw [if_neg (by simp), if_neg (by simp), byt_app3, byt_app3, hw, wants_fold, tailB_cons, List.append_assoc]
    rfl
theorem rt_line (L : Lay) (s : ByteArray) (x : Rte) : byt (rtL L s x) = byt s ++ (lineB [32] [] (rtToks L x) ++ [10]) := by
  unfold rtL
  rw [byt_app3, wn_byt L flkB flankT _ (by decide), wn_byt L setB setT _ (by decide), via_fold]
  unfold rt1 rtToks
  simp only [byt_app3]
  rw [line_tail]
  simp only [tailB_cons, tailB_app]
  have k1 : byt (⟨#[114, 111, 117, 116, 101, 32]⟩ : ByteArray) = byt rtW ++ [32] := by decide
  have k2 : byt (⟨#[32, 102, 114, 111, 109, 32]⟩ : ByteArray) = 32 :: (byt fromW ++ [32]) := by decide
  have k3 : byt (⟨#[32, 116, 111, 32]⟩ : ByteArray) = 32 :: (byt toW ++ [32]) := by decide
  have k4 : byt (⟨#[32, 118, 105, 97]⟩ : ByteArray) = 32 :: byt viaW := by decide
  have k5 : byt (⟨#[10]⟩ : ByteArray) = [10] := by decide
  rw [k1, k2, k3, k4, k5]
  simp only [List.append_assoc, List.cons_append, List.nil_append]
theorem sec_line (s x : ByteArray) : byt (secL s x) = byt s ++ (lineB [32] [] [secW, x] ++ [10]) := by
  unfold secL
  simp only [byt_app3]
  rw [line_tail]
  have k1 : byt (⟨#[115, 101, 99, 116, 105, 111, 110, 32]⟩ : ByteArray) = byt secW ++ [32] := by decide
  have k5 : byt (⟨#[10]⟩ : ByteArray) = [10] := by decide
  rw [k1, k5]
  simp [tailB]
theorem sig_line (s x : ByteArray) : byt (sigL s x) = byt s ++ (lineB [32] [] [sigW, x] ++ [10]) := by
  unfold sigL
  simp only [byt_app3]
  rw [line_tail]
  have k1 : byt (⟨#[115, 105, 103, 110, 97, 108, 32]⟩ : ByteArray) = byt sigW ++ [32] := by decide
  have k5 : byt (⟨#[10]⟩ : ByteArray) = [10] := by decide
  rw [k1, k5]
  simp [tailB]
theorem pt_line (L : Lay) (s : ByteArray) (x : Pt) : byt (ptL L s x) = byt s ++ (lineB [32] [] (ptToks L x) ++ [10]) := by
  unfold ptL ptToks
  simp only [byt_app3]
  rw [line_tail]
  have k1 : byt (⟨#[112, 111, 105, 110, 116, 32]⟩ : ByteArray) = byt ptW ++ [32] := by decide
  have k2 : byt (⟨#[32, 105, 110, 32]⟩ : ByteArray) = 32 :: (byt inW ++ [32]) := by decide
  have k5 : byt (⟨#[10]⟩ : ByteArray) = [10] := by decide
  rw [k1, k2, k5]
  simp [tailB]
def linesR (L : Lay) : List (List Nat) := (toks L).map (lineB [32] [])
theorem printR_lines (L : Lay) : byt (printR L) = joinNl (linesR L) := by
  unfold printR px3 px2 px1
  rw [byt_fold (rt_line L), byt_fold (pt_line L), byt_fold sig_line, byt_fold sec_line]
  unfold joinNl linesR toks
  simp only [List.map_append, List.map_map, List.flatten_append]
  rw [show byt (⟨#[]⟩ : ByteArray) = [] by decide]
  simp only [List.nil_append, List.append_assoc]
  rfl
theorem kw_name {t : ByteArray} (h : t ∈ [secW, sigW, ptW, rtW, inW, fromW, toW, viaW, setT, flankT]) : GoodT t := by
  refine good_name ?_
  simp only [List.mem_cons, List.not_mem_nil, or_false] at h
  rcases h with rfl | rfl | rfl | rfl | rfl | rfl | rfl | rfl | rfl | rfl <;> decide +kernel
theorem good_wants {L : Lay} (h : NmAll L) {ns : List Need} (hn : InPts L ns) {kw : ByteArray} (hk : GoodT kw) : ∀ t ∈ wantsW kw (ns.map (needP L)), GoodT t := by
  intro t ht
  unfold wantsW at ht
  split at ht
  · cases ht
  · rcases List.mem_cons.1 ht with rfl | ht
    · exact hk
    · obtain ⟨n, hm, rfl⟩ := List.mem_map.1 ht
      exact good_need ((needs_back h hn).2.2 n hm) n.2
theorem toks_good {L : Lay} (h : PlanIn L) : ∀ ts ∈ toks L, ∀ t ∈ ts, GoodT t := by
  intro ts hts t ht
  unfold toks at hts
  rcases List.mem_append.1 hts with hts | hts
  · obtain ⟨s, hs, rfl⟩ := List.mem_map.1 hts
    simp only [List.mem_cons, List.not_mem_nil, or_false] at ht
    rcases ht with rfl | rfl
    · exact kw_name (by simp)
    · exact good_nm (h.nm.secs.1 _ hs)
  rcases List.mem_append.1 hts with hts | hts
  · obtain ⟨s, hs, rfl⟩ := List.mem_map.1 hts
    simp only [List.mem_cons, List.not_mem_nil, or_false] at ht
    rcases ht with rfl | rfl
    · exact kw_name (by simp)
    · exact good_nm (h.nm.sigs.1 _ hs)
  rcases List.mem_append.1 hts with hts | hts
  · obtain ⟨s, hs, rfl⟩ := List.mem_map.1 hts
    unfold ptToks at ht
    simp only [List.mem_cons, List.not_mem_nil, or_false] at ht
    rcases ht with rfl | rfl | rfl | rfl
    · exact kw_name (by simp)
    · exact good_nm (h.nm.pts.1 _ (List.mem_map.2 ⟨s, hs, rfl⟩))
    · exact kw_name (by simp)
    · exact good_nm (h.nm.secs.1 _ (idx_at h.nm.secs.2 (h.pts s hs).1 (h.pts s hs).2).2)
  · obtain ⟨x, hx, rfl⟩ := List.mem_map.1 hts
    have hr := h.rts x hx
    unfold rtToks at ht
    simp only [List.mem_cons, List.mem_append] at ht
    rcases ht with rfl | rfl | rfl | rfl | rfl | rfl | rfl | ht | ht | ht
    · exact kw_name (by simp)
    · exact good_nm hr.nm
    · exact kw_name (by simp)
    · exact good_nm (h.nm.sigs.1 _ (idx_at h.nm.sigs.2 hr.frm.1 hr.frm.2).2)
    · exact kw_name (by simp)
    · exact good_nm (h.nm.sigs.1 _ (idx_at h.nm.sigs.2 hr.dest.1 hr.dest.2).2)
    · exact kw_name (by simp)
    · obtain ⟨i, hi, rfl⟩ := List.mem_map.1 ht
      exact good_nm (h.nm.secs.1 _ (idx_at h.nm.secs.2 (hr.path i hi).1 (hr.path i hi).2).2)
    · exact good_wants h.nm hr.points (kw_name (by simp)) t ht
    · exact good_wants h.nm hr.flank (kw_name (by simp)) t ht
theorem toks_len {L : Lay} : (toks L).length = L.secs.length + L.sigs.length + L.pts.length + L.rtes.length := by
  unfold toks
  simp only [List.length_append, List.length_map]
  omega
theorem lines_no {L : Lay} (h : PlanIn L) : ∀ l ∈ linesR L, 10 ∉ l := by
  intro l hl
  obtain ⟨ts, hts, rfl⟩ := List.mem_map.1 hl
  exact good_line 10 (by decide) (by decide) ts (fun t ht => (toks_good h ts hts t ht).nl)
/-- The first k lines, parsed. -/
theorem parse_pre {L : Lay} (h : PlanIn L) {s : ByteArray} {k : Nat} (hk : k ≤ (toks L).length) (hs : byt s = joinNl ((linesR L).take k)) : parseM s = (preL L k, k, 0) := by
  obtain ⟨s1, s2, s3, s4⟩ := h.sz
  have hl := toks_len (L := L)
  rw [parseM_lines hs (fun l hl => lines_no h l (List.mem_of_mem_take hl))]
  have h0 : preL L 0 = lay0 := by unfold preL lay0; simp
  rw [← h0]
  have hlen : ((linesR L).take k).length = k := by unfold linesR; rw [List.length_take, List.length_map]; omega
  have := parse_steps ((linesR L).take k) (preL L) 0 (fun j l hj => by
    rw [List.getElem?_take] at hj
    split at hj
    · unfold linesR at hj
      rw [List.getElem?_map] at hj
      cases ht : (toks L)[j]? with
      | none => rw [ht] at hj; cases hj
      | some ts =>
        rw [ht] at hj
        injection hj with hj
        subst hj
        have := read_line (sep := [32]) (tr := []) (rem := []) (fun c hc => .inl (by simpa using hc)) (by simp) (fun c hc => by cases hc) (.inl rfl) (toks_good h ts (List.mem_of_getElem? ht)) (preL L (0 + j))
        rw [List.append_nil] at this
        rw [this, Nat.zero_add]
        exact read_step h ht
    · cases hj) (by omega)
  rw [hlen, Nat.zero_add] at this
  exact this
theorem preL_all (L : Lay) : preL L (toks L).length = L := by
  have := toks_len (L := L)
  unfold preL
  rw [take_all _ (by omega), take_all _ (by omega), take_all _ (by omega), take_all _ (by omega)]
end Go.Proofs.YtmdnmiiggkfnfaaDoor

/- A small layout that may be: its numbers and how long its text is. -/
set_option linter.unusedVariables false
set_option linter.unusedSimpArgs false
namespace Go.Proofs.YtmdnmiiggkfnfaaDoor
open Go.RowKit

theorem foldl_bound {α : Type} {f : ByteArray → α → ByteArray} {c : Nat} : ∀ (l : List α), (∀ x ∈ l, ∀ s, (f s x).size ≤ s.size + c) → ∀ s, (l.foldl f s).size ≤ s.size + l.length * c
  | [], _, s => by simp
  | x :: l, h, s => by
    have h1 := h x (by simp) s
    have h2 := foldl_bound l (fun y hy => h y (List.mem_cons_of_mem _ hy)) (f s x)
    rw [List.foldl_cons, List.length_cons, Nat.add_mul]
    omega
theorem getD_size {l : List ByteArray} {m : Nat} (h : ∀ x ∈ l, x.size ≤ m) (i : Nat) : (l.getD i ByteArray.empty).size ≤ m := by
  rw [List.getD_eq_getElem?_getD]
  cases hx : l[i]? with
  | none => exact Nat.zero_le _
  | some x => exact h x (List.mem_of_getElem? hx)
theorem ptNm_size {L : Lay} (h : NmOk L 3000) (i : Int) : (ptNm L i).size ≤ 3000 := by
  unfold ptNm
  rw [List.getD_eq_getElem?_getD]
  cases hx : L.pts[i.toNat]? with
  | none => exact Nat.zero_le _
  | some x => exact h.pts x (List.mem_of_getElem? hx)
theorem wants_small {L : Lay} (h : NmOk L 3000) (ns : List Need) : (wantsR L ns).size ≤ ns.length * 3002 := by
  have := foldl_bound (f := fun s (x : Need) => ((s ++ ⟨#[32]⟩) ++ ptNm L x.p) ++ signB x.r) (c := 3002) ns (fun x _ s => by
    have := ptNm_size h x.p
    simp only [ByteArray.size_append, signB_size]
    have e1 : (⟨#[32]⟩ : ByteArray).size = 1 := rfl
    omega) ⟨#[]⟩
  have e0 : (⟨#[]⟩ : ByteArray).size = 0 := rfl
  unfold wantsR
  omega
theorem wn_small {L : Lay} (h : NmOk L 3000) (word s : ByteArray) (hw : word.size ≤ 10) (ns : List Need) (hn : ns.length ≤ 5) : (wn L word s ns).size ≤ s.size + 20000 := by
  have := wants_small h ns
  unfold wn
  split
  · omega
  · simp only [ByteArray.size_append]
    omega
theorem print_small {L : Lay} (h : PlanIn L) (hs : NmOk L 3000) : (printR L).size ≤ 1000000 := by
  obtain ⟨s1, s2, s3, s4⟩ := h.sz
  have e0 : (⟨#[]⟩ : ByteArray).size = 0 := rfl
  have e10 : (⟨#[10]⟩ : ByteArray).size = 1 := rfl
  have e32 : (⟨#[32]⟩ : ByteArray).size = 1 := rfl
  have k1 := foldl_bound (f := secL) (c := 3100) L.secs (fun x hx s => by
    have := hs.secs x hx
    have e : (⟨#[115, 101, 99, 116, 105, 111, 110, 32]⟩ : ByteArray).size = 8 := rfl
    simp only [secL, ByteArray.size_append]
    omega) ⟨#[]⟩
  have k2 := foldl_bound (f := sigL) (c := 3100) L.sigs (fun x hx s => by
    have := hs.sigs x hx
    have e : (⟨#[115, 105, 103, 110, 97, 108, 32]⟩ : ByteArray).size = 7 := rfl
    simp only [sigL, ByteArray.size_append]
    omega) (px1 L)
  have k3 := foldl_bound (f := ptL L) (c := 6200) L.pts (fun x hx s => by
    have := hs.pts x hx
    have h2 : (secNm L x.sec).size ≤ 3000 := getD_size hs.secs _
    have e : (⟨#[112, 111, 105, 110, 116, 32]⟩ : ByteArray).size = 6 := rfl
    have e' : (⟨#[32, 105, 110, 32]⟩ : ByteArray).size = 4 := rfl
    simp only [ptL, ByteArray.size_append]
    omega) (px2 L)
  have k4 := foldl_bound (f := rtL L) (c := 100000) L.rtes (fun x hx s => by
    have h0 := hs.rtes x hx
    have hr := h.rts x hx
    have h1 : (rt1 L s x).size ≤ s.size + 10000 := by
      have h1 : (sigNm L x.frm).size ≤ 3000 := getD_size hs.sigs _
      have h2 : (sigNm L x.dest).size ≤ 3000 := getD_size hs.sigs _
      have e1 : (⟨#[114, 111, 117, 116, 101, 32]⟩ : ByteArray).size = 6 := rfl
      have e2 : (⟨#[32, 102, 114, 111, 109, 32]⟩ : ByteArray).size = 6 := rfl
      have e3 : (⟨#[32, 116, 111, 32]⟩ : ByteArray).size = 4 := rfl
      have e4 : (⟨#[32, 118, 105, 97]⟩ : ByteArray).size = 4 := rfl
      simp only [rt1, ByteArray.size_append]
      omega
    have h2 := foldl_bound (f := viaS L) (c := 3001) x.path (fun i _ t => by
      have h1 : (secNm L i).size ≤ 3000 := getD_size hs.secs _
      simp only [viaS, ByteArray.size_append]
      omega) (rt1 L s x)
    have h3 := wn_small hs setB (x.path.foldl (viaS L) (rt1 L s x)) (by decide) x.points hr.pl
    have h4 := wn_small hs flkB (wn L setB (x.path.foldl (viaS L) (rt1 L s x)) x.points) (by decide) x.flank hr.fl
    have h5 := hr.len.2
    unfold rtL
    rw [ByteArray.size_append]
    omega) (px3 L)
  have p1 : (px1 L).size ≤ 31000 := by unfold px1; omega
  have p2 : (px2 L).size ≤ 50000 := by unfold px2; omega
  have p3 : (px3 L).size ≤ 90000 := by unfold px3; omega
  unfold printR
  omega
theorem in_nums {L : Lay} (h : PlanIn L) (hs : NmOk L 3000) : InNums L := by
  obtain ⟨s1, s2, s3, s4⟩ := h.sz
  refine ⟨h.pts, fun x hx => ⟨(h.rts x hx).frm.1, (h.rts x hx).frm.2, (h.rts x hx).dest.1, (h.rts x hx).dest.2⟩, fun x hx => (h.rts x hx).path, fun x hx => ⟨(h.rts x hx).points, ?_⟩, fun x hx => ⟨(h.rts x hx).flank, ?_⟩, ?_, hs⟩
  · have := wants_small hs x.points
    have := (h.rts x hx).pl
    omega
  · have := wants_small hs x.flank
    have := (h.rts x hx).fl
    omega
  · have := print_small h hs
    omega
end Go.Proofs.YtmdnmiiggkfnfaaDoor

/- What the program prints, line by line, is what the reference prints. -/
set_option linter.unusedVariables false
set_option linter.unusedSimpArgs false
namespace Go.Proofs.YtmdnmiiggkfnfaaDoor
open Go.RowKit

theorem byt_join (ts : List ByteArray) : byt (joinB ts) = lineB [32] [] ts := by
  unfold joinB Lib.join
  induction ts with
  | nil => rfl
  | cons t r ih =>
    cases r with
    | nil => simp [byt, lineB, List.intercalate, List.intersperse]
    | cons u r =>
      have h : ([32] : List UInt8).intercalate ((t :: u :: r).map (·.data.toList)) = t.data.toList ++ ([32] ++ ([32] : List UInt8).intercalate ((u :: r).map (·.data.toList))) := by
        simp [List.intercalate, List.intersperse]
      rw [h]
      show _ = byt t ++ ([32] ++ lineB [32] [] (u :: r))
      rw [← ih]
      simp [byt]
theorem byt_ln (ts : List ByteArray) : byt (lnB ts) = lineB [32] [] ts ++ [10] := by
  unfold lnB
  rw [byt_app3, byt_join]
  rfl
theorem sec_ln (s x : ByteArray) : secL s x = s ++ lnB [secW, x] := byt_inj (by rw [sec_line, byt_app3, byt_ln])
theorem sig_ln (s x : ByteArray) : sigL s x = s ++ lnB [sigW, x] := byt_inj (by rw [sig_line, byt_app3, byt_ln])
theorem pt_ln (L : Lay) (s : ByteArray) (x : Pt) : ptL L s x = s ++ lnB (ptToks L x) := byt_inj (by rw [pt_line, byt_app3, byt_ln])
theorem want_w (L : Lay) (word : ByteArray) (ns : List Need) : wantW L word ns = wantsW word (ns.map (needP L)) := by
  unfold wantW wantsW
  cases ns with
  | nil => rfl
  | cons n ns =>
    rw [if_neg (by simp), if_neg (by simp), List.map_map]
    rfl
def rtHd (L : Lay) (x : Rte) : List ByteArray := [rtW, x.name, fromW, sigNm L x.frm, toW, sigNm L x.dest, viaW]
theorem rt_ln (L : Lay) (s : ByteArray) (x : Rte) : rtL L s x = s ++ lnB (((rtHd L x ++ x.path.map (secNm L)) ++ wantW L setT x.points) ++ wantW L flankT x.flank) := by
  refine byt_inj ?_
  rw [rt_line, byt_app3, byt_ln, want_w, want_w]
  unfold rtHd rtToks
  simp only [List.append_assoc, List.cons_append, List.nil_append]
theorem ln_size (ts : List ByteArray) : (lnB ts).size = (joinB ts).size + 1 := by
  unfold lnB
  rw [ByteArray.size_append]
  rfl
end Go.Proofs.YtmdnmiiggkfnfaaDoor

/- Walk of PlanHeads. -/
set_option linter.unusedVariables false
set_option linter.unusedSimpArgs false
namespace Go.Proofs.YtmdnmiiggkfnfaaDoor
open Go.RowKit

def ParseH (w : World) (l1 l2 l3 l4 n : Nat) (er : Int) (e : Ending) (w' : World) : Prop :=
  ∃ A1 c1 A2 c2 A3 c3 A4 c4, e = .returned (.tuple #[.agg #[.slice A1 l1 c1, .slice A2 l2 c2, .slice A3 l3 c3, .slice A4 l4 c4], .int .i64 n, .int .i64 er]) ∧ Below w.heap.size w w'
theorem ParseH_calls (w : World) (hT : Tabs w) (s : ByteArray) (hs : s.size ≤ 1000000) (L : Lay) (n : Nat) (er : Int) (hp : parseM s = (L, n, er)) : Calls Tryd.prog 15 #[.string s] w (ParseH w L.secs.length L.pts.length L.sigs.length L.rtes.length n er) :=
  (Parse_calls w hT s hs).mono (by
    rintro e w' ⟨v1, v2, v3, v4, cs, rfl, hL, l1, l2, l3, l4, hb⟩
    rw [hp] at hL l1 l2 l3 l4 ⊢
    dsimp only at hL l1 l2 l3 l4
    obtain ⟨A1, c1, rfl⟩ := row_form hL.secs
    obtain ⟨A2, c2, rfl⟩ := row_form hL.pts
    obtain ⟨A3, c3, rfl⟩ := row_form hL.sigs
    obtain ⟨A4, c4, rfl⟩ := row_form hL.rtes
    rw [hL.rel.len]
    exact ⟨A1, c1, A2, c2, A3, c3, A4, c4, rfl, hb⟩)
/-- How many ends of lines the first i bytes hold. -/
def nlC (l : List Nat) (i : Nat) : Nat := ((l.take i).filter fun c => c == 10).length
theorem nlC_step (l : List Nat) (i : Nat) (h : i < l.length) : nlC l (i + 1) = nlC l i + (if l.getD i 0 = 10 then 1 else 0) := by
  unfold nlC
  have hx : l[i]? = some (l.getD i 0) := by rw [List.getD_eq_getElem?_getD, List.getElem?_eq_getElem h]; rfl
  rw [take_more hx, List.filter_append, List.length_append]
  congr 1
  by_cases h10 : l.getD i 0 = 10
  · rw [h10]; rfl
  · rw [if_neg h10]
    have : (l.getD i 0 == 10) = false := by simpa using h10
    simp only [List.filter_cons, List.filter_nil, this]
    rfl
theorem nlC_le (l : List Nat) (i : Nat) : nlC l i ≤ i := by
  unfold nlC
  exact Nat.le_trans (List.length_filter_le _ _) (by rw [List.length_take]; omega)
theorem nl_count : ∀ (ls : List (List Nat)), (∀ l ∈ ls, 10 ∉ l) → ((joinNl ls).filter fun c => c == 10).length = ls.length
  | [], _ => rfl
  | l :: ls, h => by
    have e : joinNl (l :: ls) = l ++ (10 :: joinNl ls) := by simp [joinNl]
    have h0 : l.filter (fun c => c == 10) = [] := List.filter_eq_nil_iff.2 (fun c hc => by
      have : c ≠ 10 := fun e => h l (by simp) (e ▸ hc)
      simpa using this)
    rw [e, List.filter_append, h0, List.nil_append, List.filter_cons_of_pos (by rfl), List.length_cons, nl_count ls (fun x hx => h x (List.mem_cons_of_mem _ hx)), List.length_cons]
/-- Where the i-th line begins. -/
def posL (ls : List (List Nat)) (i : Nat) : Nat := (joinNl (ls.take i)).length
theorem pos_at {ls : List (List Nat)} {i : Nat} {l : List Nat} (h : ls[i]? = some l) : ∃ r, joinNl ls = joinNl (ls.take i) ++ (l ++ 10 :: r) := by
  refine ⟨joinNl (ls.drop (i + 1)), ?_⟩
  have e : ls = ls.take i ++ (l :: ls.drop (i + 1)) := by
    obtain ⟨hi, he⟩ := List.getElem?_eq_some_iff.1 h
    rw [← he, List.getElem_cons_drop, List.take_append_drop]
  conv => lhs; rw [e]
  simp [joinNl]
theorem pos_byte {ls : List (List Nat)} {i j : Nat} {l : List Nat} (h : ls[i]? = some l) (hj : j < l.length) : (joinNl ls).getD (posL ls i + j) 0 = l.getD j 0 ∧ posL ls i + j < (joinNl ls).length := by
  obtain ⟨r, e⟩ := pos_at h
  unfold posL
  rw [e]
  refine ⟨?_, by simp; omega⟩
  rw [List.getD_eq_getElem?_getD, List.getElem?_append_right (by omega), List.getElem?_append_left (by omega), List.getD_eq_getElem?_getD, Nat.add_sub_cancel_left]
theorem pos_end {ls : List (List Nat)} {i : Nat} {l : List Nat} (h : ls[i]? = some l) : (joinNl ls).getD (posL ls i + l.length) 0 = 10 ∧ posL ls i + l.length < (joinNl ls).length ∧ posL ls (i + 1) = posL ls i + l.length + 1 := by
  obtain ⟨r, e⟩ := pos_at h
  refine ⟨?_, ?_, ?_⟩
  · unfold posL
    rw [e, List.getD_eq_getElem?_getD, List.getElem?_append_right (by omega), Nat.add_sub_cancel_left, List.getElem?_append_right (by omega), Nat.sub_self]
    rfl
  · unfold posL
    rw [e]
    simp
  · unfold posL
    rw [take_more h, joinNl_snoc]
    simp
    omega
theorem pos_take {s : ByteArray} {ls : List (List Nat)} (hs : byt s = joinNl ls) (k : Nat) : byt (s.extract 0 (posL ls k)) = joinNl (ls.take k) := by
  rw [byt_extract2, hs]
  unfold posL
  have e : joinNl ls = joinNl (ls.take k) ++ joinNl (ls.drop k) := by
    unfold joinNl
    rw [← List.flatten_append, ← List.map_append, List.take_append_drop]
  rw [e]
  simp
theorem mask10 (x : Int) : ∃ m : Nat, bits .and .i64 x 1023 = (m : Int) := by
  refine ⟨(x % 1024).toNat, ?_⟩
  show IntKind.i64.wrap ((BitVec.ofInt 64 x &&& BitVec.ofInt 64 1023).toNat : Int) = _
  rw [BitVec.toNat_and]
  have h1 : (BitVec.ofInt 64 1023).toNat = 1023 := by decide
  have h2 := Nat.and_two_pow_sub_one_eq_mod (BitVec.ofInt 64 x).toNat 10
  have h3 : (BitVec.ofInt 64 x).toNat = (x % 18446744073709551616).toNat := by simp [BitVec.toNat_ofInt]
  rw [h1, h2, IntKind.wrap_i64, h3]
  omega
theorem byt_idx (s : ByteArray) {k : Nat} (h : k < s.size) : (s[k]'h).toNat = (byt s).getD k 0 := by
  rw [← byt_get]
  congr 1
  show _ = s.data[k]!
  rw [getElem!_pos s.data k h]
  rfl
section
variable {L : Lay} {A1 A2 A3 A4 : Option Addr} {n1 c1 n2 c2 n3 c3 n4 c4 : Nat}
set_option maxRecDepth 20000 in
set_option maxHeartbeats 8000000 in
theorem heads_calls (w : World) (hT : Tabs w) (hL : LayV w L A1 A2 A3 A4 n1 c1 n2 c2 n3 c3 n4 c4) (hN : NmOk L 140737488351232) (m : Int) :
    Calls Tryd.prog 7 #[.agg #[.slice A1 n1 c1, .slice A2 n2 c2, .slice A3 n3 c3, .slice A4 n4 c4], .int .i64 m] w fun e w' => e = .returned (.bool true) ∧ Below w.heap.size w w' := by
  have hbw : Below w.heap.size w (w.alloc (.cells #[.slice A1 n1 c1, .slice A2 n2 c2, .slice A3 n3 c3, .slice A4 n4 c4] 26)) := below_new w _
  have hB := Blk.new w #[.slice A1 n1 c1, .slice A2 n2 c2, .slice A3 n3 c3, .slice A4 n4 c4] 26 (0, 0)
  have HX : Hid (LayX (w.alloc (.cells #[.slice A1 n1 c1, .slice A2 n2 c2, .slice A3 n3 c3, .slice A4 n4 c4] 26)) w.heap.size L A1 A2 A3 A4 n1 c1 n2 c2 n3 c3 n4 c4) := Lib.hid ⟨hB.cell 0, hB.cell 1, hB.cell 2, hB.cell 3, hL.stay hbw⟩
  have HN := Lib.hid hN
  have HT := Lib.hid (hT.stay hbw)
  have HBW := Lib.hid hbw
  have b0 := HX.out.b0
  have b1 := HX.out.b1
  have b2 := HX.out.b2
  have b3 := HX.out.b3
  clear hL hN hB hbw hT
  go_enter Tryd.func7, Tryd.ntmps7
  go_wp2_with fail
  generalize hg : w.heap.size = g at *
  have HG := Lib.hid hg
  generalize w.alloc (.cells #[.slice A1 n1 c1, .slice A2 n2 c2, .slice A3 n3 c3, .slice A4 n4 c4] 26) = W at *
  clear hg
  refine (size_calls _ L _ _ _ _ _ _ _ _ _ _ _ _ HX.out.v HN.out).mono ?_
  rintro e w2 ⟨sz, rfl, hsz, hb2⟩
  have HB2 := Lib.hid hb2
  have HSZ := Lib.hid hsz
  replace b0 := cell_stay hb2 b0
  replace b1 := cell_stay hb2 b1
  replace b2 := cell_stay hb2 b2
  replace b3 := cell_stay hb2 b3
  clear hsz hb2
  by_cases hlt : sz < 3000
  case neg =>
    go_wp2_with fail
    go_ret
    exact ⟨rfl, below_more (by rw [HG.out]; exact HBW.out) HB2.out⟩
  case pos =>
  have HNM := Lib.hid (HSZ.out hlt).nm
  go_wp2_with fail
  refine (RefIs_calls _ (HT.out.stay HB2.out) (HX.out.v.stay HB2.out) ⟨fun x hx => Nat.le_trans (HNM.out.secs x hx) (by decide), fun x hx => Nat.le_trans (HNM.out.pts x hx) (by decide), fun x hx => Nat.le_trans (HNM.out.sigs x hx) (by decide), fun x hx => Nat.le_trans (HNM.out.rtes x hx) (by decide)⟩).mono ?_
  rintro e w3 ⟨rfl, hb3⟩
  have HB3 := Lib.hid (below_more HB2.out hb3)
  replace b0 := cell_stay hb3 b0
  replace b1 := cell_stay hb3 b1
  replace b2 := cell_stay hb3 b2
  replace b3 := cell_stay hb3 b3
  clear hb3
  cases hi : isM L with
  | false =>
    go_wp2_with fail
    go_ret
    exact ⟨rfl, below_more (by rw [HG.out]; exact HBW.out) HB3.out⟩
  | true =>
    have HP := Lib.hid (plan_in hi)
    clear hi
    go_wp2_with fail
    refine (RPrint_calls _ (HX.out.v.stay HB3.out) (in_nums HP.out HNM.out)).mono ?_
    rintro e w4 ⟨rfl, hb4⟩
    have HB4 := Lib.hid (below_more HB3.out hb4)
    have hsz4 := print_small HP.out HNM.out
    have HLN := Lib.hid (printR_lines L)
    have HNO := Lib.hid (lines_no HP.out)
    clear hb4 b0 b1 b2 b3
    have HLL : Hid ((linesR L).length = (toks L).length) := Lib.hid (by unfold linesR; rw [List.length_map])
    have HLS : Hid ((toks L).length ≤ 27) := Lib.hid (by have := toks_len (L := L); have := HP.out.sz; omega)
    have HPP := Lib.hid (fun (s : ByteArray) (k : Nat) (hk : k ≤ (toks L).length) (hs : byt s = joinNl ((linesR L).take k)) => parse_pre HP.out hk hs)
    have HSUM : Hid (∀ k, k ≤ (toks L).length → (preL L k).secs.length + (preL L k).sigs.length + (preL L k).pts.length + (preL L k).rtes.length = k) := Lib.hid (fun k hk => by
      have := toks_len (L := L)
      unfold preL
      simp only [List.length_take]
      omega)
    generalize printR L = s at *
    have HBS : Hid (s.size = (byt s).length) := Lib.hid (by rw [byt_len])
    go_upto_block 0 with fail
    go_cut [6] (fun v wx => v = .int .i64 ((linesR L).length : Nat) ∧ wx = w4)
    case first =>
      go_wp2_with fail
      go_loop [6, 7] (fun v i => ∃ k : Nat, k ≤ s.size ∧ i = .int .i64 k ∧ v = .int .i64 (nlC (byt s) k : Nat)) (fun _ i => s.size - (intOf i).toNat)
      case atStart => exact ⟨0, by omega, rfl, rfl⟩
      case round =>
        obtain ⟨k, hk, rfl, rfl⟩ := hrel
        have hle := nlC_le (byt s) k
        by_cases hlt : k < s.size
        · have HS := Lib.hid (nlC_step (byt s) k (by rw [← HBS.out]; exact hlt))
          have HGT := Lib.hid (byt_idx s hlt)
          generalize nlC (byt s) k = q at *
          by_cases h10 : (byt s).getD k 0 = 10
          · have hx : (((s[k]'hlt).toNat : Int) == 10) = true := by rw [HGT.out, h10]; rfl
            have HS1 : Hid (nlC (byt s) (k + 1) = q + 1) := Lib.hid (by rw [HS.out, if_pos h10])
            clear h10 HS HGT
            go_wp2_with fail
            go_round
            case rel => exact ⟨k + 1, by omega, by go_num, by rw [HS1.out]; go_num⟩
            case measure => simp [intOf]; omega
          · have hx : (((s[k]'hlt).toNat : Int) == 10) = false := by rw [HGT.out]; exact beq_eq_false_iff_ne.2 (by omega)
            have HS1 : Hid (nlC (byt s) (k + 1) = q) := Lib.hid (by rw [HS.out, if_neg h10]; rfl)
            clear h10 HS HGT
            go_wp2_with fail
            go_round
            case rel => exact ⟨k + 1, by omega, by go_num, by rw [HS1.out]⟩
            case measure => simp [intOf]; omega
        · obtain rfl : k = s.size := by omega
          have HT2 : Hid (nlC (byt s) s.size = (linesR L).length) := Lib.hid (by
            unfold nlC
            rw [HBS.out, List.take_length, HLN.out]
            exact nl_count _ HNO.out)
          clear hle
          rw [HT2.out]
          go_wp2_with fail
          go_meet
          exact ⟨rfl, rfl⟩
    case rest =>
    obtain ⟨rfl, hwx⟩ := hcut
    obtain rfl : w4 = wc := hwx.symm
    clear hwx
    rw [HLL.out]
    have hls := HLS.out
    generalize hN2 : (toks L).length = N at *
    go_upto_block 2 with fail
    obtain ⟨mm, hmm⟩ := mask10 m
    have hk : mm % (N + 1) ≤ N := by have := Nat.mod_lt mm (show 0 < N + 1 by omega); omega
    have hke : ((mm : Int).tmod ((N : Int) + 1)) = ((mm % (N + 1) : Nat) : Int) := by
      rw [Int.tmod_eq_emod_of_nonneg (by omega), Int.natCast_emod]
      rfl
    rw [hmm, hke]
    generalize mm % (N + 1) = kk at *
    clear hmm hke
    go_cut [9] (fun v wx => v = .int .i64 (posL (linesR L) kk : Nat) ∧ wx = w4)
    case first =>
      go_wp2_with fail
      go_loop [9, 10] (fun v i => ∃ j : Nat, j ≤ kk ∧ i = .int .i64 j ∧ v = .int .i64 (posL (linesR L) j : Nat)) (fun _ i => kk - (intOf i).toNat)
      case atStart => exact ⟨0, by omega, rfl, by simp [posL, joinNl]⟩
      case round =>
        obtain ⟨j, hj, rfl, rfl⟩ := hrel
        by_cases hlt : j < kk
        · have hjl : j < (linesR L).length := by have := HLL.out; omega
          obtain ⟨l, hl⟩ : ∃ l, (linesR L)[j]? = some l := ⟨_, List.getElem?_eq_getElem hjl⟩
          have hno := Lib.hid (HNO.out l (List.mem_of_getElem? hl))
          have HPB := Lib.hid (fun i (hi : i < l.length) => pos_byte hl hi)
          have hpe := pos_end hl
          have hps : posL (linesR L) j + l.length < s.size := by rw [HBS.out, HLN.out]; exact hpe.2.1
          have HPE := Lib.hid hpe
          have HBE : Hid ((byt s).getD (posL (linesR L) j + l.length) 0 = 10) := Lib.hid (by rw [HLN.out]; exact hpe.1)
          have HBB : Hid (∀ i, i < l.length → (byt s).getD (posL (linesR L) j + i) 0 ≠ 10) := Lib.hid (fun i hi => by
            rw [HLN.out, (HPB.out i hi).1, List.getD_eq_getElem?_getD, List.getElem?_eq_getElem hi]
            intro e
            exact hno.out (e ▸ List.getElem_mem hi))
          have HNX : Hid (posL (linesR L) (j + 1) = posL (linesR L) j + l.length + 1) := Lib.hid hpe.2.2
          clear hpe hl
          generalize hp : posL (linesR L) j = p at *
          generalize hq : l.length = q at *
          clear hp hq hno HPB
          go_wp2_with fail
          go_loop [9] (fun v => ∃ i : Nat, i ≤ q ∧ v = .int .i64 (p + i : Nat)) (fun v => p + q - (intOf v).toNat)
          case atStart => exact ⟨0, by omega, rfl⟩
          case round =>
            obtain ⟨i, hi, rfl⟩ := hrel
            have hin : p + i < s.size := by omega
            have HBI := Lib.hid (byt_idx s hin)
            by_cases hlt2 : i < q
            · have hx : (((s[p + i]'hin).toNat : Int) == 10) = false := by rw [HBI.out]; exact beq_eq_false_iff_ne.2 (by have := HBB.out i hlt2; omega)
              clear HBI
              go_wp2_with fail
              go_round
              case rel => exact ⟨i + 1, by omega, by go_num⟩
              case measure => simp [intOf]; omega
            · obtain rfl : i = q := by omega
              have hx : (((s[p + i]'hin).toNat : Int) == 10) = true := by rw [HBI.out, HBE.out]; rfl
              clear HBI
              go_wp2_with fail
              go_round
              case rel => exact ⟨j + 1, by omega, by go_num, by rw [HNX.out]; go_num⟩
              case measure => simp [intOf]; omega
        · obtain rfl : j = kk := by omega
          go_wp2_with fail
          go_meet
          exact ⟨rfl, rfl⟩
    case rest =>
    obtain ⟨rfl, hwx⟩ := hcut
    obtain rfl : w4 = wc := hwx.symm
    clear hwx
    have hpl : posL (linesR L) kk ≤ s.size := by
      rw [HBS.out, HLN.out]
      unfold posL
      conv => rhs; rw [← List.take_append_drop kk (linesR L)]
      unfold joinNl
      rw [List.map_append, List.flatten_append, List.length_append]
      omega
    have HPK := Lib.hid (HPP.out (s.extract 0 (posL (linesR L) kk)) kk hk (pos_take HLN.out kk))
    have hsx : (s.extract 0 (posL (linesR L) kk)).size ≤ 1000000 := by
      rw [ByteArray.size_extract]
      omega
    have hsum := HSUM.out kk hk
    generalize posL (linesR L) kk = pp at *
    have KP := Lib.hid (ParseH_calls w4 (HT.out.stay HB4.out) (s.extract 0 pp) hsx _ kk 0 HPK.out)
    have KK := Lib.hid (fun (U : World) (h : Below W.heap.size W U) => known3_calls U (HT.out.stay h))
    clear HPK HPP HSUM HLN HBS HNO HLL hsx
    generalize (preL L kk).secs.length = l1 at *
    generalize (preL L kk).pts.length = l2 at *
    generalize (preL L kk).sigs.length = l3 at *
    generalize (preL L kk).rtes.length = l4 at *
    have hq : ((((l1 : Int) + l3) + l2) + l4 == (kk : Int)) = true := beq_iff_eq.2 (by omega)
    go_wp2_with (first
      | (go_at_call 15; refine KP.out.mono ?_; rintro en w5 ⟨B1, d1, B2, d2, B3, d3, B4, d4, rfl, hb5⟩; have HB5 := Lib.hid (below_more HB4.out hb5); clear hb5)
      | (go_at_call 16; refine (KK.out _ (HB5.out.alloc HB5.out.size _)).mono ?_; rintro en w6 ⟨rfl, hb6⟩; have HB6 := Lib.hid (below_more (HB5.out.alloc HB5.out.size _) hb6); clear hb6)
      | fail)
    go_ret
    exact ⟨rfl, below_more (by rw [HG.out]; exact HBW.out) HB6.out⟩
end
end Go.Proofs.YtmdnmiiggkfnfaaDoor

/- plan's Print. -/
set_option linter.unusedVariables false
set_option linter.unusedSimpArgs false
namespace Go.Proofs.YtmdnmiiggkfnfaaDoor
open Go.RowKit

/-- Routes are short. -/
def FewR (L : Lay) : Prop := ∀ x ∈ L.rtes, x.path.length ≤ 1000000 ∧ x.points.length ≤ 1000000 ∧ x.flank.length ≤ 1000000
theorem lit_sl (W : World) (cs : Array Value) (xs : List ByteArray) (n : Nat) (hc : cs.toList = xs.flatMap flS.enc) (hn : xs.length = n) (hl : n ≤ 1000) : Sl flS (W.alloc (.cells cs 9)) (some ⟨W.heap.size, 0, none⟩) n n xs := by
  subst hn
  exact ⟨lit_reads flS xs (Blk.new W cs 9 (0, 0)) hc (by omega), Nat.le_refl _, by omega, by omega⟩
theorem Sl.drew_ {α : Type} {f : Fl α} {w : World} {A : Option Addr} {n c : Nat} {xs : List α} (h : Sl f w A n c xs) : Sl f w.drew A n c xs := ⟨h.rf.drew, h.le, h.cap, h.sz⟩
section
variable {L : Lay} {A1 A2 A3 A4 : Option Addr} {n1 c1 n2 c2 n3 c3 n4 c4 : Nat}
def PrP (w : World) (ln : ByteArray) (e : Ending) (w' : World) : Prop := e = .returned (.string ln) ∧ Below w.heap.size w w'
def WdP (w : World) (l : List ByteArray) (e : Ending) (w' : World) : Prop := ∃ F f fc, e = .returned (.slice F f fc) ∧ Sl flS w' F f fc l ∧ Below w.heap.size w w'
def CtP (w : World) (l : List ByteArray) (e : Ending) (w' : World) : Prop := ∃ A n c, e = .returned (.slice A n c) ∧ Sl flS w' A n c l ∧ Below w.heap.size w w'
set_option maxRecDepth 20000 in
set_option maxHeartbeats 8000000 in
theorem PPrint_calls (w : World) (hL : LayV w L A1 A2 A3 A4 n1 c1 n2 c2 n3 c3 n4 c4) (hI : InNums L) (hF : FewR L) (hsm : (printR L).size ≤ 100000000000) :
    Calls Tryd.prog 19 #[.agg #[.slice A1 n1 c1, .slice A2 n2 c2, .slice A3 n3 c3, .slice A4 n4 c4]] w fun e w' => e = .returned (.string (printR L)) ∧ Below w.heap.size w w' := by
  have hbw : Below w.heap.size w (w.alloc (.cells #[.slice A1 n1 c1, .slice A2 n2 c2, .slice A3 n3 c3, .slice A4 n4 c4] 26)) := below_new w _
  have hB := Blk.new w #[.slice A1 n1 c1, .slice A2 n2 c2, .slice A3 n3 c3, .slice A4 n4 c4] 26 (0, 0)
  have HX : Hid (LayX (w.alloc (.cells #[.slice A1 n1 c1, .slice A2 n2 c2, .slice A3 n3 c3, .slice A4 n4 c4] 26)) w.heap.size L A1 A2 A3 A4 n1 c1 n2 c2 n3 c3 n4 c4) := Lib.hid ⟨hB.cell 0, hB.cell 1, hB.cell 2, hB.cell 3, hL.stay hbw⟩
  have HI := Lib.hid hI
  have HF := Lib.hid hF
  have HL := Lib.hid (And.intro hL.secs.len (And.intro hL.pts.len (And.intro hL.sigs.len hL.rtes.len)))
  have HBW := Lib.hid hbw
  have b0 := HX.out.b0
  have b1 := HX.out.b1
  have b2 := HX.out.b2
  have b3 := HX.out.b3
  have z1 := hL.secs.sz
  have z2 := hL.pts.sz
  have z3 := hL.sigs.sz
  have z4 := hL.rtes.rd.2.1
  have q1 := Nat.le_trans hL.secs.le hL.secs.cap
  have q2 := Nat.le_trans hL.pts.le hL.pts.cap
  have q3 := Nat.le_trans hL.sigs.le hL.sigs.cap
  have q4 := Nat.le_trans hL.rtes.le hL.rtes.cap
  have P3 : (px3 L).size ≤ 100000000000 := Nat.le_trans (foldl_size (rtL_size L) L.rtes (px3 L)) hsm
  have P2 : (px2 L).size ≤ 100000000000 := Nat.le_trans (foldl_size (ptL_size L) L.pts (px2 L)) P3
  have P1 : (px1 L).size ≤ 100000000000 := Nat.le_trans (foldl_size sigL_size L.sigs (px1 L)) P2
  have HP := Lib.hid (And.intro P1 (And.intro P2 (And.intro P3 hsm)))
  clear hL hI hB hbw P1 P2 P3 hF hsm
  go_enter Tryd.func19, Tryd.ntmps19
  go_upto_block 0 with fail
  generalize hg : w.heap.size = g at *
  have HG := Lib.hid hg
  generalize w.alloc (.cells #[.slice A1 n1 c1, .slice A2 n2 c2, .slice A3 n3 c3, .slice A4 n4 c4] 26) = W at *
  clear hg
  go_cut [3] (fun s3 wx => s3 = .string (px1 L) ∧ Below W.heap.size W wx)
  case first =>
    go_wp2_with fail
    go_loopw [3, 18] (fun s i wr => ∃ k : Nat, k ≤ n1 ∧ i = .int .i64 k ∧ s = .string ((L.secs.take k).foldl secL ⟨#[]⟩) ∧ Below W.heap.size W wr) (fun _ i _ => n1 - (intOf i).toNat)
    case atStart => exact ⟨0, by omega, rfl, rfl, Below.refl _ _⟩
    case round =>
      obtain ⟨k, hk, rfl, rfl, hb⟩ := hrel
      by_cases hlt : k < n1
      · obtain ⟨b, off, y, rfl, hy, x0⟩ := (HX.out.v.secs.stay hb).str hlt
        have HS := Lib.hid (foldl_more secL ⟨#[]⟩ hy)
        have hs := Nat.le_trans (foldl_take_size secL_size L.secs ⟨#[]⟩ (k + 1)) HP.out.1
        generalize (L.secs.take k).foldl secL ⟨#[]⟩ = s0 at *
        rw [HS.out, sec_ln, ByteArray.size_append] at hs
        rw [sec_ln] at HS
        have KP : Hid (∀ U A, Sl flS U A 2 2 [⟨#[115, 101, 99, 116, 105, 111, 110]⟩, y] → Calls Tryd.prog 32 #[.slice A 2 2] U (PrP U (lnB [secW, y]))) := Lib.hid (fun U A h => Printed_calls [secW, y] h (by have := ln_size [secW, y]; omega))
        have HSL : Hid (Sl flS (wr.alloc (.cells #[.string ⟨#[115, 101, 99, 116, 105, 111, 110]⟩, .string y] 9)) (some ⟨wr.heap.size, 0, none⟩) 2 2 [⟨#[115, 101, 99, 116, 105, 111, 110]⟩, y]) := Lib.hid (lit_sl _ _ _ 2 rfl rfl (by decide))
        have HB := Lib.hid hb
        have hws := hb.size
        generalize lnB [secW, y] = ln at *
        clear hy hb
        go_wp2_with (first
          | (go_at_call 32; (with_reducible refine (KP.out _ _ HSL.out).mono ?_); rintro en w1 ⟨rfl, hb1⟩; have HB1 := Lib.hid (below_more (HB.out.alloc hws _) hb1); clear hb1)
          | fail)
        go_roundw
        case rel => exact ⟨k + 1, by omega, by go_num, by rw [HS.out], HB1.out⟩
        case measure => simp [intOf]; omega
      · obtain rfl : k = n1 := by omega
        have HT := Lib.hid (show L.secs.take k = L.secs from List.take_of_length_le (by rw [HL.out.1]; omega))
        have HB := Lib.hid hb
        clear hb
        go_wp2_with fail
        go_meet
        exact ⟨by rw [HT.out]; rfl, HB.out⟩
  case rest =>
  obtain ⟨rfl, hbc⟩ := hcut
  have HBC := Lib.hid hbc
  replace b0 := cell_stay hbc b0
  replace b1 := cell_stay hbc b1
  replace b2 := cell_stay hbc b2
  replace b3 := cell_stay hbc b3
  clear hbc
  go_upto_block 2 with fail
  go_cut [3] (fun s3 wx => s3 = .string (px2 L) ∧ Below W.heap.size W wx)
  case first =>
    go_wp2_with fail
    go_loopw [3, 31] (fun s i wr => ∃ k : Nat, k ≤ n3 ∧ i = .int .i64 k ∧ s = .string ((L.sigs.take k).foldl sigL (px1 L)) ∧ Below W.heap.size W wr) (fun _ i _ => n3 - (intOf i).toNat)
    case atStart => exact ⟨0, by omega, rfl, rfl, HBC.out⟩
    case round =>
      obtain ⟨k, hk, rfl, rfl, hb⟩ := hrel
      by_cases hlt : k < n3
      · obtain ⟨b, off, y, rfl, hy, x0⟩ := (HX.out.v.sigs.stay hb).str hlt
        have HS := Lib.hid (foldl_more sigL (px1 L) hy)
        have hs := Nat.le_trans (foldl_take_size sigL_size L.sigs (px1 L) (k + 1)) HP.out.2.1
        generalize (L.sigs.take k).foldl sigL (px1 L) = s0 at *
        rw [HS.out, sig_ln, ByteArray.size_append] at hs
        rw [sig_ln] at HS
        have KP : Hid (∀ U A, Sl flS U A 2 2 [⟨#[115, 105, 103, 110, 97, 108]⟩, y] → Calls Tryd.prog 32 #[.slice A 2 2] U (PrP U (lnB [sigW, y]))) := Lib.hid (fun U A h => Printed_calls [sigW, y] h (by have := ln_size [sigW, y]; omega))
        have HSL : Hid (Sl flS (wr.alloc (.cells #[.string ⟨#[115, 105, 103, 110, 97, 108]⟩, .string y] 9)) (some ⟨wr.heap.size, 0, none⟩) 2 2 [⟨#[115, 105, 103, 110, 97, 108]⟩, y]) := Lib.hid (lit_sl _ _ _ 2 rfl rfl (by decide))
        have HB := Lib.hid hb
        have hws := hb.size
        generalize lnB [sigW, y] = ln at *
        clear hy hb
        go_wp2_with (first
          | (go_at_call 32; (with_reducible refine (KP.out _ _ HSL.out).mono ?_); rintro en w1 ⟨rfl, hb1⟩; have HB1 := Lib.hid (below_more (HB.out.alloc hws _) hb1); clear hb1)
          | fail)
        go_roundw
        case rel => exact ⟨k + 1, by omega, by go_num, by rw [HS.out], HB1.out⟩
        case measure => simp [intOf]; omega
      · obtain rfl : k = n3 := by omega
        have HT := Lib.hid (show L.sigs.take k = L.sigs from List.take_of_length_le (by rw [HL.out.2.2.1]; omega))
        have HB := Lib.hid hb
        clear hb
        go_wp2_with fail
        go_meet
        exact ⟨by rw [HT.out]; rfl, HB.out⟩
  case rest =>
  obtain ⟨rfl, hbc⟩ := hcut
  replace HBC := Lib.hid hbc
  replace b0 := cell_stay hbc HX.out.b0
  replace b1 := cell_stay hbc HX.out.b1
  replace b2 := cell_stay hbc HX.out.b2
  replace b3 := cell_stay hbc HX.out.b3
  clear hbc
  go_upto_block 4 with fail
  go_cut [3] (fun s3 wx => s3 = .string (px3 L) ∧ Below W.heap.size W wx)
  case first =>
    go_wp2_with fail
    go_loopw [3, 44] (fun s i wr => ∃ k : Nat, k ≤ n2 ∧ i = .int .i64 k ∧ s = .string ((L.pts.take k).foldl (ptL L) (px2 L)) ∧ Below W.heap.size W wr) (fun _ i _ => n2 - (intOf i).toNat)
    case atStart => exact ⟨0, by omega, rfl, rfl, HBC.out⟩
    case round =>
      obtain ⟨k, hk, rfl, rfl, hb⟩ := hrel
      by_cases hlt : k < n2
      · obtain ⟨b, off, y, rfl, hy, x0, x1⟩ := (HX.out.v.pts.stay hb).pt hlt
        have HS := Lib.hid (foldl_more (ptL L) (px2 L) hy)
        have hs := Nat.le_trans (foldl_take_size (ptL_size L) L.pts (px2 L) (k + 1)) HP.out.2.2.1
        obtain ⟨hp0, hp1⟩ := HI.out.pts y (List.mem_of_getElem? hy)
        generalize (L.pts.take k).foldl (ptL L) (px2 L) = s0 at *
        rw [HS.out, pt_ln, ByteArray.size_append] at hs
        rw [pt_ln] at HS
        obtain ⟨yn, ys⟩ := y
        simp only at hp0 hp1 x0 x1
        have hi : ys.toNat < n1 := by rw [← HL.out.1]; omega
        obtain ⟨b4, off4, z, rfl, hz, y0⟩ := (HX.out.v.secs.stay hb).str hi
        have HN : Hid (secNm L ys = z) := Lib.hid (pxnm_at hz)
        have HTK : Hid (ptToks L ⟨yn, ys⟩ = [ptW, yn, inW, z]) := Lib.hid (by unfold ptToks; rw [HN.out])
        rw [HTK.out] at HS hs
        have hyp : ((ys.toNat : Nat) : Int) = ys := by omega
        generalize hyn : ys.toNat = ypn at *
        subst hyp
        have KP : Hid (∀ U A, Sl flS U A 4 4 [⟨#[112, 111, 105, 110, 116]⟩, yn, ⟨#[105, 110]⟩, z] → Calls Tryd.prog 32 #[.slice A 4 4] U (PrP U (lnB [ptW, yn, inW, z]))) := Lib.hid (fun U A h => Printed_calls [ptW, yn, inW, z] h (by have := ln_size [ptW, yn, inW, z]; omega))
        have HB := Lib.hid hb
        have hws := hb.size
        generalize lnB [ptW, yn, inW, z] = ln at *
        have c0 := (HX.out.stay hb).b0
        have hbx := below_new wr (.cells #[.string yn, .int .i64 ypn] 51)
        have hBX := Blk.new wr #[.string yn, .int .i64 ypn] 51 (0, 0)
        have r0 := hBX.cell 0
        have r1 := hBX.cell 1
        simp only [List.getElem?_toArray, List.getElem?_cons_zero, List.getElem?_cons_succ] at r0 r1
        replace c0 := cell_stay hbx c0
        replace y0 := cell_stay hbx y0
        have HB1 := Lib.hid (below_more HB.out hbx)
        clear hy hz hyn hb HTK HN
        go_wp2_with fail
        generalize hgr : wr.heap.size = gr at *
        generalize wr.alloc (.cells #[.string yn, .int .i64 ypn] 51) = W1 at *
        clear hbx hBX x0 x1 HB hws hgr
        have hws1 := HB1.out.size
        have hnot : ¬ (9223372036854775807 < s0.size + ln.size) := by omega
        have HSL : Hid (Sl flS (W1.alloc (.cells #[.string ⟨#[112, 111, 105, 110, 116]⟩, .string yn, .string ⟨#[105, 110]⟩, .string z] 9)).drew (some ⟨W1.heap.size, 0, none⟩) 4 4 [⟨#[112, 111, 105, 110, 116]⟩, yn, ⟨#[105, 110]⟩, z]) := Lib.hid (Sl.drew_ (lit_sl W1 _ _ 4 rfl rfl (by decide)))
        have KEEP := Lib.hid (fun (U : World) (hb : Below W1.heap.size W1 U) => (⟨cell_stay hb r0, cell_stay hb r1, cell_stay hb c0, cell_stay hb y0⟩ : U.cell? ⟨gr, 0, none⟩ = some (.string yn) ∧ U.cell? ⟨gr, 1, none⟩ = some (.int .i64 ypn) ∧ U.cell? ⟨g, 0, none⟩ = some (.slice (some ⟨b4, off4, none⟩) n1 c1) ∧ U.cell? ⟨b4, off4 + ypn, none⟩ = some (.string z)))
        go_region_held3 (fun U => U.cell? ⟨gr, 0, none⟩ = some (.string yn) ∧ U.cell? ⟨gr, 1, none⟩ = some (.int .i64 ypn) ∧ U.cell? ⟨g, 0, none⟩ = some (.slice (some ⟨b4, off4, none⟩) n1 c1) ∧ U.cell? ⟨b4, off4 + ypn, none⟩ = some (.string z))
          (first | exact KEEP.out _ HW2.out | ((refine KEEP.out _ ?_; repeat (first | exact Below.refl _ _ | refine Below.alloc ?_ (by first | (simp; omega) | simp | omega) _ | refine Below.setCell ?_ (by first | (simp; omega) | simp | omega) _ | refine Below.drew ?_))))
          (first
            | (go_at_call 32; (with_reducible refine (KP.out _ _ HSL.out).mono ?_); rintro en w2 ⟨rfl, hb2⟩; have HW2 := Lib.hid (below_more (below_drawn (below_new W1 _) 1) hb2); clear hb2)
            | fail)
        go_wp2_with fail
        go_roundw
        case rel => exact ⟨k + 1, by omega, by go_num, by rw [HS.out], below_more HB1.out HW2.out⟩
        case measure => simp [intOf]; omega
      · obtain rfl : k = n2 := by omega
        have HT := Lib.hid (show L.pts.take k = L.pts from List.take_of_length_le (by rw [HL.out.2.1]; omega))
        have HB := Lib.hid hb
        clear hb
        go_wp2_with fail
        go_meet
        exact ⟨by rw [HT.out]; rfl, HB.out⟩
  case rest =>
  obtain ⟨rfl, hbc⟩ := hcut
  replace HBC := Lib.hid hbc
  clear hbc b0 b1 b2 b3
  obtain ⟨i0, hi0, hz0, hz1, hz2⟩ := info_parts info_s3
  have b3 := cell_stay HBC.out HX.out.b3
  go_wp2_with fail
  go_loopw [3, 64] (fun s i wr => ∃ k : Nat, k ≤ n4 ∧ i = .int .i64 k ∧ s = .string ((L.rtes.take k).foldl (rtL L) (px3 L)) ∧ Below W.heap.size W wr) (fun _ i _ => n4 - (intOf i).toNat)
  case atStart => exact ⟨0, by omega, rfl, rfl, HBC.out⟩
  case round =>
    obtain ⟨k, hk, rfl, rfl, hb⟩ := hrel
    clear b3
    by_cases hlt : k < n4
    · obtain ⟨b, off, y, P, Q, F, p, pc, q, qc, f, fc, rfl, hy, e0, e1, e2, e3, e4, e5, hv⟩ := (HX.out.v.rtes.stay hb).at_ hlt
      have hmem := List.mem_of_getElem? hy
      have HS := Lib.hid (foldl_more (rtL L) (px3 L) hy)
      have hs := Nat.le_trans (foldl_take_size (rtL_size L) L.rtes (px3 L) (k + 1)) HP.out.2.2.2
      obtain ⟨hf0, hf1, hd0, hd1⟩ := HI.out.ends y hmem
      have HPA := Lib.hid (HI.out.path y hmem)
      have HPN := Lib.hid (HI.out.points y hmem)
      have HFL := Lib.hid (HI.out.flank y hmem)
      have HFW := Lib.hid (HF.out y hmem)
      have HV := Lib.hid hv
      have HQL := Lib.hid (And.intro hv.path.len (And.intro hv.points.len hv.flank.len))
      have zp := Nat.le_trans hv.path.le hv.path.cap
      generalize (L.rtes.take k).foldl (rtL L) (px3 L) = s0 at *
      rw [HS.out, rt_ln, ByteArray.size_append] at hs
      rw [rt_ln] at HS
      obtain ⟨rn, rf, rt, rp, rq, rl⟩ := y
      simp only at hf0 hf1 hd0 hd1 e0 e1 e2 HPA HPN HFL HQL HFW HS hs
      have hi : rf.toNat < n3 := by rw [← HL.out.2.2.1]; omega
      obtain ⟨b5, off5, zf1, hA3, hz5, y5⟩ := (HX.out.v.sigs.stay hb).str hi
      have hj : rt.toNat < n3 := by rw [← HL.out.2.2.1]; omega
      obtain ⟨b6, off6, zt1, hA3', hz6, y6⟩ := (HX.out.v.sigs.stay hb).str hj
      rw [hA3] at hA3'
      injection hA3' with hA3'
      injection hA3' with h51 h52
      subst h51 h52 hA3
      have HN5 : Hid (sigNm L rf = zf1) := Lib.hid (pxnm_at hz5)
      have HN6 : Hid (sigNm L rt = zt1) := Lib.hid (pxnm_at hz6)
      have hr5 : ((rf.toNat : Nat) : Int) = rf := by omega
      have hr6 : ((rt.toNat : Nat) : Int) = rt := by omega
      have HR1 : Hid (rtHd L ⟨rn, rf, rt, rp, rq, rl⟩ = [⟨#[114, 111, 117, 116, 101]⟩, rn, ⟨#[102, 114, 111, 109]⟩, zf1, ⟨#[116, 111]⟩, zt1, ⟨#[118, 105, 97]⟩]) := Lib.hid (by unfold rtHd; rw [HN5.out, HN6.out]; rfl)
      generalize rf.toNat = rfn at *
      generalize rt.toNat = rtn at *
      subst hr5 hr6
      have c0 := (HX.out.stay hb).b0
      have c1' := (HX.out.stay hb).b1
      have c2' := (HX.out.stay hb).b2
      have c3' := (HX.out.stay hb).b3
      have HB := Lib.hid hb
      clear hb hv hy hz5 hz6 HN5 HN6 hmem
      go_wp2_with fail
      have hbx := below_new wr (.cells #[.string rn, .int .i64 rfn, .int .i64 rtn, .slice P p pc, .slice Q q qc, .slice F f fc] 44)
      have hBX := Blk.new wr #[.string rn, .int .i64 rfn, .int .i64 rtn, .slice P p pc, .slice Q q qc, .slice F f fc] 44 (0, 0)
      have r0 := hBX.cell 0
      have r1 := hBX.cell 1
      have r2 := hBX.cell 2
      have r3 := hBX.cell 3
      have r4 := hBX.cell 4
      have r5 := hBX.cell 5
      simp only [List.getElem?_toArray, List.getElem?_cons_zero, List.getElem?_cons_succ] at r0 r1 r2 r3 r4 r5
      replace c0 := cell_stay hbx c0
      replace c1' := cell_stay hbx c1'
      replace c2' := cell_stay hbx c2'
      replace c3' := cell_stay hbx c3'
      replace y5 := cell_stay hbx y5
      replace y6 := cell_stay hbx y6
      have HB1 := Lib.hid (below_more HB.out hbx)
      have HV1 := Lib.hid (HV.out.stay hbx)
      generalize hgr : wr.heap.size = gr at *
      generalize wr.alloc (.cells #[.string rn, .int .i64 rfn, .int .i64 rtn, .slice P p pc, .slice Q q qc, .slice F f fc] 44) = W1 at *
      clear hbx hBX e0 e1 e2 e3 e4 e5 HB HV hgr
      have HO2 : Hid (Ow flS (W1.alloc (.cells #[.string ⟨#[114, 111, 117, 116, 101]⟩, .string rn, .string ⟨#[102, 114, 111, 109]⟩, .string zf1, .string ⟨#[116, 111]⟩, .string zt1, .string ⟨#[118, 105, 97]⟩] 9)).drew W1.heap.size 9 (.slice (some ⟨W1.heap.size, 0, none⟩) 7 7) (rtHd L ⟨rn, rfn, rtn, rp, rq, rl⟩)) := Lib.hid (by
        rw [HR1.out]
        exact (Ow.lit (f := flS) (xs := [⟨#[114, 111, 117, 116, 101]⟩, rn, ⟨#[102, 114, 111, 109]⟩, zf1, ⟨#[116, 111]⟩, zt1, ⟨#[118, 105, 97]⟩]) W1 W1.heap.size 9 #[.string ⟨#[114, 111, 117, 116, 101]⟩, .string rn, .string ⟨#[102, 114, 111, 109]⟩, .string zf1, .string ⟨#[116, 111]⟩, .string zt1, .string ⟨#[118, 105, 97]⟩] (Nat.le_refl _) (by simp) rfl).drew)
      have HB2 : Hid (Below W1.heap.size W1 (W1.alloc (.cells #[.string ⟨#[114, 111, 117, 116, 101]⟩, .string rn, .string ⟨#[102, 114, 111, 109]⟩, .string zf1, .string ⟨#[116, 111]⟩, .string zt1, .string ⟨#[118, 105, 97]⟩] 9)).drew) := Lib.hid (below_drawn (below_new W1 _) 1)
      have KEEP := Lib.hid (fun (U : World) (hb : Below W1.heap.size W1 U) => (⟨cell_stay hb r0, cell_stay hb r1, cell_stay hb r2, cell_stay hb c2', cell_stay hb y5, cell_stay hb y6⟩ : U.cell? ⟨gr, 0, none⟩ = some (.string rn) ∧ U.cell? ⟨gr, 1, none⟩ = some (.int .i64 rfn) ∧ U.cell? ⟨gr, 2, none⟩ = some (.int .i64 rtn) ∧ U.cell? ⟨g, 2, none⟩ = some (.slice (some ⟨b5, off5, none⟩) n3 c3) ∧ U.cell? ⟨b5, off5 + rfn, none⟩ = some (.string zf1) ∧ U.cell? ⟨b5, off5 + rtn, none⟩ = some (.string zt1)))
      go_region_held3 (fun U => U.cell? ⟨gr, 0, none⟩ = some (.string rn) ∧ U.cell? ⟨gr, 1, none⟩ = some (.int .i64 rfn) ∧ U.cell? ⟨gr, 2, none⟩ = some (.int .i64 rtn) ∧ U.cell? ⟨g, 2, none⟩ = some (.slice (some ⟨b5, off5, none⟩) n3 c3) ∧ U.cell? ⟨b5, off5 + rfn, none⟩ = some (.string zf1) ∧ U.cell? ⟨b5, off5 + rtn, none⟩ = some (.string zt1))
        ((refine KEEP.out _ ?_; repeat (first | exact Below.refl _ _ | refine Below.alloc ?_ (by first | (simp; omega) | simp | omega) _ | refine Below.setCell ?_ (by first | (simp; omega) | simp | omega) _ | refine Below.drew ?_)))
        (first | fail | fail)
      clear KEEP y5 y6 r0 r1 r2
      generalize (W1.alloc (.cells #[.string ⟨#[114, 111, 117, 116, 101]⟩, .string rn, .string ⟨#[102, 114, 111, 109]⟩, .string zf1, .string ⟨#[116, 111]⟩, .string zt1, .string ⟨#[118, 105, 97]⟩] 9)).drew = W2 at *
      have d3 := cell_stay HB2.out r3
      have HHD : Hid ((rtHd L ⟨rn, rfn, rtn, rp, rq, rl⟩).length = 7) := Lib.hid rfl
      generalize rtHd L ⟨rn, rfn, rtn, rp, rq, rl⟩ = hd at *
      clear HR1 r3
      go_wp2_with fail
      go_loopw [12, 86] (fun v i wr => ∃ j : Nat, j ≤ p ∧ i = .int .i64 j ∧ Hid (Ow flS wr W1.heap.size 9 v (hd ++ (rp.take j).map (secNm L)) ∧ Below W1.heap.size W1 wr)) (fun _ i _ => p - (intOf i).toNat)
      case atStart => exact ⟨0, by omega, rfl, Lib.hid ⟨by simpa using HO2.out, HB2.out⟩⟩
      case round =>
        obtain ⟨j, hj', rfl, hr⟩ := hrel
        obtain ⟨ho, hb⟩ := hr.out
        obtain ⟨Av, cv, rfl⟩ := row_form ho
        have hws := hb.size
        have hnl : (hd ++ (rp.take j).map (secNm L)).length ≤ 1000007 := by
          rw [List.length_append, List.length_map, List.length_take, HHD.out]
          have := HFW.out.1
          omega
        by_cases hlt2 : j < p
        · obtain ⟨b7, off7, y, rfl, hy, x0⟩ := (HV1.out.path.stay hb).int hlt2
          obtain ⟨hp0, hp1⟩ := HPA.out y (List.mem_of_getElem? hy)
          have hi2 : y.toNat < n1 := by rw [← HL.out.1]; omega
          obtain ⟨b8, off8, z, rfl, hz, y0⟩ := (HX.out.v.secs.stay (below_more HB1.out hb)).str hi2
          have HTK : Hid (hd ++ (rp.take (j + 1)).map (secNm L) = (hd ++ (rp.take j).map (secNm L)) ++ [z]) := Lib.hid (by
            rw [map_tk (secNm L) hy, List.append_assoc, show secNm L y = z from pxnm_at hz])
          have hyp : ((y.toNat : Nat) : Int) = y := by omega
          generalize y.toNat = ypn at *
          subst hyp
          have c0 := cell_stay hb c0
          have HO := Lib.hid ho
          have HBB := Lib.hid hb
          generalize hns : hd ++ (rp.take j).map (secNm L) = us at *
          clear hns ho hr hb hy hz
          go_wp2_with (first
            | (at_builtin; refine wpList_append_any _ rfl (.tmp 90) (.tmp 96) _ rfl W1.heap.size 9 i0 _ 1 16 Tryd.underlying22 hi0 hz0 hz1 hz2 rfl (by omega) _ us.length (us.flatMap flS.enc) rfl (HO.out.alloc _) (wr.heap.size + 1) (some ⟨wr.heap.size, 0, none⟩) 1 1 (flS.enc z) rfl (box_at flS rfl _ _ z rfl) (flS.one _) (by simp only [maxLen]; omega) (by omega) (by simp; omega) ?_; intro v1 w1 hown1 hg1 hat1; have HB3 := Lib.hid ((HBB.out.alloc hws (.cells #[.string z] 9)).grown hg1 (by simp; omega) HO.out.base_); have HO1 := Lib.hid (Ow.snoc hown1); clear hown1 hg1 hat1)
            | fail)
          go_roundw
          case rel => exact ⟨j + 1, by omega, by go_num, Lib.hid ⟨by rw [HTK.out]; exact HO1.out, HB3.out⟩⟩
          case measure => simp [intOf]; omega
        · obtain rfl : j = p := by omega
          have HT : Hid (rp.take j = rp) := Lib.hid (List.take_of_length_le (by rw [HQL.out.1]; omega))
          rw [HT.out] at ho hnl
          rw [HT.out]
          clear hr hlt2
          obtain ⟨A', c', e, hsl⟩ := sl_ow ho (by decide) (by omega)
          injection e with e1 e2 e3
          subst e1 e3
          have HQS : Hid ((wantW L setT rq).length ≤ 1000001 ∧ (wantW L flankT rl).length ≤ 1000001) := Lib.hid (by
            have := HFW.out
            constructor
            · unfold wantW
              split
              · simp
              · rw [List.length_cons, List.length_map]; omega
            · unfold wantW
              split
              · simp
              · rw [List.length_cons, List.length_map]; omega)
          have KQ : Hid (∀ U, Below W1.heap.size W1 U → Calls Tryd.prog 34 #[.agg #[.slice A1 n1 c1, .slice A2 n2 c2, .slice (some ⟨b5, off5, none⟩) n3 c3, .slice (some ⟨b, off, none⟩) n4 c4], .string ⟨#[115, 101, 116]⟩, .slice Q q qc] U (WdP U (wantW L setT rq))) := Lib.hid (fun U h => Wanted_calls U setT q qc (HX.out.v.stay (below_more HB1.out h)) (HV1.out.points.stay h) HPN.out.1 HI.out.nm (by have := HFW.out; have := HQL.out; omega))
          have KF : Hid (∀ U, Below W1.heap.size W1 U → Calls Tryd.prog 34 #[.agg #[.slice A1 n1 c1, .slice A2 n2 c2, .slice (some ⟨b5, off5, none⟩) n3 c3, .slice (some ⟨b, off, none⟩) n4 c4], .string ⟨#[102, 108, 97, 110, 107]⟩, .slice F f fc] U (WdP U (wantW L flankT rl))) := Lib.hid (fun U h => Wanted_calls U flankT f fc (HX.out.v.stay (below_more HB1.out h)) (HV1.out.flank.stay h) HFL.out.1 HI.out.nm (by have := HFW.out; have := HQL.out; omega))
          generalize wantW L setT rq = qs at *
          generalize wantW L flankT rl = fs at *
          generalize hd ++ rp.map (secNm L) = ws at *
          have KPr : Hid (∀ U A N c, Sl flS U A N c ((ws ++ qs) ++ fs) → Calls Tryd.prog 32 #[.slice A N c] U (PrP U (lnB ((ws ++ qs) ++ fs)))) := Lib.hid (fun U A N c h => Printed_calls _ h (by have := ln_size ((ws ++ qs) ++ fs); omega))
          have KC : Hid (∀ U (g' : Nat) Aw cw F f fc H h hc, Sl flS U Aw ws.length cw ws → Sl flS U F f fc qs → Sl flS U H h hc fs → U.cell? ⟨g', 0, none⟩ = some (.slice Aw ws.length cw) → U.cell? ⟨g', 1, none⟩ = some (.slice F f fc) → U.cell? ⟨g', 2, none⟩ = some (.slice H h hc) → Calls Tryd.prog 33 #[.slice (some ⟨g', 0, none⟩) 3 3] U (CtP U ((ws ++ qs) ++ fs))) := Lib.hid (fun U g' Aw cw F f fc H h hc k1 k2 k3 k4 k5 k6 =>
            (CatS_calls U g' Aw F H ws.length cw f fc h hc ws qs fs k1 k2 k3 k4 k5 k6 (by have := k2.len; have := k3.len; have := HQS.out; omega)).mono (by
              rintro e w' ⟨v, rfl, hown, hb'⟩
              obtain ⟨A, c, e2, hs2⟩ := sl_ow hown (by decide) (by rw [List.length_append, List.length_append]; have := HQS.out; omega)
              exact ⟨A, _, c, by rw [e2], hs2, hb'⟩))
          generalize lnB ((ws ++ qs) ++ fs) = ln at *
          generalize (ws ++ qs) ++ fs = us at *
          generalize ws.length = nws at *
          have HSW := Lib.hid hsl
          have HD : Hid (Below W1.heap.size W1 wr.drew) := Lib.hid (below_drawn hb 1)
          have HDR : Hid (Below wr.heap.size wr wr.drew) := Lib.hid (below_drawn (Below.refl _ _) 1)
          have hnot : ¬ (9223372036854775807 < s0.size + ln.size) := by omega
          have KEEP := Lib.hid (fun (U : World) (hb : Below W1.heap.size W1 U) => (⟨cell_stay hb c0, cell_stay hb c1', cell_stay hb c2', cell_stay hb c3', cell_stay hb r4, cell_stay hb r5⟩ : U.cell? ⟨g, 0, none⟩ = some (.slice A1 n1 c1) ∧ U.cell? ⟨g, 1, none⟩ = some (.slice A2 n2 c2) ∧ U.cell? ⟨g, 2, none⟩ = some (.slice (some ⟨b5, off5, none⟩) n3 c3) ∧ U.cell? ⟨g, 3, none⟩ = some (.slice (some ⟨b, off, none⟩) n4 c4) ∧ U.cell? ⟨gr, 4, none⟩ = some (.slice Q q qc) ∧ U.cell? ⟨gr, 5, none⟩ = some (.slice F f fc)))
          clear hsl ho hnl HT HPA HPN HFL HFW HX HV1 HI HF c0 c1' c2' c3' r4 r5 d3 HQS
          go_wp2_with fail
          go_region_held3 (fun U => U.cell? ⟨g, 0, none⟩ = some (.slice A1 n1 c1) ∧ U.cell? ⟨g, 1, none⟩ = some (.slice A2 n2 c2) ∧ U.cell? ⟨g, 2, none⟩ = some (.slice (some ⟨b5, off5, none⟩) n3 c3) ∧ U.cell? ⟨g, 3, none⟩ = some (.slice (some ⟨b, off, none⟩) n4 c4) ∧ U.cell? ⟨gr, 4, none⟩ = some (.slice Q q qc) ∧ U.cell? ⟨gr, 5, none⟩ = some (.slice F f fc))
            (first | exact KEEP.out _ HW8.out | exact KEEP.out _ HW7.out | exact KEEP.out _ (HW6.out.alloc HW6.out.size _) | exact KEEP.out _ HW6.out | exact KEEP.out _ HW5.out | exact KEEP.out _ HD.out)
            (first
              | (go_at_call 34; (with_reducible refine (KQ.out _ HD.out).mono ?_); rintro en w5 ⟨F5, f5, fc5, rfl, hs5, hb5⟩; have HW5 := Lib.hid (below_more HD.out hb5); have HR5 := Lib.hid (below_more HDR.out hb5); have HS5 := Lib.hid hs5; clear hs5 hb5)
              | (go_at_call 34; (with_reducible refine (KF.out _ HW5.out).mono ?_); rintro en w6 ⟨F6, f6, fc6, rfl, hs6, hb6⟩; have HW6 := Lib.hid (below_more HW5.out hb6); have HR6 := Lib.hid (below_more HR5.out hb6); have HS56 := Lib.hid (HS5.out.stay hb6); have HS6 := Lib.hid hs6; clear hs6 hb6)
              | (go_at_call 33; have hba := below_new w6 (.cells #[.slice Av nws cv, .slice F5 f5 fc5, .slice F6 f6 fc6] 22); have hBA := Blk.new w6 #[.slice Av nws cv, .slice F5 f5 fc5, .slice F6 f6 fc6] 22 (0, 0); have a0 := hBA.cell 0; have a1 := hBA.cell 1; have a2 := hBA.cell 2; simp only [List.getElem?_toArray, List.getElem?_cons_zero, List.getElem?_cons_succ] at a0 a1 a2; (with_reducible refine (KC.out _ _ _ _ _ _ _ _ _ _ ((HSW.out.stay HR6.out).stay hba) (HS56.out.stay hba) (HS6.out.stay hba) a0 a1 a2).mono ?_); rintro en w7 ⟨A7, N7, c7, rfl, hs7, hb7⟩; have HW7 := Lib.hid (below_more (HW6.out.alloc HW6.out.size _) hb7); have HS7 := Lib.hid hs7; clear hs7 hb7 hba hBA a0 a1 a2)
              | (go_at_call 32; (with_reducible refine (KPr.out _ _ _ _ HS7.out).mono ?_); rintro en w8 ⟨rfl, hb8⟩; have HW8 := Lib.hid (below_more HW7.out hb8); clear hb8)
              | fail)
          go_wp2_with fail
          go_roundw
          case rel => exact ⟨k + 1, by omega, by go_num, by rw [HS.out], below_more HB1.out HW8.out⟩
          case measure => simp [intOf]; omega
    · obtain rfl : k = n4 := by omega
      have HT := Lib.hid (show L.rtes.take k = L.rtes from List.take_of_length_le (by rw [HL.out.2.2.2]; omega))
      have HB := Lib.hid hb
      clear hb
      go_wp2_with fail
      go_ret
      exact ⟨by rw [HT.out]; rfl, below_more (by rw [HG.out]; exact HBW.out) HB.out⟩
end
end Go.Proofs.YtmdnmiiggkfnfaaDoor

/- What Parse answers, read as a layout; Print's bounds. -/
set_option linter.unusedVariables false
set_option linter.unusedSimpArgs false
namespace Go.Proofs.YtmdnmiiggkfnfaaDoor
open Go.RowKit

def ParseG (w : World) (L : Lay) (n : Nat) (er : Int) (e : Ending) (w' : World) : Prop :=
  ∃ A1 n1 c1 A2 n2 c2 A3 n3 c3 A4 n4 c4, e = .returned (.tuple #[.agg #[.slice A1 n1 c1, .slice A2 n2 c2, .slice A3 n3 c3, .slice A4 n4 c4], .int .i64 n, .int .i64 er]) ∧ LayG w' L A1 A2 A3 A4 n1 c1 n2 c2 n3 c3 n4 c4 ∧ Below w.heap.size w w'
theorem rts_g {w : World} {B : Nat} {A : Option Addr} {n c : Nat} {cs : List RtC} {xs : List Rte} (h : Ow flRc w B 44 (.slice A n c) cs) (hr : RtsR w B cs xs) (hl : xs.length ≤ 1000000)
    (hx : ∀ x ∈ xs, x.path.length ≤ 1000000 ∧ x.points.length ≤ 1000000 ∧ x.flank.length ≤ 1000000) : RtsG w A n c xs := by
  obtain ⟨e, hs⟩ := sl_of_own h (by decide) (by rw [hr.len]; omega)
  refine ⟨by rw [← hr.len, e], hs.le, hs.cap, hs.sz, fun j hj => ?_⟩
  obtain ⟨b, off, y, eA, hy, k0, k1, k2, k3, k4, k5⟩ := hs.rf.rtc hj
  obtain ⟨x, hxj⟩ : ∃ x, xs[j]? = some x := ⟨_, List.getElem?_eq_getElem (by rw [← hr.len, ← e]; exact hj)⟩
  have hR := hr.all j y x hy hxj
  obtain ⟨x1, x2, x3⟩ := hx x (List.mem_of_getElem? hxj)
  rw [hR.name] at k0
  rw [hR.frm] at k1
  rw [hR.dst] at k2
  exact ⟨b, off, x, _, _, _, _, _, _, _, _, _, eA, hxj, k0, k1, k2, k3, k4, k5, (sl_of_own hR.path (by decide) (by omega)).2, (sl_of_own hR.points (by decide) (by omega)).2, (sl_of_own hR.flank (by decide) (by omega)).2⟩
theorem ParseG_calls (w : World) (hT : Tabs w) (s : ByteArray) (hs : s.size ≤ 1000000) (L : Lay) (n : Nat) (er : Int) (hp : parseM s = (L, n, er)) (hF : FewR L) : Calls Tryd.prog 15 #[.string s] w (ParseG w L n er) :=
  (Parse_calls w hT s hs).mono (by
    rintro e w' ⟨v1, v2, v3, v4, cs, rfl, hL, l1, l2, l3, l4, hb⟩
    rw [hp] at hL l1 l2 l3 l4 ⊢
    dsimp only at hL l1 l2 l3 l4
    obtain ⟨A1, c1, rfl⟩ := row_form hL.secs
    obtain ⟨A2, c2, rfl⟩ := row_form hL.pts
    obtain ⟨A3, c3, rfl⟩ := row_form hL.sigs
    obtain ⟨A4, c4, rfl⟩ := row_form hL.rtes
    exact ⟨A1, _, c1, A2, _, c2, A3, _, c3, A4, _, c4, rfl, ⟨(sl_of_own hL.secs (by decide) (by omega)).2, (sl_of_own hL.pts (by decide) (by omega)).2, (sl_of_own hL.sigs (by decide) (by omega)).2, rts_g hL.rtes hL.rel (by omega) hF⟩, hb⟩)
theorem plan_few {L : Lay} (h : PlanIn L) : FewR L := fun x hx => by
  have hr := h.rts x hx
  have := hr.len
  have := hr.pl
  have := hr.fl
  exact ⟨by omega, by omega, by omega⟩
end Go.Proofs.YtmdnmiiggkfnfaaDoor

/- Remarks and more blanks: plain. -/
set_option linter.unusedVariables false
set_option linter.unusedSimpArgs false
namespace Go.Proofs.YtmdnmiiggkfnfaaDoor
open Go.RowKit

/-- A name is short. -/
theorem rn_four : ∀ (n : Nat) (l : List Nat), l.length ≤ n → l.length ≤ 4 * (rn l).length
  | 0, l, h => by omega
  | n + 1, l, h => by
    by_cases hl : l = []
    · subst hl; simp
    · obtain ⟨h1, h2, h3⟩ := dec_width hl
      have h4 := rn_four n (l.drop (decL l).2) (by rw [List.length_drop]; omega)
      rw [rn_cons hl, List.length_cons]
      rw [List.length_drop] at h4
      omega
theorem nm_size {t : ByteArray} (h : nmB t = true) : t.size ≤ 32 := by
  have h1 := (name_whole (nm_name h).1).2.2.2
  have h2 := rn_four _ (byt t) (Nat.le_refl _)
  rw [byt_len] at h2
  omega
theorem plan_nm {L : Lay} (h : PlanIn L) : NmOk L 32 :=
  ⟨fun x hx => nm_size (h.nm.secs.1 x hx), fun x hx => nm_size (h.nm.pts.1 _ (List.mem_map.2 ⟨x, hx, rfl⟩)), fun x hx => nm_size (h.nm.sigs.1 x hx), fun x hx => nm_size (h.rn.1 _ (List.mem_map.2 ⟨x, hx, rfl⟩))⟩
theorem ptNm_s {L : Lay} (h : NmOk L 32) (i : Int) : (ptNm L i).size ≤ 32 := by
  unfold ptNm
  rw [List.getD_eq_getElem?_getD]
  cases hx : L.pts[i.toNat]? with
  | none => exact Nat.zero_le _
  | some x => exact h.pts x (List.mem_of_getElem? hx)
theorem wants_s {L : Lay} (h : NmOk L 32) (ns : List Need) : (wantsR L ns).size ≤ ns.length * 34 := by
  have := foldl_bound (f := fun s (x : Need) => ((s ++ ⟨#[32]⟩) ++ ptNm L x.p) ++ signB x.r) (c := 34) ns (fun x _ s => by
    have := ptNm_s h x.p
    simp only [ByteArray.size_append, signB_size]
    have e1 : (⟨#[32]⟩ : ByteArray).size = 1 := rfl
    omega) ⟨#[]⟩
  have e0 : (⟨#[]⟩ : ByteArray).size = 0 := rfl
  unfold wantsR
  omega
theorem wn_s {L : Lay} (h : NmOk L 32) (word s : ByteArray) (hw : word.size ≤ 10) (ns : List Need) (hn : ns.length ≤ 5) : (wn L word s ns).size ≤ s.size + 200 := by
  have := wants_s h ns
  unfold wn
  split
  · omega
  · simp only [ByteArray.size_append]
    omega
theorem print_s {L : Lay} (h : PlanIn L) : (printR L).size ≤ 50000 := by
  have hs := plan_nm h
  obtain ⟨s1, s2, s3, s4⟩ := h.sz
  have e0 : (⟨#[]⟩ : ByteArray).size = 0 := rfl
  have e10 : (⟨#[10]⟩ : ByteArray).size = 1 := rfl
  have e32 : (⟨#[32]⟩ : ByteArray).size = 1 := rfl
  have k1 := foldl_bound (f := secL) (c := 100) L.secs (fun x hx s => by
    have := hs.secs x hx
    have e : (⟨#[115, 101, 99, 116, 105, 111, 110, 32]⟩ : ByteArray).size = 8 := rfl
    simp only [secL, ByteArray.size_append]
    omega) ⟨#[]⟩
  have k2 := foldl_bound (f := sigL) (c := 100) L.sigs (fun x hx s => by
    have := hs.sigs x hx
    have e : (⟨#[115, 105, 103, 110, 97, 108, 32]⟩ : ByteArray).size = 7 := rfl
    simp only [sigL, ByteArray.size_append]
    omega) (px1 L)
  have k3 := foldl_bound (f := ptL L) (c := 200) L.pts (fun x hx s => by
    have := hs.pts x hx
    have h2 : (secNm L x.sec).size ≤ 32 := getD_size hs.secs _
    have e : (⟨#[112, 111, 105, 110, 116, 32]⟩ : ByteArray).size = 6 := rfl
    have e' : (⟨#[32, 105, 110, 32]⟩ : ByteArray).size = 4 := rfl
    simp only [ptL, ByteArray.size_append]
    omega) (px2 L)
  have k4 := foldl_bound (f := rtL L) (c := 1000) L.rtes (fun x hx s => by
    have h0 := hs.rtes x hx
    have hr := h.rts x hx
    have h1 : (rt1 L s x).size ≤ s.size + 200 := by
      have h1 : (sigNm L x.frm).size ≤ 32 := getD_size hs.sigs _
      have h2 : (sigNm L x.dest).size ≤ 32 := getD_size hs.sigs _
      have e1 : (⟨#[114, 111, 117, 116, 101, 32]⟩ : ByteArray).size = 6 := rfl
      have e2 : (⟨#[32, 102, 114, 111, 109, 32]⟩ : ByteArray).size = 6 := rfl
      have e3 : (⟨#[32, 116, 111, 32]⟩ : ByteArray).size = 4 := rfl
      have e4 : (⟨#[32, 118, 105, 97]⟩ : ByteArray).size = 4 := rfl
      simp only [rt1, ByteArray.size_append]
      omega
    have h2 := foldl_bound (f := viaS L) (c := 33) x.path (fun i _ t => by
      have h1 : (secNm L i).size ≤ 32 := getD_size hs.secs _
      simp only [viaS, ByteArray.size_append]
      omega) (rt1 L s x)
    have h3 := wn_s hs setB (x.path.foldl (viaS L) (rt1 L s x)) (by decide) x.points hr.pl
    have h4 := wn_s hs flkB (wn L setB (x.path.foldl (viaS L) (rt1 L s x)) x.points) (by decide) x.flank hr.fl
    have h5 := hr.len.2
    unfold rtL
    rw [ByteArray.size_append]
    omega) (px3 L)
  have p1 : (px1 L).size ≤ 1000 := by unfold px1; omega
  have p2 : (px2 L).size ≤ 1600 := by unfold px2; omega
  have p3 : (px3 L).size ≤ 2600 := by unfold px3; omega
  unfold printR
  omega
/-- What a byte becomes: a blank between two words, an end of line. -/
def remF (o t : Bool) (c : Nat) : List Nat :=
  if c = 32 ∧ o = true then [32, 9, 32] else if c = 10 then (if t then [32, 35, 32, 255, 32, 115, 101, 116, 10, 9, 10] else [32, 35, 32, 255, 32, 115, 101, 116, 10]) else [c]
theorem remF_len (o t : Bool) (c : Nat) : (remF o t c).length ≤ 11 := by
  unfold remF
  split
  · simp
  · split
    · cases t <;> simp
    · simp
theorem rem_len (o t : Bool) (l : List Nat) : (l.flatMap (remF o t)).length ≤ 11 * l.length := by
  induction l with
  | nil => simp
  | cons c r ih =>
    have := remF_len o t c
    rw [List.flatMap_cons, List.length_append, List.length_cons]
    omega
theorem rem_take (o t : Bool) (l : List Nat) (k : Nat) (h : k < l.length) : (l.take (k + 1)).flatMap (remF o t) = (l.take k).flatMap (remF o t) ++ remF o t (l.getD k 0) := by
  have hx : l[k]? = some (l.getD k 0) := by rw [List.getD_eq_getElem?_getD, List.getElem?_eq_getElem h]; rfl
  rw [take_more hx, List.flatMap_append]
  simp
theorem rem_word (o t : Bool) {l : List Nat} (h1 : 32 ∉ l) (h2 : 10 ∉ l) : l.flatMap (remF o t) = l := by
  induction l with
  | nil => rfl
  | cons c r ih =>
    have c1 : c ≠ 32 := fun e => h1 (by rw [e]; simp)
    have c2 : c ≠ 10 := fun e => h2 (by rw [e]; simp)
    rw [List.flatMap_cons, ih (fun hm => h1 (List.mem_cons_of_mem _ hm)) (fun hm => h2 (List.mem_cons_of_mem _ hm))]
    unfold remF
    rw [if_neg (fun h => c1 h.1), if_neg c2]
    rfl
def sepO (o : Bool) : List Nat := if o then [32, 9, 32] else [32]
theorem rem_sep (o t : Bool) : [32].flatMap (remF o t) = sepO o := by cases o <;> cases t <;> rfl
theorem rem_line (o t : Bool) : ∀ (ts : List ByteArray), (∀ x ∈ ts, 32 ∉ byt x ∧ 10 ∉ byt x) → (lineB [32] [] ts).flatMap (remF o t) = lineB (sepO o) [] ts
  | [], _ => rfl
  | [x], h => by
    have hx := h x (by simp)
    show (byt x ++ []).flatMap (remF o t) = byt x ++ []
    rw [List.append_nil, rem_word o t hx.1 hx.2]
  | x :: y :: r, h => by
    have hx := h x (by simp)
    show (byt x ++ ([32] ++ lineB [32] [] (y :: r))).flatMap (remF o t) = byt x ++ (sepO o ++ lineB (sepO o) [] (y :: r))
    rw [List.flatMap_append, List.flatMap_append, rem_word o t hx.1 hx.2, rem_sep, rem_line o t (y :: r) (fun z hz => h z (List.mem_cons_of_mem _ hz))]
theorem line_tr (sep a b : List Nat) : ∀ ts : List ByteArray, lineB sep a ts ++ b = lineB sep (a ++ b) ts
  | [] => rfl
  | [x] => by show (byt x ++ a) ++ b = byt x ++ (a ++ b); rw [List.append_assoc]
  | x :: y :: r => by
    show (byt x ++ (sep ++ lineB sep a (y :: r))) ++ b = byt x ++ (sep ++ lineB sep (a ++ b) (y :: r))
    rw [← line_tr sep a b (y :: r), List.append_assoc, List.append_assoc]
def remR : List Nat := [35, 32, 255, 32, 115, 101, 116]
def remL (o : Bool) (ts : List ByteArray) : List Nat := lineB (sepO o) [32] ts ++ remR
def remLs (o t : Bool) (ts : List ByteArray) : List (List Nat) := if t then [remL o ts, [9]] else [remL o ts]
theorem rem_end (o t : Bool) (ts : List ByteArray) (h : ∀ x ∈ ts, 32 ∉ byt x ∧ 10 ∉ byt x) : (lineB [32] [] ts ++ [10]).flatMap (remF o t) = joinNl (remLs o t ts) := by
  rw [List.flatMap_append, rem_line o t ts h]
  unfold remLs remL joinNl
  rw [show lineB (sepO o) [32] ts = lineB (sepO o) [] ts ++ [32] from (line_tr (sepO o) [] [32] ts).symm]
  unfold remR
  cases t
  · simp [remF]
  · simp [remF]
theorem rem_all (o t : Bool) : ∀ (tss : List (List ByteArray)), (∀ ts ∈ tss, ∀ x ∈ ts, 32 ∉ byt x ∧ 10 ∉ byt x) → (joinNl (tss.map (lineB [32] []))).flatMap (remF o t) = joinNl ((tss.map (remLs o t)).flatten)
  | [], _ => rfl
  | ts :: r, h => by
    have e1 : joinNl ((ts :: r).map (lineB [32] [])) = (lineB [32] [] ts ++ [10]) ++ joinNl (r.map (lineB [32] [])) := by simp [joinNl]
    have e2 : joinNl (((ts :: r).map (remLs o t)).flatten) = joinNl (remLs o t ts) ++ joinNl ((r.map (remLs o t)).flatten) := by simp [joinNl]
    rw [e1, e2, List.flatMap_append, rem_end o t ts (h ts (by simp)), rem_all o t r (fun u hu => h u (List.mem_cons_of_mem _ hu))]
theorem kw_no {t : ByteArray} (h : t ∈ [secW, sigW, ptW, rtW, inW, fromW, toW, viaW, setT, flankT]) : 32 ∉ byt t := by
  simp only [List.mem_cons, List.not_mem_nil, or_false] at h
  rcases h with rfl | rfl | rfl | rfl | rfl | rfl | rfl | rfl | rfl | rfl <;> decide +kernel
theorem nm_no {t : ByteArray} (h : nmB t = true) : 32 ∉ byt t := name_no (nm_name h).1 (by decide) (by decide) (by decide)
theorem need_no {t : ByteArray} (h : nmB t = true) (r : Bool) : 32 ∉ byt (t ++ (if r then ⟨#[45]⟩ else ⟨#[43]⟩)) := by
  rw [byt_app3]
  intro hm
  rcases List.mem_append.1 hm with h' | h'
  · exact nm_no h h'
  · cases r <;> revert h' <;> decide
theorem wants_no {L : Lay} (h : NmAll L) {ns : List Need} (hn : InPts L ns) {kw : ByteArray} (hk : 32 ∉ byt kw) : ∀ t ∈ wantsW kw (ns.map (needP L)), 32 ∉ byt t := by
  intro t ht
  unfold wantsW at ht
  split at ht
  · cases ht
  · rcases List.mem_cons.1 ht with rfl | ht
    · exact hk
    · obtain ⟨n, hm, rfl⟩ := List.mem_map.1 ht
      exact need_no ((needs_back h hn).2.2 n hm) n.2
theorem toks_no {L : Lay} (h : PlanIn L) : ∀ ts ∈ toks L, ∀ t ∈ ts, 32 ∉ byt t := by
  intro ts hts t ht
  unfold toks at hts
  rcases List.mem_append.1 hts with hts | hts
  · obtain ⟨s, hs, rfl⟩ := List.mem_map.1 hts
    simp only [List.mem_cons, List.not_mem_nil, or_false] at ht
    rcases ht with rfl | rfl
    · exact kw_no (by simp)
    · exact nm_no (h.nm.secs.1 _ hs)
  rcases List.mem_append.1 hts with hts | hts
  · obtain ⟨s, hs, rfl⟩ := List.mem_map.1 hts
    simp only [List.mem_cons, List.not_mem_nil, or_false] at ht
    rcases ht with rfl | rfl
    · exact kw_no (by simp)
    · exact nm_no (h.nm.sigs.1 _ hs)
  rcases List.mem_append.1 hts with hts | hts
  · obtain ⟨s, hs, rfl⟩ := List.mem_map.1 hts
    unfold ptToks at ht
    simp only [List.mem_cons, List.not_mem_nil, or_false] at ht
    rcases ht with rfl | rfl | rfl | rfl
    · exact kw_no (by simp)
    · exact nm_no (h.nm.pts.1 _ (List.mem_map.2 ⟨s, hs, rfl⟩))
    · exact kw_no (by simp)
    · exact nm_no (h.nm.secs.1 _ (idx_at h.nm.secs.2 (h.pts s hs).1 (h.pts s hs).2).2)
  · obtain ⟨x, hx, rfl⟩ := List.mem_map.1 hts
    have hr := h.rts x hx
    unfold rtToks at ht
    simp only [List.mem_cons, List.mem_append] at ht
    rcases ht with rfl | rfl | rfl | rfl | rfl | rfl | rfl | ht | ht | ht
    · exact kw_no (by simp)
    · exact nm_no hr.nm
    · exact kw_no (by simp)
    · exact nm_no (h.nm.sigs.1 _ (idx_at h.nm.sigs.2 hr.frm.1 hr.frm.2).2)
    · exact kw_no (by simp)
    · exact nm_no (h.nm.sigs.1 _ (idx_at h.nm.sigs.2 hr.dest.1 hr.dest.2).2)
    · exact kw_no (by simp)
    · obtain ⟨i, hi, rfl⟩ := List.mem_map.1 ht
      exact nm_no (h.nm.secs.1 _ (idx_at h.nm.secs.2 (hr.path i hi).1 (hr.path i hi).2).2)
    · exact wants_no h.nm hr.points (kw_no (by simp)) t ht
    · exact wants_no h.nm hr.flank (kw_no (by simp)) t ht
def mulT (t : Bool) : Nat := if t then 2 else 1
theorem read_tab (L : Lay) : readM L [9] = (L, 0) := by
  have h1 : (wordsL (bare [9])).2 = -1 := by decide +kernel
  have h2 : (wordsL (bare [9])).1.map Prod.fst = [] := by decide +kernel
  unfold readM
  rw [h1, if_neg (by decide), h2]
  rfl
theorem sep_blank (o : Bool) : blankB (sepO o) ∧ sepO o ≠ [] := by
  cases o
  · exact ⟨fun c hc => .inl (by simpa [sepO] using hc), by decide⟩
  · refine ⟨fun c hc => ?_, by decide⟩
    simp only [sepO, if_true, List.mem_cons, List.not_mem_nil, or_false] at hc
    omega
theorem read_rem (o : Bool) {ts : List ByteArray} (h : ∀ t ∈ ts, GoodT t) (L : Lay) : readM L (remL o ts) = readT L ts :=
  read_line (sep_blank o).1 (sep_blank o).2 (fun c hc => .inl (by simpa using hc)) (.inr ⟨_, rfl⟩) h L
theorem rem_steps {L : Lay} (o t : Bool) : ∀ (tss : List (List ByteArray)) (k n : Nat), (∀ j ts, tss[j]? = some ts → readT (preL L (k + j)) ts = (preL L (k + j + 1), 0) ∧ ∀ x ∈ ts, GoodT x) → n + tss.length * mulT t ≤ 60 →
    parseGo (preL L k) n ((tss.map (remLs o t)).flatten) = (preL L (k + tss.length), n + tss.length * mulT t, 0)
  | [], k, n, _, _ => by simp [parseGo]
  | ts :: r, k, n, h, hn => by
    obtain ⟨h0, hg⟩ := h 0 ts rfl
    rw [Nat.add_zero] at h0
    have ih := fun m hm => rem_steps (L := L) o t r (k + 1) m (fun j u hu => by
      have := h (j + 1) u hu
      rw [show k + (j + 1) = k + 1 + j by omega] at this
      exact this) hm
    rw [List.length_cons] at hn ⊢
    rw [List.map_cons, List.flatten_cons]
    cases t with
    | false =>
      simp only [mulT, Nat.mul_one, Bool.false_eq_true, if_false] at hn ih ⊢
      show parseGo (preL L k) n (remL o ts :: _) = _
      rw [parseGo, if_neg (by omega), read_rem o hg, h0, if_neg (by simp)]
      show parseGo (preL L (k + 1)) (n + 1) ((r.map (remLs o false)).flatten) = _
      rw [ih (n + 1) (by omega)]
      rw [show k + 1 + r.length = k + (r.length + 1) by omega, show n + 1 + r.length = n + (r.length + 1) by omega]
    | true =>
      simp only [mulT, if_true] at hn ih ⊢
      show parseGo (preL L k) n (remL o ts :: [9] :: _) = _
      rw [parseGo, if_neg (by omega), read_rem o hg, h0, if_neg (by simp)]
      show parseGo (preL L (k + 1)) (n + 1) ([9] :: _) = _
      rw [parseGo, if_neg (by omega), read_tab, if_neg (by simp)]
      show parseGo (preL L (k + 1)) (n + 1 + 1) ((r.map (remLs o true)).flatten) = _
      rw [ih (n + 1 + 1) (by omega)]
      rw [show k + 1 + r.length = k + (r.length + 1) by omega, show n + 1 + 1 + r.length * 2 = n + (r.length + 1) * 2 by omega]
theorem rem_no (o t : Bool) {ts : List ByteArray} (h : ∀ x ∈ ts, GoodT x) : ∀ l ∈ remLs o t ts, 10 ∉ l := by
  have h1 : 10 ∉ remL o ts := by
    unfold remL
    intro hm
    rcases List.mem_append.1 hm with hm | hm
    · exact good_line 10 (blank_no (sep_blank o).1 (by decide) (by decide)) (by decide) ts (fun x hx => (h x hx).nl) hm
    · revert hm; decide
  intro l hl
  unfold remLs at hl
  cases t
  · simp only [Bool.false_eq_true, if_false, List.mem_cons, List.not_mem_nil, or_false] at hl
    rw [hl]; exact h1
  · simp only [if_true, List.mem_cons, List.not_mem_nil, or_false] at hl
    rcases hl with rfl | rfl
    · exact h1
    · decide
/-- The law: with remarks, empty lines and more blanks the layout is read as it was. -/
theorem parse_rem {L : Lay} (h : PlanIn L) (o t : Bool) {s : ByteArray} (hs : byt s = (byt (printR L)).flatMap (remF o t)) : parseM s = (L, (toks L).length * mulT t, 0) := by
  obtain ⟨s1, s2, s3, s4⟩ := h.sz
  have hl := toks_len (L := L)
  have e : byt s = joinNl (((toks L).map (remLs o t)).flatten) := by
    rw [hs, printR_lines]
    exact rem_all o t (toks L) (fun ts hts x hx => ⟨toks_no h ts hts x hx, (toks_good h ts hts x hx).nl⟩)
  rw [parseM_lines e (fun l hl => by
    obtain ⟨ls, hls, hm⟩ := List.mem_flatten.1 hl
    obtain ⟨ts, hts, rfl⟩ := List.mem_map.1 hls
    exact rem_no o t (toks_good h ts hts) l hm)]
  have h0 : preL L 0 = lay0 := by unfold preL lay0; simp
  rw [← h0]
  have := rem_steps (L := L) o t (toks L) 0 0 (fun j ts hj => ⟨by rw [Nat.zero_add]; exact read_step h hj, toks_good h ts (List.mem_of_getElem? hj)⟩) (by unfold mulT; cases t <;> simp <;> omega)
  rw [this, Nat.zero_add, Nat.zero_add, preL_all]
end Go.Proofs.YtmdnmiiggkfnfaaDoor

/- Walk of PlanNames. -/
set_option linter.unusedVariables false
set_option linter.unusedSimpArgs false
namespace Go.Proofs.YtmdnmiiggkfnfaaDoor
open Go.RowKit

theorem nmL_size {t : ByteArray} (h : nameL (byt t) = true) : t.size ≤ 32 := by
  have h1 := (name_whole h).2.2.2
  have h2 := rn_four _ (byt t) (Nat.le_refl _)
  rw [byt_len] at h2
  omega
theorem linesL_last : ∀ {l : List Nat}, 10 ∉ l → l ≠ [] → linesL l = [l]
  | [], _, h => absurd rfl h
  | [c], h, _ => by
    have hc : c ≠ 10 := fun e => h (by rw [e]; simp)
    simp [linesL, hc]
  | c :: d :: r, h, _ => by
    have hc : c ≠ 10 := fun e => h (by rw [e]; simp)
    rw [linesL, if_neg hc, linesL_last (l := d :: r) (fun hm => h (List.mem_cons_of_mem _ hm)) (by simp)]
def nmT (a b : ByteArray) : ByteArray := ((⟨#[115, 101, 99, 116, 105, 111, 110, 32]⟩ ++ a) ++ ⟨#[10, 115, 101, 99, 116, 105, 111, 110, 32]⟩) ++ b
def lnA (a : ByteArray) : List Nat := lineB [32] [] [secW, a]
theorem nmT_byt (a b : ByteArray) : byt (nmT a b) = lnA a ++ 10 :: lnA b := by
  unfold nmT lnA
  simp only [byt_app3]
  rw [line_tail, line_tail]
  have k1 : byt (⟨#[115, 101, 99, 116, 105, 111, 110, 32]⟩ : ByteArray) = byt secW ++ [32] := by decide
  have k2 : byt (⟨#[10, 115, 101, 99, 116, 105, 111, 110, 32]⟩ : ByteArray) = 10 :: (byt secW ++ [32]) := by decide
  rw [k1, k2]
  simp [tailB]
theorem good_two {a : ByteArray} (h : nameL (byt a) = true) : ∀ t ∈ [secW, a], GoodT t := by
  intro t ht
  simp only [List.mem_cons, List.not_mem_nil, or_false] at ht
  rcases ht with rfl | rfl
  · exact kw_name (by simp)
  · exact good_name h
theorem lnA_no {a : ByteArray} (h : nameL (byt a) = true) : 10 ∉ lnA a := good_line 10 (by decide) (by decide) _ (fun t ht => (good_two h t ht).nl)
theorem lnA_ne (a : ByteArray) : lnA a ≠ [] := by
  intro e
  have : lnA a = byt secW ++ tailB [a] := line_tail _ _
  rw [e] at this
  have h2 := congrArg List.length this
  rw [List.length_append] at h2
  have h3 : (byt secW).length = 7 := by decide
  simp only [List.length_nil] at h2
  omega
theorem read_lnA {a : ByteArray} (h : nameL (byt a) = true) (L : Lay) : readM L (lnA a) = readT L [secW, a] := by
  have := read_line (sep := [32]) (tr := []) (rem := []) (fun c hc => .inl (by simpa using hc)) (by simp) (fun c hc => by cases hc) (.inl rfl) (good_two h) L
  rw [List.append_nil] at this
  exact this
theorem parse_nmT {a b : ByteArray} (ha : nameL (byt a) = true) (hb : nameL (byt b) = true) : parseM (nmT a b) = parseGo lay0 0 [lnA a, lnA b] := by
  unfold parseM
  rw [nmT_byt, linesL_line (lnA_no ha), linesL_last (lnA_no hb) (lnA_ne b)]
theorem read_bad {L : Lay} {s : ByteArray} (h : nmB s = false) : readT L [secW, s] = (L, 3) := by
  have e0 : Rd.next ⟨[secW, s], 0⟩ = (secW, ⟨[s], 0⟩) := rfl
  have e2 : Rd.next ⟨[s], 0⟩ = (s, ⟨[], 0⟩) := rfl
  have e1 : Rd.name ⟨[s], 0⟩ = (s, ⟨[], 3⟩) := by
    unfold Rd.name
    rw [e2]
    dsimp only
    rw [if_pos ⟨rfl, h⟩]
    rfl
  have e : Rd.take ⟨[secW, s], 0⟩ = (⟨secW, [s], [], [], []⟩, ⟨[], 3⟩) := by
    unfold Rd.take
    dsimp only
    rw [e0]
    dsimp only
    rw [e1, if_pos rfl]
    rfl
  unfold readT
  rw [if_neg (by simp), e, if_pos (by simp)]
theorem read_dup {L : Lay} {s : ByteArray} (h : nmB s = true) (hn : s ∈ L.secs) : readT L [secW, s] = (L, 4) := by
  have e : Rd.take ⟨[secW, s], 0⟩ = (⟨secW, [s], [], [], []⟩, ⟨[], 0⟩) := by
    unfold Rd.take
    dsimp only
    have e0 : Rd.next ⟨[secW, s], 0⟩ = (secW, ⟨[s], 0⟩) := rfl
    rw [e0]
    dsimp only
    rw [name_at h, if_pos rfl]
    rfl
  unfold readT
  rw [if_neg (by simp), e, if_neg (by simp)]
  unfold putsM
  dsimp only
  rw [if_pos rfl]
  have e1 : nth [s] 0 = s := rfl
  have e2 : newE L.secs s 0 = 4 := by unfold newE; rw [if_pos ((Lib.containsS_iff _ _).2 hn)]
  have e3 : fitE (L.secs.length + 1) 10 4 = 4 := by unfold fitE or0; rw [if_neg (by decide)]
  rw [e1, e2, e3, if_neg (by decide)]
/-- Two names, one a line. -/
theorem parse_two {a b : ByteArray} (ha : nameL (byt a) = true) (hb : nameL (byt b) = true) :
    (nmB a = false → parseM (nmT a b) = (lay0, 1, 3)) ∧ (nmB a = true → nmB b = false → parseM (nmT a b) = (lay0, 2, 3)) ∧ (nmB a = true → a = b → parseM (nmT a b) = (lay0, 2, 4)) ∧
    (nmB a = true → nmB b = true → a ≠ b → parseM (nmT a b) = (⟨[a, b], [], [], []⟩, 2, 0)) := by
  rw [parse_nmT ha hb]
  have h1 : nmB a = true → readM lay0 (lnA a) = (⟨[a], [], [], []⟩, 0) := fun h => by
    rw [read_lnA ha, read_sec h (by simp [lay0]) (by simp [lay0])]
    rfl
  refine ⟨fun h => ?_, fun h k => ?_, fun h k => ?_, fun h k n => ?_⟩
  · rw [parseGo, if_neg (by simp), read_lnA ha, read_bad h, if_pos (by simp)]
  · rw [parseGo, if_neg (by simp), h1 h, if_neg (by simp), parseGo, if_neg (by simp), read_lnA hb, read_bad k, if_pos (by simp)]
  · subst k
    rw [parseGo, if_neg (by simp), h1 h, if_neg (by simp), parseGo, if_neg (by simp), read_lnA ha, read_dup h (by simp), if_pos (by simp)]
  · rw [parseGo, if_neg (by simp), h1 h, if_neg (by simp), parseGo, if_neg (by simp), read_lnA hb, read_sec k (by simp; exact fun e => n e.symm) (by simp), if_neg (by simp)]
    rfl
theorem two_in {a b : ByteArray} (ha : nmB a = true) (hb : nmB b = true) (hn : a ≠ b) : PlanIn ⟨[a, b], [], [], []⟩ := by
  refine ⟨⟨⟨fun x hx => ?_, ?_⟩, ⟨?_, ?_⟩, ⟨?_, ?_⟩⟩, ⟨?_, ?_⟩, ?_, ?_, ?_⟩
  · simp only [List.mem_cons, List.not_mem_nil, or_false] at hx
    rcases hx with rfl | rfl <;> assumption
  · simp [hn]
  · intro x hx; cases hx
  · simp
  · intro x hx; simp [ptNames] at hx
  · simp [ptNames]
  · intro x hx; simp [rtNames] at hx
  · simp [rtNames]
  · simp
  · intro x hx; cases hx
  · intro x hx; cases hx
theorem two_print (a b : ByteArray) : printR ⟨[a, b], [], [], []⟩ = nmT a b ++ ⟨#[10]⟩ := by
  refine byt_inj ?_
  rw [printR_lines, byt_app3, nmT_byt]
  unfold linesR toks joinNl lnA
  simp [byt]
theorem nm_mono {L : Lay} {m n : Nat} (h : NmOk L m) (hm : m ≤ n) : NmOk L n :=
  ⟨fun x hx => Nat.le_trans (h.secs x hx) hm, fun x hx => Nat.le_trans (h.pts x hx) hm, fun x hx => Nat.le_trans (h.sigs x hx) hm, fun x hx => Nat.le_trans (h.rtes x hx) hm⟩
theorem lay_of_g {w : World} {L : Lay} {A1 A2 A3 A4 : Option Addr} {n1 c1 n2 c2 n3 c3 n4 c4 : Nat} (h : LayG w L A1 A2 A3 A4 n1 c1 n2 c2 n3 c3 n4 c4) (hr : L.rtes = []) : LayV w L A1 A2 A3 A4 n1 c1 n2 c2 n3 c3 n4 c4 := by
  have hl := h.rtes.len
  rw [hr, List.length_nil] at hl
  exact ⟨h.secs, h.pts, h.sigs, ⟨⟨h.rtes.len, h.rtes.sz, fun h0 => absurd h0 (by omega)⟩, h.rtes.le, h.rtes.cap⟩⟩
set_option maxRecDepth 20000 in
set_option maxHeartbeats 8000000 in
theorem names3_calls (s t : ByteArray) (w : World) (hT : Tabs w) (hs : s.size ≤ 1048576) (ht : t.size ≤ 1048576) :
    Calls Tryd.prog 10 #[.string s, .string t] w fun e w' => e = .returned (.bool true) ∧ Below w.heap.size w w' := by
  have HT := Lib.hid hT
  have KA := Lib.hid (RefIsName_calls w hT s (by omega))
  have KB := Lib.hid (fun (U : World) (h : Below w.heap.size w U) => RefIsName_calls U (HT.out.stay h) t (by omega))
  have KK := Lib.hid (fun (U : World) (h : Below w.heap.size w U) => known3_calls U (HT.out.stay h))
  clear hT
  cases ha : nameL (byt s) with
  | false =>
    rw [ha] at KA
    clear ha
    go_enter Tryd.func10, Tryd.ntmps10
    go_wp2_with (first | (go_at_call 20; (with_reducible refine KA.out.mono ?_); rintro en w1 ⟨rfl, hb1⟩; have H1 := Lib.hid hb1; clear hb1) | fail)
    go_ret
    exact ⟨rfl, H1.out⟩
  | true =>
  rw [ha] at KA
  cases hb : nameL (byt t) with
  | false =>
    rw [hb] at KB
    clear ha hb
    go_enter Tryd.func10, Tryd.ntmps10
    go_wp2_with (first | (go_at_call 20; (with_reducible refine KA.out.mono ?_); rintro en w1 ⟨rfl, hb1⟩; have H1 := Lib.hid hb1; clear hb1) | (go_at_call 20; (with_reducible refine (KB.out _ H1.out).mono ?_); rintro en w2 ⟨rfl, hb2⟩; have H2 := Lib.hid (below_more H1.out hb2); clear hb2) | fail)
    go_ret
    exact ⟨rfl, H2.out⟩
  | true =>
  rw [hb] at KB
  have hsa := nmL_size ha
  have hsb := nmL_size hb
  have HP := Lib.hid (parse_two ha hb)
  clear ha hb
  have e8 : (⟨#[115, 101, 99, 116, 105, 111, 110, 32]⟩ : ByteArray).size = 8 := rfl
  have e9 : (⟨#[10, 115, 101, 99, 116, 105, 111, 110, 32]⟩ : ByteArray).size = 9 := rfl
  have e1 : (⟨#[10]⟩ : ByteArray).size = 1 := rfl
  have hz : (nmT s t).size ≤ 1000000 := by unfold nmT; simp only [ByteArray.size_append]; omega
  have KN1 := Lib.hid (fun (U : World) (h : Below w.heap.size w U) => RefName_calls U (HT.out.stay h) s (by omega))
  have KN2 := Lib.hid (fun (U : World) (h : Below w.heap.size w U) => RefName_calls U (HT.out.stay h) t (by omega))
  cases hx1 : nmB s with
  | false =>
    have KP : Hid (∀ U : World, Below w.heap.size w U → Calls Tryd.prog 15 #[.string (((⟨#[115, 101, 99, 116, 105, 111, 110, 32]⟩ ++ s) ++ ⟨#[10, 115, 101, 99, 116, 105, 111, 110, 32]⟩) ++ t)] U (ParseG U lay0 1 3)) := Lib.hid (fun U h => ParseG_calls U (HT.out.stay h) (nmT s t) hz _ _ _ (HP.out.1 hx1) (fun x hx => by cases hx))
    rw [hx1] at KN1
    clear hx1
    go_enter Tryd.func10, Tryd.ntmps10
    go_wp2_with (first | (go_at_call 20; (with_reducible refine KA.out.mono ?_); rintro en w1 ⟨rfl, hb1⟩; have H1 := Lib.hid hb1; clear hb1) | (go_at_call 20; (with_reducible refine (KB.out _ H1.out).mono ?_); rintro en w2 ⟨rfl, hb2⟩; have H2 := Lib.hid (below_more H1.out hb2); clear hb2) | (go_at_call 15; (with_reducible refine (KP.out _ H2.out).mono ?_); rintro en w3 ⟨B1, m1, d1, B2, m2, d2, B3, m3, d3, B4, m4, d4, rfl, hg3, hb3⟩; have hm : m1 = 0 := hg3.secs.len.symm; have hm1 : ((m1 : Int) == 0) = true := (by rw [hm]; rfl); clear hm; have hbn := below_new w3 (.cells #[.slice B1 m1 d1, .slice B2 m2 d2, .slice B3 m3 d3, .slice B4 m4 d4] 26); have hBN := Blk.new w3 #[.slice B1 m1 d1, .slice B2 m2 d2, .slice B3 m3 d3, .slice B4 m4 d4] 26 (0, 0); have y0 := hBN.cell 0; have y1 := hBN.cell 1; have y2 := hBN.cell 2; have y3 := hBN.cell 3; simp only [List.getElem?_toArray, List.getElem?_cons_zero, List.getElem?_cons_succ] at y0 y1 y2 y3; have H3 := Lib.hid (below_more (below_more H2.out hb3) hbn); have HG3 := Lib.hid (hg3.stay hbn); clear hb3 hg3 hBN) | (go_at_call 21; (with_reducible refine (KN1.out _ H3.out).mono ?_); rintro en w4 ⟨rfl, hb4⟩; (replace y0 := cell_stay hb4 y0); (replace y1 := cell_stay hb4 y1); (replace y2 := cell_stay hb4 y2); (replace y3 := cell_stay hb4 y3); have H4 := Lib.hid (below_more H3.out hb4); have HG4 := Lib.hid (HG3.out.stay hb4); clear hb4) | (go_at_call 16; (with_reducible refine (KK.out _ H4.out).mono ?_); rintro en w8 ⟨rfl, hb8⟩; have H8 := Lib.hid (below_more H4.out hb8); clear hb8) | fail)
    go_ret
    exact ⟨rfl, H8.out⟩
  | true =>
  cases hx2 : nmB t with
  | false =>
    have KP : Hid (∀ U : World, Below w.heap.size w U → Calls Tryd.prog 15 #[.string (((⟨#[115, 101, 99, 116, 105, 111, 110, 32]⟩ ++ s) ++ ⟨#[10, 115, 101, 99, 116, 105, 111, 110, 32]⟩) ++ t)] U (ParseG U lay0 2 3)) := Lib.hid (fun U h => ParseG_calls U (HT.out.stay h) (nmT s t) hz _ _ _ (HP.out.2.1 hx1 hx2) (fun x hx => by cases hx))
    rw [hx1] at KN1
    rw [hx2] at KN2
    clear hx1 hx2
    go_enter Tryd.func10, Tryd.ntmps10
    go_wp2_with (first | (go_at_call 20; (with_reducible refine KA.out.mono ?_); rintro en w1 ⟨rfl, hb1⟩; have H1 := Lib.hid hb1; clear hb1) | (go_at_call 20; (with_reducible refine (KB.out _ H1.out).mono ?_); rintro en w2 ⟨rfl, hb2⟩; have H2 := Lib.hid (below_more H1.out hb2); clear hb2) | (go_at_call 15; (with_reducible refine (KP.out _ H2.out).mono ?_); rintro en w3 ⟨B1, m1, d1, B2, m2, d2, B3, m3, d3, B4, m4, d4, rfl, hg3, hb3⟩; have hm : m1 = 0 := hg3.secs.len.symm; have hm1 : ((m1 : Int) == 0) = true := (by rw [hm]; rfl); clear hm; have hbn := below_new w3 (.cells #[.slice B1 m1 d1, .slice B2 m2 d2, .slice B3 m3 d3, .slice B4 m4 d4] 26); have hBN := Blk.new w3 #[.slice B1 m1 d1, .slice B2 m2 d2, .slice B3 m3 d3, .slice B4 m4 d4] 26 (0, 0); have y0 := hBN.cell 0; have y1 := hBN.cell 1; have y2 := hBN.cell 2; have y3 := hBN.cell 3; simp only [List.getElem?_toArray, List.getElem?_cons_zero, List.getElem?_cons_succ] at y0 y1 y2 y3; have H3 := Lib.hid (below_more (below_more H2.out hb3) hbn); have HG3 := Lib.hid (hg3.stay hbn); clear hb3 hg3 hBN) | (go_at_call 21; (with_reducible refine (KN1.out _ H3.out).mono ?_); rintro en w4 ⟨rfl, hb4⟩; (replace y0 := cell_stay hb4 y0); (replace y1 := cell_stay hb4 y1); (replace y2 := cell_stay hb4 y2); (replace y3 := cell_stay hb4 y3); have H4 := Lib.hid (below_more H3.out hb4); have HG4 := Lib.hid (HG3.out.stay hb4); clear hb4) | (go_at_call 21; (with_reducible refine (KN2.out _ H4.out).mono ?_); rintro en w5 ⟨rfl, hb5⟩; (replace y0 := cell_stay hb5 y0); (replace y1 := cell_stay hb5 y1); (replace y2 := cell_stay hb5 y2); (replace y3 := cell_stay hb5 y3); have H5 := Lib.hid (below_more H4.out hb5); have HG5 := Lib.hid (HG4.out.stay hb5); clear hb5) | (go_at_call 16; (with_reducible refine (KK.out _ H5.out).mono ?_); rintro en w8 ⟨rfl, hb8⟩; have H8 := Lib.hid (below_more H5.out hb8); clear hb8) | fail)
    go_ret
    exact ⟨rfl, H8.out⟩
  | true =>
  by_cases hst : s = t
  case pos =>
    have KP : Hid (∀ U : World, Below w.heap.size w U → Calls Tryd.prog 15 #[.string (((⟨#[115, 101, 99, 116, 105, 111, 110, 32]⟩ ++ s) ++ ⟨#[10, 115, 101, 99, 116, 105, 111, 110, 32]⟩) ++ t)] U (ParseG U lay0 2 4)) := Lib.hid (fun U h => ParseG_calls U (HT.out.stay h) (nmT s t) hz _ _ _ (HP.out.2.2.1 hx1 hst) (fun x hx => by cases hx))
    rw [hx1] at KN1
    rw [hx2] at KN2
    clear hx1 hx2
    have hq : (s.toList == t.toList) = true := by rw [str_eq]; exact decide_eq_true hst
    clear hst
    go_enter Tryd.func10, Tryd.ntmps10
    go_wp2_with (first | (go_at_call 20; (with_reducible refine KA.out.mono ?_); rintro en w1 ⟨rfl, hb1⟩; have H1 := Lib.hid hb1; clear hb1) | (go_at_call 20; (with_reducible refine (KB.out _ H1.out).mono ?_); rintro en w2 ⟨rfl, hb2⟩; have H2 := Lib.hid (below_more H1.out hb2); clear hb2) | (go_at_call 15; (with_reducible refine (KP.out _ H2.out).mono ?_); rintro en w3 ⟨B1, m1, d1, B2, m2, d2, B3, m3, d3, B4, m4, d4, rfl, hg3, hb3⟩; have hm : m1 = 0 := hg3.secs.len.symm; have hm1 : ((m1 : Int) == 0) = true := (by rw [hm]; rfl); clear hm; have hbn := below_new w3 (.cells #[.slice B1 m1 d1, .slice B2 m2 d2, .slice B3 m3 d3, .slice B4 m4 d4] 26); have hBN := Blk.new w3 #[.slice B1 m1 d1, .slice B2 m2 d2, .slice B3 m3 d3, .slice B4 m4 d4] 26 (0, 0); have y0 := hBN.cell 0; have y1 := hBN.cell 1; have y2 := hBN.cell 2; have y3 := hBN.cell 3; simp only [List.getElem?_toArray, List.getElem?_cons_zero, List.getElem?_cons_succ] at y0 y1 y2 y3; have H3 := Lib.hid (below_more (below_more H2.out hb3) hbn); have HG3 := Lib.hid (hg3.stay hbn); clear hb3 hg3 hBN) | (go_at_call 21; (with_reducible refine (KN1.out _ H3.out).mono ?_); rintro en w4 ⟨rfl, hb4⟩; (replace y0 := cell_stay hb4 y0); (replace y1 := cell_stay hb4 y1); (replace y2 := cell_stay hb4 y2); (replace y3 := cell_stay hb4 y3); have H4 := Lib.hid (below_more H3.out hb4); have HG4 := Lib.hid (HG3.out.stay hb4); clear hb4) | (go_at_call 21; (with_reducible refine (KN2.out _ H4.out).mono ?_); rintro en w5 ⟨rfl, hb5⟩; (replace y0 := cell_stay hb5 y0); (replace y1 := cell_stay hb5 y1); (replace y2 := cell_stay hb5 y2); (replace y3 := cell_stay hb5 y3); have H5 := Lib.hid (below_more H4.out hb5); have HG5 := Lib.hid (HG4.out.stay hb5); clear hb5) | (go_at_call 16; (with_reducible refine (KK.out _ H5.out).mono ?_); rintro en w8 ⟨rfl, hb8⟩; have H8 := Lib.hid (below_more H5.out hb8); clear hb8) | fail)
    go_ret
    exact ⟨rfl, H8.out⟩
  case neg =>
    have KP : Hid (∀ U : World, Below w.heap.size w U → Calls Tryd.prog 15 #[.string (((⟨#[115, 101, 99, 116, 105, 111, 110, 32]⟩ ++ s) ++ ⟨#[10, 115, 101, 99, 116, 105, 111, 110, 32]⟩) ++ t)] U (ParseG U ⟨[s, t], [], [], []⟩ 2 0)) := Lib.hid (fun U h => ParseG_calls U (HT.out.stay h) (nmT s t) hz _ _ _ (HP.out.2.2.2 hx1 hx2 hst) (fun x hx => by cases hx))
    have HIN := Lib.hid (two_in hx1 hx2 hst)
    have HPR := Lib.hid (two_print s t)
    rw [hx1] at KN1
    rw [hx2] at KN2
    clear hx1 hx2
    have hq : (s.toList == t.toList) = false := by rw [str_eq]; exact decide_eq_false hst
    clear hst
    have KPr : Hid (∀ (U : World) B1 m1 d1 B2 m2 d2 B3 m3 d3 B4 m4 d4, LayG U ⟨[s, t], [], [], []⟩ B1 B2 B3 B4 m1 d1 m2 d2 m3 d3 m4 d4 → Calls Tryd.prog 19 #[.agg #[.slice B1 m1 d1, .slice B2 m2 d2, .slice B3 m3 d3, .slice B4 m4 d4]] U fun e w' => e = .returned (.string ((((⟨#[115, 101, 99, 116, 105, 111, 110, 32]⟩ ++ s) ++ ⟨#[10, 115, 101, 99, 116, 105, 111, 110, 32]⟩) ++ t) ++ ⟨#[10]⟩)) ∧ Below U.heap.size U w') := Lib.hid (fun U B1 m1 d1 B2 m2 d2 B3 m3 d3 B4 m4 d4 hg => (PPrint_calls U (lay_of_g hg rfl) (in_nums HIN.out (nm_mono (plan_nm HIN.out) (by decide))) (plan_few HIN.out) (by have := print_s HIN.out; omega)).mono (fun e w' h => ⟨by rw [h.1, HPR.out]; rfl, h.2⟩))
    go_enter Tryd.func10, Tryd.ntmps10
    go_wp2_with (first | (go_at_call 20; (with_reducible refine KA.out.mono ?_); rintro en w1 ⟨rfl, hb1⟩; have H1 := Lib.hid hb1; clear hb1) | (go_at_call 20; (with_reducible refine (KB.out _ H1.out).mono ?_); rintro en w2 ⟨rfl, hb2⟩; have H2 := Lib.hid (below_more H1.out hb2); clear hb2) | (go_at_call 15; (with_reducible refine (KP.out _ H2.out).mono ?_); rintro en w3 ⟨B1, m1, d1, B2, m2, d2, B3, m3, d3, B4, m4, d4, rfl, hg3, hb3⟩; have hm : m1 = 2 := hg3.secs.len.symm; have hm1 : ((m1 : Int) == 2) = true := (by rw [hm]; rfl); have hm2 : 0 < m1 := (by omega); have hm3 : 1 < m1 := (by omega); have hmc := Nat.le_trans hg3.secs.le hg3.secs.cap; clear hm; obtain ⟨bb, off, z0, hA, hz0, x0⟩ := hg3.secs.str hm2; obtain ⟨bb2, off2, z1, hA2, hz1, x1⟩ := hg3.secs.str hm3; obtain rfl : s = z0 := Option.some.inj hz0; obtain rfl : t = z1 := Option.some.inj hz1; rw [hA] at hA2; injection hA2 with hA2; injection hA2 with h51 h52; subst h51 h52; subst hA; simp only [Nat.add_zero] at x0; clear hz0 hz1; have hbn := below_new w3 (.cells #[.slice (some ⟨bb, off, none⟩) m1 d1, .slice B2 m2 d2, .slice B3 m3 d3, .slice B4 m4 d4] 26); have hBN := Blk.new w3 #[.slice (some ⟨bb, off, none⟩) m1 d1, .slice B2 m2 d2, .slice B3 m3 d3, .slice B4 m4 d4] 26 (0, 0); have y0 := hBN.cell 0; have y1 := hBN.cell 1; have y2 := hBN.cell 2; have y3 := hBN.cell 3; simp only [List.getElem?_toArray, List.getElem?_cons_zero, List.getElem?_cons_succ] at y0 y1 y2 y3; have H3 := Lib.hid (below_more (below_more H2.out hb3) hbn); have HG3 := Lib.hid (hg3.stay hbn); (replace x0 := cell_stay hbn x0); (replace x1 := cell_stay hbn x1); clear hb3 hg3 hBN) | (go_at_call 21; (with_reducible refine (KN1.out _ H3.out).mono ?_); rintro en w4 ⟨rfl, hb4⟩; (replace y0 := cell_stay hb4 y0); (replace y1 := cell_stay hb4 y1); (replace y2 := cell_stay hb4 y2); (replace y3 := cell_stay hb4 y3); (replace x0 := cell_stay hb4 x0); (replace x1 := cell_stay hb4 x1); have H4 := Lib.hid (below_more H3.out hb4); have HG4 := Lib.hid (HG3.out.stay hb4); clear hb4) | (go_at_call 21; (with_reducible refine (KN2.out _ H4.out).mono ?_); rintro en w5 ⟨rfl, hb5⟩; (replace y0 := cell_stay hb5 y0); (replace y1 := cell_stay hb5 y1); (replace y2 := cell_stay hb5 y2); (replace y3 := cell_stay hb5 y3); (replace x0 := cell_stay hb5 x0); (replace x1 := cell_stay hb5 x1); have H5 := Lib.hid (below_more H4.out hb5); have HG5 := Lib.hid (HG4.out.stay hb5); clear hb5) | (go_at_call 19; (with_reducible refine (KPr.out _ _ _ _ _ _ _ _ _ _ _ _ _ HG5.out).mono ?_); rintro en w7 ⟨rfl, hb7⟩; have H7 := Lib.hid (below_more H5.out hb7); clear hb7) | (go_at_call 16; (with_reducible refine (KK.out _ H7.out).mono ?_); rintro en w8 ⟨rfl, hb8⟩; have H8 := Lib.hid (below_more H7.out hb8); clear hb8) | fail)
    go_ret
    exact ⟨rfl, H8.out⟩
end Go.Proofs.YtmdnmiiggkfnfaaDoor
