/- Plain Lean on the printed functions: what makes items valid: names, needs, numbers: the reference's test and the program's. -/
import Derived.Test.YtiopkeepldmlkaaDoorCRIPRINumS
set_option linter.unusedVariables false
set_option linter.unusedSimpArgs false
namespace Go.Proofs.YtiopkeepldmlkaaDoor.QRI
open Go Go.RowKit Go.Proofs.YtiopkeepldmlkaaDoorW.PrintWords Go.Proofs.YtiopkeepldmlkaaDoor.Plain
abbrev It := S49
abbrev bl (a b : ByteArray) : Prop := Op.bytesLess a.toList b.toList = true
abbrev nm (xs : List It) (i : Nat) : ByteArray := (rd_T49 xs (i : Int)).f0
abbrev nd (l : List ByteArray) (i : Nat) : ByteArray := rdOf ByteArray.empty l (i : Int)
theorem rdI_at {xs : List It} {i : Nat} (h : i < xs.length) : rd_T49 xs (i : Int) = xs[i] := by
 unfold rd_T49
 rw [Int.toNat_natCast, List.getD_eq_getElem?_getD, List.getElem?_eq_getElem h]; rfl
theorem nd_at {l : List ByteArray} {i : Nat} (h : i < l.length) : nd l i = l[i] := by
 unfold nd rdOf
 rw [Int.toNat_natCast, List.getD_eq_getElem?_getD, List.getElem?_eq_getElem h]; rfl
theorem nm_at {xs : List It} {i : Nat} (h : i < xs.length) : nm xs i = xs[i].f0 := by unfold nm; rw [rdI_at h]
/-- A function comes to a truth value that says P. -/
def Says (F : Nat → Option Bool) (P : Prop) : Prop := ∃ b, Ev F b ∧ (b = true ↔ P)
section
variable {F G : Nat → Option Bool} {P Q : Prop}
theorem Says.of (h : Says F P) (e : P ↔ Q) : Says F Q := by obtain ⟨b, h1, h2⟩ := h; exact ⟨b, h1, h2.trans e⟩
theorem Says.no (p : ¬ P) : Says (fun _ => some false) P := ⟨false, Ev.const _, ⟨fun h => (by cases h), fun h => absurd h p⟩⟩
theorem Says.dec [Decidable P] (e : P ↔ Q) : Says (fun _ => some (decide P)) Q := ⟨decide P, Ev.const _, by rw [decide_eq_true_iff]; exact e⟩
theorem Says.step (hF : ∀ k, F (k + 1) = G k) (h : Says G P) : Says F P := by obtain ⟨b, h1, h2⟩ := h; exact ⟨b, Ev.step hF h1, h2⟩
theorem Says.pos {c : Prop} [Decidable c] (hc : c) (h : Says F P) : Says (fun k => if c then F k else G k) P := by obtain ⟨b, h1, h2⟩ := h; exact ⟨b, Ev.pos hc h1, h2⟩
theorem Says.neg {c : Prop} [Decidable c] (hc : ¬ c) (h : Says G P) : Says (fun k => if c then F k else G k) P := by obtain ⟨b, h1, h2⟩ := h; exact ⟨b, Ev.neg hc h1, h2⟩
theorem Says.bind {α : Type} {g : Nat → Option α} {f : Nat → α → Option Bool} {a : α} (h : Ev g a) (h' : Says (fun n => f n a) P) : Says (fun n => (g n).bind (f n)) P := by
 obtain ⟨b, h1, h2⟩ := h'; exact ⟨b, Ev.bind h h1, h2⟩
end
theorem from_step {P : Nat → Prop} {n i : Nat} {C : Prop} (hi : i < n) (h : P i) : ((∀ j, i + 1 ≤ j → j < n → P j) ∧ C) ↔ ((∀ j, i ≤ j → j < n → P j) ∧ C) := by
 refine and_congr_left fun _ => ⟨fun H j h1 h2 => ?_, fun H j h1 h2 => H j (by omega) h2⟩
 rcases Nat.lt_or_ge i j with h' | h'
 ·exact H j h' h2
 ·have : i = j := by omega
  exact this ▸ h
theorem from_end {P : Nat → Prop} {n i : Nat} {C : Prop} (hi : n ≤ i) : C ↔ ((∀ j, i ≤ j → j < n → P j) ∧ C) :=
 ⟨fun h => ⟨fun j h1 h2 => absurd h2 (by omega), h⟩, fun h => h.2⟩
theorem from_not {P : Nat → Prop} {n i : Nat} {C : Prop} (hi : i < n) (h : ¬ P i) : ¬ ((∀ j, i ≤ j → j < n → P j) ∧ C) := fun H => h (H.1 i (Nat.le_refl _) hi)
theorem wrap_pred {i : Nat} (h0 : ¬ i = 0) (h : i ≤ 9223372036854775806) : wrap64 ((i : Int) - 1) = ((i - 1 : Nat) : Int) := by rw [wrap_id (by omega) (by omega)]; omega
/-! ### Names in rising order, the program's test -/
def okN (l : List ByteArray) (i : Nat) : Prop := isName (L (nd l i)) = true ∧ (0 < i → bl (nd l (i - 1)) (nd l i))
theorem areNames_l0 (l : List ByteArray) (c : Int) (hn : l.length ≤ 4000000) (hs : ∀ x ∈ l, x.size ≤ 1099511627776) : ∀ (d i : Nat), l.length - i = d → i ≤ l.length →
  Says (fun k => impl_areNames.l0 k l c l (l.length : Int) (i : Int)) ((∀ j, i ≤ j → j < l.length → okN l j) ∧ (l.length : Int) ≤ c)
 | 0, i, hd, hi => Says.step (fun k => impl_areNames.l0.eq_2 ..) (Says.neg (by omega) (Says.dec (from_end (by omega))))
 | d + 1, i, hd, hi => by
  have hlt : i < l.length := by omega
  refine Says.step (fun k => impl_areNames.l0.eq_2 ..) (Says.pos (by omega) (Says.pos (by omega) (Says.pos (by omega) (Says.bind (name_impl _ (hs _ (by rw [show rdOf ByteArray.empty l (i : Int) = nd l i from rfl, nd_at hlt]; exact List.getElem_mem _))) ?_))))
  have ih := areNames_l0 l c hn hs d (i + 1) (by omega) (by omega)
  by_cases hname : isName (L (nd l i)) = true
  ·refine Says.pos hname ?_
   rw [wrap_nat (by omega)]
   by_cases h0 : i = 0
   ·refine Says.neg (by omega) ?_
    exact ih.of (from_step hlt ⟨hname, fun h => absurd h (by omega)⟩)
   ·refine Says.pos (by omega) ?_
    rw [wrap_pred h0 (by omega)]
    refine Says.pos (by omega) (Says.pos (by omega) ?_)
    by_cases hb : bl (nd l (i - 1)) (nd l i)
    ·exact Says.pos hb (ih.of (from_step hlt ⟨hname, fun _ => hb⟩))
    ·exact Says.neg hb (Says.no (from_not hlt fun h => hb (h.2 (by omega))))
  ·exact Says.neg hname (Says.no (from_not hlt fun h => hname h.1))
def AreN (l : List ByteArray) (c : Int) : Prop := (∀ j, 0 ≤ j → j < l.length → okN l j) ∧ (l.length : Int) ≤ c
theorem areNames_says (l : List ByteArray) (c : Int) (hn : l.length ≤ 4000000) (hs : ∀ x ∈ l, x.size ≤ 1099511627776) : Says (fun k => impl_areNames.f k l c) (AreN l c) :=
 areNames_l0 l c hn hs _ 0 rfl (Nat.zero_le _)
/-! ### Looking for a name -/
theorem find_l0 (xs : List It) (x : ByteArray) (hn : xs.length ≤ 4000000) : ∀ (d i : Nat), xs.length - i = d → i ≤ xs.length →
  (∃ t, i ≤ t ∧ t < xs.length ∧ nm xs t = x ∧ (∀ j, i ≤ j → j < t → nm xs j ≠ x) ∧ Ev (fun k => spec_l28Find.l0 k xs x (i : Int)) (t : Int)) ∨ ((∀ j, i ≤ j → j < xs.length → nm xs j ≠ x) ∧ Ev (fun k => spec_l28Find.l0 k xs x (i : Int)) (-1))
 | 0, i, hd, hi => Or.inr ⟨fun j h1 h2 => absurd h2 (by omega), Ev.step (fun k => spec_l28Find.l0.eq_2 ..) (Ev.neg (by omega) (Ev.const _))⟩
 | d + 1, i, hd, hi => by
  have hlt : i < xs.length := by omega
  by_cases he : nm xs i = x
  ·refine Or.inl ⟨i, Nat.le_refl _, hlt, he, fun j h1 h2 => absurd h2 (by omega), Ev.step (fun k => spec_l28Find.l0.eq_2 ..) (Ev.pos (by omega) (Ev.pos (by omega) (Ev.pos ((bytes_eq _ _).2 he) (Ev.const _))))⟩
  ·rcases find_l0 xs x hn d (i + 1) (by omega) (by omega) with ⟨t, h1, h2, h3, h4, h5⟩ | ⟨h1, h2⟩
   ·refine Or.inl ⟨t, by omega, h2, h3, fun j g1 g2 => ?_, Ev.step (fun k => spec_l28Find.l0.eq_2 ..) (Ev.pos (by omega) (Ev.pos (by omega) (Ev.neg (fun h => he ((bytes_eq _ _).1 h)) (by rw [wrap_nat (by omega)]; exact h5))))⟩
    rcases Nat.lt_or_ge i j with h' | h'
    ·exact h4 j h' g2
    ·have : i = j := by omega
     exact this ▸ he
   ·refine Or.inr ⟨fun j g1 g2 => ?_, Ev.step (fun k => spec_l28Find.l0.eq_2 ..) (Ev.pos (by omega) (Ev.pos (by omega) (Ev.neg (fun h => he ((bytes_eq _ _).1 h)) (by rw [wrap_nat (by omega)]; exact h2))))⟩
    rcases Nat.lt_or_ge i j with h' | h'
    ·exact h1 j h' g2
    ·have : i = j := by omega
     exact this ▸ he
/-- The name stands among the items. -/
def Named (xs : List It) (x : ByteArray) : Prop := ∃ t, t < xs.length ∧ nm xs t = x
theorem find_yes {xs : List It} {x : ByteArray} (hn : xs.length ≤ 4000000) (h : Named xs x) : ∃ t, t < xs.length ∧ nm xs t = x ∧ Ev (fun k => spec_l28Find.f k xs x) (t : Int) := by
 rcases find_l0 xs x hn _ 0 rfl (Nat.zero_le _) with ⟨t, h1, h2, h3, h4, h5⟩ | ⟨h1, h2⟩
 ·exact ⟨t, h2, h3, h5⟩
 ·obtain ⟨t, g1, g2⟩ := h
  exact absurd g2 (h1 t (Nat.zero_le _) g1)
theorem find_no {xs : List It} {x : ByteArray} (hn : xs.length ≤ 4000000) (h : ¬ Named xs x) : Ev (fun k => spec_l28Find.f k xs x) (-1) := by
 rcases find_l0 xs x hn _ 0 rfl (Nat.zero_le _) with ⟨t, h1, h2, h3, h4, h5⟩ | ⟨h1, h2⟩
 ·exact absurd ⟨t, h2, h3⟩ h
 ·exact h2
/-! ### The reference's test of the form -/
def okNeed (xs : List It) (l : List ByteArray) (j : Nat) : Prop := Named xs (nd l j) ∧ (0 < j → bl (nd l (j - 1)) (nd l j))
theorem form_l1 (xs : List It) (hn : xs.length ≤ 4000000) (i : Nat) (hi : i ≤ 4000000) (a : ByteArray) (l : List ByteArray) (hl : l.length ≤ 4000000) (u v : Int) {Q : Prop} (hQ : Says (fun k => spec_l28Form.l0 k xs ((i + 1 : Nat) : Int)) Q) : ∀ (d j : Nat), l.length - j = d → j ≤ l.length →
  Says (fun k => spec_l28Form.l1 k xs (i : Int) (j : Int) a l u v) ((∀ t, j ≤ t → t < l.length → okNeed xs l t) ∧ Q)
 | 0, j, hd, hj => Says.step (fun k => spec_l28Form.l1.eq_2 ..) (Says.neg (by omega) (by rw [wrap_nat (by omega)]; exact hQ.of (from_end (by omega))))
 | d + 1, j, hd, hj => by
  have hlt : j < l.length := by omega
  have ih := form_l1 xs hn i hi a l hl u v hQ d (j + 1) (by omega) (by omega)
  refine Says.step (fun k => spec_l28Form.l1.eq_2 ..) (Says.pos (by omega) (Says.pos (by omega) ?_))
  by_cases hN : Named xs (nd l j)
  ·obtain ⟨t, ht, -, hf⟩ := find_yes hn hN
   refine Says.bind hf (Says.neg (by omega) ?_)
   rw [wrap_nat (by omega)]
   by_cases h0 : j = 0
   ·exact Says.neg (by omega) (ih.of (from_step hlt ⟨hN, fun h => absurd h (by omega)⟩))
   ·refine Says.pos (by omega) ?_
    rw [wrap_pred h0 (by omega)]
    refine Says.pos (by omega) (Says.pos (by omega) ?_)
    by_cases hb : bl (nd l (j - 1)) (nd l j)
    ·exact Says.pos hb (ih.of (from_step hlt ⟨hN, fun _ => hb⟩))
    ·exact Says.neg hb (Says.no (from_not hlt fun h => hb (h.2 (by omega))))
  ·exact Says.bind (find_no hn hN) (Says.pos (by decide) (Says.no (from_not hlt fun h => hN h.1)))
def inR (a lo hi : Int) : Prop := lo ≤ a ∧ a ≤ hi
instance (a lo hi : Int) : Decidable (inR a lo hi) := inferInstanceAs (Decidable (_ ∧ _))
theorem in_spec (a lo hi : Int) : spec_l00In.f a lo hi = some (decide (inR a lo hi)) := by
 unfold spec_l00In.f
 by_cases h : a ≥ lo
 ·rw [if_pos h]
  by_cases h' : a ≤ hi
  ·rw [decide_eq_true h', decide_eq_true (p := inR a lo hi) ⟨h, h'⟩]
  ·rw [decide_eq_false h', decide_eq_false (p := inR a lo hi) (fun g => h' g.2)]
 ·rw [if_neg h, decide_eq_false (p := inR a lo hi) (fun g => h g.1)]
theorem in_impl (a lo hi : Int) : impl_within.f a lo hi = some (decide (inR a lo hi)) := by
 unfold impl_within.f
 by_cases h : a ≥ lo
 ·rw [if_pos h]
  by_cases h' : a ≤ hi
  ·rw [decide_eq_true h', decide_eq_true (p := inR a lo hi) ⟨h, h'⟩]
  ·rw [decide_eq_false h', decide_eq_false (p := inR a lo hi) (fun g => h' g.2)]
 ·rw [if_neg h, decide_eq_false (p := inR a lo hi) (fun g => h g.1)]
def okNums (x : It) : Prop := inR x.f2 0 1000000 ∧ inR x.f3 0 1000
theorem form_tail (xs : List It) (hn : xs.length ≤ 4000000) (i : Nat) (hi : i ≤ 4000000) (a : ByteArray) (l : List ByteArray) (hl : l.length ≤ 4000000) (u v : Int) {Q : Prop} (hQ : Says (fun k => spec_l28Form.l0 k xs ((i + 1 : Nat) : Int)) Q) :
  Says (fun k => (spec_l00In.f u 0 1000000).bind fun t => if t = true then ((spec_l00In.f v 0 1000).bind fun t' => spec_l28Form.j1 k xs (i : Int) (!t') a l u v) else spec_l28Form.j1 k xs (i : Int) true a l u v) ((inR u 0 1000000 ∧ inR v 0 1000) ∧ (∀ t, 0 ≤ t → t < l.length → okNeed xs l t) ∧ Q) := by
 refine Says.bind (Ev.all fun _ => in_spec u 0 1000000) ?_
 by_cases hu : inR u 0 1000000
 ·refine Says.pos (decide_eq_true hu) (Says.bind (Ev.all fun _ => in_spec v 0 1000) ?_)
  by_cases hv : inR v 0 1000
  ·rw [decide_eq_true hv]
   refine Says.step (fun k => spec_l28Form.j1.eq_2 ..) (Says.neg (by decide) ?_)
   exact (form_l1 xs hn i hi a l hl u v hQ _ 0 rfl (Nat.zero_le _)).of ⟨fun h => ⟨⟨hu, hv⟩, h⟩, fun h => h.2⟩
  ·rw [decide_eq_false hv]
   exact Says.step (fun k => spec_l28Form.j1.eq_2 ..) (Says.pos rfl (Says.no fun h => hv h.1.2))
 ·refine Says.neg (by rw [decide_eq_false hu]; decide) ?_
  exact Says.step (fun k => spec_l28Form.j1.eq_2 ..) (Says.pos rfl (Says.no fun h => hu h.1.1))
def okF (xs : List It) (i : Nat) : Prop :=
 (isName (L (nm xs i)) = true ∧ (0 < i → bl (nm xs (i - 1)) (nm xs i))) ∧ okNums (rd_T49 xs (i : Int)) ∧ ∀ t, 0 ≤ t → t < (rd_T49 xs (i : Int)).f1.length → okNeed xs (rd_T49 xs (i : Int)).f1 t
/-- The sizes that a text of bounded length gives. -/
def Small (xs : List It) : Prop := xs.length ≤ 4000000 ∧ ∀ x ∈ xs, x.f0.size ≤ 1099511627776 ∧ x.f1.length ≤ 4000000 ∧ ∀ n ∈ x.f1, n.size ≤ 1099511627776
theorem form_l0 (xs : List It) (hs : Small xs) : ∀ (d i : Nat), xs.length - i = d → i ≤ xs.length →
  Says (fun k => spec_l28Form.l0 k xs (i : Int)) ((∀ j, i ≤ j → j < xs.length → okF xs j) ∧ (xs.length : Int) ≤ 16)
 | 0, i, hd, hi => Says.step (fun k => spec_l28Form.l0.eq_2 ..) (Says.neg (by omega) (Says.dec (from_end (by omega))))
 | d + 1, i, hd, hi => by
  have hlt : i < xs.length := by omega
  have hn := hs.1
  have hx := hs.2 xs[i] (List.getElem_mem _)
  have e : rd_T49 xs (i : Int) = xs[i] := rdI_at hlt
  have ih := form_l0 xs hs d (i + 1) (by omega) (by omega)
  refine Says.step (fun k => spec_l28Form.l0.eq_2 ..) (Says.pos (by omega) (Says.pos (by omega) (Says.bind (name_spec _ (by rw [e]; exact hx.1)) ?_)))
  by_cases hname : isName (L (nm xs i)) = true
  ·refine Says.pos hname ?_
   have T := form_tail xs hn i (by omega) (nm xs i) (rd_T49 xs (i : Int)).f1 (by rw [e]; exact hx.2.1) (rd_T49 xs (i : Int)).f2 (rd_T49 xs (i : Int)).f3 ih
   by_cases h0 : i = 0
   ·refine Says.neg (by omega) (T.of ?_)
    constructor
    ·rintro ⟨g1, g2, g3⟩
     exact (from_step (P := okF xs) hlt ⟨⟨hname, fun h => absurd h (by omega)⟩, g1, g2⟩).1 g3
    ·intro h
     have g := h.1 i (Nat.le_refl _) hlt
     exact ⟨g.2.1, g.2.2, (from_step (P := okF xs) hlt g).2 h⟩
   ·refine Says.pos (by omega) ?_
    rw [wrap_pred h0 (by omega)]
    refine Says.pos (by omega) (Says.pos (by omega) ?_)
    by_cases hb : bl (nm xs (i - 1)) (nm xs i)
    ·refine Says.pos hb (T.of ?_)
     constructor
     ·rintro ⟨g1, g2, g3⟩
      exact (from_step (P := okF xs) hlt ⟨⟨hname, fun _ => hb⟩, g1, g2⟩).1 g3
     ·intro h
      have g := h.1 i (Nat.le_refl _) hlt
      exact ⟨g.2.1, g.2.2, (from_step (P := okF xs) hlt g).2 h⟩
    ·exact Says.neg hb (Says.step (fun k => spec_l28Form.j1.eq_2 ..) (Says.pos rfl (Says.no (from_not hlt fun h => hb (h.1.2 (by omega))))))
  ·exact Says.neg hname (Says.step (fun k => spec_l28Form.j1.eq_2 ..) (Says.pos rfl (Says.no (from_not hlt fun h => hname h.1.1))))
def FormP (xs : List It) : Prop := (∀ j, 0 ≤ j → j < xs.length → okF xs j) ∧ (xs.length : Int) ≤ 16
theorem form_says (xs : List It) (hs : Small xs) : Says (fun k => spec_l28Form.f k xs) (FormP xs) := form_l0 xs hs _ 0 rfl (Nat.zero_le _)
end Go.Proofs.YtiopkeepldmlkaaDoor.QRI
