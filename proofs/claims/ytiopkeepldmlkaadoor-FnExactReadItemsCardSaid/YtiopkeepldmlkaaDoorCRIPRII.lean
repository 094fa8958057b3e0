/- Plain Lean on the printed functions: what makes items valid: the program's test, the order of items on both sides. -/
import Derived.Test.YtiopkeepldmlkaaDoorCRIPRIH
set_option linter.unusedVariables false
set_option linter.unusedSimpArgs false
namespace Go.Proofs.YtiopkeepldmlkaaDoor.QRI
open Go Go.RowKit Go.Proofs.YtiopkeepldmlkaaDoorW.PrintWords Go.Proofs.YtiopkeepldmlkaaDoor.Plain
/-! ### The order of bytes -/
theorem bl_irrefl : ∀ a : Bytes, Op.bytesLess a a = false
 | [] => rfl
 | b :: t => by unfold Op.bytesLess; rw [bl_irrefl t]; simp
theorem bl_cons (a b : UInt8) (x y : Bytes) : Op.bytesLess (a :: x) (b :: y) = true ↔ a.toNat < b.toNat ∨ (a = b ∧ Op.bytesLess x y = true) := by
 conv => lhs; unfold Op.bytesLess
 rw [Bool.or_eq_true, Bool.and_eq_true, decide_eq_true_iff, beq_iff_eq, UInt8.lt_iff_toNat_lt]
theorem bl_trans : ∀ a b c : Bytes, Op.bytesLess a b = true → Op.bytesLess b c = true → Op.bytesLess a c = true
 | _, _, [], _, h => by unfold Op.bytesLess at h; simp at h
 | _, [], _ :: _, h, _ => by unfold Op.bytesLess at h; simp at h
 | [], _ :: _, _ :: _, _, _ => rfl
 | a :: x, b :: y, c :: z, h1, h2 => by
  rw [bl_cons] at h1 h2 ⊢
  rcases h1 with h1 | ⟨rfl, h1⟩
  ·rcases h2 with h2 | ⟨rfl, h2⟩
   ·exact .inl (by omega)
   ·exact .inl h1
  ·rcases h2 with h2 | ⟨rfl, h2⟩
   ·exact .inl h2
   ·exact .inr ⟨rfl, bl_trans x y z h1 h2⟩
theorem rising_lt {f : Nat → ByteArray} {n : Nat} (h : ∀ j, j < n → 0 < j → bl (f (j - 1)) (f j)) : ∀ d a, a + 1 + d < n → bl (f a) (f (a + 1 + d))
 | 0, a, hd => by have := h (a + 1) hd (by omega); rw [show a + 1 - 1 = a from rfl] at this; exact this
 | d + 1, a, hd => by
  have := h (a + 1 + (d + 1)) hd (by omega)
  rw [show a + 1 + (d + 1) - 1 = a + 1 + d from rfl] at this
  exact bl_trans _ _ _ (rising_lt h d a (by omega)) this
theorem rising_of_lt {f : Nat → ByteArray} {n a b : Nat} (h : ∀ j, j < n → 0 < j → bl (f (j - 1)) (f j)) (hab : a < b) (hb : b < n) : bl (f a) (f b) := by
 have := rising_lt h (b - a - 1) a (by omega)
 rw [show a + 1 + (b - a - 1) = b from by omega] at this
 exact this
theorem bl_self {a : ByteArray} (h : bl a a) : False := by
 have h' : Op.bytesLess a.toList a.toList = true := h
 rw [bl_irrefl] at h'; cases h'
theorem rising_inj {f : Nat → ByteArray} {n a b : Nat} (h : ∀ j, j < n → 0 < j → bl (f (j - 1)) (f j)) (ha : a < n) (hb : b < n) (e : f a = f b) : a = b := by
 rcases Nat.lt_trichotomy a b with h' | h' | h'
 ·have g := rising_of_lt h h' hb
  rw [e] at g; exact (bl_self g).elim
 ·exact h'
 ·have g := rising_of_lt h h' ha
  rw [e] at g; exact (bl_self g).elim
theorem rising_lt_of {f : Nat → ByteArray} {n a b : Nat} (h : ∀ j, j < n → 0 < j → bl (f (j - 1)) (f j)) (ha : a < n) (hb : b < n) (e : bl (f a) (f b)) : a < b := by
 rcases Nat.lt_trichotomy a b with h' | h' | h'
 ·exact h'
 ·rw [h'] at e; exact (bl_self e).elim
 ·exact (bl_self (bl_trans _ _ _ (rising_of_lt h h' ha) e)).elim
/-! ### A string among strings -/
theorem index_l0 (l : List ByteArray) (x : ByteArray) (hn : l.length ≤ 4000000) : ∀ (d i : Nat), l.length - i = d → i ≤ l.length →
  (∃ t, i ≤ t ∧ t < l.length ∧ nd l t = x ∧ Ev (fun k => slices_Index_string_string.l0 k l x (l.length : Int) (i : Int)) (t : Int)) ∨ ((∀ j, i ≤ j → j < l.length → nd l j ≠ x) ∧ Ev (fun k => slices_Index_string_string.l0 k l x (l.length : Int) (i : Int)) (-1))
 | 0, i, hd, hi => Or.inr ⟨fun j h1 h2 => absurd h2 (by omega), Ev.step (fun k => slices_Index_string_string.l0.eq_2 ..) (Ev.neg (by omega) (Ev.const _))⟩
 | d + 1, i, hd, hi => by
  have hlt : i < l.length := by omega
  by_cases he : nd l i = x
  ·exact Or.inl ⟨i, Nat.le_refl _, hlt, he, Ev.step (fun k => slices_Index_string_string.l0.eq_2 ..) (Ev.pos (by omega) (Ev.pos (by omega) (Ev.pos (by omega) (Ev.pos ((bytes_eq _ _).2 he.symm) (Ev.const _)))))⟩
  ·rcases index_l0 l x hn d (i + 1) (by omega) (by omega) with ⟨t, h1, h2, h3, h5⟩ | ⟨h1, h2⟩
   ·exact Or.inl ⟨t, by omega, h2, h3, Ev.step (fun k => slices_Index_string_string.l0.eq_2 ..) (Ev.pos (by omega) (Ev.pos (by omega) (Ev.pos (by omega) (Ev.neg (fun h => he ((bytes_eq _ _).1 h).symm) (by rw [wrap_nat (by omega)]; exact h5)))))⟩
   ·refine Or.inr ⟨fun j g1 g2 => ?_, Ev.step (fun k => slices_Index_string_string.l0.eq_2 ..) (Ev.pos (by omega) (Ev.pos (by omega) (Ev.pos (by omega) (Ev.neg (fun h => he ((bytes_eq _ _).1 h).symm) (by rw [wrap_nat (by omega)]; exact h2)))))⟩
    rcases Nat.lt_or_ge i j with h' | h'
    ·exact h1 j h' g2
    ·have : i = j := by omega
     exact this ▸ he
theorem nd_mem {l : List ByteArray} {x : ByteArray} : x ∈ l ↔ ∃ t, t < l.length ∧ nd l t = x := by
 constructor
 ·intro h
  obtain ⟨t, ht, e⟩ := List.getElem_of_mem h
  exact ⟨t, ht, by rw [nd_at ht]; exact e⟩
 ·rintro ⟨t, ht, e⟩
  rw [← e, nd_at ht]
  exact List.getElem_mem _
theorem contains_says (l : List ByteArray) (x : ByteArray) (hn : l.length ≤ 4000000) : Says (fun k => slices_Contains_string_string.f k l x) (x ∈ l) := by
 rcases index_l0 l x hn _ 0 rfl (Nat.zero_le _) with ⟨t, h1, h2, h3, h5⟩ | ⟨h1, h2⟩
 ·exact Says.bind h5 (Says.dec ⟨fun _ => nd_mem.2 ⟨t, h2, h3⟩, fun _ => by omega⟩)
 ·exact Says.bind h2 (Says.dec ⟨fun h => absurd h (by decide), fun h => by
   obtain ⟨t, ht, e⟩ := nd_mem.1 h
   exact absurd e (h1 t (Nat.zero_le _) ht)⟩)
theorem says_not {F : Nat → Option Bool} {P : Prop} (h : Says F P) : Says (fun k => (F k).bind fun t => some (!t)) (¬ P) := by
 obtain ⟨b, h1, h2⟩ := h
 refine Says.bind h1 ⟨!b, Ev.const _, ?_⟩
 rw [← h2]; cases b <;> simp
/-! ### A string that is missing (impl_ValidItems_1) -/
theorem miss1_says (x : ByteArray) (ord : List ByteArray) (hn : ord.length ≤ 4000000) : Says (fun k => impl_ValidItems_1.f k x [ord]) (¬ x ∈ ord) := by
 refine Says.pos (by simp) ?_
 exact says_not (contains_says ord x hn)
theorem miss1_l0 (l ord : List ByteArray) (hn : l.length ≤ 4000000) (ho : ord.length ≤ 4000000) : ∀ (d i : Nat), l.length - i = d → i ≤ l.length →
  (∃ t, i ≤ t ∧ t < l.length ∧ ¬ nd l t ∈ ord ∧ Ev (fun k => slices_IndexFunc_string_string__impl_ValidItems_1.l0 k l (l.length : Int) (i : Int) [ord]) (t : Int)) ∨ ((∀ j, i ≤ j → j < l.length → nd l j ∈ ord) ∧ Ev (fun k => slices_IndexFunc_string_string__impl_ValidItems_1.l0 k l (l.length : Int) (i : Int) [ord]) (-1))
 | 0, i, hd, hi => Or.inr ⟨fun j h1 h2 => absurd h2 (by omega), Ev.step (fun k => slices_IndexFunc_string_string__impl_ValidItems_1.l0.eq_2 ..) (Ev.neg (by omega) (Ev.const _))⟩
 | d + 1, i, hd, hi => by
  have hlt : i < l.length := by omega
  obtain ⟨b, hb, hP⟩ := miss1_says (nd l i) ord ho
  by_cases he : nd l i ∈ ord
  ·have hb' : ¬ b = true := fun h => hP.1 h he
   rcases miss1_l0 l ord hn ho d (i + 1) (by omega) (by omega) with ⟨t, h1, h2, h3, h5⟩ | ⟨h1, h2⟩
   ·exact Or.inl ⟨t, by omega, h2, h3, Ev.step (fun k => slices_IndexFunc_string_string__impl_ValidItems_1.l0.eq_2 ..) (Ev.pos (by omega) (Ev.pos (by omega) (Ev.pos (by omega) (Ev.bind hb (Ev.neg hb' (by rw [wrap_nat (by omega)]; exact h5))))))⟩
   ·refine Or.inr ⟨fun j g1 g2 => ?_, Ev.step (fun k => slices_IndexFunc_string_string__impl_ValidItems_1.l0.eq_2 ..) (Ev.pos (by omega) (Ev.pos (by omega) (Ev.pos (by omega) (Ev.bind hb (Ev.neg hb' (by rw [wrap_nat (by omega)]; exact h2))))))⟩
    rcases Nat.lt_or_ge i j with h' | h'
    ·exact h1 j h' g2
    ·have : i = j := by omega
     exact this ▸ he
  ·exact Or.inl ⟨i, Nat.le_refl _, hlt, he, Ev.step (fun k => slices_IndexFunc_string_string__impl_ValidItems_1.l0.eq_2 ..) (Ev.pos (by omega) (Ev.pos (by omega) (Ev.pos (by omega) (Ev.bind hb (Ev.pos (hP.2 he) (Ev.const _))))))⟩
theorem miss1_any (l ord : List ByteArray) (hn : l.length ≤ 4000000) (ho : ord.length ≤ 4000000) : Says (fun k => slices_ContainsFunc_string_string__impl_ValidItems_1.f k l [ord]) (¬ ∀ j, j < l.length → nd l j ∈ ord) := by
 rcases miss1_l0 l ord hn ho _ 0 rfl (Nat.zero_le _) with ⟨t, h1, h2, h3, h5⟩ | ⟨h1, h2⟩
 ·exact Says.bind h5 (Says.dec ⟨fun _ h => h3 (h t h2), fun _ => by omega⟩)
 ·exact Says.bind h2 (Says.dec ⟨fun h => absurd h (by decide), fun h => absurd (fun j hj => h1 j (Nat.zero_le _) hj) h⟩)
/-! ### A string that is missing (impl_makeOrder_1_1) -/
theorem miss2_says (x : ByteArray) (ord : List ByteArray) (hn : ord.length ≤ 4000000) : Says (fun k => impl_makeOrder_1_1.f k x [ord]) (¬ x ∈ ord) := by
 refine Says.pos (by simp) ?_
 exact says_not (contains_says ord x hn)
theorem miss2_l0 (l ord : List ByteArray) (hn : l.length ≤ 4000000) (ho : ord.length ≤ 4000000) : ∀ (d i : Nat), l.length - i = d → i ≤ l.length →
  (∃ t, i ≤ t ∧ t < l.length ∧ ¬ nd l t ∈ ord ∧ Ev (fun k => slices_IndexFunc_string_string__impl_makeOrder_1_1.l0 k l (l.length : Int) (i : Int) [ord]) (t : Int)) ∨ ((∀ j, i ≤ j → j < l.length → nd l j ∈ ord) ∧ Ev (fun k => slices_IndexFunc_string_string__impl_makeOrder_1_1.l0 k l (l.length : Int) (i : Int) [ord]) (-1))
 | 0, i, hd, hi => Or.inr ⟨fun j h1 h2 => absurd h2 (by omega), Ev.step (fun k => slices_IndexFunc_string_string__impl_makeOrder_1_1.l0.eq_2 ..) (Ev.neg (by omega) (Ev.const _))⟩
 | d + 1, i, hd, hi => by
  have hlt : i < l.length := by omega
  obtain ⟨b, hb, hP⟩ := miss2_says (nd l i) ord ho
  by_cases he : nd l i ∈ ord
  ·have hb' : ¬ b = true := fun h => hP.1 h he
   rcases miss2_l0 l ord hn ho d (i + 1) (by omega) (by omega) with ⟨t, h1, h2, h3, h5⟩ | ⟨h1, h2⟩
   ·exact Or.inl ⟨t, by omega, h2, h3, Ev.step (fun k => slices_IndexFunc_string_string__impl_makeOrder_1_1.l0.eq_2 ..) (Ev.pos (by omega) (Ev.pos (by omega) (Ev.pos (by omega) (Ev.bind hb (Ev.neg hb' (by rw [wrap_nat (by omega)]; exact h5))))))⟩
   ·refine Or.inr ⟨fun j g1 g2 => ?_, Ev.step (fun k => slices_IndexFunc_string_string__impl_makeOrder_1_1.l0.eq_2 ..) (Ev.pos (by omega) (Ev.pos (by omega) (Ev.pos (by omega) (Ev.bind hb (Ev.neg hb' (by rw [wrap_nat (by omega)]; exact h2))))))⟩
    rcases Nat.lt_or_ge i j with h' | h'
    ·exact h1 j h' g2
    ·have : i = j := by omega
     exact this ▸ he
  ·exact Or.inl ⟨i, Nat.le_refl _, hlt, he, Ev.step (fun k => slices_IndexFunc_string_string__impl_makeOrder_1_1.l0.eq_2 ..) (Ev.pos (by omega) (Ev.pos (by omega) (Ev.pos (by omega) (Ev.bind hb (Ev.pos (hP.2 he) (Ev.const _))))))⟩
theorem miss2_any (l ord : List ByteArray) (hn : l.length ≤ 4000000) (ho : ord.length ≤ 4000000) : Says (fun k => slices_ContainsFunc_string_string__impl_makeOrder_1_1.f k l [ord]) (¬ ∀ j, j < l.length → nd l j ∈ ord) := by
 rcases miss2_l0 l ord hn ho _ 0 rfl (Nat.zero_le _) with ⟨t, h1, h2, h3, h5⟩ | ⟨h1, h2⟩
 ·exact Says.bind h5 (Says.dec ⟨fun _ h => h3 (h t h2), fun _ => by omega⟩)
 ·exact Says.bind h2 (Says.dec ⟨fun h => absurd h (by decide), fun h => absurd (fun j hj => h1 j (Nat.zero_le _) hj) h⟩)
/-! ### The order: which item comes next -/
def ready (ord : List ByteArray) (x : It) : Prop := ¬ x.f0 ∈ ord ∧ ∀ j, j < x.f1.length → nd x.f1 j ∈ ord
theorem ready_says (x : It) (hx : x.f1.length ≤ 4000000) (ord : List ByteArray) (ho : ord.length ≤ 4000000) : Says (fun k => impl_makeOrder_1.f k x.f0 x.f1 x.f2 x.f3 [ord]) (ready ord x) := by
 refine Says.pos (by simp) ?_
 obtain ⟨b, hb, hP⟩ := contains_says ord x.f0 ho
 refine Says.bind hb ?_
 by_cases h : b = true
 ·exact Says.pos h (Says.no fun g => g.1 (hP.1 h))
 ·refine Says.neg h ((says_not (miss2_any x.f1 ord hx ho)).of ?_)
  have hx' : ¬ x.f0 ∈ ord := fun g => h (hP.2 g)
  constructor
  ·intro g
   exact ⟨hx', Classical.not_not.1 g⟩
  ·intro g g'
   exact g' g.2
theorem next_l0 (xs : List It) (hs : Small xs) (ord : List ByteArray) (ho : ord.length ≤ 4000000) : ∀ (d i : Nat), xs.length - i = d → i ≤ xs.length →
  (∃ t, i ≤ t ∧ t < xs.length ∧ ready ord (rd_T49 xs (t : Int)) ∧ (∀ j, i ≤ j → j < t → ¬ ready ord (rd_T49 xs (j : Int))) ∧ Ev (fun k => impl_Item__impl_makeOrder_1.l0 k xs (xs.length : Int) (i : Int) [ord]) (t : Int)) ∨ ((∀ j, i ≤ j → j < xs.length → ¬ ready ord (rd_T49 xs (j : Int))) ∧ Ev (fun k => impl_Item__impl_makeOrder_1.l0 k xs (xs.length : Int) (i : Int) [ord]) (-1))
 | 0, i, hd, hi => Or.inr ⟨fun j h1 h2 => absurd h2 (by omega), Ev.step (fun k => impl_Item__impl_makeOrder_1.l0.eq_2 ..) (Ev.neg (by omega) (Ev.const _))⟩
 | d + 1, i, hd, hi => by
  have hlt : i < xs.length := by omega
  have hn := hs.1
  obtain ⟨b, hb, hP⟩ := ready_says (rd_T49 xs (i : Int)) (by rw [rdI_at hlt]; exact (hs.2 _ (List.getElem_mem _)).2.1) ord ho
  by_cases he : ready ord (rd_T49 xs (i : Int))
  ·exact Or.inl ⟨i, Nat.le_refl _, hlt, he, fun j h1 h2 => absurd h2 (by omega), Ev.step (fun k => impl_Item__impl_makeOrder_1.l0.eq_2 ..) (Ev.pos (by omega) (Ev.pos (by omega) (Ev.pos (by omega) (Ev.bind hb (Ev.pos (hP.2 he) (Ev.const _))))))⟩
  ·have hb' : ¬ b = true := fun h => he (hP.1 h)
   rcases next_l0 xs hs ord ho d (i + 1) (by omega) (by omega) with ⟨t, h1, h2, h3, h4, h5⟩ | ⟨h1, h2⟩
   ·refine Or.inl ⟨t, by omega, h2, h3, fun j g1 g2 => ?_, Ev.step (fun k => impl_Item__impl_makeOrder_1.l0.eq_2 ..) (Ev.pos (by omega) (Ev.pos (by omega) (Ev.pos (by omega) (Ev.bind hb (Ev.neg hb' (by rw [wrap_nat (by omega)]; exact h5))))))⟩
    rcases Nat.lt_or_ge i j with h' | h'
    ·exact h4 j h' g2
    ·have : i = j := by omega
     exact this ▸ he
   ·refine Or.inr ⟨fun j g1 g2 => ?_, Ev.step (fun k => impl_Item__impl_makeOrder_1.l0.eq_2 ..) (Ev.pos (by omega) (Ev.pos (by omega) (Ev.pos (by omega) (Ev.bind hb (Ev.neg hb' (by rw [wrap_nat (by omega)]; exact h2))))))⟩
    rcases Nat.lt_or_ge i j with h' | h'
    ·exact h1 j h' g2
    ·have : i = j := by omega
     exact this ▸ he
/-! ### The reference's order -/
structure Rel (xs : List It) (out : List Int) (done : List Bool) (ord : List ByteArray) : Prop where
 len : out.length = ord.length
 all : done.length = xs.length
 mem : ∀ t, t < xs.length → (rdOf false done (t : Int) = true ↔ nm xs t ∈ ord)
theorem picked {xs : List It} {out : List Int} {done : List Bool} {ord : List ByteArray} (hR : Rel xs out done ord) (ho : out.length ≤ 4000000) {t : Nat} (ht : t < xs.length) {v : List Int}
  (h : Ev (fun k => spec_l28Order.l0 k xs (out ++ [(t : Int)]) (done.set t true)) v) (i : Int) : Ev (fun k => spec_l28Order.l1 k xs out done (t : Int) i) v := by
 have hj : Ev (fun k => spec_l28Order.j2 k xs out done (t : Int) i false) v := by
  refine Ev.step (fun k => spec_l28Order.j2.eq_2 ..) ?_
  refine Ev.neg (by decide) (Ev.neg (by omega) (Ev.pos (by omega) (Ev.pos (by rw [hR.all]; omega) (Ev.pos (by omega) ?_))))
  rw [Int.toNat_natCast]
  exact h
 refine Ev.step (fun k => spec_l28Order.l1.eq_2 ..) ?_
 by_cases hi : i < (xs.length : Int)
 ·refine Ev.pos hi ?_
  rw [decide_eq_false (by omega)]
  exact hj
 ·exact Ev.neg hi hj
theorem scan_l2 {xs : List It} (hs : Small xs) (hF : FormP xs) {out : List Int} {done : List Bool} {ord : List ByteArray} (hR : Rel xs out done ord) {i : Nat} (hi : i < xs.length) {v : List Int} : ∀ (d j : Nat) (b : Bool), (rd_T49 xs (i : Int)).f1.length - j = d → j ≤ (rd_T49 xs (i : Int)).f1.length →
  ((b = true ∧ ∀ t, j ≤ t → t < (rd_T49 xs (i : Int)).f1.length → nd (rd_T49 xs (i : Int)).f1 t ∈ ord) → Ev (fun k => spec_l28Order.l1 k xs out done (i : Int) ((i + 1 : Nat) : Int)) v) →
  (¬ (b = true ∧ ∀ t, j ≤ t → t < (rd_T49 xs (i : Int)).f1.length → nd (rd_T49 xs (i : Int)).f1 t ∈ ord) → Ev (fun k => spec_l28Order.l1 k xs out done (-1) ((i + 1 : Nat) : Int)) v) →
  Ev (fun k => spec_l28Order.l2 k xs out done (-1) (i : Int) b (j : Int)) v
 | 0, j, b, hd, hj, hy, hno => by
  have hn := hs.1
  refine Ev.step (fun k => spec_l28Order.l2.eq_2 ..) (Ev.pos (by omega) (Ev.pos (by omega) (Ev.neg (by omega) ?_)))
  rw [wrap_nat (by omega)]
  cases b
  ·exact Ev.neg (by decide) (hno fun h => by cases h.1)
  ·exact Ev.pos rfl (hy ⟨rfl, fun t h1 h2 => absurd h2 (by omega)⟩)
 | d + 1, j, b, hd, hj, hy, hno => by
  have hn := hs.1
  have hlt : j < (rd_T49 xs (i : Int)).f1.length := by omega
  have hfl : (rd_T49 xs (i : Int)).f1.length ≤ 4000000 := by rw [rdI_at hi]; exact (hs.2 _ (List.getElem_mem _)).2.1
  refine Ev.step (fun k => spec_l28Order.l2.eq_2 ..) (Ev.pos (by omega) (Ev.pos (by omega) (Ev.pos (by omega) ?_)))
  cases b
  ·rw [wrap_nat (n := i) (by omega)]
   exact Ev.neg (by decide) (hno fun h => by cases h.1)
  ·refine Ev.pos rfl (Ev.pos (by omega) ?_)
   obtain ⟨t, ht, e, hf⟩ := find_yes hn ((hF.1 i (Nat.zero_le _) hi).2.2 j (Nat.zero_le _) hlt).1
   refine Ev.bind hf (Ev.pos (by omega) (Ev.pos (by rw [hR.all]; omega) ?_))
   rw [wrap_nat (by omega)]
   have hm : rdOf false done (t : Int) = true ↔ nd (rd_T49 xs (i : Int)).f1 j ∈ ord := by rw [← e]; exact hR.mem t ht
   refine scan_l2 hs hF hR hi d (j + 1) _ (by omega) (by omega) (fun h => hy ⟨rfl, fun t' h1 h2 => ?_⟩) (fun h => hno fun g => h ⟨hm.2 (g.2 j (Nat.le_refl _) hlt), fun t' h1 h2 => g.2 t' (by omega) h2⟩)
   rcases Nat.lt_or_ge j t' with h' | h'
   ·exact h.2 t' h' h2
   ·have : j = t' := by omega
    exact this ▸ hm.1 h.1
theorem scan_l1 {xs : List It} (hs : Small xs) (hF : FormP xs) {out : List Int} {done : List Bool} {ord : List ByteArray} (hR : Rel xs out done ord) (ho : out.length ≤ 4000000) {v : List Int} : ∀ (d i : Nat), xs.length - i = d → i ≤ xs.length →
  ((∀ j, i ≤ j → j < xs.length → ¬ ready ord (rd_T49 xs (j : Int))) → v = out) →
  (∀ t, i ≤ t → t < xs.length → ready ord (rd_T49 xs (t : Int)) → (∀ j, i ≤ j → j < t → ¬ ready ord (rd_T49 xs (j : Int))) → Ev (fun k => spec_l28Order.l0 k xs (out ++ [(t : Int)]) (done.set t true)) v) →
  Ev (fun k => spec_l28Order.l1 k xs out done (-1) (i : Int)) v
 | 0, i, hd, hi, hnone, hpick => by
  refine Ev.step (fun k => spec_l28Order.l1.eq_2 ..) (Ev.neg (by omega) (Ev.step (fun k => spec_l28Order.j2.eq_2 ..) (Ev.neg (by decide) (Ev.pos (by decide) ?_))))
  rw [hnone fun j h1 h2 => absurd h2 (by omega)]
  exact Ev.const _
 | d + 1, i, hd, hi, hnone, hpick => by
  have hlt : i < xs.length := by omega
  have hn := hs.1
  refine Ev.step (fun k => spec_l28Order.l1.eq_2 ..) (Ev.pos (by omega) ?_)
  rw [decide_eq_true (by decide)]
  refine Ev.step (fun k => spec_l28Order.j2.eq_2 ..) (Ev.pos rfl (Ev.pos (by omega) (Ev.pos (by rw [hR.all]; omega) ?_)))
  have hm := hR.mem i hlt
  have hre : ready ord (rd_T49 xs (i : Int)) ↔ ((!(rdOf false done (i : Int))) = true ∧ ∀ t, 0 ≤ t → t < (rd_T49 xs (i : Int)).f1.length → nd (rd_T49 xs (i : Int)).f1 t ∈ ord) := by
   unfold ready
   rw [Bool.not_eq_true', ← Bool.not_eq_true, hm]
   exact and_congr_right fun _ => ⟨fun h t _ h2 => h t h2, fun h t h2 => h t (Nat.zero_le _) h2⟩
  refine scan_l2 hs hF hR hlt _ 0 _ rfl (Nat.zero_le _) (fun h => picked hR ho hlt (hpick i (Nat.le_refl _) hlt (hre.2 h) fun j h1 h2 => absurd h2 (by omega)) _) (fun h => ?_)
  have hnr : ¬ ready ord (rd_T49 xs (i : Int)) := fun g => h (hre.1 g)
  refine scan_l1 hs hF hR ho d (i + 1) (by omega) (by omega) (fun g => hnone fun j h1 h2 => ?_) (fun t h1 h2 h3 h4 => hpick t (by omega) h2 h3 fun j g1 g2 => ?_)
  ·rcases Nat.lt_or_ge i j with h' | h'
   ·exact g j h' h2
   ·have : i = j := by omega
    exact this ▸ hnr
  ·rcases Nat.lt_or_ge i j with h' | h'
   ·exact h4 j h' g2
   ·have : i = j := by omega
    exact this ▸ hnr
theorem rdB_set {done : List Bool} {t t' : Nat} (ht : t < done.length) : rdOf false (done.set t true) (t' : Int) = if t = t' then true else rdOf false done (t' : Int) := by
 unfold rdOf
 rw [Int.toNat_natCast, List.getD_eq_getElem?_getD, List.getD_eq_getElem?_getD, List.getElem?_set]
 by_cases h : t = t'
 ·rw [if_pos h, if_pos h, if_pos (by omega)]; rfl
 ·rw [if_neg h, if_neg h]
theorem form_inj {xs : List It} (hF : FormP xs) {a b : Nat} (ha : a < xs.length) (hb : b < xs.length) (e : nm xs a = nm xs b) : a = b :=
 rising_inj (f := nm xs) (n := xs.length) (fun j hj h0 => (hF.1 j (Nat.zero_le _) hj).1.2 h0) ha hb e
theorem order_l0 {xs : List It} (hs : Small xs) (hF : FormP xs) : ∀ (d : Nat) (out : List Int) (done : List Bool) (ord : List ByteArray), Rel xs out done ord → xs.length - ord.length = d → ord.length ≤ xs.length →
  ∃ v v', Ev (fun k => spec_l28Order.l0 k xs out done) v ∧ Ev (fun k => impl_makeOrder.l0 k xs (xs.length : Int) (ord.length : Int) ord) v' ∧ v.length = v'.length
 | 0, out, done, ord, hR, hd, hl => by
  have h := hR.len
  exact ⟨out, ord, Ev.step (fun k => spec_l28Order.l0.eq_2 ..) (Ev.neg (by omega) (Ev.const _)), Ev.step (fun k => impl_makeOrder.l0.eq_2 ..) (Ev.neg (by omega) (Ev.const _)), h⟩
 | d + 1, out, done, ord, hR, hd, hl => by
  have h := hR.len
  have hn := hs.1
  have hf := hF.2
  rcases next_l0 xs hs ord (by omega) _ 0 rfl (Nat.zero_le _) with ⟨t, -, ht, hr, hfst, hev⟩ | ⟨hno, hev⟩
  ·have hR' : Rel xs (out ++ [(t : Int)]) (done.set t true) (ord ++ [nm xs t]) := by
    refine ⟨by simp [h], by rw [List.length_set]; exact hR.all, fun t' ht' => ?_⟩
    rw [rdB_set (by rw [hR.all]; exact ht), List.mem_append, List.mem_singleton]
    by_cases e : t = t'
    ·rw [if_pos e]; exact ⟨fun _ => Or.inr (by rw [e]), fun _ => rfl⟩
    ·rw [if_neg e, hR.mem t' ht']
     exact ⟨Or.inl, fun g => g.resolve_right fun g' => e (form_inj hF ht ht' g'.symm)⟩
   obtain ⟨v, v', h1, h2, h3⟩ := order_l0 hs hF d _ _ _ hR' (by rw [List.length_append, List.length_singleton]; omega) (by rw [List.length_append, List.length_singleton]; omega)
   refine ⟨v, v', ?_, ?_, h3⟩
   ·refine Ev.step (fun k => spec_l28Order.l0.eq_2 ..) (Ev.pos (by omega) ?_)
    refine scan_l1 hs hF hR (by omega) _ 0 rfl (Nat.zero_le _) (fun g => absurd hr (g t (Nat.zero_le _) ht)) (fun t' _ g2 g3 g4 => ?_)
    have : t = t' := by
     rcases Nat.lt_trichotomy t t' with g | g | g
     ·exact absurd hr (g4 t (Nat.zero_le _) g)
     ·exact g
     ·exact absurd g3 (hfst t' (Nat.zero_le _) g)
    subst this
    exact h1
   ·refine Ev.step (fun k => impl_makeOrder.l0.eq_2 ..) (Ev.pos (by omega) (Ev.bind hev (Ev.neg (by omega) (Ev.pos (by omega) (Ev.pos (by omega) (Ev.pos (by omega) ?_))))))
    rw [wrap_nat (by omega)]
    rw [List.length_append, List.length_singleton] at h2
    exact h2
  ·refine ⟨out, ord, ?_, ?_, h⟩
   ·refine Ev.step (fun k => spec_l28Order.l0.eq_2 ..) (Ev.pos (by omega) ?_)
    exact scan_l1 hs hF hR (by omega) _ 0 rfl (Nat.zero_le _) (fun _ => rfl) (fun t' g1 g2 g3 g4 => absurd g3 (hno t' g1 g2))
   ·exact Ev.step (fun k => impl_makeOrder.l0.eq_2 ..) (Ev.pos (by omega) (Ev.bind hev (Ev.pos (by decide) (Ev.const _))))
/-- Both orders have the same length. -/
theorem order_both {xs : List It} (hs : Small xs) (hF : FormP xs) : ∃ v v', Ev (fun k => spec_l28Order.f k xs) v ∧ Ev (fun k => impl_makeOrder.f k xs) v' ∧ v.length = v'.length := by
 have hn := hs.1
 have hR : Rel xs [] (List.replicate xs.length false) [] := by
  refine ⟨rfl, List.length_replicate, fun t ht => ?_⟩
  unfold rdOf
  rw [Int.toNat_natCast, List.getD_eq_getElem?_getD, List.getElem?_replicate, if_pos ht]
  simp
 obtain ⟨v, v', h1, h2, h3⟩ := order_l0 hs hF _ [] _ [] hR rfl (Nat.zero_le _)
 refine ⟨v, v', Ev.pos (by omega) (Ev.pos (by omega) ?_), h2, h3⟩
 rw [Int.toNat_natCast]
 exact h1
/-! ### The program's test -/
def okI (xs : List It) (names : List ByteArray) (i : Nat) : Prop :=
 AreN (rd_T49 xs (i : Int)).f1 16 ∧ okNums (rd_T49 xs (i : Int)) ∧ ∀ j, j < (rd_T49 xs (i : Int)).f1.length → nd (rd_T49 xs (i : Int)).f1 j ∈ names
theorem valid_l1 {xs : List It} (hs : Small xs) (names : List ByteArray) (hnm : names.length ≤ 4000000) {Q : Prop} (hQ : (∀ j, j < xs.length → okI xs names j) → Says (fun k => (impl_makeOrder.f k xs).bind fun t => some ((t.length : Int) == (xs.length : Int))) Q) : ∀ (d i : Nat), xs.length - i = d → i ≤ xs.length → (∀ j, j < i → okI xs names j) →
  Says (fun k => impl_ValidItems.l1 k xs xs (xs.length : Int) (i : Int) names) ((∀ j, i ≤ j → j < xs.length → okI xs names j) ∧ Q)
 | 0, i, hd, hi, hp => Says.step (fun k => impl_ValidItems.l1.eq_2 ..) (Says.neg (by omega) ((hQ fun j hj => hp j (by omega)).of (from_end (by omega))))
 | d + 1, i, hd, hi, hp => by
  have hlt : i < xs.length := by omega
  have hn := hs.1
  have hx := hs.2 xs[i] (List.getElem_mem _)
  have e : rd_T49 xs (i : Int) = xs[i] := rdI_at hlt
  refine Says.step (fun k => impl_ValidItems.l1.eq_2 ..) (Says.pos (by omega) (Says.pos (by omega) (Says.pos (by omega) ?_)))
  obtain ⟨b, hb, hP⟩ := areNames_says (rd_T49 xs (i : Int)).f1 16 (by rw [e]; exact hx.2.1) (by rw [e]; exact hx.2.2)
  refine Says.bind hb ?_
  by_cases h : b = true
  ·refine Says.pos h (Says.bind (Ev.all fun _ => in_impl _ _ _) ?_)
   by_cases hu : inR (rd_T49 xs (i : Int)).f2 0 1000000
   ·refine Says.pos (decide_eq_true hu) (Says.bind (Ev.all fun _ => in_impl _ _ _) ?_)
    by_cases hv : inR (rd_T49 xs (i : Int)).f3 0 1000
    ·rw [decide_eq_true hv]
     refine Says.step (fun k => impl_ValidItems.j2.eq_2 ..) (Says.neg (by decide) ?_)
     obtain ⟨b', hb', hP'⟩ := miss1_any (rd_T49 xs (i : Int)).f1 names (by rw [e]; exact hx.2.1) hnm
     refine Says.bind hb' ?_
     by_cases h' : b' = true
     ·exact Says.pos h' (Says.no (from_not hlt fun g => hP'.1 h' g.2.2))
     ·have hok : okI xs names i := ⟨hP.1 h, ⟨hu, hv⟩, Classical.not_not.1 fun g => h' (hP'.2 g)⟩
      refine Says.neg h' ?_
      rw [wrap_nat (by omega)]
      exact (valid_l1 hs names hnm hQ d (i + 1) (by omega) (by omega) fun j hj => by
       rcases Nat.lt_or_ge j i with g | g
       ·exact hp j g
       ·have : i = j := by omega
        exact this ▸ hok).of (from_step hlt hok)
    ·rw [decide_eq_false hv]
     exact Says.step (fun k => impl_ValidItems.j2.eq_2 ..) (Says.pos rfl (Says.no (from_not hlt fun g => hv g.2.1.2)))
   ·refine Says.neg (by rw [decide_eq_false hu]; decide) ?_
    exact Says.step (fun k => impl_ValidItems.j2.eq_2 ..) (Says.pos rfl (Says.no (from_not hlt fun g => hu g.2.1.1)))
  ·exact Says.neg h (Says.step (fun k => impl_ValidItems.j2.eq_2 ..) (Says.pos rfl (Says.no (from_not hlt fun g => h (hP.2 g.1)))))
def namesOf (xs : List It) : List ByteArray := xs.map (·.f0)
def ImplP (xs : List It) : Prop := AreN (namesOf xs) 16 ∧ ∀ j, j < xs.length → okI xs (namesOf xs) j
theorem valid_l0 {xs : List It} (hs : Small xs) {Q : Prop} (hQ : ImplP xs → Says (fun k => (impl_makeOrder.f k xs).bind fun t => some ((t.length : Int) == (xs.length : Int))) Q) : ∀ (d i : Nat), xs.length - i = d → i ≤ xs.length →
  Says (fun k => impl_ValidItems.l0 k xs xs (xs.length : Int) (i : Int) (namesOf (xs.take i))) (ImplP xs ∧ Q)
 | 0, i, hd, hi => by
  have hn := hs.1
  rw [List.take_of_length_le (by omega)]
  refine Says.step (fun k => impl_ValidItems.l0.eq_2 ..) (Says.neg (by omega) ?_)
  have hl : (namesOf xs).length ≤ 4000000 := by unfold namesOf; rw [List.length_map]; exact hn
  obtain ⟨b, hb, hP⟩ := areNames_says (namesOf xs) 16 hl (fun x hx => by
   unfold namesOf at hx
   obtain ⟨y, hy, e⟩ := List.mem_map.1 hx
   rw [← e]; exact (hs.2 y hy).1)
  refine Says.bind hb ?_
  by_cases h : b = true
  ·refine Says.pos h ((valid_l1 hs (namesOf xs) hl (Q := Q) (fun g => hQ ⟨hP.1 h, g⟩) _ 0 rfl (Nat.zero_le _) fun j hj => absurd hj (by omega)).of ?_)
   exact ⟨fun g => ⟨⟨hP.1 h, fun j hj => g.1 j (Nat.zero_le _) hj⟩, g.2⟩, fun g => ⟨fun j _ hj => g.1.2 j hj, g.2⟩⟩
  ·exact Says.neg h (Says.no fun g => h (hP.2 g.1.1))
 | d + 1, i, hd, hi => by
  have hlt : i < xs.length := by omega
  have hn := hs.1
  have ih := valid_l0 hs hQ d (i + 1) (by omega) (by omega)
  refine Says.step (fun k => impl_ValidItems.l0.eq_2 ..) (Says.pos (by omega) (Says.pos (by omega) (Says.pos (by omega) (Says.pos (by unfold namesOf; rw [List.length_map, List.length_take]; omega) ?_))))
  rw [wrap_nat (by omega), rdI_at hlt]
  rw [show namesOf (xs.take i) ++ [xs[i].f0] = namesOf (xs.take (i + 1)) from by
   unfold namesOf
   rw [List.take_add_one, List.getElem?_eq_getElem hlt, List.map_append]; rfl]
  exact ih
theorem named_mem {xs : List It} {x : ByteArray} : x ∈ namesOf xs ↔ Named xs x := by
 unfold namesOf Named
 rw [List.mem_map]
 constructor
 ·rintro ⟨y, hy, e⟩
  obtain ⟨t, ht, e'⟩ := List.getElem_of_mem hy
  exact ⟨t, ht, by rw [nm_at ht, e', e]⟩
 ·rintro ⟨t, ht, e⟩
  exact ⟨xs[t], List.getElem_mem _, by rw [← e, nm_at ht]⟩
theorem nd_names {xs : List It} {i : Nat} (h : i < xs.length) : nd (namesOf xs) i = nm xs i := by
 rw [nd_at (by unfold namesOf; rw [List.length_map]; exact h), nm_at h]
 simp [namesOf]
theorem count_needs {xs : List It} (hr : ∀ j, j < xs.length → 0 < j → bl (nm xs (j - 1)) (nm xs j)) (l : List ByteArray) (h : ∀ t, 0 ≤ t → t < l.length → okNeed xs l t) : ∀ j, j < l.length → ∃ t, j ≤ t ∧ t < xs.length ∧ nm xs t = nd l j
 | 0, hj => by
  obtain ⟨t, ht, e⟩ := (h 0 (Nat.le_refl _) hj).1
  exact ⟨t, Nat.zero_le _, ht, e⟩
 | j + 1, hj => by
  obtain ⟨t, h1, h2, h3⟩ := count_needs hr l h j (by omega)
  obtain ⟨⟨t', g1, g2⟩, g3⟩ := h (j + 1) (Nat.zero_le _) hj
  have hb := g3 (by omega)
  rw [show j + 1 - 1 = j from rfl, ← h3, ← g2] at hb
  have := rising_lt_of (f := nm xs) hr h2 g1 hb
  exact ⟨t', by omega, g1, g2⟩
theorem form_impl {xs : List It} : FormP xs ↔ ImplP xs := by
 have hlen : (namesOf xs).length = xs.length := by unfold namesOf; rw [List.length_map]
 constructor
 ·intro hF
  refine ⟨⟨fun j _ hj => ?_, by rw [hlen]; exact hF.2⟩, fun i hi => ?_⟩
  ·rw [hlen] at hj
   have g := (hF.1 j (Nat.zero_le _) hj).1
   unfold okN
   rw [nd_names hj, nd_names (show j - 1 < xs.length from by omega)]
   exact g
  ·have g := hF.1 i (Nat.zero_le _) hi
   refine ⟨⟨fun j _ hj => ⟨?_, fun h0 => (g.2.2 j (Nat.zero_le _) hj).2 h0⟩, ?_⟩, g.2.1, fun j hj => named_mem.2 (g.2.2 j (Nat.zero_le _) hj).1⟩
   ·obtain ⟨t, ht, e⟩ := (g.2.2 j (Nat.zero_le _) hj).1
    rw [← e]
    exact (hF.1 t (Nat.zero_le _) ht).1.1
   ·have hc := count_needs (fun j hj h0 => (hF.1 j (Nat.zero_le _) hj).1.2 h0) _ g.2.2
    have h16 := hF.2
    rcases Nat.lt_or_ge xs.length (rd_T49 xs (i : Int)).f1.length with h' | h'
    ·obtain ⟨t, h1, h2, -⟩ := hc xs.length h'
     omega
    ·omega
 ·intro hI
  refine ⟨fun i _ hi => ?_, by have := hI.1.2; rw [hlen] at this; exact this⟩
  have g := hI.1.1 i (Nat.zero_le _) (by rw [hlen]; exact hi)
  unfold okN at g
  rw [nd_names hi, nd_names (show i - 1 < xs.length from by omega)] at g
  have g' := hI.2 i hi
  exact ⟨g, g'.2.1, fun t _ ht => ⟨named_mem.1 (g'.2.2 t ht), (g'.1.1 t (Nat.zero_le _) ht).2⟩⟩
/-- Both tests say the same; what they let pass has the form. -/
theorem valid_both {xs : List It} (hs : Small xs) : ∃ b, Ev (fun k => spec_l28Ok.f k xs) b ∧ Ev (fun k => impl_ValidItems.f k xs) b ∧ (b = true → FormP xs) := by
 by_cases hF : FormP xs
 ·obtain ⟨v, v', h1, h2, h3⟩ := order_both hs hF
  have hq : Says (fun k => (impl_makeOrder.f k xs).bind fun t => some ((t.length : Int) == (xs.length : Int))) (((v.length : Int) == (xs.length : Int)) = true) := by
   refine Says.bind h2 ?_
   rw [← h3]
   exact ⟨_, Ev.const _, Iff.rfl⟩
  obtain ⟨b, hb, hP⟩ := valid_l0 hs (fun _ => hq) _ 0 rfl (Nat.zero_le _)
  obtain ⟨c, hc, hPc⟩ := form_says xs hs
  have hct : c = true := hPc.2 hF
  have hbe : b = ((v.length : Int) == (xs.length : Int)) := by
   have hI := form_impl.1 hF
   have : b = true ↔ ((v.length : Int) == (xs.length : Int)) = true := hP.trans ⟨fun g => g.2, fun g => ⟨hI, g⟩⟩
   exact Bool.eq_iff_iff.2 this
  refine ⟨b, ?_, hb, fun _ => hF⟩
  refine Ev.bind hc (Ev.pos hct (Ev.bind h1 ?_))
  rw [hbe]
  exact Ev.const _
 ·obtain ⟨c, hc, hPc⟩ := form_says xs hs
  have hcf : ¬ c = true := fun h => hF (hPc.1 h)
  obtain ⟨b, hb, hP⟩ := valid_l0 hs (Q := True) (fun g => absurd (form_impl.2 g) hF) _ 0 rfl (Nat.zero_le _)
  have hbf : b = false := by
   cases b
   ·rfl
   ·exact absurd (form_impl.2 (hP.1 rfl).1) hF
  subst hbf
  exact ⟨false, Ev.bind hc (Ev.neg hcf (Ev.const _)), hb, fun h => by cases h⟩
end Go.Proofs.YtiopkeepldmlkaaDoor.QRI
