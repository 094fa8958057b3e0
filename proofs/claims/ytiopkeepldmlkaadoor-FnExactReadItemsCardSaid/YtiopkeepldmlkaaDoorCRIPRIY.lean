/- Plain Lean on the printed functions: the law's own marks on items, and the law FnExactReadItems. -/
import Derived.Test.YtiopkeepldmlkaaDoorCRIPRIJ
import Derived.Test.YtiopkeepldmlkaaDoorCRIPRILawRI
set_option linter.unusedVariables false
set_option linter.unusedSimpArgs false
namespace Go.Proofs.YtiopkeepldmlkaaDoor.QRI
open Go Go.RowKit Go.Proofs.YtiopkeepldmlkaaDoorW.PrintWords Go.Proofs.YtiopkeepldmlkaaDoor.Plain
/-! ### Equal to itself -/
theorem eqStr_l0 (l : List ByteArray) (hn : l.length ≤ 1000000) : ∀ (d i : Nat), l.length - i = d → i ≤ l.length → Ev (fun k => laws_eqStringS.l0 k l l (i : Int)) true
 | 0, i, hd, hi => Ev.step (fun k => laws_eqStringS.l0.eq_2 ..) (Ev.neg (by omega) (Ev.const _))
 | d + 1, i, hd, hi => by
  refine Ev.step (fun k => laws_eqStringS.l0.eq_2 ..) (Ev.pos (by omega) (Ev.pos (by omega) (Ev.pos (by omega) (Ev.pos rfl ?_))))
  rw [wrap_nat (by omega)]
  exact eqStr_l0 l hn d (i + 1) (by omega) (by omega)
theorem eqStr (l : List ByteArray) (hn : l.length ≤ 1000000) : Ev (fun k => laws_eqStringS.f k l l) true := Ev.pos rfl (eqStr_l0 l hn _ 0 rfl (Nat.zero_le _))
theorem eqIt_l0 (xs : List It) (hn : xs.length ≤ 1000000) (hx : ∀ x ∈ xs, x.f1.length ≤ 1000000) : ∀ (d i : Nat), xs.length - i = d → i ≤ xs.length → Ev (fun k => laws_eqItemS.l0 k xs xs (i : Int)) true
 | 0, i, hd, hi => Ev.step (fun k => laws_eqItemS.l0.eq_2 ..) (Ev.neg (by omega) (Ev.const _))
 | d + 1, i, hd, hi => by
  have hlt : i < xs.length := by omega
  refine Ev.step (fun k => laws_eqItemS.l0.eq_2 ..) (Ev.pos (by omega) (Ev.pos (by omega) (Ev.pos (by omega) ?_)))
  rw [wrap_nat (by omega), rdI_at hlt]
  refine Ev.bind (a := true) (Ev.pos rfl (Ev.bind (eqStr xs[i].f1 (hx _ (List.getElem_mem _))) (Ev.pos rfl (Ev.pos rfl (Ev.pos rfl (Ev.const _)))))) (Ev.pos rfl ?_)
  exact eqIt_l0 xs hn hx d (i + 1) (by omega) (by omega)
theorem eqIt (xs : List It) (hn : xs.length ≤ 1000000) (hx : ∀ x ∈ xs, x.f1.length ≤ 1000000) : Ev (fun k => laws_eqItemS.f k xs xs) true := Ev.pos rfl (eqIt_l0 xs hn hx _ 0 rfl (Nat.zero_le _))
/-! ### Marks -/
theorem mark_l0 : ∀ (a : Nat) (s : ByteArray), s.size + a ≤ 1000000000000 → ∃ v, Ev (fun k => laws_markText.l0 k (a : Int) s) v := by
 intro a
 induction a using Nat.strongRecOn with
 | ind a ih =>
  intro s hs
  by_cases h0 : a = 0
  ·subst h0
   refine ⟨_, Ev.step (fun k => laws_markText.l0.eq_2 ..) (Ev.neg (by decide) (Ev.pos (by omega) (Ev.const _)))⟩
  ·have hd : (Int.tdiv (a : Int) 10) = ((a / 10 : Nat) : Int) := by rw [Int.tdiv_eq_ediv_of_nonneg (by omega)]; omega
   obtain ⟨v, hv⟩ := ih (a / 10) (by omega) (strOfNums [(wrap64 (48 + (Int.tmod (a : Int) 10))) % 256] ++ s) (by
    have : (strOfNums [(wrap64 (48 + (Int.tmod (a : Int) 10))) % 256] ++ s).size = 1 + s.size := by rw [ByteArray.size_append, strOfNums_size]; rfl
    omega)
   refine ⟨v, Ev.step (fun k => laws_markText.l0.eq_2 ..) (Ev.pos (by omega) (Ev.bind (Ev.const _) (Ev.pos (by rw [strOfNums_size]; simp; omega) ?_)))⟩
   rw [hd, wrap_id (n := ((a / 10 : Nat) : Int)) (by omega) (by omega)]
   exact hv
theorem mark_text (m : Int) (h0 : 0 ≤ m) (h1 : m ≤ 1000000) : ∃ v, Ev (fun k => laws_markText.f k m) v := by
 unfold laws_markText.f
 by_cases hm : m ≤ 0
 ·exact ⟨_, Ev.pos hm (Ev.const _)⟩
 ·obtain ⟨a, rfl⟩ := Int.eq_ofNat_of_zero_le h0
  obtain ⟨v, hv⟩ := mark_l0 a ⟨#[]⟩ (by have : (⟨#[]⟩ : ByteArray).size = 0 := rfl; omega)
  exact ⟨v, Ev.neg hm hv⟩
theorem marks : ∃ M : Int → ByteArray, ∀ m, 0 ≤ m → m ≤ 1000000 → Ev (fun k => laws_markText.f k m) (M m) :=
 ⟨fun m => if h : 0 ≤ m ∧ m ≤ 1000000 then (mark_text m h.1 h.2).choose else ⟨#[]⟩, fun m h0 h1 => by simp only [dif_pos (show 0 ≤ m ∧ m ≤ 1000000 from ⟨h0, h1⟩)]; exact (mark_text m h0 h1).choose_spec⟩
theorem set_mid {α : Type} (p : List α) (x y : α) (t : List α) : (p ++ x :: t).set p.length y = p ++ y :: t := by rw [List.set_append_right _ _ (Nat.le_refl _), Nat.sub_self]; rfl
theorem ndS_mid (p : List ByteArray) (x : ByteArray) (t : List ByteArray) : rdOf ByteArray.empty (p ++ x :: t) (p.length : Int) = x := by
 have h := nd_at (l := p ++ x :: t) (i := p.length) (by simp)
 unfold nd at h
 rw [h, List.getElem_append_right (Nat.le_refl _)]
 simp
theorem rdI_mid (p : List It) (x : It) (t : List It) : rd_T49 (p ++ x :: t) (p.length : Int) = x := by
 rw [rdI_at (by simp), List.getElem_append_right (Nat.le_refl _)]
 simp
def Marks (M : Int → ByteArray) : Prop := ∀ m, 0 ≤ m → m ≤ 1000000 → Ev (fun k => laws_markText.f k m) (M m)
def markedS (M : Int → ByteArray) : Int → List ByteArray → List ByteArray
 | _, [] => []
 | m, _ :: t => M m :: markedS M (m + 1) t
theorem markStr_l0 {M : Int → ByteArray} (hM : Marks M) : ∀ (t p : List ByteArray) (m : Int), 0 ≤ m → p.length + t.length ≤ 1000 → m + t.length ≤ 100000 →
  Ev (fun k => laws_markStringS.l0 k (p ++ t) m (p.length : Int)) (m + t.length, p ++ markedS M m t)
 | [], p, m, h0, hn, hm => by
  refine Ev.step (fun k => laws_markStringS.l0.eq_2 ..) (Ev.neg (by simp) ?_)
  rw [show m + (([] : List ByteArray).length : Int) = m from by simp, show markedS M m [] = [] from rfl]
  exact Ev.const _
 | x :: t, p, m, h0, hn, hm => by
  simp only [List.length_cons] at hn hm
  refine Ev.step (fun k => laws_markStringS.l0.eq_2 ..) (Ev.pos (by simp; omega) (Ev.bind (hM m h0 (by omega)) (Ev.pos (by omega) ?_)))
  rw [Int.toNat_natCast, set_mid, wrap_id (n := m + 1) (by omega) (by omega), wrap_nat (by omega)]
  have ih := markStr_l0 hM t (p ++ [M m]) (m + 1) (by omega) (by simp; omega) (by omega)
  rw [List.length_append, List.append_assoc, List.append_assoc] at ih
  rw [show (m + (((x :: t).length : Nat) : Int), p ++ markedS M m (x :: t)) = (m + 1 + (t.length : Int), p ++ ([M m] ++ markedS M (m + 1) t)) from by
   simp only [markedS, List.length_cons, List.singleton_append]
   congr 1; omega]
  exact ih
theorem heldStr_l0 {M : Int → ByteArray} (hM : Marks M) : ∀ (t p : List ByteArray) (m : Int), 0 ≤ m → p.length + t.length ≤ 1000 → m + t.length ≤ 100000 →
  Ev (fun k => laws_heldStringS.l0 k (p ++ markedS M m t) m (p.length : Int)) (m + t.length)
 | [], p, m, h0, hn, hm => by
  refine Ev.step (fun k => laws_heldStringS.l0.eq_2 ..) (Ev.neg (by simp [markedS]) ?_)
  rw [show m + (([] : List ByteArray).length : Int) = m from by simp]
  exact Ev.const _
 | x :: t, p, m, h0, hn, hm => by
  simp only [List.length_cons] at hn hm
  rw [show markedS M m (x :: t) = M m :: markedS M (m + 1) t from rfl]
  refine Ev.step (fun k => laws_heldStringS.l0.eq_2 ..) (Ev.pos (by simp; omega) (Ev.pos (by omega) (Ev.bind (hM m h0 (by omega)) ?_)))
  rw [ndS_mid]
  refine Ev.pos rfl ?_
  rw [wrap_id (n := m + 1) (by omega) (by omega), wrap_nat (by omega)]
  have ih := heldStr_l0 hM t (p ++ [M m]) (m + 1) (by omega) (by simp; omega) (by omega)
  rw [List.length_append, List.append_assoc] at ih
  rw [show m + (((x :: t).length : Nat) : Int) = m + 1 + (t.length : Int) from by rw [List.length_cons]; omega]
  exact ih
def costOf : List It → Nat
 | [] => 0
 | x :: t => x.f1.length + 3 + costOf t
def markedI (M : Int → ByteArray) : Int → List It → List It
 | _, [] => []
 | m, x :: t => ⟨M m, markedS M (m + 1) x.f1, m + 1 + x.f1.length, m + 1 + x.f1.length + 1⟩ :: markedI M (m + (x.f1.length + 3 : Nat)) t
theorem markIt_l0 {M : Int → ByteArray} (hM : Marks M) : ∀ (t p : List It) (m : Int), 0 ≤ m → p.length + t.length ≤ 1000 → (∀ x ∈ t, x.f1.length ≤ 1000) → m + costOf t ≤ 90000 →
  Ev (fun k => laws_markItemS.l0 k (p ++ t) m p.length) (m + costOf t, p ++ markedI M m t)
 | [], p, m, h0, hn, hx, hm => by
  refine Ev.step (fun k => laws_markItemS.l0.eq_2 ..) (Ev.neg (by simp) ?_)
  rw [show m + ((costOf [] : Nat) : Int) = m from by simp [costOf], show markedI M m [] = [] from rfl]
  exact Ev.const _
 | x :: t, p, m, h0, hn, hx, hm => by
  simp only [List.length_cons] at hn
  rw [costOf] at hm
  have hx' := hx x (by simp)
  have hs := markStr_l0 hM x.f1 [] (m + 1) (by omega) (by simp; omega) (by omega)
  refine Ev.step (fun k => laws_markItemS.l0.eq_2 ..) (Ev.pos (by simp) (Ev.bind (hM m h0 (by omega)) ?_))
  rw [rdI_mid, wrap_id (n := m + 1) (by omega) (by omega)]
  refine Ev.bind hs ?_
  rw [set_mid, wrap_id (n := m + 1 + (x.f1.length : Int) + 1) (by omega) (by omega), wrap_id (n := m + 1 + (x.f1.length : Int) + 1 + 1) (by omega) (by omega)]
  have ih := markIt_l0 hM t (p ++ [⟨M m, markedS M (m + 1) x.f1, m + 1 + x.f1.length, m + 1 + x.f1.length + 1⟩]) (m + (x.f1.length + 3 : Nat)) (by omega) (by simp; omega) (fun y hy => hx y (by simp [hy])) (by omega)
  rw [List.length_append, List.append_assoc, List.append_assoc] at ih
  rw [show (m + ((costOf (x :: t) : Nat) : Int), p ++ markedI M m (x :: t)) = (m + (x.f1.length + 3 : Nat) + ((costOf t : Nat) : Int), p ++ ([⟨M m, markedS M (m + 1) x.f1, m + 1 + x.f1.length, m + 1 + x.f1.length + 1⟩] ++ markedI M (m + (x.f1.length + 3 : Nat)) t)) from by
   simp only [markedI, costOf, List.singleton_append]
   congr 1; omega]
  rw [show m + 1 + (x.f1.length : Int) + 1 + 1 = m + (x.f1.length + 3 : Nat) from by omega]
  exact ih
theorem heldIt_l0 {M : Int → ByteArray} (hM : Marks M) : ∀ (t p : List It) (m : Int), 0 ≤ m → p.length + t.length ≤ 1000 → (∀ x ∈ t, x.f1.length ≤ 1000) → m + costOf t ≤ 90000 →
  Ev (fun k => laws_heldItemS.l0 k (p ++ markedI M m t) m (p.length : Int)) (m + costOf t)
 | [], p, m, h0, hn, hx, hm => by
  refine Ev.step (fun k => laws_heldItemS.l0.eq_2 ..) (Ev.neg (by simp [markedI]) ?_)
  rw [show m + ((costOf [] : Nat) : Int) = m from by simp [costOf]]
  exact Ev.const _
 | x :: t, p, m, h0, hn, hx, hm => by
  simp only [List.length_cons] at hn
  rw [costOf] at hm
  have hx' := hx x (by simp)
  have hs := heldStr_l0 hM x.f1 [] (m + 1) (by omega) (by simp; omega) (by omega)
  rw [show markedI M m (x :: t) = ⟨M m, markedS M (m + 1) x.f1, m + 1 + x.f1.length, m + 1 + x.f1.length + 1⟩ :: markedI M (m + (x.f1.length + 3 : Nat)) t from rfl]
  refine Ev.step (fun k => laws_heldItemS.l0.eq_2 ..) (Ev.pos (by simp; omega) (Ev.pos (by omega) (Ev.bind (hM m h0 (by omega)) ?_)))
  rw [rdI_mid, wrap_id (n := m + 1) (by omega) (by omega)]
  refine Ev.pos rfl (Ev.bind hs (Ev.neg (by omega) (Ev.pos rfl ?_)))
  rw [wrap_id (n := m + 1 + (x.f1.length : Int) + 1) (by omega) (by omega), wrap_id (n := m + 1 + (x.f1.length : Int) + 1 + 1) (by omega) (by omega), wrap_nat (by omega)]
  refine Ev.pos rfl ?_
  have ih := heldIt_l0 hM t (p ++ [⟨M m, markedS M (m + 1) x.f1, m + 1 + x.f1.length, m + 1 + x.f1.length + 1⟩]) (m + (x.f1.length + 3 : Nat)) (by omega) (by simp; omega) (fun y hy => hx y (by simp [hy])) (by omega)
  rw [List.length_append, List.append_assoc] at ih
  rw [show m + ((costOf (x :: t) : Nat) : Int) = m + (x.f1.length + 3 : Nat) + ((costOf t : Nat) : Int) from by rw [costOf]; omega]
  rw [show m + 1 + (x.f1.length : Int) + 1 + 1 = m + (x.f1.length + 3 : Nat) from by omega]
  exact ih
theorem cost_le (c : Nat) : ∀ xs : List It, (∀ x ∈ xs, x.f1.length ≤ c) → costOf xs ≤ (c + 3) * xs.length
 | [], _ => by simp [costOf]
 | x :: t, h => by
  have h1 := h x (by simp)
  have h2 := cost_le c t fun y hy => h y (by simp [hy])
  rw [costOf, List.length_cons, Nat.mul_succ]; omega
/-- The law, of what its calls come to. -/
theorem law : laws_FnExactReadItems.Pure := by
 intro a0 _
 by_cases hbig : (a0.size : Int) > 1048576
 ·exact Or.inl hbig
 ·obtain ⟨r, b, ⟨k1, h1⟩, ⟨k2, h2⟩, hr⟩ := read_both a0 (by omega)
  have hsz : r.length ≤ 16 ∧ ∀ x ∈ r, x.f1.length ≤ 16 := by
   rcases hr with rfl | hF
   ·exact ⟨by simp, fun x hx => by cases hx⟩
   ·have := form_ok hF
    exact ⟨this.1, fun x hx => (this.2 x hx).few⟩
  obtain ⟨M, hM⟩ := marks
  have hc := cost_le 16 r hsz.2
  have hc' : (16 + 3) * r.length ≤ 19 * 16 := Nat.mul_le_mul (Nat.le_refl _) hsz.1
  obtain ⟨k3, h3⟩ := eqIt r (by omega) fun x hx => by have := hsz.2 x hx; omega
  obtain ⟨k4, h4⟩ := markIt_l0 (M := M) hM r [] 1 (by omega) (by simp; omega) (fun x hx => by have := hsz.2 x hx; omega) (by omega)
  obtain ⟨k5, h5⟩ := heldIt_l0 (M := M) hM r [] 1 (by omega) (by simp; omega) (fun x hx => by have := hsz.2 x hx; omega) (by omega)
  refine Or.inr ⟨k1 + k2 + k3 + k4 + k5, r, r, markedI M 1 r, b, 1 + costOf r, hbig, h1 _ (by omega), h2 _ (by omega), h3 _ (by omega), ?_, h5 _ (by omega), by omega⟩
  unfold laws_markItemS.f
  rw [if_pos (by omega)]
  exact h4 _ (by omega)
end Go.Proofs.YtiopkeepldmlkaaDoor.QRI
