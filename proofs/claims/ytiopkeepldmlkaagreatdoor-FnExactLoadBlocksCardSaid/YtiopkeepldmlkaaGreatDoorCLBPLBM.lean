/- Plain Lean on the printed functions: the law's own marks on a list of blocks. -/
import Derived.Test.YtiopkeepldmlkaaGreatDoorCLBPLBE
set_option linter.unusedVariables false
set_option linter.unusedSimpArgs false
namespace Go.Proofs.YtiopkeepldmlkaaGreatDoor.QLB
open Go Go.RowKit Go.Proofs.YtiopkeepldmlkaaGreatDoorW.PrintWords Go.Proofs.YtiopkeepldmlkaaGreatDoor.Plain
theorem rd_lines {ls : List Bytes} {i : Nat} {l : Bytes} {t : List Bytes} (h : ls.drop i = l :: t) : i < ls.length ∧ ls.drop (i + 1) = t ∧ rdOf ByteArray.empty (ls.map B) (i : Int) = B l := by
  have hlt : i < ls.length := by
    rcases Nat.lt_or_ge i ls.length with h' | h'
    · exact h'
    · rw [List.drop_eq_nil_of_le h'] at h; cases h
  rw [List.drop_eq_getElem_cons hlt] at h
  obtain ⟨h1, h2⟩ := List.cons.inj h
  refine ⟨hlt, h2, ?_⟩
  unfold rdOf
  rw [Int.toNat_natCast, List.getD_eq_getElem?_getD, List.getElem?_map, List.getElem?_eq_getElem hlt, h1]; rfl
theorem splitL_piece (c : UInt8) : ∀ (l cur : Bytes), ∀ p ∈ splitL c cur l, p.length ≤ cur.length + l.length
  | [], cur, p, hp => by simp [splitL] at hp; rw [hp]; simp
  | b :: t, cur, p, hp => by
    unfold splitL at hp
    split at hp
    · rcases List.mem_cons.1 hp with rfl | hp
      · simp
      · have := splitL_piece c t [] p hp; simp at this ⊢; omega
    · have := splitL_piece c t (cur ++ [b]) p hp; simp at this ⊢; omega
theorem lines_bound (s : ByteArray) (hs : s.size ≤ 1048576) : (linesOf (L s)).length ≤ 2000000 ∧ ∀ l ∈ linesOf (L s), l.length ≤ 1048576 := by
  have h2 := splitL_length 10 (L s) []
  rw [L_length] at h2
  refine ⟨by unfold linesOf; rw [List.length_dropLast]; omega, fun l hl => ?_⟩
  have := splitL_piece 10 (L s) [] l (List.dropLast_subset _ hl)
  rw [L_length] at this
  simp at this
  omega
/-! ### The law's own marks -/
theorem eqB (x : S44) : laws_eqBlock.f x.f0 x.f1 x.f2 x.f0 x.f1 x.f2 = some true := by unfold laws_eqBlock.f; simp
theorem eqS_l0 (xs : List S44) (hn : xs.length ≤ 1000000) : ∀ (t : List S44) (i : Nat), xs.drop i = t → i ≤ xs.length → Ev (fun k => laws_eqBlockS.l0 k xs xs (i : Int)) true
  | [], i, h, hi => by
    have hil : i = xs.length := by have := congrArg List.length h; simp at this; omega
    refine Ev.step (fun k => laws_eqBlockS.l0.eq_2 ..) ?_
    exact Ev.neg (by omega) (Ev.const _)
  | x :: t, i, h, hi => by
    have hlt : i < xs.length := by
      rcases Nat.lt_or_ge i xs.length with h' | h'
      · exact h'
      · rw [List.drop_eq_nil_of_le h'] at h; cases h
    have ht : xs.drop (i + 1) = t := by rw [List.drop_eq_getElem_cons hlt] at h; exact (List.cons.inj h).2
    refine Ev.step (fun k => laws_eqBlockS.l0.eq_2 ..) ?_
    refine Ev.pos (by omega) ?_
    refine Ev.pos (by omega) ?_
    refine Ev.pos (by omega) ?_
    refine Ev.bind (Ev.all (fun _ => eqB _)) ?_
    refine Ev.pos rfl ?_
    rw [wrap_nat (by omega)]
    exact eqS_l0 xs hn t (i + 1) ht (by omega)
theorem eqS_spec (xs : List S44) (hn : xs.length ≤ 1000000) : Ev (fun k => laws_eqBlockS.f k xs xs) true := by
  unfold laws_eqBlockS.f
  exact Ev.pos rfl (eqS_l0 xs hn xs 0 rfl (Nat.zero_le _))
theorem mark_l0 : ∀ (a : Nat) (s : ByteArray), s.size + a ≤ 1000000000000 → ∃ v, Ev (fun k => laws_markText.l0 k (a : Int) s) v := by
  intro a
  induction a using Nat.strongRecOn with
  | ind a ih =>
    intro s hs
    by_cases h0 : a = 0
    · subst h0
      refine ⟨_, Ev.step (fun k => laws_markText.l0.eq_2 ..) (Ev.neg (by decide) (Ev.pos (by omega) (Ev.const _)))⟩
    · have hd : (Int.tdiv (a : Int) 10) = ((a / 10 : Nat) : Int) := by rw [Int.tdiv_eq_ediv_of_nonneg (by omega)]; omega
      obtain ⟨v, hv⟩ := ih (a / 10) (by omega) (strOfNums [(wrap64 (48 + (Int.tmod (a : Int) 10))) % 256] ++ s) (by
        have : (strOfNums [(wrap64 (48 + (Int.tmod (a : Int) 10))) % 256] ++ s).size = 1 + s.size := by rw [ByteArray.size_append, strOfNums_size]; rfl
        omega)
      refine ⟨v, Ev.step (fun k => laws_markText.l0.eq_2 ..) (Ev.pos (by omega) (Ev.bind (Ev.const _) (Ev.pos (by rw [strOfNums_size]; simp; omega) ?_)))⟩
      rw [hd, wrap_id (n := ((a / 10 : Nat) : Int)) (by omega) (by omega)]
      exact hv
theorem mark_text (m : Int) (h0 : 0 ≤ m) (h1 : m ≤ 1000000) : ∃ v, Ev (fun k => laws_markText.f k m) v := by
  unfold laws_markText.f
  by_cases hm : m ≤ 0
  · exact ⟨_, Ev.pos hm (Ev.const _)⟩
  · obtain ⟨a, rfl⟩ := Int.eq_ofNat_of_zero_le h0
    obtain ⟨v, hv⟩ := mark_l0 a ⟨#[]⟩ (by have : (⟨#[]⟩ : ByteArray).size = 0 := rfl; omega)
    exact ⟨v, Ev.neg hm hv⟩
theorem marks : ∃ M : Int → ByteArray, ∀ m, 0 ≤ m → m ≤ 1000000 → Ev (fun k => laws_markText.f k m) (M m) :=
  ⟨fun m => if h : 0 ≤ m ∧ m ≤ 1000000 then (mark_text m h.1 h.2).choose else ⟨#[]⟩, fun m h0 h1 => by simp only [dif_pos (show 0 ≤ m ∧ m ≤ 1000000 from ⟨h0, h1⟩)]; exact (mark_text m h0 h1).choose_spec⟩
def marked (M : Int → ByteArray) : Int → List S44 → List S44
  | _, [] => []
  | m, _ :: t => ⟨M m, M (m + 1), M (m + 2)⟩ :: marked M (m + 3) t
theorem set_mid {α : Type} (p : List α) (x y : α) (t : List α) : (p ++ x :: t).set p.length y = p ++ y :: t := by rw [List.set_append_right _ _ (Nat.le_refl _), Nat.sub_self]; rfl
theorem rd_mid (p : List S44) (x : S44) (t : List S44) : rd_T44 (p ++ x :: t) (p.length : Int) = x := by
  rw [rd_at (by simp)]
  rw [List.getElem_append_right (Nat.le_refl _)]
  simp
theorem markS_l0 {M : Int → ByteArray} (hM : ∀ m, 0 ≤ m → m ≤ 1000000 → Ev (fun k => laws_markText.f k m) (M m)) : ∀ (t p : List S44) (m : Int), 0 ≤ m → p.length + t.length ≤ 1000 → m + 3 * t.length ≤ 100000 →
    Ev (fun k => laws_markBlockS.l0 k (p ++ t) m (p.length : Int)) (m + 3 * t.length, p ++ marked M m t)
  | [], p, m, h0, hn, hm => by
    refine Ev.step (fun k => laws_markBlockS.l0.eq_2 ..) ?_
    refine Ev.neg (by simp) ?_
    rw [show m + 3 * (([] : List S44).length : Int) = m from by simp, show marked M m [] = [] from rfl]
    exact Ev.const _
  | x :: t, p, m, h0, hn, hm => by
    simp only [List.length_cons] at hn hm
    refine Ev.step (fun k => laws_markBlockS.l0.eq_2 ..) ?_
    refine Ev.pos (by simp; omega) ?_
    refine Ev.bind (hM m h0 (by omega)) ?_
    refine Ev.pos (by omega) ?_
    rw [rd_mid, Int.toNat_natCast, set_mid]
    refine Ev.bind (Ev.const _) ?_
    rw [wrap_id (n := m + 1) (by omega) (by omega)]
    refine Ev.bind (hM (m + 1) (by omega) (by omega)) ?_
    rw [rd_mid, set_mid]
    refine Ev.bind (Ev.const _) ?_
    rw [wrap_id (n := m + 1 + 1) (by omega) (by omega)]
    refine Ev.bind (hM (m + 1 + 1) (by omega) (by omega)) ?_
    rw [rd_mid, set_mid, wrap_id (n := m + 1 + 1 + 1) (by omega) (by omega), wrap_nat (by omega)]
    have ih := markS_l0 hM t (p ++ [⟨M m, M (m + 1), M (m + 1 + 1)⟩]) (m + 1 + 1 + 1) (by omega) (by simp; omega) (by omega)
    rw [List.length_append, List.append_assoc, List.append_assoc] at ih
    rw [show (m + 3 * (((x :: t).length : Nat) : Int), p ++ marked M m (x :: t)) = (m + 1 + 1 + 1 + 3 * (t.length : Int), p ++ ([⟨M m, M (m + 1), M (m + 1 + 1)⟩] ++ marked M (m + 1 + 1 + 1) t)) from by
      rw [show m + 1 + 1 + 1 = m + 3 from by omega, show m + 1 + 1 = m + 2 from by omega]
      simp only [marked, List.length_cons, List.singleton_append]
      congr 1; omega]
    exact ih
theorem heldS_l0 {M : Int → ByteArray} (hM : ∀ m, 0 ≤ m → m ≤ 1000000 → Ev (fun k => laws_markText.f k m) (M m)) : ∀ (t p : List S44) (m : Int), 0 ≤ m → p.length + t.length ≤ 1000 → m + 3 * t.length ≤ 100000 →
    Ev (fun k => laws_heldBlockS.l0 k (p ++ marked M m t) m (p.length : Int)) (m + 3 * t.length)
  | [], p, m, h0, hn, hm => by
    refine Ev.step (fun k => laws_heldBlockS.l0.eq_2 ..) ?_
    refine Ev.neg (by simp [marked]) ?_
    rw [show m + 3 * (([] : List S44).length : Int) = m from by simp]
    exact Ev.const _
  | x :: t, p, m, h0, hn, hm => by
    simp only [List.length_cons] at hn hm
    refine Ev.step (fun k => laws_heldBlockS.l0.eq_2 ..) ?_
    rw [show marked M m (x :: t) = ⟨M m, M (m + 1), M (m + 2)⟩ :: marked M (m + 3) t from rfl]
    refine Ev.pos (by simp; omega) ?_
    refine Ev.pos (by omega) ?_
    refine Ev.bind (hM m h0 (by omega)) ?_
    rw [rd_mid]
    refine Ev.pos rfl ?_
    rw [wrap_id (n := m + 1) (by omega) (by omega)]
    refine Ev.bind (hM (m + 1) (by omega) (by omega)) ?_
    refine Ev.pos rfl ?_
    rw [wrap_id (n := m + 1 + 1) (by omega) (by omega), show m + 1 + 1 = m + 2 from by omega]
    refine Ev.bind (hM (m + 2) (by omega) (by omega)) ?_
    refine Ev.pos rfl ?_
    rw [wrap_id (n := m + 2 + 1) (by omega) (by omega), show m + 2 + 1 = m + 3 from by omega, wrap_nat (by omega)]
    have ih := heldS_l0 hM t (p ++ [⟨M m, M (m + 1), M (m + 2)⟩]) (m + 3) (by omega) (by simp; omega) (by omega)
    rw [List.length_append, List.append_assoc] at ih
    rw [show m + 3 * (((x :: t).length : Nat) : Int) = m + 3 + 3 * (t.length : Int) from by rw [List.length_cons]; omega]
    exact ih
end Go.Proofs.YtiopkeepldmlkaaGreatDoor.QLB
