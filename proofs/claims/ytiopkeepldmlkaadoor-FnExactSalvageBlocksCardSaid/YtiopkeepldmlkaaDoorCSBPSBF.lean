/- Plain Lean on the printed functions: the law's marks, and what is left of damaged bytes: the program answers as the reference does. -/
import Derived.Test.YtiopkeepldmlkaaDoorCSBPSBE
set_option linter.unusedVariables false
set_option linter.unusedSimpArgs false
namespace Go.Proofs.YtiopkeepldmlkaaDoor.QSB
open Go Go.RowKit Go.Proofs.YtiopkeepldmlkaaDoorW.PrintWords Go.Proofs.YtiopkeepldmlkaaDoor.Plain
structure Good (xs : List S36) : Prop where
  sorted : Sorted xs
  ok : ∀ x ∈ xs, blockOk (L x.f0) (L x.f1) (L x.f2) = true
  len : xs.length ≤ 32
theorem Good.nil : Good [] := ⟨List.Pairwise.nil, by simp, by simp⟩
theorem name_len {l : Bytes} (h : isName l = true) : l.length ≤ 10 := by
  unfold isName at h
  rw [Bool.and_eq_true, Bool.and_eq_true] at h
  exact of_decide_eq_true h.1.1
theorem ok_len {a b c : ByteArray} (h : blockOk (L a) (L b) (L c) = true) : a.size ≤ 10 ∧ b.size ≤ 10 ∧ c.size ≤ 400 := by
  unfold blockOk at h
  rw [Bool.and_eq_true, Bool.and_eq_true, Bool.and_eq_true] at h
  have h1 := name_len h.2.1
  have h2 := name_len h.2.2.1
  have h3 := of_decide_eq_true h.2.2.2
  rw [L_length] at h1 h2 h3
  exact ⟨h1, h2, h3⟩
theorem valid_l0 (xs : List S36) (hg : Good xs) : ∀ (t : List S36) (i : Nat), xs.drop i = t → i ≤ xs.length → Ev (fun k => impl_ValidBlocks.l0 k xs xs (xs.length : Int) (i : Int)) true
  | [], i, h, hi => by
    have hil : i = xs.length := by have := congrArg List.length h; simp at this; omega
    refine Ev.step (fun k => impl_ValidBlocks.l0.eq_2 ..) ?_
    refine Ev.neg (by omega) ?_
    have := hg.len
    rw [decide_eq_true (show (xs.length : Int) ≤ 32 by omega)]
    exact Ev.const _
  | x :: t, i, h, hi => by
    have hlt : i < xs.length := by
      rcases Nat.lt_or_ge i xs.length with h' | h'
      · exact h'
      · rw [List.drop_eq_nil_of_le h'] at h; cases h
    have hx : xs[i] = x := by rw [List.drop_eq_getElem_cons hlt] at h; exact (List.cons.inj h).1
    have ht : xs.drop (i + 1) = t := by rw [List.drop_eq_getElem_cons hlt] at h; exact (List.cons.inj h).2
    have hlen := hg.len
    have hok := hg.ok x (hx ▸ List.getElem_mem hlt)
    have hsz := ok_len hok
    refine Ev.step (fun k => impl_ValidBlocks.l0.eq_2 ..) ?_
    refine Ev.pos (by omega) ?_
    refine Ev.pos (by omega) ?_
    refine Ev.pos (by omega) ?_
    rw [rd_at hlt, hx]
    have ho := one_impl x.f0 x.f1 x.f2 (by omega) (by omega) (by omega)
    rw [hok] at ho
    refine Ev.bind ho ?_
    refine Ev.pos rfl ?_
    rw [wrap_nat (by omega)]
    have ih := valid_l0 xs hg t (i + 1) ht (by omega)
    by_cases hi0 : (i : Int) > 0
    · refine Ev.pos hi0 ?_
      rw [show wrap64 ((i : Int) - 1) = ((i - 1 : Nat) : Int) from by rw [wrap_id (by omega) (by omega)]; omega]
      refine Ev.pos (by omega) ?_
      refine Ev.pos (by omega) ?_
      rw [rd_at (show i - 1 < xs.length by omega)]
      refine Ev.bind (cmp_spec _ _) ?_
      have hl : lt (xs[i - 1]) x := by
        have := List.pairwise_iff_getElem.1 hg.sorted (i - 1) i (by omega) hlt (by omega)
        rw [hx] at this; exact this
      exact Ev.neg (by have := (cmpI_neg _ _).2 hl; omega) ih
    · exact Ev.neg hi0 ih
theorem valid_spec (xs : List S36) (hg : Good xs) : Ev (fun k => impl_ValidBlocks.f k xs) true := valid_l0 xs hg xs 0 rfl (Nat.zero_le _)
theorem iput (xs : List S36) (hg : Good xs) (b : S36) (hb : blockOk (L b.f0) (L b.f1) (L b.f2) = true) :
    Ev (fun k => impl_PutBlock.f k xs b.f0 b.f1 b.f2) (if (goPut b xs false).length ≤ 32 then (goPut b xs false, 0) else ([], 5)) := by
  obtain ⟨A, D, e, hA, hD⟩ := cut_at b xs hg.sorted
  have hsz := ok_len hb
  have hs : Sorted (A ++ D) := e ▸ hg.sorted
  have hp : goPut b xs false = putL A b D := by rw [e]; exact goPut_put b D (List.pairwise_append.1 hs).2.1 hD A hA
  have hlen := hg.len
  refine Ev.bind (valid_spec xs hg) ?_
  refine Ev.pos rfl ?_
  have ho := one_impl b.f0 b.f1 b.f2 (by omega) (by omega) (by omega)
  rw [hb] at ho
  refine Ev.bind ho ?_
  refine Ev.step (fun k => impl_PutBlock.j0.eq_2 ..) ?_
  refine Ev.neg (by decide) ?_
  refine Ev.bind (putBlock_spec xs b A D e hA hD (by omega)) ?_
  rw [hp]
  by_cases h : (putL A b D).length ≤ 32
  · rw [if_pos h]
    exact Ev.neg (by omega) (Ev.const _)
  · rw [if_neg h]
    exact Ev.pos (by omega) (Ev.const _)
theorem good_put {xs : List S36} (hg : Good xs) {b : S36} (hb : blockOk (L b.f0) (L b.f1) (L b.f2) = true) (hl : (goPut b xs false).length ≤ 32) : Good (goPut b xs false) := by
  obtain ⟨A, D, e, hA, hD⟩ := cut_at b xs hg.sorted
  have hs : Sorted (A ++ D) := e ▸ hg.sorted
  have hp : goPut b xs false = putL A b D := by rw [e]; exact goPut_put b D (List.pairwise_append.1 hs).2.1 hD A hA
  rw [hp] at hl ⊢
  refine ⟨putL_sorted b A D hs hA hD, fun x hx => ?_, hl⟩
  rcases putL_mem hx with rfl | hx
  · exact hb
  · exact hg.ok x (e ▸ hx)
theorem parseC_ok (l : Bytes) (h : (parseC l).2.2.2 = 0) : blockOk (parseC l).1 (parseC l).2.1 (parseC l).2.2.1 = true := by
  unfold parseC at h ⊢
  by_cases h1 : l.length < 6
  · rw [if_pos h1] at h; exact absurd h (by decide)
  · rw [if_neg h1] at h ⊢
    by_cases h2 : l.getD 5 0 ≠ 32
    · rw [if_pos h2] at h; exact absurd h (by decide)
    · rw [if_neg h2] at h ⊢
      by_cases h3 : l.take 5 ≠ five (crcL 65535 (l.drop 6))
      · rw [if_pos h3] at h; exact absurd h (by decide)
      · rw [if_neg h3] at h ⊢
        rcases hc : (cutL 32 (l.drop 6)).2 with _ | r
        · rw [hc] at h; exact absurd h (by show ¬ ((9 : Int) = 0); decide)
        · rw [hc] at h
          dsimp only at h ⊢
          rcases hc2 : (cutL 32 r).2 with _ | c
          · rw [hc2] at h; exact absurd h (by show ¬ ((9 : Int) = 0); decide)
          · rw [hc2] at h
            dsimp only at h ⊢
            by_cases hk : blockOk (cutL 32 (l.drop 6)).1 (cutL 32 r).1 c = true
            · rw [if_pos hk]; exact hk
            · rw [if_neg hk] at h; exact absurd h (by decide)
/-- One line more. -/
def blk (l : Bytes) : S36 := ⟨B (parseC l).1, B (parseC l).2.1, B (parseC l).2.2.1⟩
def stepL (xs : List S36) (l : Bytes) : List S36 := if (parseC l).2.2.2 = 0 then (if (goPut (blk l) xs false).length ≤ 32 then goPut (blk l) xs false else xs) else xs
theorem blk_ok {l : Bytes} (h : (parseC l).2.2.2 = 0) : blockOk (L (blk l).f0) (L (blk l).f1) (L (blk l).f2) = true := by
  unfold blk
  rw [L_B, L_B, L_B]; exact parseC_ok l h
theorem good_step {xs : List S36} (hg : Good xs) (l : Bytes) : Good (stepL xs l) := by
  unfold stepL
  split
  · rename_i h
    split
    · rename_i h2; exact good_put hg (blk_ok h) h2
    · exact hg
  · exact hg
theorem good_fold : ∀ (ls : List Bytes) (xs : List S36), Good xs → Good (ls.foldl stepL xs)
  | [], _, h => h
  | l :: ls, xs, h => good_fold ls _ (good_step h l)
theorem rd_lines {ls : List Bytes} {i : Nat} {l : Bytes} {t : List Bytes} (h : ls.drop i = l :: t) : i < ls.length ∧ ls.drop (i + 1) = t ∧ rdOf ByteArray.empty (ls.map B) (i : Int) = B l := by
  have hlt : i < ls.length := by
    rcases Nat.lt_or_ge i ls.length with h' | h'
    · exact h'
    · rw [List.drop_eq_nil_of_le h'] at h; cases h
  rw [List.drop_eq_getElem_cons hlt] at h
  obtain ⟨h1, h2⟩ := List.cons.inj h
  refine ⟨hlt, h2, ?_⟩
  unfold rdOf
  rw [Int.toNat_natCast, List.getD_eq_getElem?_getD, List.getElem?_map, List.getElem?_eq_getElem hlt, h1]; rfl
theorem spec_l0 (ls : List Bytes) (hn : ls.length ≤ 2000000) (hl : ∀ l ∈ ls, l.length ≤ 1048576) : ∀ (t : List Bytes) (i : Nat) (xs : List S36), ls.drop i = t → i ≤ ls.length + 1 → Good xs → Ev (fun k => spec_SalvageBlocks.l0 k (ls.map B) xs (i : Int)) (t.foldl stepL xs)
  | [], i, xs, h, hi, hg => by
    have hil : ls.length ≤ i := by have := congrArg List.length h; simp at this; omega
    refine Ev.step (fun k => spec_SalvageBlocks.l0.eq_2 ..) ?_
    exact Ev.neg (by rw [List.length_map]; omega) (Ev.const _)
  | l :: t, i, xs, h, hi, hg => by
    obtain ⟨hlt, ht, hrd⟩ := rd_lines h
    have hll := hl l (by rw [← List.take_append_drop i ls, h]; simp)
    have hg' := good_step hg l
    have hlen := hg.len
    refine Ev.step (fun k => spec_SalvageBlocks.l0.eq_2 ..) ?_
    refine Ev.pos (by rw [List.length_map]; omega) ?_
    refine Ev.pos (by omega) ?_
    rw [hrd, wrap_nat (by omega), List.foldl_cons]
    have hp := parse_spec (B l) (by rw [B_size]; exact hll)
    rw [L_B] at hp
    refine Ev.bind hp ?_
    have ih := spec_l0 ls hn hl t (i + 1) (stepL xs l) ht (by omega) hg'
    unfold stepL at ih ⊢
    by_cases h0 : (parseC l).2.2.2 = 0
    · rw [if_pos h0] at ih ⊢
      refine Ev.pos h0 ?_
      refine Ev.bind (put_spec xs (blk l) (by omega)) ?_
      by_cases h32 : (goPut (blk l) xs false).length ≤ 32
      · rw [if_pos h32] at ih ⊢
        exact Ev.pos (by omega) ih
      · rw [if_neg h32] at ih ⊢
        exact Ev.neg (by omega) ih
    · rw [if_neg h0] at ih ⊢
      exact Ev.neg h0 ih
theorem impl_l0 (ls : List Bytes) (hn : ls.length ≤ 2000000) (hl : ∀ l ∈ ls, l.length ≤ 1048576) : ∀ (t : List Bytes) (i : Nat) (xs : List S36), ls.drop i = t → i ≤ ls.length → Good xs → (i = 0 → xs = []) →
    Ev (fun k => impl_SalvageBlocks.l0 k xs (ls.map B) (ls.length : Int) (i : Int)) ((if i = 0 then t.tail else t).foldl stepL xs)
  | [], i, xs, h, hi, hg, _ => by
    have hil : ls.length ≤ i := by have := congrArg List.length h; simp at this; omega
    refine Ev.step (fun k => impl_SalvageBlocks.l0.eq_2 ..) ?_
    rw [show (if i = 0 then ([] : List Bytes).tail else []) = [] from by split <;> rfl]
    exact Ev.neg (by omega) (Ev.const _)
  | l :: t, i, xs, h, hi, hg, hx => by
    obtain ⟨hlt, ht, hrd⟩ := rd_lines h
    have hll := hl l (by rw [← List.take_append_drop i ls, h]; simp)
    have hg' := good_step hg l
    refine Ev.step (fun k => impl_SalvageBlocks.l0.eq_2 ..) ?_
    refine Ev.pos (by omega) ?_
    refine Ev.pos (by omega) ?_
    refine Ev.pos (by rw [List.length_map]; omega) ?_
    rw [hrd]
    have hp := line_impl_of (B l) (by rw [B_size]; exact hll)
    rw [L_B] at hp
    refine Ev.bind hp ?_
    by_cases hi0 : i = 0
    · refine Ev.pos (by omega) ?_
      refine Ev.step (fun k => impl_SalvageBlocks.j1.eq_2 ..) ?_
      refine Ev.pos rfl ?_
      rw [wrap_nat (by omega), if_pos hi0, List.tail_cons]
      have ih := impl_l0 ls hn hl t (i + 1) xs ht (by omega) hg (by omega)
      rw [if_neg (by omega)] at ih
      exact ih
    · refine Ev.neg (by omega) ?_
      refine Ev.step (fun k => impl_SalvageBlocks.j1.eq_2 ..) ?_
      rw [if_neg hi0, List.foldl_cons, wrap_nat (by omega)]
      have ih := impl_l0 ls hn hl t (i + 1) (stepL xs l) ht (by omega) hg' (by omega)
      rw [if_neg (by omega)] at ih
      unfold stepL at ih ⊢
      by_cases h0 : (parseC l).2.2.2 = 0
      · rw [if_pos h0] at ih ⊢
        refine Ev.neg (by show ¬ (((parseC l).2.2.2 != 0) = true); rw [h0]; decide) ?_
        refine Ev.bind (iput xs hg (blk l) (blk_ok h0)) ?_
        by_cases h32 : (goPut (blk l) xs false).length ≤ 32
        · rw [if_pos h32] at ih
          rw [if_pos h32, if_pos h32]
          exact Ev.pos rfl ih
        · rw [if_neg h32] at ih
          rw [if_neg h32, if_neg h32]
          exact Ev.neg (by decide) ih
      · rw [if_neg h0] at ih ⊢
        exact Ev.pos (by show (((parseC l).2.2.2 != 0) = true); simpa using h0) ih
theorem splitL_piece (c : UInt8) : ∀ (l cur : Bytes), ∀ p ∈ splitL c cur l, p.length ≤ cur.length + l.length
  | [], cur, p, hp => by simp [splitL] at hp; rw [hp]; simp
  | b :: t, cur, p, hp => by
    unfold splitL at hp
    split at hp
    · rcases List.mem_cons.1 hp with rfl | hp
      · simp
      · have := splitL_piece c t [] p hp; simp at this ⊢; omega
    · have := splitL_piece c t (cur ++ [b]) p hp; simp at this ⊢; omega
theorem lines_bound (s : ByteArray) (hs : s.size ≤ 1048576) : (linesOf (L s)).length ≤ 2000000 ∧ ∀ l ∈ linesOf (L s), l.length ≤ 1048576 := by
  have h2 := splitL_length 10 (L s) []
  rw [L_length] at h2
  refine ⟨by unfold linesOf; rw [List.length_dropLast]; omega, fun l hl => ?_⟩
  have := splitL_piece 10 (L s) [] l (List.dropLast_subset _ hl)
  rw [L_length] at this
  simp at this
  omega
def salvage (s : ByteArray) : List S36 := (linesOf (L s)).tail.foldl stepL []
theorem salvage_spec (s : ByteArray) (hs : s.size ≤ 1048576) : Ev (fun k => spec_SalvageBlocks.f k s) (salvage s) := by
  obtain ⟨h1, h2⟩ := lines_bound s hs
  refine Ev.bind (lines_spec s hs) ?_
  exact spec_l0 (linesOf (L s)) h1 h2 (linesOf (L s)).tail 1 [] (by rw [List.drop_one]) (by omega) Good.nil
theorem salvage_impl (s : ByteArray) (hs : s.size ≤ 1048576) : Ev (fun k => impl_SalvageBlocks.f k s) (salvage s) := by
  obtain ⟨h1, h2⟩ := lines_bound s hs
  refine Ev.bind (Ev.all (fun _ => lines_impl s hs)) ?_
  dsimp only
  rw [List.length_map]
  exact impl_l0 (linesOf (L s)) h1 h2 (linesOf (L s)) 0 [] rfl (Nat.zero_le _) Good.nil (fun _ => rfl)
theorem salvage_good (s : ByteArray) : Good (salvage s) := good_fold _ _ Good.nil
/-! ### The law's own marks -/
theorem eqB (x : S36) : laws_eqBlock.f x.f0 x.f1 x.f2 x.f0 x.f1 x.f2 = some true := by unfold laws_eqBlock.f; simp
theorem eqS_l0 (xs : List S36) (hn : xs.length ≤ 1000000) : ∀ (t : List S36) (i : Nat), xs.drop i = t → i ≤ xs.length → Ev (fun k => laws_eqBlockS.l0 k xs xs (i : Int)) true
  | [], i, h, hi => by
    have hil : i = xs.length := by have := congrArg List.length h; simp at this; omega
    refine Ev.step (fun k => laws_eqBlockS.l0.eq_2 ..) ?_
    exact Ev.neg (by omega) (Ev.const _)
  | x :: t, i, h, hi => by
    have hlt : i < xs.length := by
      rcases Nat.lt_or_ge i xs.length with h' | h'
      · exact h'
      · rw [List.drop_eq_nil_of_le h'] at h; cases h
    have ht : xs.drop (i + 1) = t := by rw [List.drop_eq_getElem_cons hlt] at h; exact (List.cons.inj h).2
    refine Ev.step (fun k => laws_eqBlockS.l0.eq_2 ..) ?_
    refine Ev.pos (by omega) ?_
    refine Ev.pos (by omega) ?_
    refine Ev.pos (by omega) ?_
    refine Ev.bind (Ev.all (fun _ => eqB _)) ?_
    refine Ev.pos rfl ?_
    rw [wrap_nat (by omega)]
    exact eqS_l0 xs hn t (i + 1) ht (by omega)
theorem eqS_spec (xs : List S36) (hn : xs.length ≤ 1000000) : Ev (fun k => laws_eqBlockS.f k xs xs) true := by
  unfold laws_eqBlockS.f
  exact Ev.pos rfl (eqS_l0 xs hn xs 0 rfl (Nat.zero_le _))
theorem mark_l0 : ∀ (a : Nat) (s : ByteArray), s.size + a ≤ 1000000000000 → ∃ v, Ev (fun k => laws_markText.l0 k (a : Int) s) v := by
  intro a
  induction a using Nat.strongRecOn with
  | ind a ih =>
    intro s hs
    by_cases h0 : a = 0
    · subst h0
      refine ⟨_, Ev.step (fun k => laws_markText.l0.eq_2 ..) (Ev.neg (by decide) (Ev.pos (by omega) (Ev.const _)))⟩
    · have hd : (Int.tdiv (a : Int) 10) = ((a / 10 : Nat) : Int) := by rw [Int.tdiv_eq_ediv_of_nonneg (by omega)]; omega
      obtain ⟨v, hv⟩ := ih (a / 10) (by omega) (strOfNums [(wrap64 (48 + (Int.tmod (a : Int) 10))) % 256] ++ s) (by
        have : (strOfNums [(wrap64 (48 + (Int.tmod (a : Int) 10))) % 256] ++ s).size = 1 + s.size := by rw [ByteArray.size_append, strOfNums_size]; rfl
        omega)
      refine ⟨v, Ev.step (fun k => laws_markText.l0.eq_2 ..) (Ev.pos (by omega) (Ev.bind (Ev.const _) (Ev.pos (by rw [strOfNums_size]; simp; omega) ?_)))⟩
      rw [hd, wrap_id (n := ((a / 10 : Nat) : Int)) (by omega) (by omega)]
      exact hv
theorem mark_text (m : Int) (h0 : 0 ≤ m) (h1 : m ≤ 1000000) : ∃ v, Ev (fun k => laws_markText.f k m) v := by
  unfold laws_markText.f
  by_cases hm : m ≤ 0
  · exact ⟨_, Ev.pos hm (Ev.const _)⟩
  · obtain ⟨a, rfl⟩ := Int.eq_ofNat_of_zero_le h0
    obtain ⟨v, hv⟩ := mark_l0 a ⟨#[]⟩ (by have : (⟨#[]⟩ : ByteArray).size = 0 := rfl; omega)
    exact ⟨v, Ev.neg hm hv⟩
theorem marks : ∃ M : Int → ByteArray, ∀ m, 0 ≤ m → m ≤ 1000000 → Ev (fun k => laws_markText.f k m) (M m) :=
  ⟨fun m => if h : 0 ≤ m ∧ m ≤ 1000000 then (mark_text m h.1 h.2).choose else ⟨#[]⟩, fun m h0 h1 => by simp only [dif_pos (show 0 ≤ m ∧ m ≤ 1000000 from ⟨h0, h1⟩)]; exact (mark_text m h0 h1).choose_spec⟩
def marked (M : Int → ByteArray) : Int → List S36 → List S36
  | _, [] => []
  | m, _ :: t => ⟨M m, M (m + 1), M (m + 2)⟩ :: marked M (m + 3) t
theorem set_mid {α : Type} (p : List α) (x y : α) (t : List α) : (p ++ x :: t).set p.length y = p ++ y :: t := by rw [List.set_append_right _ _ (Nat.le_refl _), Nat.sub_self]; rfl
theorem rd_mid (p : List S36) (x : S36) (t : List S36) : rd_T36 (p ++ x :: t) (p.length : Int) = x := by
  rw [rd_at (by simp)]
  rw [List.getElem_append_right (Nat.le_refl _)]
  simp
theorem markS_l0 {M : Int → ByteArray} (hM : ∀ m, 0 ≤ m → m ≤ 1000000 → Ev (fun k => laws_markText.f k m) (M m)) : ∀ (t p : List S36) (m : Int), 0 ≤ m → p.length + t.length ≤ 1000 → m + 3 * t.length ≤ 100000 →
    Ev (fun k => laws_markBlockS.l0 k (p ++ t) m (p.length : Int)) (m + 3 * t.length, p ++ marked M m t)
  | [], p, m, h0, hn, hm => by
    refine Ev.step (fun k => laws_markBlockS.l0.eq_2 ..) ?_
    refine Ev.neg (by simp) ?_
    rw [show m + 3 * (([] : List S36).length : Int) = m from by simp, show marked M m [] = [] from rfl]
    exact Ev.const _
  | x :: t, p, m, h0, hn, hm => by
    simp only [List.length_cons] at hn hm
    refine Ev.step (fun k => laws_markBlockS.l0.eq_2 ..) ?_
    refine Ev.pos (by simp; omega) ?_
    refine Ev.bind (hM m h0 (by omega)) ?_
    refine Ev.pos (by omega) ?_
    rw [rd_mid, Int.toNat_natCast, set_mid]
    refine Ev.bind (Ev.const _) ?_
    rw [wrap_id (n := m + 1) (by omega) (by omega)]
    refine Ev.bind (hM (m + 1) (by omega) (by omega)) ?_
    rw [rd_mid, set_mid]
    refine Ev.bind (Ev.const _) ?_
    rw [wrap_id (n := m + 1 + 1) (by omega) (by omega)]
    refine Ev.bind (hM (m + 1 + 1) (by omega) (by omega)) ?_
    rw [rd_mid, set_mid, wrap_id (n := m + 1 + 1 + 1) (by omega) (by omega), wrap_nat (by omega)]
    have ih := markS_l0 hM t (p ++ [⟨M m, M (m + 1), M (m + 1 + 1)⟩]) (m + 1 + 1 + 1) (by omega) (by simp; omega) (by omega)
    rw [List.length_append, List.append_assoc, List.append_assoc] at ih
    rw [show (m + 3 * (((x :: t).length : Nat) : Int), p ++ marked M m (x :: t)) = (m + 1 + 1 + 1 + 3 * (t.length : Int), p ++ ([⟨M m, M (m + 1), M (m + 1 + 1)⟩] ++ marked M (m + 1 + 1 + 1) t)) from by
      rw [show m + 1 + 1 + 1 = m + 3 from by omega, show m + 1 + 1 = m + 2 from by omega]
      simp only [marked, List.length_cons, List.singleton_append]
      congr 1; omega]
    exact ih
theorem heldS_l0 {M : Int → ByteArray} (hM : ∀ m, 0 ≤ m → m ≤ 1000000 → Ev (fun k => laws_markText.f k m) (M m)) : ∀ (t p : List S36) (m : Int), 0 ≤ m → p.length + t.length ≤ 1000 → m + 3 * t.length ≤ 100000 →
    Ev (fun k => laws_heldBlockS.l0 k (p ++ marked M m t) m (p.length : Int)) (m + 3 * t.length)
  | [], p, m, h0, hn, hm => by
    refine Ev.step (fun k => laws_heldBlockS.l0.eq_2 ..) ?_
    refine Ev.neg (by simp [marked]) ?_
    rw [show m + 3 * (([] : List S36).length : Int) = m from by simp]
    exact Ev.const _
  | x :: t, p, m, h0, hn, hm => by
    simp only [List.length_cons] at hn hm
    refine Ev.step (fun k => laws_heldBlockS.l0.eq_2 ..) ?_
    rw [show marked M m (x :: t) = ⟨M m, M (m + 1), M (m + 2)⟩ :: marked M (m + 3) t from rfl]
    refine Ev.pos (by simp; omega) ?_
    refine Ev.pos (by omega) ?_
    refine Ev.bind (hM m h0 (by omega)) ?_
    rw [rd_mid]
    refine Ev.pos rfl ?_
    rw [wrap_id (n := m + 1) (by omega) (by omega)]
    refine Ev.bind (hM (m + 1) (by omega) (by omega)) ?_
    refine Ev.pos rfl ?_
    rw [wrap_id (n := m + 1 + 1) (by omega) (by omega), show m + 1 + 1 = m + 2 from by omega]
    refine Ev.bind (hM (m + 2) (by omega) (by omega)) ?_
    refine Ev.pos rfl ?_
    rw [wrap_id (n := m + 2 + 1) (by omega) (by omega), show m + 2 + 1 = m + 3 from by omega, wrap_nat (by omega)]
    have ih := heldS_l0 hM t (p ++ [⟨M m, M (m + 1), M (m + 2)⟩]) (m + 3) (by omega) (by simp; omega) (by omega)
    rw [List.length_append, List.append_assoc] at ih
    rw [show m + 3 * (((x :: t).length : Nat) : Int) = m + 3 + 3 * (t.length : Int) from by rw [List.length_cons]; omega]
    exact ih
theorem law : laws_FnExactSalvageBlocks.Pure := by
  intro a0 h0
  refine Ev.rounds (r := true) ?_
  unfold laws_FnExactSalvageBlocks.f
  by_cases hs : (a0.size : Int) > 1048576
  · exact Ev.pos hs (Ev.const _)
  · refine Ev.neg hs ?_
    have hs' : a0.size ≤ 1048576 := by omega
    obtain ⟨M, hM⟩ := marks
    have hlen := (salvage_good a0).len
    have hmark := markS_l0 hM (salvage a0) [] 1 (by decide) (by simp; omega) (by omega)
    have hheld := heldS_l0 hM (salvage a0) [] 1 (by decide) (by simp; omega) (by omega)
    refine Ev.bind (salvage_spec a0 hs') ?_
    refine Ev.bind (salvage_impl a0 hs') ?_
    refine Ev.bind (eqS_spec (salvage a0) (by omega)) ?_
    refine Ev.pos rfl ?_
    refine Ev.bind hmark ?_
    refine Ev.bind hheld ?_
    refine Ev.neg (by omega) ?_
    refine Ev.pos rfl ?_
    refine Ev.bind (salvage_impl a0 hs') ?_
    refine Ev.bind (eqS_spec (salvage a0) (by omega)) ?_
    refine Ev.pos rfl ?_
    refine Ev.bind hheld ?_
    refine Ev.neg (by omega) ?_
    exact Ev.pos rfl (Ev.const _)
end Go.Proofs.YtiopkeepldmlkaaDoor.QSB
