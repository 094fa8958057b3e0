/- Plain Lean on the printed functions: the text of items, and reading it: the program's and the reference's come to the same. -/
import Derived.Test.YtiopkeepldmlkaaDoorCRIPRII
import Derived.Lib.Join
set_option linter.unusedVariables false
set_option linter.unusedSimpArgs false
namespace Go.Proofs.YtiopkeepldmlkaaDoor.QRI
open Go Go.RowKit Go.Proofs.YtiopkeepldmlkaaDoorW.PrintWords Go.Proofs.YtiopkeepldmlkaaDoor.Plain
/-! ### Joining and cutting -/
theorem splitL_piece (c : UInt8) : ∀ (l cur : Bytes), ∀ p ∈ splitL c cur l, p.length ≤ cur.length + l.length
 | [], cur, p, hp => by simp [splitL] at hp; rw [hp]; simp
 | b :: t, cur, p, hp => by
  unfold splitL at hp
  split at hp
  ·rcases List.mem_cons.1 hp with rfl | hp
   ·simp
   ·have := splitL_piece c t [] p hp; simp at this ⊢; omega
  ·have := splitL_piece c t (cur ++ [b]) p hp; simp at this ⊢; omega
theorem join_cons2 (x : Bytes) {r : List Bytes} (h : r ≠ []) (c : UInt8) : Lib.join (x :: r) [c] = x ++ c :: Lib.join r [c] := by
 rcases r with _ | ⟨y, r⟩
 ·exact absurd rfl h
 ·rw [Lib.join_cons, Lib.join_cons]
  simp [Lib.joinTail]
theorem join_split (c : UInt8) : ∀ (l cur : Bytes), Lib.join (splitL c cur l) [c] = cur ++ l
 | [], cur => by rw [splitL, Lib.join_one, List.append_nil]
 | b :: t, cur => by
  unfold splitL
  split
  ·rename_i h
   rw [join_cons2 _ (splitL_ne c t []), join_split c t [], h]; rfl
  ·rw [join_split c t, List.append_assoc]; rfl
theorem split_join (c : UInt8) : ∀ ps : List Bytes, ps ≠ [] → (∀ p ∈ ps, ∀ b ∈ p, b ≠ c) → splitL c [] (Lib.join ps [c]) = ps
 | [], h, _ => absurd rfl h
 | [p], _, h => by rw [Lib.join_one, splitL_miss c p [] (h p (by simp))]; rfl
 | p :: q :: r, _, h => by
  rw [join_cons2 p (by simp) c, splitL_hit c p _ [] (h p (by simp)), split_join c (q :: r) (by simp) fun x hx => h x (by simp only [List.mem_cons] at hx ⊢; exact Or.inr hx)]; rfl
theorem join_mem (c : UInt8) {b : UInt8} : ∀ ps : List Bytes, b ∈ Lib.join ps [c] → (∃ p ∈ ps, b ∈ p) ∨ b = c
 | [], h => by rw [Lib.join_nil] at h; cases h
 | [p], h => by rw [Lib.join_one] at h; exact Or.inl ⟨p, by simp, h⟩
 | p :: q :: r, h => by
  rw [join_cons2 p (by simp) c, List.mem_append, List.mem_cons] at h
  rcases h with h | h | h
  ·exact Or.inl ⟨p, by simp, h⟩
  ·exact Or.inr h
  ·rcases join_mem c (q :: r) h with ⟨x, hx, hb⟩ | h
   ·exact Or.inl ⟨x, by simp only [List.mem_cons] at hx ⊢; exact Or.inr hx, hb⟩
   ·exact Or.inr h
theorem join_len (c : UInt8) (m : Nat) : ∀ ps : List Bytes, (∀ p ∈ ps, p.length ≤ m) → (Lib.join ps [c]).length ≤ (m + 1) * ps.length
 | [], _ => by rw [Lib.join_nil]; simp
 | [p], h => by rw [Lib.join_one]; have := h p (by simp); simp; omega
 | p :: q :: r, h => by
  have h1 := h p (by simp)
  have h2 := join_len c m (q :: r) fun x hx => h x (by simp only [List.mem_cons] at hx ⊢; exact Or.inr hx)
  rw [join_cons2 p (by simp) c, List.length_append, List.length_cons]
  rw [List.length_cons (a := p), Nat.mul_succ]
  omega
theorem join_fn (l : List Bytes) (c : UInt8) (h1 : l.length ≤ 4000000) (m : Nat) (hm : m ≤ 1000000) (h2 : ∀ p ∈ l, p.length ≤ m) : strings_Join.f (l.map B) (⟨#[c]⟩ : ByteArray) = some (B (Lib.join l [c])) := by
 show strings_Join.f (l.map B) (B [c]) = _
 have e : (l.map B).map (fun x : ByteArray => x.data.toList) = l := by
  rw [List.map_map]
  exact (List.map_congr_left fun x _ => L_B x).trans (List.map_id _)
 have h3 := join_len c m l h2
 have h4 : (m + 1) * l.length ≤ 1000001 * 4000000 := Nat.mul_le_mul (by omega) h1
 unfold strings_Join.f
 rw [e, if_pos ⟨by rw [List.length_map]; omega, by show (Lib.join l [c]).length ≤ _; omega⟩]
 rfl
/-! ### What valid items are made of -/
structure OkIt (x : It) : Prop where
 name : isName (L x.f0) = true
 needs : ∀ n ∈ x.f1, isName (L n) = true
 few : x.f1.length ≤ 16
 made : inR x.f2 0 1000000
 cost : inR x.f3 0 1000
theorem form_ok {xs : List It} (hF : FormP xs) : xs.length ≤ 16 ∧ ∀ x ∈ xs, OkIt x := by
 have h16 := hF.2
 refine ⟨by omega, fun x hx => ?_⟩
 obtain ⟨i, hi, e⟩ := List.getElem_of_mem hx
 have g := hF.1 i (Nat.zero_le _) hi
 have g' := (form_impl.1 hF).2 i hi
 have hr : rd_T49 xs (i : Int) = x := by rw [rdI_at hi, e]
 have hnm : nm xs i = x.f0 := by unfold nm; rw [hr]
 unfold okI at g'
 rw [hr] at g'
 refine ⟨by rw [← hnm]; exact g.1.1, fun n hn => ?_, by have := g'.1.2; omega, g'.2.1.1, g'.2.1.2⟩
 obtain ⟨t, ht, e'⟩ := nd_mem.1 hn
 rw [← e']
 exact (g'.1.1 t (Nat.zero_le _) ht).1
theorem name_bytes {l : Bytes} (h : isName l = true) : l.length ≤ 10 ∧ ∀ b ∈ l, 48 ≤ b.toNat := by
 unfold isName at h
 rw [Bool.and_eq_true, Bool.and_eq_true, decide_eq_true_iff] at h
 refine ⟨h.1.1, fun b hb => ?_⟩
 have := List.all_eq_true.1 h.2 b hb
 rw [Bool.or_eq_true] at this
 rcases this with g | g
 ·unfold small at g
  rw [Bool.and_eq_true, decide_eq_true_iff, decide_eq_true_iff] at g
  omega
 ·exact (digit_iff.1 g).1
theorem itoa_bytes {n : Int} (h0 : 0 ≤ n) (h1 : n ≤ 1000000) : (Lib.itoa n).length ≤ 21 ∧ ∀ b ∈ Lib.itoa n, 48 ≤ b.toNat := by
 refine ⟨itoa_len n (by omega) (by omega), fun b hb => ?_⟩
 obtain ⟨u, rfl⟩ := Int.eq_ofNat_of_zero_le h0
 rw [itoa_nat] at hb
 exact (digit_iff.1 (List.all_eq_true.1 (digits_dec u) b hb)).1
def itemWords (x : It) : List Bytes := L x.f0 :: Lib.itoa x.f2 :: Lib.itoa x.f3 :: x.f1.map L
def itemText (x : It) : Bytes := Lib.join (itemWords x) [32]
def textOf (xs : List It) : Bytes := Lib.join (xs.map itemText) [47]
theorem words_bytes {x : It} (h : OkIt x) : ∀ p ∈ itemWords x, p.length ≤ 21 ∧ ∀ b ∈ p, 48 ≤ b.toNat := by
 intro p hp
 unfold itemWords at hp
 simp only [List.mem_cons, List.mem_map] at hp
 rcases hp with rfl | rfl | rfl | ⟨n, hn, rfl⟩
 ·have := name_bytes h.name
  exact ⟨by omega, this.2⟩
 ·exact itoa_bytes h.made.1 h.made.2
 ·exact itoa_bytes h.cost.1 (by have := h.cost.2; omega)
 ·have := name_bytes (h.needs n hn)
  exact ⟨by omega, this.2⟩
theorem byte_not {b c : UInt8} (h : 48 ≤ b.toNat) (hc : c.toNat < 48) : b ≠ c := fun e => by rw [e] at h; omega
theorem words_back {x : It} (h : OkIt x) : splitL 32 [] (itemText x) = itemWords x :=
 split_join 32 _ (by simp [itemWords]) fun p hp b hb => byte_not ((words_bytes h p hp).2 b hb) (by decide)
theorem text_byte {x : It} (h : OkIt x) : ∀ b ∈ itemText x, b ≠ 47 := by
 intro b hb
 rcases join_mem 32 _ hb with ⟨p, hp, hb⟩ | rfl
 ·exact byte_not ((words_bytes h p hp).2 b hb) (by decide)
 ·decide
theorem text_len {x : It} (h : OkIt x) : (itemText x).length ≤ 500 := by
 have h1 := join_len 32 21 (itemWords x) fun p hp => (words_bytes h p hp).1
 have h2 : (itemWords x).length ≤ 19 := by unfold itemWords; have := h.few; simp; omega
 unfold itemText
 have : (21 + 1) * (itemWords x).length ≤ 22 * 19 := Nat.mul_le_mul (Nat.le_refl _) h2
 omega
theorem text_l0 {xs : List It} (hn : xs.length ≤ 16) (hx : ∀ x ∈ xs, OkIt x) : ∀ (d i : Nat), xs.length - i = d → i ≤ xs.length →
  Ev (fun k => impl_ItemsText.l0 k (((xs.take i).map itemText).map B) xs (xs.length : Int) (i : Int)) (B (textOf xs))
 | 0, i, hd, hi => by
  rw [List.take_of_length_le (by omega)]
  refine Ev.step (fun k => impl_ItemsText.l0.eq_2 ..) (Ev.neg (by omega) (Ev.bind (Ev.all fun _ => join_fn (xs.map itemText) 47 (by rw [List.length_map]; omega) 500 (by omega) fun p hp => ?_) (Ev.const _)))
  obtain ⟨x, hx', rfl⟩ := List.mem_map.1 hp
  exact text_len (hx x hx')
 | d + 1, i, hd, hi => by
  have hlt : i < xs.length := by omega
  have hok := hx xs[i] (List.getElem_mem _)
  have h0 := hok.made
  have h1 := hok.cost
  unfold inR at h0 h1
  have h2 := hok.few
  refine Ev.step (fun k => impl_ItemsText.l0.eq_2 ..) (Ev.pos (by omega) (Ev.pos (by omega) (Ev.pos (by omega) ?_)))
  rw [rdI_at hlt, wrap_nat (by omega)]
  refine Ev.bind (Ev.all fun _ => dec_impl _ (by omega) (by omega)) (Ev.bind (Ev.all fun _ => dec_impl _ (by omega) (by omega)) (Ev.bind (Ev.const _) (Ev.pos (by simp; omega) ?_)))
  have e : ([xs[i].f0, B (Lib.itoa xs[i].f2), B (Lib.itoa xs[i].f3)] ++ xs[i].f1) = (itemWords xs[i]).map B := by
   unfold itemWords
   simp only [List.map_cons, B_L, List.map_map]
   rw [show (B ∘ L) = id from funext fun s => B_L s, List.map_id]; rfl
  rw [e]
  refine Ev.bind (Ev.all fun _ => join_fn (itemWords xs[i]) 32 (by unfold itemWords; simp; omega) 21 (by omega) fun p hp => (words_bytes hok p hp).1) ?_
  refine Ev.pos (by rw [List.length_map, List.length_map, List.length_take]; omega) ?_
  have ih := text_l0 hn hx d (i + 1) (by omega) (by omega)
  rw [List.take_add_one, List.getElem?_eq_getElem hlt, List.map_append, List.map_append] at ih
  exact ih
/-! ### Reading -/
def wordsOf (p : Bytes) : List Bytes := splitL 32 [] p
def W (p : Bytes) (i : Int) : Bytes := L (rdOf ByteArray.empty ((wordsOf p).map B) i)
def itemOf (p : Bytes) : It := ⟨rdOf ByteArray.empty ((wordsOf p).map B) 0, ((wordsOf p).map B).drop 3, (numC (W p 1)).getD 0, (numC (W p 2)).getD 0⟩
def long (p : Bytes) : Prop := 3 ≤ (wordsOf p).length
def good (p : Bytes) : Prop := long p ∧ (numC (W p 1)).isSome = true ∧ (numC (W p 2)).isSome = true
theorem word_len (p : Bytes) (hp : p.length ≤ 1048576) {x : ByteArray} (hx : x ∈ (wordsOf p).map B) : x.size ≤ 1048576 := by
 obtain ⟨w, hw, rfl⟩ := List.mem_map.1 hx
 have := splitL_piece 32 p [] w hw
 rw [B_size]; simp at this; omega
theorem W_len (p : Bytes) (hp : p.length ≤ 1048576) (i : Int) : (rdOf ByteArray.empty ((wordsOf p).map B) i).size ≤ 1048576 := by
 unfold rdOf
 rw [List.getD_eq_getElem?_getD]
 by_cases h : i.toNat < ((wordsOf p).map B).length
 ·rw [List.getElem?_eq_getElem h]
  exact word_len p hp (List.getElem_mem _)
 ·rw [List.getElem?_eq_none (by omega)]
  exact Nat.zero_le _
theorem words_few (p : Bytes) (hp : p.length ≤ 1048576) : ((wordsOf p).map B).length ≤ 1048577 := by
 rw [List.length_map]
 have := splitL_length 32 p []
 unfold wordsOf; omega
def items (ps : List Bytes) : List It := ps.map itemOf
theorem items_small (ps : List Bytes) (h1 : ps.length ≤ 1048577) (h2 : ∀ p ∈ ps, p.length ≤ 1048576) : Small (items ps) := by
 refine ⟨by unfold items; rw [List.length_map]; omega, fun x hx => ?_⟩
 obtain ⟨p, hp, rfl⟩ := List.mem_map.1 hx
 have hp' := h2 p hp
 have hw := words_few p hp'
 refine ⟨by have := W_len p hp' 0; exact Nat.le_trans this (by omega), by show (((wordsOf p).map B).drop 3).length ≤ _; rw [List.length_drop]; omega, fun n hn => ?_⟩
 have := word_len p hp' (List.mem_of_mem_drop hn)
 omega
theorem rd_piece {ps : List Bytes} {i : Nat} (h : i < ps.length) : rdOf ByteArray.empty (ps.map B) (i : Int) = B ps[i] := by
 have := nd_at (l := ps.map B) (i := i) (by rw [List.length_map]; exact h)
 unfold nd at this
 rw [this]; simp
theorem items_snoc {ps : List Bytes} {i : Nat} (h : i < ps.length) : items (ps.take (i + 1)) = items (ps.take i) ++ [itemOf ps[i]] := by
 unfold items
 rw [List.take_add_one, List.getElem?_eq_getElem h, List.map_append]; rfl
theorem num_word (p : Bytes) (hp : p.length ≤ 1048576) (i : Int) : Ev (fun k => spec_l01Number.f k (rdOf ByteArray.empty ((wordsOf p).map B) i)) ((numC (W p i)).getD 0, (numC (W p i)).isSome) := by
 have := num_spec (W p i) (by unfold W; rw [L_length]; exact W_len p hp i)
 unfold W at this ⊢
 rw [B_L] at this
 exact this
theorem read_word (p : Bytes) (hp : p.length ≤ 1048576) (i : Int) : impl_ReadDecimal.f (rdOf ByteArray.empty ((wordsOf p).map B) i) = some ((numC (W p i)).getD 0, (numC (W p i)).isSome) := by
 have := read_impl (W p i) (by unfold W; rw [L_length]; have := W_len p hp i; omega)
 unfold W at this ⊢
 rw [B_L] at this
 exact this
theorem read_spec_l0 {ps : List Bytes} (h1 : ps.length ≤ 1048577) (h2 : ∀ p ∈ ps, p.length ≤ 1048576) {v : List It × Bool} : ∀ (d i : Nat), ps.length - i = d → i ≤ ps.length →
  ((∀ j (hj : j < ps.length), i ≤ j → good ps[j]) → Ev (fun k => (spec_l28Ok.f k (items ps)).bind fun t => if t = true then some (items ps, true) else some ([], false)) v) →
  (¬ (∀ j (hj : j < ps.length), i ≤ j → good ps[j]) → v = ([], false)) →
  Ev (fun k => spec_l28Read.l0 k (items (ps.take i)) (ps.map B) (i : Int)) v
 | 0, i, hd, hi, hg, hb => by
  rw [List.take_of_length_le (by omega)]
  exact Ev.step (fun k => spec_l28Read.l0.eq_2 ..) (Ev.neg (by rw [List.length_map]; omega) (hg fun j hj h => absurd hj (by omega)))
 | d + 1, i, hd, hi, hg, hb => by
  have hlt : i < ps.length := by omega
  have hp := h2 ps[i] (List.getElem_mem _)
  have hw : ((splitL 32 [] ps[i]).map B).length ≤ 1048577 := words_few ps[i] hp
  refine Ev.step (fun k => spec_l28Read.l0.eq_2 ..) (Ev.pos (by rw [List.length_map]; omega) (Ev.pos (by omega) ?_))
  rw [rd_piece hlt, wrap_nat (by omega)]
  have hsp := split_spec (B ps[i]) (by rw [B_size]; omega) 32
  rw [L_B] at hsp
  refine Ev.bind hsp ?_
  have hlen : ((splitL 32 [] ps[i]).map B).length = (wordsOf ps[i]).length := List.length_map _
  by_cases hl : long ps[i]
  ·unfold long at hl
   refine Ev.neg (by omega) (Ev.pos (by omega) (Ev.bind (num_word ps[i] hp 1) (Ev.pos (by omega) (Ev.bind (num_word ps[i] hp 2) ?_))))
   by_cases g1 : (numC (W ps[i] 1)).isSome = true
   ·refine Ev.pos g1 ?_
    by_cases g2 : (numC (W ps[i] 2)).isSome = true
    ·have hgood : good ps[i] := ⟨hl, g1, g2⟩
     refine Ev.pos g2 (Ev.pos (by omega) (Ev.bind (Ev.const _) (Ev.pos (by omega) (Ev.bind (Ev.const _) (Ev.pos (by rw [List.length_drop]; simp only [List.length_nil]; omega) (Ev.pos (by unfold items; rw [List.length_map, List.length_take]; omega) ?_))))))
     have ih := read_spec_l0 h1 h2 (v := v) d (i + 1) (by omega) (by omega) (fun g => hg fun j hj h => by
      rcases Nat.lt_or_ge i j with h' | h'
      ·exact g j hj h'
      ·have : i = j := by omega
       subst this; exact hgood) (fun g => hb fun g' => g fun j hj h => g' j hj (by omega))
     rw [items_snoc hlt] at ih
     exact ih
    ·refine Ev.neg g2 ?_
     rw [hb fun g => g2 (g i hlt (Nat.le_refl _)).2.2]
     exact Ev.const _
   ·refine Ev.neg g1 ?_
    rw [hb fun g => g1 (g i hlt (Nat.le_refl _)).2.1]
    exact Ev.const _
  ·unfold long at hl
   refine Ev.pos (by omega) ?_
   rw [hb fun g => hl (g i hlt (Nat.le_refl _)).1]
   exact Ev.const _
theorem read_impl_l0 (s : ByteArray) {ps : List Bytes} (h1 : ps.length ≤ 1048577) (h2 : ∀ p ∈ ps, p.length ≤ 1048576) {v : List It × Bool} : ∀ (d i : Nat), ps.length - i = d → i ≤ ps.length →
  ((∀ j (hj : j < ps.length), i ≤ j → long ps[j]) → Ev (fun k => (impl_ValidItems.f k (items ps)).bind fun t => if t = true then ((impl_ItemsText.f k (items ps)).bind fun t' => if t'.toList = s.toList then some (items ps, true) else some ([], false)) else some ([], false)) v) →
  (¬ (∀ j (hj : j < ps.length), i ≤ j → long ps[j]) → v = ([], false)) →
  Ev (fun k => impl_ReadItems.l0 k s (items (ps.take i)) (ps.map B) ((ps.map B).length : Int) (i : Int)) v
 | 0, i, hd, hi, hg, hb => by
  rw [List.take_of_length_le (by omega)]
  exact Ev.step (fun k => impl_ReadItems.l0.eq_2 ..) (Ev.neg (by rw [List.length_map]; omega) (hg fun j hj h => absurd hj (by omega)))
 | d + 1, i, hd, hi, hg, hb => by
  have hlt : i < ps.length := by omega
  have hp := h2 ps[i] (List.getElem_mem _)
  have hw : ((splitL 32 [] ps[i]).map B).length ≤ 1048577 := words_few ps[i] hp
  refine Ev.step (fun k => impl_ReadItems.l0.eq_2 ..) (Ev.pos (by rw [List.length_map]; omega) (Ev.pos (by omega) (Ev.pos (by rw [List.length_map]; omega) ?_)))
  rw [rd_piece hlt, wrap_nat (by omega)]
  have hsp := split_lib (B ps[i]) (by rw [B_size]; omega) (by rw [B_size]; omega) 32
  rw [L_B] at hsp
  refine Ev.bind (Ev.all fun _ => hsp) ?_
  have hlen : ((splitL 32 [] ps[i]).map B).length = (wordsOf ps[i]).length := List.length_map _
  by_cases hl : long ps[i]
  ·unfold long at hl
   have r1 := read_word ps[i] hp 1
   have r2 := read_word ps[i] hp 2
   unfold wordsOf at r1 r2
   refine Ev.neg (by omega) (Ev.pos (by omega) (Ev.pos (by omega) (Ev.bind (Ev.all fun _ => if_pos (by rw [List.length_drop]; omega)) (Ev.pos (by omega) (Ev.bind (Ev.all fun _ => r1) (Ev.pos (by omega) (Ev.bind (Ev.all fun _ => r2) (Ev.pos (by unfold items; rw [List.length_map, List.length_take]; omega) ?_))))))))
   have ih := read_impl_l0 s h1 h2 (v := v) d (i + 1) (by omega) (by omega) (fun g => hg fun j hj h => by
    rcases Nat.lt_or_ge i j with h' | h'
    ·exact g j hj h'
    ·have : i = j := by omega
     subst this; exact hl) (fun g => hb fun g' => g fun j hj h => g' j hj (by omega))
   rw [items_snoc hlt] at ih
   exact ih
  ·unfold long at hl
   refine Ev.pos (by omega) ?_
   rw [hb fun g => hl (g i hlt (Nat.le_refl _))]
   exact Ev.const _
theorem item_back {p : Bytes} (h : good p) : itemText (itemOf p) = p := by
 obtain ⟨hl, g1, g2⟩ := h
 unfold itemText
 rw [show itemWords (itemOf p) = wordsOf p from ?_]
 ·exact join_split 32 p []
 ·unfold itemOf W at *
  unfold long at hl
  rcases hw : wordsOf p with _ | ⟨a, _ | ⟨b, _ | ⟨c, r⟩⟩⟩
  ·rw [hw] at hl; simp at hl
  ·rw [hw] at hl; simp at hl
  ·rw [hw] at hl; simp at hl
  ·rw [hw] at g1 g2
   have e1 : L (rdOf ByteArray.empty ((a :: b :: c :: r).map B) 1) = b := L_B b
   have e2 : L (rdOf ByteArray.empty ((a :: b :: c :: r).map B) 2) = c := L_B c
   have e0 : rdOf ByteArray.empty ((a :: b :: c :: r).map B) 0 = B a := rfl
   rw [e1] at g1
   rw [e2] at g2
   unfold itemWords
   simp only [e0, e1, e2]
   obtain ⟨n1, hn1⟩ := Option.isSome_iff_exists.1 g1
   obtain ⟨n2, hn2⟩ := Option.isSome_iff_exists.1 g2
   rw [hn1, hn2, L_B]
   show a :: Lib.itoa n1 :: Lib.itoa n2 :: (r.map B).map L = _
   rw [(numC_iff.1 hn1).1, (numC_iff.1 hn2).1, List.map_map]
   rw [show (L ∘ B) = id from funext fun s => L_B s, List.map_id]
theorem good_of_text {p : Bytes} (h : OkIt (itemOf p)) (e : itemText (itemOf p) = p) : good p := by
 have hw : wordsOf p = itemWords (itemOf p) := by
  have := words_back h
  rw [e] at this
  exact this
 have h0 := h.made
 have h1 := h.cost
 unfold inR at h0 h1
 refine ⟨by unfold long; rw [hw]; unfold itemWords; simp, ?_, ?_⟩
 ·have : W p 1 = Lib.itoa (itemOf p).f2 := by
   unfold W; rw [hw]; exact L_B _
  rw [this, numC_iff.2 ⟨rfl, by omega, by omega⟩]; rfl
 ·have : W p 2 = Lib.itoa (itemOf p).f3 := by
   unfold W; rw [hw]; exact L_B _
  rw [this, numC_iff.2 ⟨rfl, by omega, by omega⟩]; rfl
theorem read_both (s : ByteArray) (hs : s.size ≤ 1048576) : ∃ r b, Ev (fun k => spec_ReadItems.f k s) (r, b) ∧ Ev (fun k => impl_ReadItems.f k s) (r, b) ∧ (r = [] ∨ FormP r) := by
 suffices H : ∃ v : List It × Bool, Ev (fun k => spec_l28Read.f k s) v ∧ Ev (fun k => impl_ReadItems.f k s) v ∧ (v.1 = [] ∨ FormP v.1) by
  obtain ⟨v, h1, h2, h3⟩ := H
  exact ⟨v.1, v.2, Ev.bind h1 (Ev.const _), h2, h3⟩
 by_cases he : s.toList = ([] : List UInt8)
 ·exact ⟨([], true), Ev.bind (Ev.const _) (Ev.pos he (Ev.const _)), Ev.pos he (Ev.const _), Or.inl rfl⟩
 ·have hsp := split_spec s (by omega) 47
  have hsl := split_lib s (by omega) (by omega) 47
  have hlen := splitL_length 47 (L s) []
  have hpc : ∀ p ∈ splitL 47 [] (L s), p.length ≤ 1048576 := fun p hp => by
   have := splitL_piece 47 (L s) [] p hp
   rw [L_length] at this; simp at this; omega
  have hjoin := join_split 47 (L s) []
  rw [L_length] at hlen
  have hne := splitL_ne 47 (L s) []
  obtain ⟨ps, hps0⟩ : ∃ ps, splitL 47 [] (L s) = ps := ⟨_, rfl⟩
  rw [hps0] at hsp hsl hlen hpc hjoin hne
  have h1 : ps.length ≤ 1048577 := by omega
  obtain ⟨b, hb1, hb2, hbF⟩ := valid_both (items_small ps h1 hpc)
  have tS : ∀ v, ((∀ j (hj : j < ps.length), 0 ≤ j → good ps[j]) → Ev (fun k => (spec_l28Ok.f k (items ps)).bind fun t => if t = true then some (items ps, true) else some ([], false)) v) → (¬ (∀ j (hj : j < ps.length), 0 ≤ j → good ps[j]) → v = ([], false)) → Ev (fun k => spec_l28Read.f k s) v := fun v hg hn =>
   Ev.bind (Ev.const _) (Ev.neg he (Ev.bind hsp (read_spec_l0 h1 hpc _ 0 rfl (Nat.zero_le _) hg hn)))
  have tI : ∀ v, ((∀ j (hj : j < ps.length), 0 ≤ j → long ps[j]) → Ev (fun k => (impl_ValidItems.f k (items ps)).bind fun t => if t = true then ((impl_ItemsText.f k (items ps)).bind fun t' => if t'.toList = s.toList then some (items ps, true) else some ([], false)) else some ([], false)) v) → (¬ (∀ j (hj : j < ps.length), 0 ≤ j → long ps[j]) → v = ([], false)) → Ev (fun k => impl_ReadItems.f k s) v := fun v hg hn =>
   Ev.neg he (Ev.bind (Ev.all fun _ => hsl) (read_impl_l0 s h1 hpc _ 0 rfl (Nat.zero_le _) hg hn))
  cases b
  ·refine ⟨([], false), tS _ (fun _ => Ev.bind hb1 (Ev.neg (by decide) (Ev.const _))) (fun _ => rfl), tI _ (fun _ => Ev.bind hb2 (Ev.neg (by decide) (Ev.const _))) (fun _ => rfl), Or.inl rfl⟩
  ·have hF := hbF rfl
   obtain ⟨h16, hok⟩ := form_ok hF
   have htext : Ev (fun k => impl_ItemsText.f k (items ps)) (B (textOf (items ps))) := Ev.bind hb2 (Ev.pos rfl (text_l0 h16 hok _ 0 rfl (Nat.zero_le _)))
   have hokp : ∀ p ∈ ps, OkIt (itemOf p) := fun p hp => hok _ (List.mem_map.2 ⟨p, hp, rfl⟩)
   by_cases hall : ∀ j (hj : j < ps.length), 0 ≤ j → good ps[j]
   ·have ht : textOf (items ps) = L s := by
     unfold textOf items
     rw [List.map_map, show ps.map (itemText ∘ itemOf) = ps from (List.map_congr_left fun p hp => by
      obtain ⟨j, hj, e⟩ := List.getElem_of_mem hp
      have := item_back (hall j hj (Nat.zero_le _))
      rw [e] at this
      exact this).trans (List.map_id _)]
     exact hjoin
    refine ⟨(items ps, true), tS _ (fun _ => Ev.bind hb1 (Ev.pos rfl (Ev.const _))) (fun g => absurd hall g), tI _ (fun _ => Ev.bind hb2 (Ev.pos rfl (Ev.bind htext (Ev.pos (by rw [ht, B_L]) (Ev.const _))))) (fun g => absurd (fun j hj h => (hall j hj h).1) g), Or.inr hF⟩
   ·have ht : ¬ textOf (items ps) = L s := fun e => hall fun j hj _ => by
     have hback : splitL 47 [] (textOf (items ps)) = (items ps).map itemText := split_join 47 _ (by
      unfold items
      rw [List.map_map]
      exact fun g => hne (List.map_eq_nil_iff.1 g)) fun q hq => by
       obtain ⟨x, hx, rfl⟩ := List.mem_map.1 hq
       exact text_byte (hok x hx)
     have hps : (items ps).map itemText = ps := by
      rw [← hback, e]
      exact hps0
     have : itemText (itemOf ps[j]) = ps[j] := by
      unfold items at hps
      rw [List.map_map] at hps
      have h2 := congrArg (fun l : List Bytes => l[j]?) hps
      simp only [List.getElem?_map, List.getElem?_eq_getElem hj, Option.map_some] at h2
      exact Option.some.inj h2
     exact good_of_text (hokp _ (List.getElem_mem _)) this
    refine ⟨([], false), tS _ (fun g => absurd g hall) (fun _ => rfl), tI _ (fun _ => Ev.bind hb2 (Ev.pos rfl (Ev.bind htext (Ev.neg (by rw [toList_L, toList_L, L_B]; exact ht) (Ev.const _))))) (fun _ => rfl), Or.inl rfl⟩
end Go.Proofs.YtiopkeepldmlkaaDoor.QRI
