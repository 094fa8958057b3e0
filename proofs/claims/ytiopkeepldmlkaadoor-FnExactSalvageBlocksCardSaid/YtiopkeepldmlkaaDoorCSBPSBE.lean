/- Plain Lean on the printed functions: blocks in order, and one put in its place. -/
import Derived.Test.YtiopkeepldmlkaaDoorCSBPSBD
set_option linter.unusedVariables false
set_option linter.unusedSimpArgs false
namespace Go.Proofs.YtiopkeepldmlkaaDoor.QSB
open Go Go.RowKit Go.Proofs.YtiopkeepldmlkaaDoorW.PrintWords Go.Proofs.YtiopkeepldmlkaaDoor.Plain
theorem bl_irrefl : ∀ a : Bytes, Op.bytesLess a a = false
  | [] => rfl
  | b :: t => by unfold Op.bytesLess; rw [bl_irrefl t]; simp
theorem bl_cons (a b : UInt8) (x y : Bytes) : Op.bytesLess (a :: x) (b :: y) = true ↔ a.toNat < b.toNat ∨ (a = b ∧ Op.bytesLess x y = true) := by
  conv => lhs; unfold Op.bytesLess
  rw [Bool.or_eq_true, Bool.and_eq_true, decide_eq_true_iff, beq_iff_eq, UInt8.lt_iff_toNat_lt]
theorem bl_trans : ∀ a b c : Bytes, Op.bytesLess a b = true → Op.bytesLess b c = true → Op.bytesLess a c = true
  | _, _, [], _, h => by unfold Op.bytesLess at h; simp at h
  | _, [], _ :: _, h, _ => by unfold Op.bytesLess at h; simp at h
  | [], _ :: _, _ :: _, _, _ => rfl
  | a :: x, b :: y, c :: z, h1, h2 => by
    rw [bl_cons] at h1 h2 ⊢
    rcases h1 with h1 | ⟨rfl, h1⟩
    · rcases h2 with h2 | ⟨rfl, h2⟩
      · exact .inl (by omega)
      · exact .inl h1
    · rcases h2 with h2 | ⟨rfl, h2⟩
      · exact .inl h2
      · exact .inr ⟨rfl, bl_trans x y z h1 h2⟩
theorem bl_tri : ∀ a b : Bytes, ¬ Op.bytesLess a b = true → ¬ Op.bytesLess b a = true → a = b
  | [], [], _, _ => rfl
  | [], _ :: _, h, _ => absurd rfl h
  | _ :: _, [], _, h => absurd rfl h
  | a :: x, b :: y, h1, h2 => by
    rw [bl_cons] at h1 h2
    have e : a = b := UInt8.toNat_inj.1 (by omega)
    subst e
    rw [bl_tri x y (fun h => h1 (.inr ⟨rfl, h⟩)) (fun h => h2 (.inr ⟨rfl, h⟩))]
/-- A block's key; the order. -/
def key (x : S36) : Bytes × Bytes := (L x.f0, L x.f1)
def keyLt (a b : Bytes × Bytes) : Prop := Op.bytesLess a.1 b.1 = true ∨ (a.1 = b.1 ∧ Op.bytesLess a.2 b.2 = true)
def lt (x y : S36) : Prop := keyLt (key x) (key y)
instance (x y : S36) : Decidable (lt x y) := by unfold lt keyLt; infer_instance
theorem lt_irrefl (x : S36) : ¬ lt x x := by
  unfold lt keyLt
  rw [bl_irrefl, bl_irrefl]; simp
theorem lt_trans {x y z : S36} (h1 : lt x y) (h2 : lt y z) : lt x z := by
  unfold lt keyLt at *
  rcases h1 with h1 | ⟨e1, h1⟩
  · rcases h2 with h2 | ⟨e2, h2⟩
    · exact .inl (bl_trans _ _ _ h1 h2)
    · exact .inl (e2 ▸ h1)
  · rcases h2 with h2 | ⟨e2, h2⟩
    · exact .inl (e1 ▸ h2)
    · exact .inr ⟨e1.trans e2, bl_trans _ _ _ h1 h2⟩
theorem lt_tri {x y : S36} (h1 : ¬ lt x y) (h2 : ¬ lt y x) : key x = key y := by
  unfold lt keyLt at *
  have e1 : (key x).1 = (key y).1 := bl_tri _ _ (fun h => h1 (.inl h)) (fun h => h2 (.inl h))
  have e2 : (key x).2 = (key y).2 := bl_tri _ _ (fun h => h1 (.inr ⟨e1, h⟩)) (fun h => h2 (.inr ⟨e1.symm, h⟩))
  exact Prod.ext e1 e2
theorem lt_key_left {x y z : S36} (h : key x = key y) (h1 : lt x z) : lt y z := by unfold lt at *; rw [← h]; exact h1
theorem key_ne {x y : S36} (h : lt x y) : key x ≠ key y := fun e => lt_irrefl y (lt_key_left e h)
theorem key_ne' {x y : S36} (h : lt x y) : key y ≠ key x := fun e => key_ne h e.symm
theorem before_spec (x y : S36) : spec_l29Before.f [x] [y] = some (decide (lt x y)) := by
  unfold spec_l29Before.f
  rw [if_pos (show (0 : Int) < (([x] : List S36).length : Int) by simp), if_pos (show (0 : Int) < (([y] : List S36).length : Int) by simp)]
  show (if Op.bytesLess (x.f0.toList) (y.f0.toList) = true then _ else if x.f0.toList = y.f0.toList then _ else _) = _
  simp only [toList_L]
  by_cases h1 : Op.bytesLess (L x.f0) (L y.f0) = true
  · rw [if_pos h1, decide_eq_true (show lt x y from .inl h1)]
  · rw [if_neg h1]
    by_cases h2 : L x.f0 = L y.f0
    · rw [if_pos h2]
      congr 1
      show Op.bytesLess (L x.f1) (L y.f1) = _
      by_cases h3 : Op.bytesLess (L x.f1) (L y.f1) = true
      · rw [h3, decide_eq_true (show lt x y from .inr ⟨h2, h3⟩)]
      · rw [decide_eq_false (show ¬ lt x y from fun h => h.elim h1 (fun h => h3 h.2))]
        simpa using h3
    · rw [if_neg h2, decide_eq_false (show ¬ lt x y from fun h => h.elim h1 (fun h => h2 h.1))]
/-- What compareBlocks answers. -/
def cmpI (x y : S36) : Int := if lt x y then -1 else if key x = key y then 0 else 1
theorem or_two (a b : Int) : Ev (fun k => cmp_Or_int.f k [a, b]) (if a = 0 then b else a) := by
  unfold cmp_Or_int.f
  refine Ev.step (fun k => cmp_Or_int.l0.eq_2 ..) ?_
  refine Ev.pos (by show (0 : Int) < 2; decide) ?_
  refine Ev.pos (by decide) ?_
  refine Ev.pos (by show (0 : Int) < 2; decide) ?_
  rw [show rd [a, b] 0 = a from rfl]
  by_cases ha : a = 0
  · rw [if_pos ha]
    refine Ev.pos ha ?_
    rw [wrap_id (by decide) (by decide)]
    refine Ev.step (fun k => cmp_Or_int.l0.eq_2 ..) ?_
    refine Ev.pos (by show (0 : Int) + 1 < 2; decide) ?_
    refine Ev.pos (by decide) ?_
    refine Ev.pos (by show (0 : Int) + 1 < 2; decide) ?_
    rw [show rd [a, b] (0 + 1) = b from rfl]
    by_cases hb : b = 0
    · refine Ev.pos hb ?_
      rw [wrap_id (by decide) (by decide)]
      refine Ev.step (fun k => cmp_Or_int.l0.eq_2 ..) ?_
      refine Ev.neg (by show ¬ ((0 : Int) + 1 + 1 < 2); decide) ?_
      rw [hb]; exact Ev.const _
    · exact Ev.neg hb (Ev.const _)
  · rw [if_neg ha]
    exact Ev.neg ha (Ev.const _)
theorem cmp_spec (x y : S36) : Ev (fun k => impl_compareBlocks.f k x.f0 x.f1 x.f2 y.f0 y.f1 y.f2) (cmpI x y) := by
  unfold impl_compareBlocks.f cmp_Compare_string.f
  refine Ev.bind (Ev.const _) ?_
  refine Ev.bind (Ev.const _) ?_
  simp only [toList_L]
  refine Ev.bind (or_two _ _) ?_
  have e : (if (if Op.bytesLess (L x.f0) (L y.f0) = true then (-1 : Int) else if (L x.f0 == L y.f0) = true then 0 else 1) = 0 then (if Op.bytesLess (L x.f1) (L y.f1) = true then (-1 : Int) else if (L x.f1 == L y.f1) = true then 0 else 1) else (if Op.bytesLess (L x.f0) (L y.f0) = true then (-1 : Int) else if (L x.f0 == L y.f0) = true then 0 else 1)) = cmpI x y := by
    unfold cmpI
    by_cases h1 : Op.bytesLess (L x.f0) (L y.f0) = true
    · rw [if_pos h1, if_neg (by decide), if_pos (show lt x y from .inl h1)]
    · rw [if_neg h1]
      by_cases h2 : L x.f0 = L y.f0
      · rw [if_pos (show (L x.f0 == L y.f0) = true by simpa using h2), if_pos rfl]
        by_cases h3 : Op.bytesLess (L x.f1) (L y.f1) = true
        · rw [if_pos h3, if_pos (show lt x y from .inr ⟨h2, h3⟩)]
        · rw [if_neg h3, if_neg (show ¬ lt x y from fun h => h.elim h1 (fun h => h3 h.2))]
          by_cases h4 : L x.f1 = L y.f1
          · rw [if_pos (by simpa using h4), if_pos (show key x = key y from Prod.ext h2 h4)]
          · rw [if_neg (by simpa using h4), if_neg (fun h => h4 (congrArg Prod.snd h))]
      · rw [if_neg (show ¬ (L x.f0 == L y.f0) = true by simpa using h2), if_neg (by decide), if_neg (show ¬ lt x y from fun h => h.elim h1 (fun h => h2 h.1)), if_neg (fun h => h2 (congrArg Prod.fst h))]
  rw [e]
  exact Ev.const _
theorem cmpI_neg (x y : S36) : cmpI x y < 0 ↔ lt x y := by
  unfold cmpI
  split
  · rename_i h; exact ⟨fun _ => h, fun _ => by decide⟩
  · rename_i h
    split <;> exact ⟨fun h2 => absurd h2 (by decide), fun h2 => absurd h2 h⟩
theorem cmpI_zero (x y : S36) : (cmpI x y == 0) = decide (key x = key y) := by
  unfold cmpI
  by_cases h : lt x y
  · rw [if_pos h, decide_eq_false (key_ne h)]; rfl
  · rw [if_neg h]
    by_cases h2 : key x = key y
    · rw [if_pos h2, decide_eq_true h2]; rfl
    · rw [if_neg h2, decide_eq_false h2]; rfl
/-- A list in order. -/
def Sorted (xs : List S36) : Prop := xs.Pairwise lt
theorem rd_at {xs : List S36} {i : Nat} (h : i < xs.length) : rd_T36 xs (i : Int) = xs[i] := by
  unfold rd_T36
  rw [Int.toNat_natCast, List.getD_eq_getElem?_getD, List.getElem?_eq_getElem h]; rfl
/-- Where a list in order is cut by b. -/
theorem cut_at (b : S36) : ∀ xs : List S36, Sorted xs → ∃ A D, xs = A ++ D ∧ (∀ x ∈ A, lt x b) ∧ (∀ x ∈ D, ¬ lt x b)
  | [], _ => ⟨[], [], rfl, by simp, by simp⟩
  | x :: t, h => by
    obtain ⟨h1, h2⟩ := List.pairwise_cons.1 h
    by_cases hx : lt x b
    · obtain ⟨A, D, e, hA, hD⟩ := cut_at b t h2
      refine ⟨x :: A, D, by rw [e]; rfl, fun y hy => ?_, hD⟩
      rcases List.mem_cons.1 hy with rfl | hy
      · exact hx
      · exact hA y hy
    · refine ⟨[], x :: t, rfl, by simp, fun y hy => ?_⟩
      rcases List.mem_cons.1 hy with rfl | hy
      · exact hx
      · exact fun hl => hx (lt_trans (h1 y hy) hl)
theorem search_l0 (xs : List S36) (b : S36) (A D : List S36) (e : xs = A ++ D) (hA : ∀ x ∈ A, lt x b) (hD : ∀ x ∈ D, ¬ lt x b) (hn : xs.length ≤ 1000000) : ∀ (d lo hi : Nat), hi - lo = d → lo ≤ A.length → A.length ≤ hi → hi ≤ xs.length →
    Ev (fun k => impl_Block__impl_compareBlocks.l0 k xs (xs.length : Int) (lo : Int) (hi : Int) b.f0 b.f1 b.f2) ((A.length : Int), decide (∃ x, D.head? = some x ∧ key x = key b)) := by
  intro d
  induction d using Nat.strongRecOn with
  | ind d ih =>
    intro lo hi hd h1 h2 h3
    refine Ev.step (fun k => impl_Block__impl_compareBlocks.l0.eq_2 ..) ?_
    by_cases hlt : lo < hi
    · refine Ev.pos (by omega) ?_
      have hm : wrap64 ((IntKind.u64.wrap (wrap64 ((lo : Int) + (hi : Int)))) / 2) = (((lo + hi) / 2 : Nat) : Int) := by
        have hu : IntKind.u64.wrap ((lo : Int) + (hi : Int)) = (lo : Int) + (hi : Int) := by
          rw [show IntKind.u64.wrap ((lo : Int) + (hi : Int)) = ((lo : Int) + (hi : Int)) % 18446744073709551616 from by simp [IntKind.wrap, IntKind.bits, IntKind.signed]]
          omega
        rw [wrap_id (n := (lo : Int) + (hi : Int)) (by omega) (by omega), hu, wrap_id (by omega) (by omega)]
        omega
      rw [hm]
      have hmid : (lo + hi) / 2 < xs.length := by omega
      refine Ev.pos (by omega) ?_
      refine Ev.pos (by omega) ?_
      rw [rd_at hmid]
      refine Ev.bind (cmp_spec _ _) ?_
      by_cases hc : (lo + hi) / 2 < A.length
      · have hx : lt (xs[(lo + hi) / 2]) b := hA _ (by subst e; rw [List.getElem_append_left hc]; exact List.getElem_mem _)
        refine Ev.pos ((cmpI_neg _ _).2 hx) ?_
        rw [wrap_nat (by omega)]
        exact ih (hi - ((lo + hi) / 2 + 1)) (by omega) _ _ rfl (by omega) h2 h3
      · have hx : ¬ lt (xs[(lo + hi) / 2]) b := hD _ (by subst e; rw [List.getElem_append_right (by omega)]; exact List.getElem_mem _)
        refine Ev.neg (fun h => hx ((cmpI_neg _ _).1 h)) ?_
        exact ih ((lo + hi) / 2 - lo) (by omega) _ _ rfl h1 (by omega) (by omega)
    · refine Ev.neg (by omega) ?_
      have hl : lo = A.length := by omega
      rcases D with _ | ⟨x, D'⟩
      · refine Ev.neg (by rw [e]; simp; omega) ?_
        rw [hl, show decide (∃ x, ([] : List S36).head? = some x ∧ key x = key b) = false from decide_eq_false (by simp)]
        exact Ev.const _
      · have hlen : lo < xs.length := by rw [e]; simp; omega
        refine Ev.pos (by omega) ?_
        refine Ev.pos (by omega) ?_
        refine Ev.pos (by omega) ?_
        rw [rd_at hlen]
        have hx : xs[lo] = x := by subst e; rw [List.getElem_append_right (by omega)]; simp [hl]
        rw [hx]
        refine Ev.bind (cmp_spec _ _) ?_
        rw [cmpI_zero, hl]
        rw [show decide (∃ y, (x :: D').head? = some y ∧ key y = key b) = decide (key x = key b) from decide_eq_decide.2 ⟨fun ⟨y, h1, h2⟩ => by simp at h1; rw [h1]; exact h2, fun h => ⟨x, rfl, h⟩⟩]
        exact Ev.const _
theorem blockAt_spec (xs : List S36) (b : S36) (A D : List S36) (e : xs = A ++ D) (hA : ∀ x ∈ A, lt x b) (hD : ∀ x ∈ D, ¬ lt x b) (hn : xs.length ≤ 1000000) :
    Ev (fun k => impl_blockAt.f k xs b.f0 b.f1 b.f2) ((A.length : Int), decide (∃ x, D.head? = some x ∧ key x = key b)) := by
  refine Ev.bind (search_l0 xs b A D e hA hD hn xs.length 0 xs.length (by omega) (Nat.zero_le _) (by rw [e]; simp) (Nat.le_refl _)) ?_
  exact Ev.const _
/-- A block put in its place. -/
def putL (A : List S36) (b : S36) (D : List S36) : List S36 := A ++ b :: (if ∃ x, D.head? = some x ∧ key x = key b then D.tail else D)
theorem putBlock_spec (xs : List S36) (b : S36) (A D : List S36) (e : xs = A ++ D) (hA : ∀ x ∈ A, lt x b) (hD : ∀ x ∈ D, ¬ lt x b) (hn : xs.length ≤ 1000000) :
    Ev (fun k => impl_putBlock.f k xs b.f0 b.f1 b.f2) (putL A b D) := by
  refine Ev.bind (Ev.all (fun _ => show impl_Block_71.f xs = some xs from by unfold impl_Block_71.f; rw [if_pos (by omega)])) ?_
  refine Ev.bind (blockAt_spec xs b A D e hA hD hn) ?_
  dsimp only
  unfold putL
  by_cases hf : ∃ x, D.head? = some x ∧ key x = key b
  · refine Ev.pos (decide_eq_true hf) ?_
    obtain ⟨x, h1, h2⟩ := id hf
    rcases D with _ | ⟨y, D'⟩
    · simp at h1
    · refine Ev.pos (by omega) ?_
      refine Ev.pos (by rw [e]; simp; omega) ?_
      rw [if_pos hf, Int.toNat_natCast, e]
      rw [show (A ++ y :: D').set A.length (⟨b.f0, b.f1, b.f2⟩ : S36) = A ++ b :: (y :: D').tail from by rw [List.set_append_right _ _ (Nat.le_refl _), Nat.sub_self]; rfl]
      exact Ev.const _
  · refine Ev.neg (by rw [decide_eq_false hf]; decide) ?_
    rw [if_neg hf]
    refine Ev.bind (Ev.all (fun _ => show impl_Block_73.f xs (A.length : Int) [(⟨b.f0, b.f1, b.f2⟩ : S36)] = some (A ++ b :: D) from ?_)) (Ev.const _)
    unfold impl_Block_73.f
    rw [if_pos ⟨by omega, by rw [e]; simp; omega, rfl, by omega⟩, Int.toNat_natCast, e, List.take_left, List.drop_left]
    simp
/-! ### The reference's way of putting a block in -/
def goPut (b : S36) : List S36 → Bool → List S36
  | [], d => if d then [] else [b]
  | x :: t, d => (if !d && !decide (lt x b) then [b] else []) ++ (if key x = key b then [] else [x]) ++ goPut b t (d || !decide (lt x b))
theorem key_test {x b : S36} : (x.f0.toList = b.f0.toList ∧ x.f1.toList = b.f1.toList) ↔ key x = key b := by
  unfold key
  rw [toList_L, toList_L, toList_L, toList_L, Prod.mk.injEq]
theorem put_tail {b x : S36} {xs out : List S36} {d : Bool} {i : Nat} {v : List S36} (ho : out.length < 2000000) (h : Ev (fun k => spec_l29Put.l0 k xs (out ++ (if key x = key b then [] else [x])) d ((i + 1 : Nat) : Int) b.f0 b.f1 b.f2) v) :
    Ev (fun k => if (x.f0).toList = b.f0.toList then (if (x.f1).toList = b.f1.toList then (spec_l29Put.l0 k xs out d ((i + 1 : Nat) : Int) b.f0 b.f1 b.f2) else (if out.length < 2932031007402 then (spec_l29Put.l0 k xs (out ++ [(⟨x.f0, x.f1, x.f2⟩ : S36)]) d ((i + 1 : Nat) : Int) b.f0 b.f1 b.f2) else none)) else (if out.length < 2932031007402 then (spec_l29Put.l0 k xs (out ++ [(⟨x.f0, x.f1, x.f2⟩ : S36)]) d ((i + 1 : Nat) : Int) b.f0 b.f1 b.f2) else none)) v := by
  by_cases hk : key x = key b
  · rw [if_pos hk, List.append_nil] at h
    obtain ⟨h1, h2⟩ := key_test.2 hk
    exact Ev.pos h1 (Ev.pos h2 h)
  · rw [if_neg hk] at h
    by_cases h1 : x.f0.toList = b.f0.toList
    · refine Ev.pos h1 (Ev.neg (fun h2 => hk (key_test.1 ⟨h1, h2⟩)) (Ev.pos (by omega) h))
    · exact Ev.neg h1 (Ev.pos (by omega) h)
theorem put_l0 (xs : List S36) (b : S36) (hn : xs.length ≤ 1000000) : ∀ (t : List S36) (i : Nat) (out : List S36) (d : Bool), xs.drop i = t → i ≤ xs.length → out.length ≤ i + (if d then 1 else 0) →
    Ev (fun k => spec_l29Put.l0 k xs out d (i : Int) b.f0 b.f1 b.f2) (out ++ goPut b t d)
  | [], i, out, d, h, hi, ho => by
    have hil : i = xs.length := by have := congrArg List.length h; simp at this; omega
    have ho' : out.length ≤ i + 1 := by split at ho <;> omega
    refine Ev.step (fun k => spec_l29Put.l0.eq_2 ..) ?_
    refine Ev.neg (by omega) ?_
    cases d with
    | true =>
      refine Ev.pos rfl ?_
      rw [show out ++ goPut b [] true = out from by simp [goPut]]
      exact Ev.const _
    | false =>
      refine Ev.neg (by decide) ?_
      refine Ev.pos (by omega) ?_
      exact Ev.const _
  | x :: t, i, out, d, h, hi, ho => by
    have hlt : i < xs.length := by
      rcases Nat.lt_or_ge i xs.length with h' | h'
      · exact h'
      · rw [List.drop_eq_nil_of_le h'] at h; cases h
    have hx : xs[i] = x := by rw [List.drop_eq_getElem_cons hlt] at h; exact (List.cons.inj h).1
    have ht : xs.drop (i + 1) = t := by rw [List.drop_eq_getElem_cons hlt] at h; exact (List.cons.inj h).2
    have ho' : out.length ≤ i + 1 := by split at ho <;> omega
    refine Ev.step (fun k => spec_l29Put.l0.eq_2 ..) ?_
    refine Ev.pos (by omega) ?_
    have hrd : rd_T36 xs (i : Int) = x := by rw [rd_at hlt, hx]
    have join : ∀ (c : Bool), (out ++ goPut b (x :: t) d) = (out ++ (if (!d && !decide (lt x b)) then [b] else [])) ++ (if key x = key b then [] else [x]) ++ goPut b t (d || !decide (lt x b)) := fun c => by simp [goPut, List.append_assoc]
    rw [join true]
    cases d with
    | true =>
      refine Ev.pos rfl ?_
      refine Ev.step (fun k => spec_l29Put.j1.eq_2 ..) ?_
      refine Ev.neg (by decide) ?_
      refine Ev.pos (by omega) ?_
      refine Ev.pos (by omega) ?_
      rw [hrd, wrap_nat (by omega)]
      refine put_tail (by omega) ?_
      rw [show out ++ (if (!true && !decide (lt x b)) = true then [b] else []) = out from by simp, Bool.true_or]
      exact put_l0 xs b hn t (i + 1) _ true ht (by omega) (by rw [if_pos rfl] at ho ⊢; rw [List.length_append]; split <;> simp <;> omega)
    | false =>
      refine Ev.neg (by decide) ?_
      refine Ev.pos (by omega) ?_
      rw [hrd]
      refine Ev.bind (Ev.all (fun _ => before_spec x ⟨b.f0, b.f1, b.f2⟩)) ?_
      refine Ev.step (fun k => spec_l29Put.j1.eq_2 ..) ?_
      have hlb : lt x ⟨b.f0, b.f1, b.f2⟩ = lt x b := rfl
      by_cases hl : lt x b
      · refine Ev.neg (by rw [decide_eq_true (show lt x ⟨b.f0, b.f1, b.f2⟩ from hl)]; decide) ?_
        refine Ev.pos (by omega) ?_
        refine Ev.pos (by omega) ?_
        rw [hrd, wrap_nat (by omega)]
        refine put_tail (by omega) ?_
        rw [show out ++ (if (!false && !decide (lt x b)) = true then [b] else []) = out from by simp [hl], show (false || !decide (lt x b)) = false from by simp [hl]]
        refine put_l0 xs b hn t (i + 1) _ false ht (by omega) ?_
        have ho2 : out.length ≤ i := by simpa using ho
        rw [List.length_append]; split <;> simp <;> omega
      · refine Ev.pos (by rw [decide_eq_false (show ¬ lt x ⟨b.f0, b.f1, b.f2⟩ from hl)]; decide) ?_
        refine Ev.pos (by omega) ?_
        refine Ev.bind (Ev.const _) ?_
        refine Ev.pos (by omega) ?_
        refine Ev.pos (by omega) ?_
        rw [hrd, wrap_nat (by omega)]
        refine put_tail (by simp; omega) ?_
        rw [show out ++ (if (!false && !decide (lt x b)) = true then [b] else []) = out ++ [b] from by simp [hl], show (false || !decide (lt x b)) = true from by simp [hl]]
        refine put_l0 xs b hn t (i + 1) _ true ht (by omega) ?_
        rw [if_neg (by decide)] at ho
        rw [if_pos rfl, List.length_append, List.length_append]; split <;> simp <;> omega
theorem put_spec (xs : List S36) (b : S36) (hn : xs.length ≤ 1000000) : Ev (fun k => spec_l29Put.f k xs b.f0 b.f1 b.f2) (goPut b xs false) := put_l0 xs b hn xs 0 [] false rfl (Nat.zero_le _) (by simp)
theorem goPut_done (b : S36) : ∀ D : List S36, (∀ x ∈ D, key x ≠ key b) → goPut b D true = D
  | [], _ => by simp [goPut]
  | x :: t, h => by
    rw [goPut, if_neg (h x (by simp)), Bool.true_or, goPut_done b t (fun y hy => h y (by simp [hy]))]
    simp
theorem goPut_put (b : S36) (D : List S36) (hs : Sorted D) (hD : ∀ x ∈ D, ¬ lt x b) : ∀ A : List S36, (∀ x ∈ A, lt x b) → goPut b (A ++ D) false = putL A b D
  | [], _ => by
    unfold putL
    rcases D with _ | ⟨x, D'⟩
    · simp [goPut]
    · obtain ⟨h1, h2⟩ := List.pairwise_cons.1 hs
      have hx := hD x (by simp)
      by_cases hk : key x = key b
      · rw [if_pos ⟨x, rfl, hk⟩, List.nil_append, List.nil_append, goPut, if_pos hk]
        rw [show (false || !decide (lt x b)) = true from by simp [hx], goPut_done b D' (fun y hy => key_ne' (lt_key_left hk (h1 y hy)))]
        simp [hx]
      · have hbx : lt b x := Decidable.byContradiction fun h => hk (lt_tri hx h)
        rw [if_neg (by rintro ⟨y, h3, h4⟩; simp at h3; exact hk (h3 ▸ h4)), List.nil_append, List.nil_append, goPut, if_neg hk]
        rw [show (false || !decide (lt x b)) = true from by simp [hx], goPut_done b D' (fun y hy => key_ne' (lt_trans hbx (h1 y hy)))]
        simp [hx]
  | a :: A, hA => by
    have ha := hA a (by simp)
    rw [List.cons_append, goPut, if_neg (key_ne ha), show (false || !decide (lt a b)) = false from by simp [ha], goPut_put b D hs hD A (fun y hy => hA y (by simp [hy]))]
    simp [ha, putL]
theorem putL_sorted (b : S36) (A D : List S36) (hs : Sorted (A ++ D)) (hA : ∀ x ∈ A, lt x b) (hD : ∀ x ∈ D, ¬ lt x b) : Sorted (putL A b D) := by
  obtain ⟨hsA, hsD, hAD⟩ := List.pairwise_append.1 hs
  have hrest : Sorted (if ∃ x, D.head? = some x ∧ key x = key b then D.tail else D) ∧ ∀ y ∈ (if ∃ x, D.head? = some x ∧ key x = key b then D.tail else D), lt b y := by
    rcases D with _ | ⟨x, D'⟩
    · rw [if_neg (by simp)]; exact ⟨List.Pairwise.nil, by simp⟩
    · obtain ⟨h1, h2⟩ := List.pairwise_cons.1 hsD
      have hx := hD x (by simp)
      by_cases hk : key x = key b
      · rw [if_pos ⟨x, rfl, hk⟩]
        exact ⟨h2, fun y hy => lt_key_left hk (h1 y hy)⟩
      · rw [if_neg (by rintro ⟨y, h3, h4⟩; simp at h3; exact hk (h3 ▸ h4))]
        have hbx : lt b x := Decidable.byContradiction fun h => hk (lt_tri hx h)
        refine ⟨hsD, fun y hy => ?_⟩
        rcases List.mem_cons.1 hy with rfl | hy
        · exact hbx
        · exact lt_trans hbx (h1 y hy)
  unfold putL Sorted
  rw [List.pairwise_append]
  refine ⟨hsA, List.pairwise_cons.2 ⟨hrest.2, hrest.1⟩, fun x hx y hy => ?_⟩
  rcases List.mem_cons.1 hy with rfl | hy
  · exact hA x hx
  · exact lt_trans (hA x hx) (hrest.2 y hy)
theorem putL_mem {b x : S36} {A D : List S36} (h : x ∈ putL A b D) : x = b ∨ x ∈ A ++ D := by
  unfold putL at h
  rcases List.mem_append.1 h with h | h
  · exact .inr (List.mem_append_left _ h)
  · rcases List.mem_cons.1 h with h | h
    · exact .inl h
    · split at h
      · exact .inr (List.mem_append_right _ (List.mem_of_mem_tail h))
      · exact .inr (List.mem_append_right _ h)
end Go.Proofs.YtiopkeepldmlkaaDoor.QSB
