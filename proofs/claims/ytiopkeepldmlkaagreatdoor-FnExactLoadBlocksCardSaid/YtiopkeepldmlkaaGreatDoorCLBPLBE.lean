/- Plain Lean on the printed functions: blocks in order, and one put in its place. -/
import Derived.Test.YtiopkeepldmlkaaGreatDoorCLBPLBD
set_option linter.unusedVariables false
set_option linter.unusedSimpArgs false
namespace Go.Proofs.YtiopkeepldmlkaaGreatDoor.QLB
open Go Go.RowKit Go.Proofs.YtiopkeepldmlkaaGreatDoorW.PrintWords Go.Proofs.YtiopkeepldmlkaaGreatDoor.Plain
theorem bl_irrefl : ∀ a : Bytes, Op.bytesLess a a = false
  | [] => rfl
  | b :: t => by unfold Op.bytesLess; rw [bl_irrefl t]; simp
/-- A block's key; the order. -/
def key (x : S44) : Bytes × Bytes := (L x.f0, L x.f1)
def keyLt (a b : Bytes × Bytes) : Prop := Op.bytesLess a.1 b.1 = true ∨ (a.1 = b.1 ∧ Op.bytesLess a.2 b.2 = true)
def lt (x y : S44) : Prop := keyLt (key x) (key y)
instance (x y : S44) : Decidable (lt x y) := by unfold lt keyLt; infer_instance
theorem lt_irrefl (x : S44) : ¬ lt x x := by
  unfold lt keyLt
  rw [bl_irrefl, bl_irrefl]; simp
theorem before_spec (x y : S44) : spec_l29Before.f [x] [y] = some (decide (lt x y)) := by
  unfold spec_l29Before.f
  rw [if_pos (show (0 : Int) < (([x] : List S44).length : Int) by simp), if_pos (show (0 : Int) < (([y] : List S44).length : Int) by simp)]
  show (if Op.bytesLess (x.f0.toList) (y.f0.toList) = true then _ else if x.f0.toList = y.f0.toList then _ else _) = _
  simp only [toList_L]
  by_cases h1 : Op.bytesLess (L x.f0) (L y.f0) = true
  · rw [if_pos h1, decide_eq_true (show lt x y from .inl h1)]
  · rw [if_neg h1]
    by_cases h2 : L x.f0 = L y.f0
    · rw [if_pos h2]
      congr 1
      show Op.bytesLess (L x.f1) (L y.f1) = _
      by_cases h3 : Op.bytesLess (L x.f1) (L y.f1) = true
      · rw [h3, decide_eq_true (show lt x y from .inr ⟨h2, h3⟩)]
      · rw [decide_eq_false (show ¬ lt x y from fun h => h.elim h1 (fun h => h3 h.2))]
        simpa using h3
    · rw [if_neg h2, decide_eq_false (show ¬ lt x y from fun h => h.elim h1 (fun h => h2 h.1))]
/-- What compareBlocks answers. -/
def cmpI (x y : S44) : Int := if lt x y then -1 else if key x = key y then 0 else 1
theorem or_two (a b : Int) : Ev (fun k => cmp_Or_int.f k [a, b]) (if a = 0 then b else a) := by
  unfold cmp_Or_int.f
  refine Ev.step (fun k => cmp_Or_int.l0.eq_2 ..) ?_
  refine Ev.pos (by show (0 : Int) < 2; decide) ?_
  refine Ev.pos (by decide) ?_
  refine Ev.pos (by show (0 : Int) < 2; decide) ?_
  rw [show rd [a, b] 0 = a from rfl]
  by_cases ha : a = 0
  · rw [if_pos ha]
    refine Ev.pos ha ?_
    rw [wrap_id (by decide) (by decide)]
    refine Ev.step (fun k => cmp_Or_int.l0.eq_2 ..) ?_
    refine Ev.pos (by show (0 : Int) + 1 < 2; decide) ?_
    refine Ev.pos (by decide) ?_
    refine Ev.pos (by show (0 : Int) + 1 < 2; decide) ?_
    rw [show rd [a, b] (0 + 1) = b from rfl]
    by_cases hb : b = 0
    · refine Ev.pos hb ?_
      rw [wrap_id (by decide) (by decide)]
      refine Ev.step (fun k => cmp_Or_int.l0.eq_2 ..) ?_
      refine Ev.neg (by show ¬ ((0 : Int) + 1 + 1 < 2); decide) ?_
      rw [hb]; exact Ev.const _
    · exact Ev.neg hb (Ev.const _)
  · rw [if_neg ha]
    exact Ev.neg ha (Ev.const _)
theorem cmp_spec (x y : S44) : Ev (fun k => impl_compareBlocks.f k x.f0 x.f1 x.f2 y.f0 y.f1 y.f2) (cmpI x y) := by
  unfold impl_compareBlocks.f cmp_Compare_string.f
  refine Ev.bind (Ev.const _) ?_
  refine Ev.bind (Ev.const _) ?_
  simp only [toList_L]
  refine Ev.bind (or_two _ _) ?_
  have e : (if (if Op.bytesLess (L x.f0) (L y.f0) = true then (-1 : Int) else if (L x.f0 == L y.f0) = true then 0 else 1) = 0 then (if Op.bytesLess (L x.f1) (L y.f1) = true then (-1 : Int) else if (L x.f1 == L y.f1) = true then 0 else 1) else (if Op.bytesLess (L x.f0) (L y.f0) = true then (-1 : Int) else if (L x.f0 == L y.f0) = true then 0 else 1)) = cmpI x y := by
    unfold cmpI
    by_cases h1 : Op.bytesLess (L x.f0) (L y.f0) = true
    · rw [if_pos h1, if_neg (by decide), if_pos (show lt x y from .inl h1)]
    · rw [if_neg h1]
      by_cases h2 : L x.f0 = L y.f0
      · rw [if_pos (show (L x.f0 == L y.f0) = true by simpa using h2), if_pos rfl]
        by_cases h3 : Op.bytesLess (L x.f1) (L y.f1) = true
        · rw [if_pos h3, if_pos (show lt x y from .inr ⟨h2, h3⟩)]
        · rw [if_neg h3, if_neg (show ¬ lt x y from fun h => h.elim h1 (fun h => h3 h.2))]
          by_cases h4 : L x.f1 = L y.f1
          · rw [if_pos (by simpa using h4), if_pos (show key x = key y from Prod.ext h2 h4)]
          · rw [if_neg (by simpa using h4), if_neg (fun h => h4 (congrArg Prod.snd h))]
      · rw [if_neg (show ¬ (L x.f0 == L y.f0) = true by simpa using h2), if_neg (by decide), if_neg (show ¬ lt x y from fun h => h.elim h1 (fun h => h2 h.1)), if_neg (fun h => h2 (congrArg Prod.fst h))]
  rw [e]
  exact Ev.const _
theorem cmpI_neg (x y : S44) : cmpI x y < 0 ↔ lt x y := by
  unfold cmpI
  split
  · rename_i h; exact ⟨fun _ => h, fun _ => by decide⟩
  · rename_i h
    split <;> exact ⟨fun h2 => absurd h2 (by decide), fun h2 => absurd h2 h⟩
theorem rd_at {xs : List S44} {i : Nat} (h : i < xs.length) : rd_T44 xs (i : Int) = xs[i] := by
  unfold rd_T44
  rw [Int.toNat_natCast, List.getD_eq_getElem?_getD, List.getElem?_eq_getElem h]; rfl
end Go.Proofs.YtiopkeepldmlkaaGreatDoor.QLB
