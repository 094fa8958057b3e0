/- Plain Lean on the printed functions: decimal numbers, five digits, names. -/
import Derived.Test.YtiopkeepldmlkaaDoorCRIPRIB
set_option linter.unusedVariables false
set_option linter.unusedSimpArgs false
namespace Go.Proofs.YtiopkeepldmlkaaDoor.QRI
open Go Go.RowKit Go.Proofs.YtiopkeepldmlkaaDoorW.PrintWords Go.Proofs.YtiopkeepldmlkaaDoor.Plain
theorem dec_len : ∀ (k u : Nat), u < 10 ^ (k + 1) → (Lib.decDigits u).length ≤ k + 1
 | 0, u, h => by rw [Lib.decDigits, dif_pos (by simpa using h)]; simp
 | k + 1, u, h => by
  rw [Lib.decDigits]
  split
  ·simp
  ·have := dec_len k (u / 10) (by rw [Nat.pow_succ] at h; omega)
   simp; omega
theorem dec_len_pos (u : Nat) : 1 ≤ (Lib.decDigits u).length := by
 rw [Lib.decDigits]
 split <;> simp
theorem itoa_len (n : Int) (h0 : -9223372036854775808 ≤ n) (h1 : n ≤ 9223372036854775807) : (Lib.itoa n).length ≤ 21 := by
 unfold Lib.itoa
 split
 ·have := dec_len 19 n.natAbs (by omega); simp; omega
 ·have := dec_len 19 n.toNat (by omega); omega
theorem dec_impl (n : Int) (h0 : -9223372036854775808 ≤ n) (h1 : n ≤ 9223372036854775807) : impl_Decimal.f n = some (B (Lib.itoa n)) := by
 unfold impl_Decimal.f strconv_FormatInt_61.f
 rw [if_pos ⟨rfl, h0, h1⟩]; rfl
/-! ### Names -/
def small (b : UInt8) : Bool := decide (97 ≤ b.toNat) && decide (b.toNat ≤ 122)
def digit (b : UInt8) : Bool := decide (48 ≤ b.toNat) && decide (b.toNat ≤ 57)
def isName (l : Bytes) : Bool := decide (l.length ≤ 10) && small (l.headD 0) && l.all fun b => small b || digit b
theorem small_spec (b : UInt8) : spec_l01Small.f (b.toNat : Int) = some (small b) := by
 unfold spec_l01Small.f small
 by_cases h : (b.toNat : Int) ≥ 97
 ·rw [if_pos h, show decide (97 ≤ b.toNat) = true from decide_eq_true (by omega), Bool.true_and]
  congr 1
  exact decide_eq_decide.2 (by omega)
 ·rw [if_neg h, show decide (97 ≤ b.toNat) = false from decide_eq_false (by omega), Bool.false_and]
theorem digit_spec (b : UInt8) : spec_l01Digit.f (b.toNat : Int) = some (digit b) := by
 unfold spec_l01Digit.f digit
 by_cases h : (b.toNat : Int) ≥ 48
 ·rw [if_pos h, show decide (48 ≤ b.toNat) = true from decide_eq_true (by omega), Bool.true_and]
  congr 1
  exact decide_eq_decide.2 (by omega)
 ·rw [if_neg h, show decide (48 ≤ b.toNat) = false from decide_eq_false (by omega), Bool.false_and]
theorem name_l0 (s : ByteArray) (hs : s.size ≤ 1099511627776) : ∀ (l : Bytes) (i : Nat), At s i l → Ev (fun k => spec_l01Name.l0 k s (i : Int)) (l.all fun b => small b || digit b)
 | [], i, h => by
  have hi := h.nil
  refine Ev.step (fun k => spec_l01Name.l0.eq_2 ..) ?_
  refine Ev.neg (by omega) ?_
  exact Ev.const _
 | b :: t, i, h => by
  have hi := h.lt
  refine Ev.step (fun k => spec_l01Name.l0.eq_2 ..) ?_
  refine Ev.pos (by omega) ?_
  refine Ev.pos (by omega) ?_
  rw [h.bt, wrap_nat (by omega)]
  refine Ev.bind (Ev.all (fun _ => small_spec b)) ?_
  have ih := name_l0 s hs t (i + 1) h.tail
  rw [List.all_cons]
  by_cases h1 : small b = true
  ·refine Ev.pos h1 ?_
   rw [h1, Bool.true_or, Bool.true_and]; exact ih
  ·refine Ev.neg h1 ?_
   refine Ev.bind (Ev.all (fun _ => digit_spec b)) ?_
   rw [Bool.not_eq_true] at h1
   by_cases h2 : digit b = true
   ·refine Ev.pos h2 ?_
    rw [h2, Bool.or_true, Bool.true_and]; exact ih
   ·refine Ev.neg h2 ?_
    rw [Bool.not_eq_true] at h2
    rw [h1, h2, Bool.or_false, Bool.false_and]; exact Ev.const _
theorem name_spec (s : ByteArray) (hs : s.size ≤ 1099511627776) : Ev (fun k => spec_l01Name.f k s) (isName (L s)) := by
 unfold spec_l01Name.f
 have hlen := L_length s
 rcases hl : L s with _ | ⟨b, t⟩
 ·refine Ev.pos (by rw [toList_L, hl]) ?_
  refine Ev.step (fun k => spec_l01Name.j0.eq_2 ..) ?_
  refine Ev.pos rfl ?_
  exact Ev.const _
 ·rw [hl] at hlen
  have hat : At s 0 (b :: t) := ⟨hl, Nat.zero_le _⟩
  refine Ev.neg (by rw [toList_L, hl]; simp) ?_
  by_cases h10 : (s.size : Int) > 10
  ·refine Ev.pos h10 ?_
   refine Ev.step (fun k => spec_l01Name.j0.eq_2 ..) ?_
   refine Ev.pos rfl ?_
   rw [show isName (b :: t) = false from by unfold isName; rw [decide_eq_false (by omega)]; simp]
   exact Ev.const _
  ·refine Ev.neg h10 ?_
   refine Ev.pos (by have := hat.lt; omega) ?_
   have hb := hat.bt
   rw [show ((0 : Nat) : Int) = 0 from rfl] at hb
   rw [hb]
   refine Ev.bind (Ev.all (fun _ => small_spec b)) ?_
   refine Ev.step (fun k => spec_l01Name.j0.eq_2 ..) ?_
   by_cases h1 : small b = true
   ·refine Ev.neg (by rw [h1]; simp) ?_
    rw [show isName (b :: t) = ((b :: t).all fun b => small b || digit b) from by unfold isName; rw [decide_eq_true (by omega)]; simp [h1]]
    exact name_l0 s hs _ 0 hat
   ·rw [Bool.not_eq_true] at h1
    refine Ev.pos (by rw [h1]; rfl) ?_
    rw [show isName (b :: t) = false from by unfold isName; simp [h1]]
    exact Ev.const _
theorem iname_l0 (s : ByteArray) (hs : s.size ≤ 1099511627776) : ∀ (l : Bytes) (i : Nat), At s i l → Ev (fun k => impl_IsName.l0 k (Go.Proofs.YtiopkeepldmlkaaDoorW.PrintWords.bytesOf s) (s.size : Int) (i : Int)) ((i != 0 || l.isEmpty || small (l.headD 0)) && l.all fun b => small b || digit b)
 | [], i, h => by
  have hi := h.nil
  refine Ev.step (fun k => impl_IsName.l0.eq_2 ..) ?_
  refine Ev.neg (by omega) ?_
  rw [show ((i != 0 || ([] : Bytes).isEmpty || small (([] : Bytes).headD 0)) && ([] : Bytes).all fun b => small b || digit b) = true from by simp]
  exact Ev.const _
 | b :: t, i, h => by
  have hi := h.lt
  refine Ev.step (fun k => impl_IsName.l0.eq_2 ..) ?_
  refine Ev.pos (by omega) ?_
  refine Ev.pos (by omega) ?_
  refine Ev.pos (by rw [bytesOf_length]; omega) ?_
  rw [rd_bytesOf, h.bt, wrap_nat (by omega)]
  have ih := iname_l0 s hs t (i + 1) h.tail
  rw [show ((i + 1 != 0 || t.isEmpty || small (t.headD 0)) && t.all fun b => small b || digit b) = (t.all fun b => small b || digit b) from by simp] at ih
  have hb := byte_lt b
  by_cases h97 : (b.toNat : Int) ≥ 97
  ·refine Ev.pos h97 ?_
   refine Ev.pos (by omega) ?_
   by_cases h122 : (b.toNat : Int) ≤ 122
   ·refine Ev.pos h122 ?_
    have hsm : small b = true := by unfold small; rw [decide_eq_true (by omega), decide_eq_true (by omega)]; rfl
    rw [show ((i != 0 || (b :: t).isEmpty || small ((b :: t).headD 0)) && (b :: t).all fun b => small b || digit b) = (t.all fun b => small b || digit b) from by simp [hsm]]
    exact ih
   ·refine Ev.neg h122 ?_
    have hsm : small b = false := by unfold small; rw [decide_eq_false (p := b.toNat ≤ 122) (by omega), Bool.and_false]
    have hdg : digit b = false := by unfold digit; rw [decide_eq_false (p := b.toNat ≤ 57) (by omega), Bool.and_false]
    rw [show ((i != 0 || (b :: t).isEmpty || small ((b :: t).headD 0)) && (b :: t).all fun b => small b || digit b) = false from by simp [hsm, hdg]]
    by_cases hi0 : (i : Int) = 0
    ·exact Ev.pos hi0 (Ev.const _)
    ·refine Ev.neg hi0 ?_
     exact Ev.neg (by omega) (Ev.const _)
  ·refine Ev.neg h97 ?_
   have hsm : small b = false := by unfold small; rw [decide_eq_false (p := 97 ≤ b.toNat) (by omega), Bool.false_and]
   by_cases h48 : (b.toNat : Int) ≥ 48
   ·refine Ev.pos h48 ?_
    by_cases hi0 : (i : Int) = 0
    ·have : i = 0 := by omega
     rw [show ((i != 0 || (b :: t).isEmpty || small ((b :: t).headD 0)) && (b :: t).all fun b => small b || digit b) = false from by simp [hsm, this]]
     exact Ev.pos hi0 (Ev.const _)
    ·refine Ev.neg hi0 ?_
     have hi1 : (i != 0) = true := by simp; omega
     by_cases h57 : (b.toNat : Int) ≤ 57
     ·have hdg : digit b = true := by unfold digit; rw [decide_eq_true (by omega), decide_eq_true (by omega)]; rfl
      rw [show ((i != 0 || (b :: t).isEmpty || small ((b :: t).headD 0)) && (b :: t).all fun b => small b || digit b) = (t.all fun b => small b || digit b) from by simp [hi1, hdg]]
      exact Ev.pos h57 ih
     ·have hdg : digit b = false := by unfold digit; rw [decide_eq_false (p := b.toNat ≤ 57) (by omega), Bool.and_false]
      rw [show ((i != 0 || (b :: t).isEmpty || small ((b :: t).headD 0)) && (b :: t).all fun b => small b || digit b) = false from by simp [hsm, hdg]]
      exact Ev.neg h57 (Ev.const _)
   ·refine Ev.neg h48 ?_
    have hdg : digit b = false := by unfold digit; rw [decide_eq_false (p := 48 ≤ b.toNat) (by omega), Bool.false_and]
    rw [show ((i != 0 || (b :: t).isEmpty || small ((b :: t).headD 0)) && (b :: t).all fun b => small b || digit b) = false from by simp [hsm, hdg]]
    by_cases hi0 : (i : Int) = 0
    ·exact Ev.pos hi0 (Ev.const _)
    ·exact Ev.neg hi0 (Ev.const _)
theorem name_impl (s : ByteArray) (hs : s.size ≤ 1099511627776) : Ev (fun k => impl_IsName.f k s) (isName (L s)) := by
 unfold impl_IsName.f
 have hlen := L_length s
 rcases hl : L s with _ | ⟨b, t⟩
 ·rw [hl] at hlen
  simp at hlen
  refine Ev.pos (by omega) ?_
  refine Ev.step (fun k => impl_IsName.j0.eq_2 ..) ?_
  refine Ev.pos rfl ?_
  exact Ev.const _
 ·rw [hl] at hlen
  have hat : At s 0 (b :: t) := ⟨hl, Nat.zero_le _⟩
  refine Ev.neg (by have := hat.lt; omega) ?_
  refine Ev.step (fun k => impl_IsName.j0.eq_2 ..) ?_
  by_cases h10 : (s.size : Int) > 10
  ·refine Ev.pos (decide_eq_true h10) ?_
   rw [show isName (b :: t) = false from by unfold isName; rw [decide_eq_false (by omega)]; simp]
   exact Ev.const _
  ·refine Ev.neg (by rw [decide_eq_false h10]; decide) ?_
   refine Ev.pos (by omega) ?_
   refine Ev.bind (Ev.const _) ?_
   have h := iname_l0 s hs (b :: t) 0 hat
   rw [bytesOf_length]
   rw [show isName (b :: t) = (((0 : Nat) != 0 || (b :: t).isEmpty || small ((b :: t).headD 0)) && (b :: t).all fun b => small b || digit b) from by unfold isName; rw [decide_eq_true (by omega)]; simp]
   exact h
end Go.Proofs.YtiopkeepldmlkaaDoor.QRI
