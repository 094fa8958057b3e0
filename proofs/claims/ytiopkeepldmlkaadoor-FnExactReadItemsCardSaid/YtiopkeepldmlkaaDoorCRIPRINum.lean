/- Plain Lean with no program in sight: decimal numbers: which texts are one, and of which number. -/
import Derived.Test.YtiopkeepldmlkaaDoorCRIPRIC
import Derived.Lib.ParseIntBTie
import Derived.Lib.AtoiTie
set_option linter.unusedVariables false
set_option linter.unusedSimpArgs false
namespace Go.Proofs.YtiopkeepldmlkaaDoor.QRI
open Go Go.RowKit Go.Proofs.YtiopkeepldmlkaaDoorW.PrintWords Go.Proofs.YtiopkeepldmlkaaDoor.Plain
def valL (a : Nat) (l : Bytes) : Nat := l.foldl (fun a b => a * 10 + (b.toNat - 48)) a
theorem digit_iff {b : UInt8} : digit b = true ↔ 48 ≤ b.toNat ∧ b.toNat ≤ 57 := by unfold digit; rw [Bool.and_eq_true, decide_eq_true_iff, decide_eq_true_iff]
theorem decFrom_all : ∀ (l : Bytes) (a : Nat), Lib.decFrom a l = if l.all digit = true then some (valL a l) else none
 | [], a => rfl
 | b :: t, a => by
  unfold Lib.decFrom Lib.digitVal
  by_cases h : 48 ≤ b.toNat ∧ b.toNat ≤ 57
  ·rw [if_pos h]
   dsimp only
   rw [decFrom_all t, List.all_cons, digit_iff.2 h, Bool.true_and]
   rfl
  ·rw [if_neg h]
   have : digit b = false := by rw [← Bool.not_eq_true]; exact fun hd => h (digit_iff.1 hd)
   rw [List.all_cons, this, Bool.false_and]
   rfl
theorem decNat_all (l : Bytes) (h : l ≠ []) : Lib.decNat l = if l.all digit = true then some (valL 0 l) else none := by
 unfold Lib.decNat
 rw [if_neg (by simpa using h), decFrom_all]
theorem valL_snoc (a : Nat) (l : Bytes) (b : UInt8) : valL a (l ++ [b]) = valL a l * 10 + (b.toNat - 48) := by unfold valL; rw [List.foldl_append]; rfl
theorem valL_ge : ∀ (l : Bytes) (a : Nat), a ≤ valL a l
 | [], a => Nat.le_refl _
 | b :: t, a => by
  have := valL_ge t (a * 10 + (b.toNat - 48))
  show a ≤ valL (a * 10 + (b.toNat - 48)) t
  omega
theorem valL_lt : ∀ (l : Bytes) (k a : Nat), a < 10 ^ k → l.all digit = true → valL a l < 10 ^ (k + l.length)
 | [], k, a, h, _ => h
 | b :: t, k, a, h, hd => by
  rw [List.all_cons, Bool.and_eq_true, digit_iff] at hd
  have := valL_lt t (k + 1) (a * 10 + (b.toNat - 48)) (by rw [Nat.pow_succ]; omega) hd.2
  rw [show k + (b :: t).length = k + 1 + t.length from by simp; omega]
  exact this
theorem digit_back {b : UInt8} (h : digit b = true) : UInt8.ofNat (48 + (b.toNat - 48)) = b := by
 rw [digit_iff] at h
 rw [show 48 + (b.toNat - 48) = b.toNat from by omega]
 exact UInt8.ofNat_toNat
theorem dec_val : ∀ (n : Nat) (l : Bytes), l.length = n → l ≠ [] → l.all digit = true → (l.headD 0 ≠ 48 ∨ l.length = 1) → Lib.decDigits (valL 0 l) = l
 | 0, l, hn, h, _, _ => absurd (List.length_eq_zero_iff.1 hn) h
 | n + 1, l, hn, h, hd, hh => by
  obtain ⟨t, b, rfl⟩ : ∃ t b, l = t ++ [b] := ⟨l.dropLast, l.getLast h, (List.dropLast_concat_getLast h).symm⟩
  rw [valL_snoc]
  rw [List.all_append, Bool.and_eq_true] at hd
  have hb : digit b = true := by simpa using hd.2
  have hb' := digit_iff.1 hb
  rcases t with _ | ⟨c, t⟩
  ·show Lib.decDigits (0 * 10 + (b.toNat - 48)) = [b]
   rw [Nat.zero_mul, Nat.zero_add, Lib.decDigits, dif_pos (by omega), digit_back hb]
  ·have hc : c ≠ 48 := by
    rcases hh with hh | hh
    ·simpa using hh
    ·simp at hh
   have hdc : digit c = true := by have := hd.1; rw [List.all_cons, Bool.and_eq_true] at this; exact this.1
   have hc' := digit_iff.1 hdc
   have hc2 : c.toNat ≠ 48 := fun e => hc (UInt8.toNat_inj.1 e)
   have hv : 1 ≤ valL 0 (c :: t) := by
    have := valL_ge t (0 * 10 + (c.toNat - 48))
    show 1 ≤ valL (0 * 10 + (c.toNat - 48)) t
    omega
   have ih := dec_val n (c :: t) (by simp at hn ⊢; omega) (by simp) hd.1 (.inl (by simpa using hc))
   rw [Lib.decDigits, dif_neg (by omega), show (valL 0 (c :: t) * 10 + (b.toNat - 48)) / 10 = valL 0 (c :: t) from by omega, show (valL 0 (c :: t) * 10 + (b.toNat - 48)) % 10 = b.toNat - 48 from by omega, ih, digit_back hb]
theorem toNat_dig {d : Nat} (h : d < 10) : (UInt8.ofNat (48 + d)).toNat = 48 + d := by rw [UInt8.toNat_ofNat']; omega
theorem digits_dec : ∀ u : Nat, (Lib.decDigits u).all digit = true := by
 intro u
 induction u using Nat.strongRecOn with
 | ind u ih =>
  rw [Lib.decDigits]
  split
  ·rename_i h
   rw [List.all_cons, digit_iff.2 (by rw [toNat_dig h]; omega)]; rfl
  ·rw [List.all_append, ih (u / 10) (by omega), List.all_cons, digit_iff.2 (by rw [toNat_dig (Nat.mod_lt _ (by decide))]; omega)]; rfl
theorem val_dec : ∀ u : Nat, valL 0 (Lib.decDigits u) = u := by
 intro u
 induction u using Nat.strongRecOn with
 | ind u ih =>
  rw [Lib.decDigits]
  split
  ·rename_i h
   show 0 * 10 + ((UInt8.ofNat (48 + u)).toNat - 48) = u
   rw [toNat_dig h]; omega
  ·rw [valL_snoc, ih (u / 10) (by omega), toNat_dig (Nat.mod_lt _ (by decide))]; omega
theorem dec_ne (u : Nat) : Lib.decDigits u ≠ [] := by rw [Lib.decDigits]; split <;> simp
theorem head_dec : ∀ u : Nat, 1 ≤ u → (Lib.decDigits u).headD 0 ≠ 48 := by
 intro u
 induction u using Nat.strongRecOn with
 | ind u ih =>
  intro h1
  rw [Lib.decDigits]
  split
  ·rename_i h
   show UInt8.ofNat (48 + u) ≠ 48
   intro e
   have := congrArg UInt8.toNat e
   rw [toNat_dig h] at this
   have h48 : (48 : UInt8).toNat = 48 := rfl
   omega
  ·have := ih (u / 10) (by omega) (by omega)
   rcases hq : Lib.decDigits (u / 10) with _ | ⟨c, t⟩
   ·exact absurd hq (dec_ne _)
   ·rw [hq] at this; exact this
/-- A decimal number without a sign, as it is written: at most 18 digits. -/
def canon (l : Bytes) : Bool := decide (1 ≤ l.length) && decide (l.length ≤ 18) && l.all digit && (l.headD 0 != 48 || decide (l.length = 1))
theorem canon_iff {l : Bytes} : canon l = true ↔ 1 ≤ l.length ∧ l.length ≤ 18 ∧ l.all digit = true ∧ (l.headD 0 ≠ 48 ∨ l.length = 1) := by
 unfold canon
 simp only [Bool.and_eq_true, Bool.or_eq_true, decide_eq_true_iff, bne_iff_ne]
 exact ⟨fun ⟨⟨⟨a, b⟩, c⟩, d⟩ => ⟨a, b, c, d⟩, fun ⟨a, b, c, d⟩ => ⟨⟨⟨a, b⟩, c⟩, d⟩⟩
/-- The number with a decimal form. -/
def numC (l : Bytes) : Option Int :=
 if l.head? = some 45 then (if canon l.tail = true ∧ l.tail.headD 0 ≠ 48 then some (-((valL 0 l.tail : Nat) : Int)) else none)
 else if canon l = true then some ((valL 0 l : Nat) : Int) else none
theorem dec_canon {l : Bytes} (h1 : 1 ≤ l.length) (h2 : l.length ≤ 18) (hd : l.all digit = true) : Lib.decDigits (valL 0 l) = l ↔ canon l = true := by
 have hne : l ≠ [] := by intro h; rw [h] at h1; simp at h1
 constructor
 ·intro e
  refine canon_iff.2 ⟨h1, h2, hd, ?_⟩
  by_cases hz : valL 0 l = 0
  ·right
   rw [← e, hz, Lib.decDigits, dif_pos (by decide)]; rfl
  ·left
   rw [← e]
   exact head_dec _ (by omega)
 ·intro hc
  obtain ⟨_, _, _, h4⟩ := canon_iff.1 hc
  exact dec_val _ l rfl hne hd h4
theorem val_small {l : Bytes} (h2 : l.length ≤ 18) (hd : l.all digit = true) : valL 0 l < 1000000000000000000 := by
 have h := valL_lt l 0 0 (by decide) hd
 have hp : 10 ^ (0 + l.length) ≤ 10 ^ 18 := Nat.pow_le_pow_right (by decide) (by omega)
 have e18 : (10 : Nat) ^ 18 = 1000000000000000000 := by decide
 omega
theorem canon_bound {l : Bytes} (h : canon l = true) : valL 0 l < 1000000000000000000 := by
 obtain ⟨_, h2, h3, _⟩ := canon_iff.1 h
 exact val_small h2 h3
theorem itoa_nat (u : Nat) : Lib.itoa (u : Int) = Lib.decDigits u := by unfold Lib.itoa; rw [if_neg (by omega), Int.toNat_natCast]
theorem itoa_negNat (u : Nat) (h : 1 ≤ u) : Lib.itoa (-(u : Int)) = 45 :: Lib.decDigits u := by unfold Lib.itoa; rw [if_pos (by omega), Int.natAbs_neg, Int.natAbs_natCast]
theorem digit45 : digit 45 = false := by decide
/-- What has a decimal form is written so. -/
theorem numC_itoa {l : Bytes} {n : Int} (h : numC l = some n) : Lib.itoa n = l ∧ -1000000000000000000 < n ∧ n < 1000000000000000000 := by
 unfold numC at h
 split at h
 ·rename_i h45
  split at h
  ·rename_i hc
   obtain rfl := Option.some.inj h
   rcases l with _ | ⟨b, t⟩
   ·simp at h45
   ·obtain rfl : b = 45 := by simpa using h45
    have hc1 : canon t = true := hc.1
    have hh : t.headD 0 ≠ 48 := hc.2
    obtain ⟨c1, c2, c3, c4⟩ := canon_iff.1 hc1
    have hb := canon_bound hc1
    have hd := (dec_canon c1 c2 c3).2 hc1
    have hz : valL 0 t ≠ 0 := by
     intro hz
     rw [hz, Lib.decDigits, dif_pos (by decide)] at hd
     exact hh (by rw [← hd]; rfl)
    refine ⟨?_, by show _ < -((valL 0 t : Nat) : Int); omega, by show -((valL 0 t : Nat) : Int) < _; omega⟩
    show Lib.itoa (-((valL 0 t : Nat) : Int)) = 45 :: t
    rw [itoa_negNat _ (by omega), hd]
  ·cases h
 ·split at h
  ·rename_i hc
   obtain rfl := Option.some.inj h
   obtain ⟨c1, c2, c3, c4⟩ := canon_iff.1 hc
   have hb := canon_bound hc
   exact ⟨by rw [itoa_nat, (dec_canon c1 c2 c3).2 hc], by omega, by omega⟩
  ·cases h
theorem itoa_numC {l : Bytes} {n : Int} (h : Lib.itoa n = l) (h0 : -1000000000000000000 < n) (h1 : n < 1000000000000000000) : numC l = some n := by
 have len : ∀ u : Nat, u < 1000000000000000000 → (Lib.decDigits u).length ≤ 18 := fun u hu => dec_len 17 u hu
 have one : ∀ u : Nat, u < 1000000000000000000 → canon (Lib.decDigits u) = true := fun u hu =>
  (dec_canon (dec_len_pos u) (len u hu) (digits_dec u)).1 (by rw [val_dec])
 subst h
 by_cases hn : n < 0
 ·obtain ⟨u, rfl⟩ : ∃ u : Nat, n = -(u : Int) := ⟨n.natAbs, by omega⟩
  rw [itoa_negNat u (by omega)]
  rw [show numC (45 :: Lib.decDigits u) = (if canon (Lib.decDigits u) = true ∧ (Lib.decDigits u).headD 0 ≠ 48 then some (-((valL 0 (Lib.decDigits u) : Nat) : Int)) else none) from if_pos rfl]
  rw [if_pos ⟨one u (by omega), head_dec u (by omega)⟩, val_dec]
 ·obtain ⟨u, rfl⟩ := Int.eq_ofNat_of_zero_le (show 0 ≤ n by omega)
  rw [itoa_nat]
  unfold numC
  have hd := digits_dec u
  rw [if_neg, if_pos (one u (by omega)), val_dec]
  intro hh
  rcases hq : Lib.decDigits u with _ | ⟨c, t⟩
  ·exact dec_ne _ hq
  ·rw [hq] at hh hd
   obtain rfl : c = 45 := by simpa using hh
   rw [List.all_cons, digit45] at hd
   simp at hd
theorem numC_iff {l : Bytes} {n : Int} : numC l = some n ↔ Lib.itoa n = l ∧ -1000000000000000000 < n ∧ n < 1000000000000000000 := ⟨numC_itoa, fun h => itoa_numC h.1 h.2.1 h.2.2⟩
end Go.Proofs.YtiopkeepldmlkaaDoor.QRI
