/- Plain Lean on the printed functions: the program's ReadDecimal and the reference's are what 'numC' says. -/
import Derived.Test.YtiopkeepldmlkaaDoorCRIPRINum
set_option linter.unusedVariables false
set_option linter.unusedSimpArgs false
namespace Go.Proofs.YtiopkeepldmlkaaDoor.QRI
open Go Go.RowKit Go.Proofs.YtiopkeepldmlkaaDoorW.PrintWords Go.Proofs.YtiopkeepldmlkaaDoor.Plain
theorem canon_none {l : Bytes} (h : ¬ (1 ≤ l.length ∧ l.length ≤ 18 ∧ l.all digit = true)) : canon l = false := by
 rw [← Bool.not_eq_true]
 intro hc
 obtain ⟨a, b, c, _⟩ := canon_iff.1 hc
 exact h ⟨a, b, c⟩
theorem numC_minus (r : Bytes) : numC (45 :: r) = if canon r = true ∧ r.headD 0 ≠ 48 then some (-((valL 0 r : Nat) : Int)) else none := if_pos rfl
theorem numC_plain {c : UInt8} {r : Bytes} (h : c ≠ 45) : numC (c :: r) = if canon (c :: r) = true then some ((valL 0 (c :: r) : Nat) : Int) else none := by
 unfold numC
 rw [if_neg (by simpa using h)]
theorem parse_minus {r : Bytes} (h1 : 1 ≤ r.length) (h2 : r.length ≤ 18) : Lib.parseIntB 64 (45 :: r) = Lib.NumEnd.ofOption (if r.all digit = true then some (-((valL 0 r : Nat) : Int)) else none) := by
 rw [Lib.parseIntB_64, Lib.atoiAll_minus, Lib.signed_short h2, decNat_all r (by intro h; rw [h] at h1; simp at h1)]
 split <;> rfl
theorem parse_plus {r : Bytes} (h2 : r.length ≤ 18) : Lib.parseIntB 64 (43 :: r) = Lib.NumEnd.ofOption ((Lib.decNat r).map fun (m : Nat) => (m : Int)) := by
 rw [Lib.parseIntB_64, Lib.atoiAll_plus, Lib.signless_short h2]
theorem parse_plain {c : UInt8} {r : Bytes} (h45 : c ≠ 45) (h43 : c ≠ 43) (h2 : (c :: r).length ≤ 18) : Lib.parseIntB 64 (c :: r) = Lib.NumEnd.ofOption (if (c :: r).all digit = true then some ((valL 0 (c :: r) : Nat) : Int) else none) := by
 rw [Lib.parseIntB_64, Lib.atoiAll_plain c r (fun e => h43 (UInt8.toNat_inj.1 e)) (fun e => h45 (UInt8.toNat_inj.1 e)), Lib.signless_short h2, decNat_all _ (by simp)]
 split <;> rfl
theorem trim_minus (r : Bytes) : Lib.trimPrefix (45 :: r) [45] = r := by
 unfold Lib.trimPrefix Lib.hasPrefix
 rw [if_pos (by simp)]; rfl
theorem trim_other {c : UInt8} {r : Bytes} (h : c ≠ 45) : Lib.trimPrefix (c :: r) [45] = c :: r := by
 unfold Lib.trimPrefix Lib.hasPrefix
 rw [if_neg]
 simp [List.isPrefixOf, Ne.symm h]
theorem read_impl (l : Bytes) (hs : l.length ≤ 4294967280) : impl_ReadDecimal.f (B l) = some ((numC l).getD 0, (numC l).isSome) := by
 unfold impl_ReadDecimal.f
 rw [if_pos (by rw [B_size]; exact hs)]
 rw [show (B l).data.toList = l from L_B l]
 -- what is left once the number is read
 have tail : ∀ v : Int, Lib.parseIntB 64 l = .ok v → -1000000000000000000 < v → v < 1000000000000000000 → (∀ n, numC l = some n → n = v) →
   (match Lib.parseIntB 64 l with
    | .ok v => if -9223372036854775808 ≤ v ∧ v ≤ 9223372036854775807 then (if ((⟨(Lib.itoa v).toArray⟩ : ByteArray).toList == (B l).toList) = true then some (v, true) else some (0, false)) else none
    | _ => some (0, false)) = some ((numC l).getD 0, (numC l).isSome) := by
  intro v hv h0 h1 hu
  rw [hv]
  dsimp only
  rw [if_pos ⟨by omega, by omega⟩, show (⟨(Lib.itoa v).toArray⟩ : ByteArray) = B (Lib.itoa v) from rfl, toList_L, toList_L, L_B, L_B]
  by_cases he : Lib.itoa v = l
  ·rw [if_pos (by simpa using he), itoa_numC he h0 h1]; rfl
  ·rw [if_neg (by simpa using he)]
   rcases hn : numC l with _ | n
   ·rfl
   ·exact absurd (hu n hn ▸ (numC_itoa hn).1) he
 have bad : Lib.parseIntB 64 l = Lib.NumEnd.syntax → numC l = none →
   (match Lib.parseIntB 64 l with
    | .ok v => if -9223372036854775808 ≤ v ∧ v ≤ 9223372036854775807 then (if ((⟨(Lib.itoa v).toArray⟩ : ByteArray).toList == (B l).toList) = true then some (v, true) else some (0, false)) else none
    | _ => some (0, false)) = some ((numC l).getD 0, (numC l).isSome) := by
  intro hp hn
  rw [hp, hn]; rfl
 rcases l with _ | ⟨c, r⟩
 ·rfl
 ·by_cases h45 : c = 45
  ·subst h45
   rw [trim_minus]
   by_cases h1 : r.length < 1
   ·rw [if_pos h1, numC_minus, if_neg (fun h => by rw [canon_none (by omega)] at h; simp at h)]; rfl
   ·rw [if_neg h1]
    by_cases h2 : 18 < r.length
    ·rw [if_pos h2, numC_minus, if_neg (fun h => by rw [canon_none (by omega)] at h; simp at h)]; rfl
    ·rw [if_neg h2]
     have hp := parse_minus (r := r) (by omega) (by omega)
     by_cases hd : r.all digit = true
     ·rw [if_pos hd] at hp
      have hb := val_small (l := r) (by omega) hd
      refine tail _ hp (by omega) (by omega) fun n hn => ?_
      rw [numC_minus] at hn
      split at hn
      ·exact (Option.some.inj hn).symm
      ·cases hn
     ·rw [if_neg hd] at hp
      refine bad hp ?_
      rw [numC_minus, if_neg (fun h => by rw [canon_none (fun h => hd h.2.2)] at h; simp at h)]
  ·rw [trim_other h45]
   rw [if_neg (by simp)]
   by_cases h2 : 18 < (c :: r).length
   ·rw [if_pos h2, numC_plain h45, if_neg (by rw [canon_none (by omega)]; simp)]; rfl
   ·rw [if_neg h2]
    by_cases h43 : c = 43
    ·subst h43
     have hno : numC (43 :: r) = none := by
      rw [numC_plain h45, if_neg]
      rw [canon_none (fun h => by have := h.2.2; rw [List.all_cons, show digit 43 = false from by decide] at this; simp at this)]; simp
     have hp := parse_plus (r := r) (by simp at h2; omega)
     rcases hq : Lib.decNat r with _ | m
     ·rw [hq] at hp
      exact bad hp hno
     ·rw [hq] at hp
      have hm := Lib.decNat_some hq
      rw [decNat_all r hm.1] at hq
      split at hq
      ·rename_i hd
       have hb := val_small (l := r) (by simp at h2; omega) hd
       have := Option.some.inj hq
       refine tail (m : Int) hp (by omega) (by omega) fun n hn => ?_
       rw [hno] at hn; cases hn
      ·cases hq
    ·have hp := parse_plain (r := r) h45 h43 (by omega)
     by_cases hd : (c :: r).all digit = true
     ·rw [if_pos hd] at hp
      have hb := val_small (l := c :: r) (by omega) hd
      refine tail _ hp (by omega) (by omega) fun n hn => ?_
      rw [numC_plain h45] at hn
      split at hn
      ·exact (Option.some.inj hn).symm
      ·cases hn
     ·rw [if_neg hd] at hp
      refine bad hp ?_
      rw [numC_plain h45, if_neg (by rw [canon_none (fun h => hd h.2.2)]; simp)]
end Go.Proofs.YtiopkeepldmlkaaDoor.QRI
