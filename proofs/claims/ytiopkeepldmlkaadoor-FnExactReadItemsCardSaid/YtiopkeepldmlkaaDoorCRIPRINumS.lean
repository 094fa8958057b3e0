/- Plain Lean on the printed functions: the reference's reading of a decimal number is what 'numC' says. -/
import Derived.Test.YtiopkeepldmlkaaDoorCRIPRINumI
set_option linter.unusedVariables false
set_option linter.unusedSimpArgs false
namespace Go.Proofs.YtiopkeepldmlkaaDoor.QRI
open Go Go.RowKit Go.Proofs.YtiopkeepldmlkaaDoorW.PrintWords Go.Proofs.YtiopkeepldmlkaaDoor.Plain
theorem num_l0 (s : ByteArray) (hs : s.size ≤ 1048576) (o : Nat) : ∀ (l : Bytes) (i j a : Nat), At s i l → a < 10 ^ j → j + l.length ≤ 18 →
  Ev (fun k => spec_l01Number.l0 k s (o : Int) (a : Int) (i : Int)) (if l.all digit = true then (if o = 1 then (-((valL a l : Nat) : Int), true) else (((valL a l : Nat) : Int), true)) else (0, false))
 | [], i, j, a, h, ha, hl => by
  have hi := h.nil
  have hp : 10 ^ j ≤ 10 ^ 18 := Nat.pow_le_pow_right (by decide) (by simpa using hl)
  have e18 : (10 : Nat) ^ 18 = 1000000000000000000 := by decide
  refine Ev.step (fun k => spec_l01Number.l0.eq_2 ..) ?_
  refine Ev.neg (by omega) ?_
  rw [if_pos (show ([] : Bytes).all digit = true from rfl)]
  show Ev _ (if o = 1 then (-((a : Nat) : Int), true) else (((a : Nat) : Int), true))
  by_cases ho : o = 1
  ·rw [if_pos ho]
   refine Ev.pos (by omega) ?_
   rw [wrap_id (by omega) (by omega)]
   exact Ev.const _
  ·rw [if_neg ho]
   exact Ev.neg (by omega) (Ev.const _)
 | b :: t, i, j, a, h, ha, hl => by
  have hi := h.lt
  have hl' : j + 1 + t.length ≤ 18 := by simp at hl; omega
  have hp : 10 ^ j ≤ 10 ^ 17 := Nat.pow_le_pow_right (by decide) (by omega)
  have e17 : (10 : Nat) ^ 17 = 100000000000000000 := by decide
  refine Ev.step (fun k => spec_l01Number.l0.eq_2 ..) ?_
  refine Ev.pos (by omega) ?_
  refine Ev.pos (by omega) ?_
  rw [h.bt, wrap_nat (by omega)]
  refine Ev.bind (Ev.all (fun _ => digit_spec b)) ?_
  by_cases hd : digit b = true
  ·refine Ev.pos hd ?_
   have hb := digit_iff.1 hd
   have e : wrap64 (wrap64 (10 * (a : Int)) + ((b.toNat : Int) - 48) % 256) = ((a * 10 + (b.toNat - 48) : Nat) : Int) := by
    rw [wrap_id (n := 10 * (a : Int)) (by omega) (by omega), wrap_id (by omega) (by omega)]
    omega
   rw [e]
   have ih := num_l0 s hs o t (i + 1) (j + 1) (a * 10 + (b.toNat - 48)) h.tail (by rw [Nat.pow_succ]; omega) hl'
   rw [List.all_cons, hd, Bool.true_and]
   exact ih
  ·refine Ev.neg hd ?_
   rw [Bool.not_eq_true] at hd
   rw [List.all_cons, hd, Bool.false_and, if_neg (by simp)]
   exact Ev.const _
theorem num_j1 (s : ByteArray) (hs : s.size ≤ 1048576) (o : Nat) (ho : o ≤ 1) (l : Bytes) (h : At s o l) :
  Ev (fun k => spec_l01Number.j1 k s (o : Int)) (if 1 ≤ l.length ∧ l.length ≤ 18 ∧ l.all digit = true ∧ ¬ (l.headD 0 = 48 ∧ 1 < s.size) then (if o = 1 then (-((valL 0 l : Nat) : Int), true) else (((valL 0 l : Nat) : Int), true)) else (0, false)) := by
 have hr := h.room
 refine Ev.step (fun k => spec_l01Number.j1.eq_2 ..) ?_
 have stop : Ev (fun k => spec_l01Number.j2 k s (o : Int) true) ((0 : Int), false) := Ev.step (fun k => spec_l01Number.j2.eq_2 ..) (Ev.pos rfl (Ev.const _))
 rcases l with _ | ⟨b, t⟩
 ·rw [if_neg (by simp)]
  refine Ev.pos (by simp at hr; omega) stop
 ·have hlen : (b :: t).length = t.length + 1 := rfl
  rw [hlen] at hr ⊢
  refine Ev.neg (by omega) ?_
  rw [wrap_id (n := (s.size : Int) - (o : Int)) (by omega) (by omega)]
  by_cases h18 : (s.size : Int) - (o : Int) > 18
  ·rw [if_neg (by omega)]
   exact Ev.pos h18 stop
  ·refine Ev.neg h18 ?_
   refine Ev.pos (by omega) ?_
   refine Ev.pos (by omega) ?_
   rw [h.bt]
   have main : Ev (fun k => spec_l01Number.l0 k s (o : Int) 0 (o : Int)) (if (b :: t).all digit = true then (if o = 1 then (-((valL 0 (b :: t) : Nat) : Int), true) else (((valL 0 (b :: t) : Nat) : Int), true)) else (0, false)) :=
    num_l0 s hs o (b :: t) o 0 0 h (by decide) (by rw [hlen]; omega)
   have fin : (if 1 ≤ t.length + 1 ∧ t.length + 1 ≤ 18 ∧ (b :: t).all digit = true ∧ ¬ ((b :: t).headD 0 = 48 ∧ 1 < s.size) then (if o = 1 then (-((valL 0 (b :: t) : Nat) : Int), true) else (((valL 0 (b :: t) : Nat) : Int), true)) else ((0 : Int), false)) =
     (if b = 48 ∧ 1 < s.size then ((0 : Int), false) else (if (b :: t).all digit = true then (if o = 1 then (-((valL 0 (b :: t) : Nat) : Int), true) else (((valL 0 (b :: t) : Nat) : Int), true)) else (0, false))) := by
    have hh : (b :: t).headD 0 = b := rfl
    rw [hh]
    by_cases h1 : b = 48 ∧ 1 < s.size
    ·rw [if_pos h1, if_neg (fun h => h.2.2.2 h1)]
    ·rw [if_neg h1]
     by_cases h2 : (b :: t).all digit = true
     ·rw [if_pos h2, if_pos ⟨by omega, by omega, h2, h1⟩]
     ·rw [if_neg h2, if_neg (fun h => h2 h.2.2.1)]
   rw [fin]
   by_cases h48 : b = 48
   ·refine Ev.pos (by rw [h48]; rfl) ?_
    refine Ev.step (fun k => spec_l01Number.j2.eq_2 ..) ?_
    by_cases h1 : 1 < s.size
    ·rw [if_pos ⟨h48, h1⟩]
     exact Ev.pos (decide_eq_true (by omega)) (Ev.const _)
    ·rw [if_neg (fun h => h1 h.2)]
     exact Ev.neg (by rw [decide_eq_false (by omega)]; decide) main
   ·refine Ev.neg (by rw [show (48 : Int) = ((48 : UInt8).toNat : Int) from rfl, byte_eq]; exact h48) ?_
    refine Ev.step (fun k => spec_l01Number.j2.eq_2 ..) ?_
    rw [if_neg (fun h => h48 h.1)]
    exact Ev.neg (by decide) main
theorem num_spec (l : Bytes) (hs : l.length ≤ 1048576) : Ev (fun k => spec_l01Number.f k (B l)) ((numC l).getD 0, (numC l).isSome) := by
 have hsz : (B l).size = l.length := B_size l
 unfold spec_l01Number.f
 rcases l with _ | ⟨c, r⟩
 ·refine Ev.neg (by rw [hsz]; simp) ?_
  refine Ev.step (fun k => spec_l01Number.j0.eq_2 ..) ?_
  refine Ev.neg (by decide) ?_
  have h := num_j1 (B []) (by rw [hsz]; simp) 0 (by omega) [] ⟨by rw [L_B]; rfl, Nat.zero_le _⟩
  rw [if_neg (by simp)] at h
  exact h
 ·have hlen : (c :: r).length = r.length + 1 := rfl
  rw [hlen] at hsz hs
  have hat : At (B (c :: r)) 0 (c :: r) := ⟨by rw [L_B]; rfl, Nat.zero_le _⟩
  refine Ev.pos (by rw [hsz]; omega) ?_
  refine Ev.pos (by rw [hsz]; omega) ?_
  have hb := hat.bt
  rw [show ((0 : Nat) : Int) = 0 from rfl] at hb
  rw [hb]
  refine Ev.step (fun k => spec_l01Number.j0.eq_2 ..) ?_
  by_cases h45 : c = 45
  ·subst h45
   refine Ev.pos (by decide) ?_
   have h := num_j1 (B (45 :: r)) (by rw [hsz]; omega) 1 (by omega) r hat.tail
   rw [numC_minus]
   by_cases hc : canon r = true ∧ r.headD 0 ≠ 48
   ·rw [if_pos hc]
    obtain ⟨c1, c2, c3, c4⟩ := canon_iff.1 hc.1
    rw [if_pos ⟨c1, c2, c3, fun h => hc.2 h.1⟩, if_pos rfl] at h
    exact h
   ·rw [if_neg hc]
    rw [if_neg] at h
    ·exact h
    ·rintro ⟨c1, c2, c3, c4⟩
     have h48 : r.headD 0 ≠ 48 := fun e => c4 ⟨e, by rw [hsz]; omega⟩
     exact hc ⟨canon_iff.2 ⟨c1, c2, c3, .inl h48⟩, h48⟩
  ·refine Ev.neg (by rw [beq_iff_eq, show (45 : Int) = ((45 : UInt8).toNat : Int) from rfl, byte_eq]; exact h45) ?_
   have h := num_j1 (B (c :: r)) (by rw [hsz]; omega) 0 (by omega) (c :: r) hat
   rw [numC_plain h45]
   by_cases hc : canon (c :: r) = true
   ·rw [if_pos hc]
    obtain ⟨c1, c2, c3, c4⟩ := canon_iff.1 hc
    rw [if_pos ⟨c1, c2, c3, fun h => by
     rcases c4 with c4 | c4
     ·exact c4 h.1
     ·rw [hsz] at h; rw [hlen] at c4; omega⟩, if_neg (by decide)] at h
    exact h
   ·rw [if_neg hc]
    rw [if_neg] at h
    ·exact h
    ·rintro ⟨c1, c2, c3, c4⟩
     refine hc (canon_iff.2 ⟨c1, c2, c3, ?_⟩)
     by_cases h48 : (c :: r).headD 0 = 48
     ·right
      rw [hlen]
      rw [hsz] at c4
      have : ¬ 1 < r.length + 1 := fun h => c4 ⟨h48, h⟩
      omega
     ·exact .inl h48
end Go.Proofs.YtiopkeepldmlkaaDoor.QRI
