/- A part of the proof: no condition of its own. Out of what the print tool printed, or of own texts, cut down to what this claim needs by a program of the prover (prune.py). -/
-- Made by wip/tool (a turned print tool and hand-written contracts) for this claim.
import Derived.Test.YtiopkeepldmlkaaDoorCSBQSBx0
namespace Go.Proofs.YtiopkeepldmlkaaDoor.QSB
open Go.RowKit Go.Proofs.YtiopkeepldmlkaaDoorW.PrintWords Go.Proofs.YtiopkeepldmlkaaDoorW.PrintLast Go.Proofs.YtiopkeepldmlkaaDoorW.PrintMore
attribute [local go_sem] max2_int min2_int max_two min_two max_three min_three max_four min_four   -- for this text's walks alone
set_option linter.unusedVariables false
set_option linter.unusedSimpArgs false
/-! ### spec_l29Before: function 36 -/
def spec_l29Before.f (l0 : List (S36)) (l1 : List (S36)) : Option (Bool) := if 0 < (l0.length : Int) then (if 0 < (l1.length : Int) then (if (Op.bytesLess (((rd_T36 l0 0).f0).toList) (((rd_T36 l1 0).f0).toList)) = true then (some true) else (if ((rd_T36 l0 0).f0).toList = ((rd_T36 l1 0).f0).toList then (some (Op.bytesLess (((rd_T36 l0 0).f1).toList) (((rd_T36 l1 0).f1).toList))) else (some false))) else (none)) else (none)
set_option maxHeartbeats 8000000 in
set_option maxRecDepth 100000 in
theorem spec_l29Before.calls (A0 : Option Addr) (l0 : List (S36)) (A1 : Option Addr) (l1 : List (S36)) (r : Bool) (w : World) (hr0 : Kd.C k36 w A0 l0.length l0) (hr1 : Kd.C k36 w A1 l1.length l1) (h : spec_l29Before.f l0 l1 = some r) :
    Calls Tryd.prog 36 #[.pointer A0, .pointer A1] w fun e w' => e = .returned (.bool r) ∧ Drawn0 w w' := by
  have HR0 := Aside0.mk hr0
  clear hr0
  have HR1 := Aside0.mk hr1
  clear hr1
  have H : (if 0 < (l0.length : Int) then (if 0 < (l1.length : Int) then (if (Op.bytesLess (((rd_T36 l0 0).f0).toList) (((rd_T36 l1 0).f0).toList)) = true then (some true) else (if ((rd_T36 l0 0).f0).toList = ((rd_T36 l1 0).f0).toList then (some (Op.bytesLess (((rd_T36 l0 0).f1).toList) (((rd_T36 l1 0).f1).toList))) else (some false))) else (none)) else (none)) = some r := h
  clear h
  by_cases c3 : 0 < (l0.length : Int)
  · rw [if_pos c3] at H
    have c3b0 : decide (0 < (l0.length : Int)) = true := decide_eq_true c3
    have c3b1 : decide (0 < l0.length) = true := decide_eq_true (by omega)
    clear c3
    by_cases c4 : 0 < (l1.length : Int)
    · rw [if_pos c4] at H
      have c4b0 : decide (0 < (l1.length : Int)) = true := decide_eq_true c4
      have c4b1 : decide (0 < l1.length) = true := decide_eq_true (by omega)
      clear c4
      by_cases c5 : (Op.bytesLess (((rd_T36 l0 0).f0).toList) (((rd_T36 l1 0).f0).toList)) = true
      · rw [if_pos c5] at H
        have c5b0 : (Op.bytesLess (((rd_T36 l0 0).f0).toList) (((rd_T36 l1 0).f0).toList)) = true := c5
        clear c5
        obtain rfl := Option.some.inj H
        have p144 : 0 ≤ (0 : Int) := (by omega)
        have q144 : 0 < (l0.length : Int) := of_decide_eq_true (by first | (with_reducible assumption) | assumption)
        obtain ⟨ad144, e144, hx144_0, hx144_1, hx144_2⟩ := at_T36 HR0.out 0 p144 q144
        cases e144
        have qi144 : (0 < l0.length) = True := eq_true (by omega)
        (try rw [show ((0 : Int)).toNat = 0 from rfl] at hx144_0)
        (try rw [show 0 * 3 = 0 from rfl] at hx144_0)
        (try rw [Addr.add_zero'] at hx144_0)
        (try rw [show ((0 : Int)).toNat = 0 from rfl] at hx144_1)
        (try rw [show 0 * 3 = 0 from rfl] at hx144_1)
        (try rw [Addr.add_zero'] at hx144_1)
        (try rw [show ((0 : Int)).toNat = 0 from rfl] at hx144_2)
        (try rw [show 0 * 3 = 0 from rfl] at hx144_2)
        (try rw [Addr.add_zero'] at hx144_2)
        replace p144 := eq_true p144
        replace q144 := eq_true q144
        have p145 : 0 ≤ (0 : Int) := (by omega)
        have q145 : 0 < (l1.length : Int) := of_decide_eq_true (by first | (with_reducible assumption) | assumption)
        obtain ⟨ad145, e145, hx145_0, hx145_1, hx145_2⟩ := at_T36 HR1.out 0 p145 q145
        cases e145
        have qi145 : (0 < l1.length) = True := eq_true (by omega)
        (try rw [show ((0 : Int)).toNat = 0 from rfl] at hx145_0)
        (try rw [show 0 * 3 = 0 from rfl] at hx145_0)
        (try rw [Addr.add_zero'] at hx145_0)
        (try rw [show ((0 : Int)).toNat = 0 from rfl] at hx145_1)
        (try rw [show 0 * 3 = 0 from rfl] at hx145_1)
        (try rw [Addr.add_zero'] at hx145_1)
        (try rw [show ((0 : Int)).toNat = 0 from rfl] at hx145_2)
        (try rw [show 0 * 3 = 0 from rfl] at hx145_2)
        (try rw [Addr.add_zero'] at hx145_2)
        replace p145 := eq_true p145
        replace q145 := eq_true q145
        go_enter Tryd.func36, Tryd.ntmps36
        go_wp2
        repeat (go_quiet (fail); try go_wp2)
        go_ret
        exact ⟨by first | rfl | (simp; done) | (simp [*]; done), by repeat (first | exact Drawn0.refl _ | apply Drawn0.step)⟩
      · rw [if_neg c5] at H
        have c5b0 : (Op.bytesLess (((rd_T36 l0 0).f0).toList) (((rd_T36 l1 0).f0).toList)) = false := by simpa using c5
        clear c5
        by_cases c6 : ((rd_T36 l0 0).f0).toList = ((rd_T36 l1 0).f0).toList
        · rw [if_pos c6] at H
          have c6b0 : (((rd_T36 l0 0).f0).toList == ((rd_T36 l1 0).f0).toList) = true := beq_iff_eq.mpr c6
          have c6b1 : (((rd_T36 l0 0).f0).toList != ((rd_T36 l1 0).f0).toList) = false := bne_eq_false_iff_eq.mpr c6
          clear c6
          obtain rfl := Option.some.inj H
          have p144 : 0 ≤ (0 : Int) := (by omega)
          have q144 : 0 < (l0.length : Int) := of_decide_eq_true (by first | (with_reducible assumption) | assumption)
          obtain ⟨ad144, e144, hx144_0, hx144_1, hx144_2⟩ := at_T36 HR0.out 0 p144 q144
          cases e144
          have qi144 : (0 < l0.length) = True := eq_true (by omega)
          (try rw [show ((0 : Int)).toNat = 0 from rfl] at hx144_0)
          (try rw [show 0 * 3 = 0 from rfl] at hx144_0)
          (try rw [Addr.add_zero'] at hx144_0)
          (try rw [show ((0 : Int)).toNat = 0 from rfl] at hx144_1)
          (try rw [show 0 * 3 = 0 from rfl] at hx144_1)
          (try rw [Addr.add_zero'] at hx144_1)
          (try rw [show ((0 : Int)).toNat = 0 from rfl] at hx144_2)
          (try rw [show 0 * 3 = 0 from rfl] at hx144_2)
          (try rw [Addr.add_zero'] at hx144_2)
          replace p144 := eq_true p144
          replace q144 := eq_true q144
          have p145 : 0 ≤ (0 : Int) := (by omega)
          have q145 : 0 < (l1.length : Int) := of_decide_eq_true (by first | (with_reducible assumption) | assumption)
          obtain ⟨ad145, e145, hx145_0, hx145_1, hx145_2⟩ := at_T36 HR1.out 0 p145 q145
          cases e145
          have qi145 : (0 < l1.length) = True := eq_true (by omega)
          (try rw [show ((0 : Int)).toNat = 0 from rfl] at hx145_0)
          (try rw [show 0 * 3 = 0 from rfl] at hx145_0)
          (try rw [Addr.add_zero'] at hx145_0)
          (try rw [show ((0 : Int)).toNat = 0 from rfl] at hx145_1)
          (try rw [show 0 * 3 = 0 from rfl] at hx145_1)
          (try rw [Addr.add_zero'] at hx145_1)
          (try rw [show ((0 : Int)).toNat = 0 from rfl] at hx145_2)
          (try rw [show 0 * 3 = 0 from rfl] at hx145_2)
          (try rw [Addr.add_zero'] at hx145_2)
          replace p145 := eq_true p145
          replace q145 := eq_true q145
          go_enter Tryd.func36, Tryd.ntmps36
          go_wp2
          repeat (go_quiet (fail); try go_wp2)
          go_ret
          exact ⟨by first | rfl | (simp; done) | (simp [*]; done), by repeat (first | exact Drawn0.refl _ | apply Drawn0.step)⟩
        · rw [if_neg c6] at H
          have c6b0 : (((rd_T36 l0 0).f0).toList == ((rd_T36 l1 0).f0).toList) = false := beq_eq_false_iff_ne.mpr c6
          have c6b1 : (((rd_T36 l0 0).f0).toList != ((rd_T36 l1 0).f0).toList) = true := bne_iff_ne.mpr c6
          obtain rfl := Option.some.inj H
          have p144 : 0 ≤ (0 : Int) := (by omega)
          have q144 : 0 < (l0.length : Int) := of_decide_eq_true (by first | (with_reducible assumption) | assumption)
          obtain ⟨ad144, e144, hx144_0, hx144_1, hx144_2⟩ := at_T36 HR0.out 0 p144 q144
          cases e144
          have qi144 : (0 < l0.length) = True := eq_true (by omega)
          (try rw [show ((0 : Int)).toNat = 0 from rfl] at hx144_0)
          (try rw [show 0 * 3 = 0 from rfl] at hx144_0)
          (try rw [Addr.add_zero'] at hx144_0)
          (try rw [show ((0 : Int)).toNat = 0 from rfl] at hx144_1)
          (try rw [show 0 * 3 = 0 from rfl] at hx144_1)
          (try rw [Addr.add_zero'] at hx144_1)
          (try rw [show ((0 : Int)).toNat = 0 from rfl] at hx144_2)
          (try rw [show 0 * 3 = 0 from rfl] at hx144_2)
          (try rw [Addr.add_zero'] at hx144_2)
          replace p144 := eq_true p144
          replace q144 := eq_true q144
          have p145 : 0 ≤ (0 : Int) := (by omega)
          have q145 : 0 < (l1.length : Int) := of_decide_eq_true (by first | (with_reducible assumption) | assumption)
          obtain ⟨ad145, e145, hx145_0, hx145_1, hx145_2⟩ := at_T36 HR1.out 0 p145 q145
          cases e145
          have qi145 : (0 < l1.length) = True := eq_true (by omega)
          (try rw [show ((0 : Int)).toNat = 0 from rfl] at hx145_0)
          (try rw [show 0 * 3 = 0 from rfl] at hx145_0)
          (try rw [Addr.add_zero'] at hx145_0)
          (try rw [show ((0 : Int)).toNat = 0 from rfl] at hx145_1)
          (try rw [show 0 * 3 = 0 from rfl] at hx145_1)
          (try rw [Addr.add_zero'] at hx145_1)
          (try rw [show ((0 : Int)).toNat = 0 from rfl] at hx145_2)
          (try rw [show 0 * 3 = 0 from rfl] at hx145_2)
          (try rw [Addr.add_zero'] at hx145_2)
          replace p145 := eq_true p145
          replace q145 := eq_true q145
          go_enter Tryd.func36, Tryd.ntmps36
          go_wp2
          repeat (go_quiet (fail); try go_wp2)
          go_ret
          exact ⟨by first | rfl | (simp; done) | (simp [*]; done), by repeat (first | exact Drawn0.refl _ | apply Drawn0.step)⟩
    · rw [if_neg c4] at H
      exact absurd H (by simp)
  · rw [if_neg c3] at H
    exact absurd H (by simp)
end Go.Proofs.YtiopkeepldmlkaaDoor.QSB
