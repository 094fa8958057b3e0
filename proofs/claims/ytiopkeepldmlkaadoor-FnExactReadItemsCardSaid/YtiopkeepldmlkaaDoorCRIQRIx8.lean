/- A part of the proof: no condition of its own. Out of what the print tool printed, or of own texts, cut down to what this claim needs by a program of the prover (prune.py). -/
-- Made by wip/tool (a turned print tool and hand-written contracts) for this claim.
import Derived.Test.YtiopkeepldmlkaaDoorCRIQRIx0
import Derived.Test.YtiopkeepldmlkaaDoorCRIQRIx6
import Derived.Test.YtiopkeepldmlkaaDoorCRIQRIx7
namespace Go.Proofs.YtiopkeepldmlkaaDoor.QRI
open Go.RowKit Go.Proofs.YtiopkeepldmlkaaDoorW.PrintWords Go.Proofs.YtiopkeepldmlkaaDoorW.PrintLast Go.Proofs.YtiopkeepldmlkaaDoorW.PrintMore
attribute [local go_sem] max2_int min2_int max_two min_two max_three min_three max_four min_four   -- for this text's walks alone
set_option linter.unusedVariables false
set_option linter.unusedSimpArgs false
/-! ### impl_ValidItems: function 27 -/
mutual
def impl_ValidItems.l0 : Nat → List (S49) → List (S49) → Int → Int → List ByteArray → Option (Bool)
 | 0, _, _, _, _, _ => none
 | k + 1, x0, x8, x9, x10, x217000 => if x10 < x9 then (if 0 ≤ x10 then (if x10 < (x8.length : Int) then (if x217000.length < 8796093022208 then (impl_ValidItems.l0 k x0 x8 x9 (wrap64 (x10 + 1)) (x217000 ++ [(rd_T49 x8 x10).f0])) else (none)) else (none)) else (none)) else ((impl_areNames.f k x217000 16).bind fun t222 => (if t222 = true then (impl_ValidItems.l1 k x0 x0 (x0.length : Int) 0 x217000) else (some false)))
def impl_ValidItems.l1 : Nat → List (S49) → List (S49) → Int → Int → List ByteArray → Option (Bool)
 | 0, _, _, _, _, _ => none
 | k + 1, x0, x23, x24, x25, x217000 => if x25 < x24 then (if 0 ≤ x25 then (if x25 < (x23.length : Int) then ((impl_areNames.f k ((rd_T49 x23 x25).f1) 16).bind fun t228 => (if t228 = true then ((impl_within.f ((rd_T49 x23 x25).f2) 0 1000000).bind fun t229 => (if t229 = true then ((impl_within.f ((rd_T49 x23 x25).f3) 0 1000).bind fun t230 => (impl_ValidItems.j2 k x0 x23 x24 x25 (!t230) x217000 ((rd_T49 x23 x25).f0) ((rd_T49 x23 x25).f1) ((rd_T49 x23 x25).f2) ((rd_T49 x23 x25).f3))) else (impl_ValidItems.j2 k x0 x23 x24 x25 true x217000 ((rd_T49 x23 x25).f0) ((rd_T49 x23 x25).f1) ((rd_T49 x23 x25).f2) ((rd_T49 x23 x25).f3)))) else (impl_ValidItems.j2 k x0 x23 x24 x25 true x217000 ((rd_T49 x23 x25).f0) ((rd_T49 x23 x25).f1) ((rd_T49 x23 x25).f2) ((rd_T49 x23 x25).f3)))) else (none)) else (none)) else ((impl_makeOrder.f k x0).bind fun t223 => (some ((t223.length : Int) == (x0.length : Int))))
def impl_ValidItems.j2 : Nat → List (S49) → List (S49) → Int → Int → Bool → List ByteArray → ByteArray → List ByteArray → Int → Int → Option (Bool)
 | 0, _, _, _, _, _, _, _, _, _, _ => none
 | k + 1, x0, x23, x24, x25, x44, x217000, x228000, x228001, x228002, x228003 => if x44 = true then (some false) else ((slices_ContainsFunc_string_string__impl_ValidItems_1.f k x228001 [x217000]).bind fun t231 => (if t231 = true then (some false) else (impl_ValidItems.l1 k x0 x23 x24 (wrap64 (x25 + 1)) x217000)))
end
def impl_ValidItems.f (k : Nat) (l0 : List (S49)) : Option (Bool) := impl_ValidItems.l0 k l0 l0 (l0.length : Int) 0 ([] : List ByteArray)
set_option maxHeartbeats 8000000 in
set_option maxRecDepth 100000 in
theorem impl_ValidItems.calls (k : Nat) (A0 : Option Addr) (c0 : Nat) (l0 : List (S49)) (r : Bool) (w : World) (hr0 : Kd.C k49 w A0 l0.length l0) (hc0 : l0.length ≤ c0) (h : impl_ValidItems.f k l0 = some r) :
  Calls Tryd.prog 27 #[.slice A0 l0.length c0] w fun e w' => e = .returned (.bool r) ∧ Below w.heap.size w w' := by
 have hu49 := Tryd.underlying49
 have HR0 := Aside0.mk hr0
 have HC0 := Aside0.mk hc0
 clear hr0 hc0
 have HB := Aside0.mk (Below.refl w.heap.size w)
 have H : (impl_ValidItems.l0 k l0 l0 (l0.length : Int) 0 ([] : List ByteArray)) = some r := h
 clear h
 have H' := Aside0.mk H
 clear H
 go_enter Tryd.func27, Tryd.ntmps27
 go_wp2_with (first | ((with_reducible refine gate_dst (N := 3) rfl ?_); refine box_event ?hg (N := 3) ?hd (cs := #[.slice none 0 0]) (t := 32) ?hr ?_; (case hd => rfl); (case hg => rfl); (case hr => first | (go_simp; done) | (go_simp; rfl)); intro gb216 hg w2 hbox hb; have n0_ := Aside0.mk (below_step (by repeat (first | (with_reducible first | exact HB.out | apply below_alloc | apply pw_below_drewN | apply below_drew1) | exact HB.out)) hb); have n1_ := Aside0.mk (hbox); have n2_ := Aside0.mk ((by rw [hg]; exact (below_size (by repeat (first | (with_reducible first | exact HB.out | apply below_alloc | apply pw_below_drewN | apply below_drew1) | exact HB.out))) : w.heap.size ≤ gb216)); have n3_ := Aside0.mk ((by rw [hg]; exact (below_size (by repeat (first | (with_reducible first | exact HB.out | apply below_alloc | apply pw_below_drewN | apply below_drew1) | exact HB.out))) : w.heap.size ≤ gb216)); clear HB; have HB := n0_; have BK216 := n1_; have GW216 := n2_; have GE216 := n3_; clear n0_ n1_ n2_ n3_; clear hb hbox hg))
 go_loopg [10] k (fun kq v10 w' => ∃ (x10_1 : Int) (x217000_1 : List ByteArray) (u217000 : Value), v10 = .int .i64 x10_1 ∧ Aside0 (impl_ValidItems.l0 kq l0 l0 (l0.length : Int) x10_1 x217000_1 = some r) ∧ Aside0 (kq ≤ k) ∧ Aside0 (Kd.R Kd.string 9 w' w.heap.size (fun _ => True) u217000 x217000_1) ∧ Aside0 (w'.heap[gb216]? = some (.cells #[u217000] 32 (0, 0))) ∧ Aside0 (Below w.heap.size w w'))
 case atStart => exact ⟨(0), (([] : List ByteArray)), (.slice none 0 0), (by first | rfl | (simp; done) | (simp [*]; done)), H', ⟨Nat.le_refl _⟩, ⟨by first | exact Kd.R_nil _ _ _ _ _ | exact Kd.N_nil _ _ _ _ _ | exact Kd.V_nil _ _ _ _ _ | exact Kd.Q_nil _ _ _ _ _ | exact Kd.S_nil _ _ _ _ _⟩, ⟨by (with_reducible repeat (first | refine blk_drewN ?_ _ | refine blk_drew ?_ | refine blk_alloc ?_ _)); exact BK216.out⟩, ⟨by repeat (first | (with_reducible first | exact HB.out | apply below_alloc | apply pw_below_drewN | apply below_drew1 | refine below_set ?_ GE216.out) | exact HB.out)⟩⟩
 case round =>
  clear H'
  try clear c2
  try clear p2
  obtain ⟨x10_1, x217000_1, u217000, rfl, HA, HK1, HO_217000, BK216, HB⟩ := hrel
  cases gk with
  | zero => exact absurd HA.out (by simp [impl_ValidItems.l0])
  | succ k1 =>
   have H := HA.out
   clear HA
   simp only [impl_ValidItems.l0] at H
   by_cases c3 : x10_1 < (l0.length : Int)
   ·rw [if_pos c3] at H
    have c3b0 : decide (x10_1 < (l0.length : Int)) = true := decide_eq_true c3
    clear c3
    by_cases c4 : 0 ≤ x10_1
    ·rw [if_pos c4] at H
     have c4b0 : decide (0 ≤ x10_1) = true := decide_eq_true c4
     clear c4
     by_cases c5 : x10_1 < (l0.length : Int)
     ·rw [if_pos c5] at H
      have c5b0 : decide (x10_1 < (l0.length : Int)) = true := decide_eq_true c5
      clear c5
      by_cases c6 : x217000_1.length < 8796093022208
      ·rw [if_pos c6] at H
       have LMc6 := Aside0.mk c6
       clear c6
       obtain ⟨y219, hy219⟩ : ∃ y_ : List ByteArray, y_ = (x217000_1 ++ [(rd_T49 l0 x10_1).f0]) := ⟨_, rfl⟩
       replace H : (impl_ValidItems.l0 k1 l0 l0 (l0.length : Int) (wrap64 (x10_1 + 1)) y219) = some r := by first | (rw [hy219]; with_reducible exact H) | (have H2_ := (Option.bind_some _ _).symm.trans H; rw [hy219]; with_reducible exact H2_) | (have H2_ := (Option.bind_some _ _).symm.trans H; with_reducible exact H2_) | with_reducible exact H | (rw [hy219]; exact H) | exact H
       have Ny219 := Aside0.mk hy219
       clear hy219
       have H' := Aside0.mk H
       clear H
       have p217 : 0 ≤ (x10_1 : Int) := of_decide_eq_true (by first | (with_reducible assumption) | assumption)
       have q217 : x10_1 < (l0.length : Int) := of_decide_eq_true (by first | (with_reducible assumption) | assumption)
       obtain ⟨ad217, A217_1, c217_1, e217, hx217_0, hx217_1, hx217_2, hx217_3, hl217_1, hi217_1⟩ := at_T49 HR0.out x10_1 p217 q217
       cases e217
       have ho217_1 := Aside0.mk hx217_1
       replace hx217_0 := (HB.out.cell (World.block_lt_of_cell? w _ hx217_0)).trans hx217_0
       replace hx217_1 := (HB.out.cell (World.block_lt_of_cell? w _ hx217_1)).trans hx217_1
       replace hx217_2 := (HB.out.cell (World.block_lt_of_cell? w _ hx217_2)).trans hx217_2
       replace hx217_3 := (HB.out.cell (World.block_lt_of_cell? w _ hx217_3)).trans hx217_3
       have HR217_1 := Aside0.mk hi217_1
       have HC217_1 := Aside0.mk hl217_1
       clear hi217_1 hl217_1
       replace p217 := eq_true p217
       replace q217 := eq_true q217
       go_wp2_with (first | ((with_reducible refine gate_dst (N := 5) rfl ?_); refine box_event ?hg (N := 5) ?hd (cs := #[.string (⟨#[]⟩ : ByteArray), .slice none 0 0, .int .i64 0, .int .i64 0]) (t := 49) ?hr ?_; (case hd => rfl); (case hg => rfl); (case hr => first | (go_simp; done) | (go_simp; rfl)); intro gb218 hg w7 hbox hb; have n0_ := Aside0.mk (Kd.R_below (by (with_reducible repeat (first | apply Kd.R_alloc | apply Kd.R_drewN | apply Kd.R_drew)); exact HO_217000.out) hb); have n1_ := Aside0.mk (blk_below (g := gb216) (o := .cells #[u217000] 32 (0, 0)) (by (with_reducible repeat (first | refine blk_drewN ?_ _ | refine blk_drew ?_ | refine blk_alloc ?_ _)); exact BK216.out) hb); have n2_ := Aside0.mk (below_step (by repeat (first | (with_reducible first | exact HB.out | apply below_alloc | apply pw_below_drewN | apply below_drew1 | refine below_set ?_ GE216.out) | exact HB.out)) hb); have n3_ := Aside0.mk (hbox); have n4_ := Aside0.mk ((by rw [hg]; exact (below_size (by repeat (first | (with_reducible first | exact HB.out | apply below_alloc | apply pw_below_drewN | apply below_drew1 | refine below_set ?_ GE216.out) | exact HB.out))) : w.heap.size ≤ gb218)); have n5_ := Aside0.mk ((by rw [hg]; exact (below_size (by repeat (first | (with_reducible first | exact HB.out | apply below_alloc | apply pw_below_drewN | apply below_drew1 | refine below_set ?_ GE216.out) | exact HB.out))) : w.heap.size ≤ gb218)); have n6_ := Aside0.mk ((by rw [hg]; exact Nat.ne_of_lt (blk_lt (g := gb216) (o := .cells #[u217000] 32 (0, 0)) (by (with_reducible repeat (first | refine blk_drewN ?_ _ | refine blk_drew ?_ | refine blk_alloc ?_ _)); exact BK216.out)) : gb216 ≠ gb218)); have n7_ := Aside0.mk ((by rw [hg]; exact Nat.ne_of_gt (blk_lt (g := gb216) (o := .cells #[u217000] 32 (0, 0)) (by (with_reducible repeat (first | refine blk_drewN ?_ _ | refine blk_drew ?_ | refine blk_alloc ?_ _)); exact BK216.out)) : gb218 ≠ gb216)); clear HO_217000; clear BK216; clear HB; have HO_217000 := n0_; have BK216 := n1_; have HB := n2_; have BK218 := n3_; have GW218 := n4_; have GE218 := n5_; have NB216_218 := n6_; have NB218_216 := n7_; clear n0_ n1_ n2_ n3_ n4_ n5_ n6_ n7_; clear hb hbox hg; have hnb8 := NB218_216.out; have hnc8 := NB216_218.out; have hcz9_0 : w7.cell? ⟨gb218, 0, none⟩ = some (.string (⟨#[]⟩ : ByteArray)) := (blk_cell BK218.out 0).trans rfl; have hcz9_1 : w7.cell? ⟨gb218, 1, none⟩ = some (.slice none 0 0) := (blk_cell BK218.out 1).trans rfl; have hcz9_2 : w7.cell? ⟨gb218, 2, none⟩ = some (.int .i64 0) := (blk_cell BK218.out 2).trans rfl; have hcz9_3 : w7.cell? ⟨gb218, 3, none⟩ = some (.int .i64 0) := (blk_cell BK218.out 3).trans rfl; have hfz9_0 := blk_frozen BK218.out 0; have hfz9_1 := blk_frozen BK218.out 1; have hfz9_2 := blk_frozen BK218.out 2; have hfz9_3 := blk_frozen BK218.out 3; have hcz10_0 : w7.cell? ⟨gb216, 0, none⟩ = some (u217000) := (blk_cell BK216.out 0).trans rfl; have hfz10_0 := blk_frozen BK216.out 0) | ((with_reducible refine gate_builtin (b := .append) (xs := #[.tmp 14, .tmp 17]) rfl ?_); at_builtin; refine Kd.R_append Kd.string (w0 := w) w.heap.size rfl (.tmp 14) (.tmp 17) 32 9 (.string ⟨#[]⟩) 16 rfl Tryd.underlying32 info9 rfl (by decide) (by omega) u217000 x217000_1 ((rd_T49 l0 x10_1).f0) [.string ((rd_T49 l0 x10_1).f0)] (fun _ => True) (fun _ => False) rfl (by first | (go_simp; done) | (go_simp; rfl)) ?aP (fun _ hk => hk.elim) ?aF ?aO ?aB ?aS ?aL ?_; (case aP => exact rfl); (case aB => exact (by repeat (first | (with_reducible first | exact HB.out | apply below_alloc | apply pw_below_drewN | apply below_drew1 | refine below_set ?_ GE216.out | refine below_set ?_ GE218.out) | exact HB.out))); (case aF => exact (fun _ _ => trivial)); (case aO => exact (by (with_reducible repeat (first | apply Kd.R_alloc | apply Kd.R_drewN | apply Kd.R_drew)); exact Kd.R_mono (Kd.R_far (p := ⟨gb218, 3, none⟩) (Kd.R_far (p := ⟨gb218, 2, none⟩) (Kd.R_far (p := ⟨gb218, 1, none⟩) (Kd.R_far (p := ⟨gb218, 0, none⟩) (Kd.R_types HO_217000.out BK218.out (by decide)) (fun _ hk => hk.2) (.string ((rd_T49 l0 x10_1).f0))) (fun _ hk => hk.2) (.slice A217_1 ((rd_T49 l0 x10_1).f1).length c217_1)) (fun _ hk => hk.2) (.int .i64 ((rd_T49 l0 x10_1).f2))) (fun _ hk => hk.2) (.int .i64 ((rd_T49 l0 x10_1).f3))) (fun _ hk => trivial))); (case aS => exact (below_size (by repeat (first | (with_reducible first | exact HB.out | apply below_alloc | apply pw_below_drewN | apply below_drew1 | refine below_set ?_ GE216.out | refine below_set ?_ GE218.out) | exact HB.out)))); (case aL => have := LMc6.out; omega); intro v220 w11 ho hb hg hat; rw [← Ny219.out] at ho; have n0_ := Aside0.mk (blk_grown (g := gb216) (o := .cells #[u217000] 32 (0, 0)) (by (with_reducible repeat (first | refine blk_drewN ?_ _ | refine blk_drew ?_ | refine blk_alloc ?_ _)); refine blk_far ?_ NB216_218.out _; (with_reducible repeat (first | refine blk_drewN ?_ _ | refine blk_drew ?_ | refine blk_alloc ?_ _)); refine blk_far ?_ NB216_218.out _; (with_reducible repeat (first | refine blk_drewN ?_ _ | refine blk_drew ?_ | refine blk_alloc ?_ _)); refine blk_far ?_ NB216_218.out _; (with_reducible repeat (first | refine blk_drewN ?_ _ | refine blk_drew ?_ | refine blk_alloc ?_ _)); refine blk_far ?_ NB216_218.out _; (with_reducible repeat (first | refine blk_drewN ?_ _ | refine blk_drew ?_ | refine blk_alloc ?_ _)); exact BK216.out) hg (Kd.R_ne HO_217000.out BK216.out (by decide))); have n1_ := Aside0.mk (blk_grown (g := gb218) (o := .cells #[.string ((rd_T49 l0 x10_1).f0), .slice A217_1 ((rd_T49 l0 x10_1).f1).length c217_1, .int .i64 ((rd_T49 l0 x10_1).f2), .int .i64 ((rd_T49 l0 x10_1).f3)] 49 (0, 0)) (by (with_reducible repeat (first | refine blk_drewN ?_ _ | refine blk_drew ?_ | refine blk_alloc ?_ _)); refine blk_put (cs := #[.string ((rd_T49 l0 x10_1).f0), .slice A217_1 ((rd_T49 l0 x10_1).f1).length c217_1, .int .i64 ((rd_T49 l0 x10_1).f2), .int .i64 0]) ?_ 3 _ rfl; (with_reducible repeat (first | refine blk_drewN ?_ _ | refine blk_drew ?_ | refine blk_alloc ?_ _)); refine blk_put (cs := #[.string ((rd_T49 l0 x10_1).f0), .slice A217_1 ((rd_T49 l0 x10_1).f1).length c217_1, .int .i64 0, .int .i64 0]) ?_ 2 _ rfl; (with_reducible repeat (first | refine blk_drewN ?_ _ | refine blk_drew ?_ | refine blk_alloc ?_ _)); refine blk_put (cs := #[.string ((rd_T49 l0 x10_1).f0), .slice none 0 0, .int .i64 0, .int .i64 0]) ?_ 1 _ rfl; (with_reducible repeat (first | refine blk_drewN ?_ _ | refine blk_drew ?_ | refine blk_alloc ?_ _)); refine blk_put (cs := #[.string (⟨#[]⟩ : ByteArray), .slice none 0 0, .int .i64 0, .int .i64 0]) ?_ 0 _ rfl; (with_reducible repeat (first | refine blk_drewN ?_ _ | refine blk_drew ?_ | refine blk_alloc ?_ _)); exact BK218.out) hg (Kd.R_ne HO_217000.out BK218.out (by decide))); have n2_ := Aside0.mk (hb); have n3_ := Aside0.mk (ho); clear BK216; clear BK218; clear HB; clear HO_217000; have BK216 := n0_; have BK218 := n1_; have HB := n2_; have HO221 := n3_; clear n0_ n1_ n2_ n3_; clear ho hb hg hat; obtain ⟨Ao12, co12, eo12⟩ := Kd.R_slice HO221.out; subst eo12; have hcz13_0 : w11.cell? ⟨gb216, 0, none⟩ = some (u217000) := (blk_cell BK216.out 0).trans rfl; have hfz13_0 := blk_frozen BK216.out 0))
       go_roundg k1
       case measure => have := HK1.out; omega
       case rel => exact ⟨(wrap64 (x10_1 + 1)), (y219), (.slice Ao12 y219.length co12), (by first | rfl | (simp; done) | (simp [*]; done)), H', ⟨by have := HK1.out; omega⟩, ⟨by (with_reducible repeat (first | apply Kd.R_alloc | apply Kd.R_drewN | apply Kd.R_drew)); exact Kd.R_mono (Kd.R_far (p := ⟨gb216, 0, none⟩) (Kd.R_types HO221.out BK216.out (by decide)) (fun _ hk => hk.2) (.slice Ao12 y219.length co12)) (fun _ hk => trivial)⟩, ⟨by (with_reducible repeat (first | refine blk_drewN ?_ _ | refine blk_drew ?_ | refine blk_alloc ?_ _)); refine blk_put (cs := #[u217000]) ?_ 0 _ rfl; (with_reducible repeat (first | refine blk_drewN ?_ _ | refine blk_drew ?_ | refine blk_alloc ?_ _)); exact BK216.out⟩, ⟨by repeat (first | (with_reducible first | exact HB.out | apply below_alloc | apply pw_below_drewN | apply below_drew1 | refine below_set ?_ GE216.out | refine below_set ?_ GE218.out) | exact HB.out)⟩⟩
      ·rw [if_neg c6] at H
       exact absurd H (by simp)
     ·rw [if_neg c5] at H
      exact absurd H (by simp)
    ·rw [if_neg c4] at H
     exact absurd H (by simp)
   ·rw [if_neg c3] at H
    have c3b0 : decide (x10_1 < (l0.length : Int)) = false := decide_eq_false c3
    clear c3
    replace H := Option.bind_eq_some_iff.mp H
    obtain ⟨t222, A140, H⟩ := H
    replace H : (if t222 = true then (impl_ValidItems.l1 k1 l0 l0 (l0.length : Int) 0 x217000_1) else (some false)) = some r := H
    have A14 := Aside0.mk A140
    clear A140
    by_cases c15 : t222 = true
    ·subst c15
     have H1 : (impl_ValidItems.l1 k1 l0 l0 (l0.length : Int) 0 x217000_1) = some r := by rw [if_pos rfl] at H; exact H
     clear H
     have H := H1
     clear H1
     have H' := Aside0.mk H
     clear H
     have hcz16_0 : wr.cell? ⟨gb216, 0, none⟩ = some (u217000) := (blk_cell BK216.out 0).trans rfl
     have hfz16_0 := blk_frozen BK216.out 0
     obtain ⟨Ao17, co17, eo17⟩ := Kd.R_slice HO_217000.out
     subst eo17
     go_wp2_with (first | ((with_reducible refine gate_callee (f := 50) rfl ?_); refine goesL_ (some 21) rfl rfl Tryd.func50 (by kernel_rfl) rfl #[.slice Ao17 x217000_1.length co17, .int .i64 16] rfl (by (try simp only [List.map_toArray, List.map_cons, List.map_nil]); first | done | rfl | (simp only [List.length_drop, List.length_take]; rfl)) ?_; (with_reducible refine (impl_areNames.calls k1 _ _ x217000_1 16 true _ ?side1 ?side2 A14.out).mono ?_); (case side1 => repeat (first | exact (Kd.R_reads' HO_217000.out).2.2 | (with_reducible refine Kd.C_alloc ?_ _) | (with_reducible refine Kd.C_drewN ?_ _) | (with_reducible refine Kd.C_drew ?_))); (case side2 => exact (Kd.R_reads' HO_217000.out).2.1); rintro e w18 ⟨rfl, hb⟩; refine ⟨_, rfl, ?_⟩; have n0_ := Aside0.mk (Kd.R_below (by (with_reducible repeat (first | apply Kd.R_alloc | apply Kd.R_drewN | apply Kd.R_drew)); exact HO_217000.out) hb); have n1_ := Aside0.mk (blk_below (g := gb216) (o := .cells #[.slice Ao17 x217000_1.length co17] 32 (0, 0)) (by (with_reducible repeat (first | refine blk_drewN ?_ _ | refine blk_drew ?_ | refine blk_alloc ?_ _)); exact BK216.out) hb); have n2_ := Aside0.mk (below_step (by repeat (first | (with_reducible first | exact HB.out | apply below_alloc | apply pw_below_drewN | apply below_drew1 | refine below_set ?_ GE216.out) | exact HB.out)) hb); clear HO_217000; clear BK216; clear HB; have HO_217000 := n0_; have BK216 := n1_; have HB := n2_; clear n0_ n1_ n2_; (try clear hb); (try clear hb2); (try clear hk); (try clear hi)))
     go_loopg [25] k1 (fun kq v25 w' => ∃ (x25_2 : Int), v25 = .int .i64 x25_2 ∧ Aside0 (impl_ValidItems.l1 kq l0 l0 (l0.length : Int) x25_2 x217000_1 = some r) ∧ Aside0 (kq ≤ k1) ∧ Aside0 (Kd.R Kd.string 9 w' w.heap.size (fun _ => True) (.slice Ao17 x217000_1.length co17) x217000_1) ∧ Aside0 (w'.heap[gb216]? = some (.cells #[(.slice Ao17 x217000_1.length co17)] 32 (0, 0))) ∧ Aside0 (Below w.heap.size w w'))
     case atStart => exact ⟨(0), (by first | rfl | (simp; done) | (simp [*]; done)), H', ⟨Nat.le_refl _⟩, ⟨by (with_reducible repeat (first | apply Kd.R_alloc | apply Kd.R_drewN | apply Kd.R_drew)); exact HO_217000.out⟩, ⟨by (with_reducible repeat (first | refine blk_drewN ?_ _ | refine blk_drew ?_ | refine blk_alloc ?_ _)); exact BK216.out⟩, ⟨by repeat (first | (with_reducible first | exact HB.out | apply below_alloc | apply pw_below_drewN | apply below_drew1 | refine below_set ?_ GE216.out) | exact HB.out)⟩⟩
     case round =>
      clear H'
      try clear c1
      try clear c2
      try clear p2
      try clear q2
      try clear hx2
      try clear c3
      try clear c3b0
      try clear c4
      try clear c4b0
      try clear c5
      try clear c5b0
      try clear c6
      try clear p6
      try clear c8
      try clear c15
      try clear hcz10_0
      try clear hcz13_0
      try clear hcz16_0
      try clear hcz9_0
      try clear hcz9_1
      try clear hcz9_2
      try clear hcz9_3
      try clear hfz10_0
      try clear hfz13_0
      try clear hfz16_0
      try clear hfz9_0
      try clear hfz9_1
      try clear hfz9_2
      try clear hfz9_3
      try clear hx217_0
      try clear hx217_1
      try clear hx217_2
      try clear hx217_3
      try clear p2
      try clear p217
      try clear q217
      obtain ⟨x25_2, rfl, HA, HK2, HO_217000, BK216, HB⟩ := hrel
      cases gk with
      | zero => exact absurd HA.out (by simp [impl_ValidItems.l1])
      | succ k2 =>
       have H := HA.out
       clear HA
       simp only [impl_ValidItems.l1] at H
       by_cases c19 : x25_2 < (l0.length : Int)
       ·rw [if_pos c19] at H
        have c19b0 : decide (x25_2 < (l0.length : Int)) = true := decide_eq_true c19
        clear c19
        by_cases c20 : 0 ≤ x25_2
        ·rw [if_pos c20] at H
         have c20b0 : decide (0 ≤ x25_2) = true := decide_eq_true c20
         clear c20
         by_cases c21 : x25_2 < (l0.length : Int)
         ·rw [if_pos c21] at H
          have c21b0 : decide (x25_2 < (l0.length : Int)) = true := decide_eq_true c21
          clear c21
          have HC22 := Aside0.mk H
          clear H
          have p226 : 0 ≤ (x25_2 : Int) := of_decide_eq_true (by first | (with_reducible assumption) | assumption)
          have q226 : x25_2 < (l0.length : Int) := of_decide_eq_true (by first | (with_reducible assumption) | assumption)
          obtain ⟨ad226, A226_1, c226_1, e226, hx226_0, hx226_1, hx226_2, hx226_3, hl226_1, hi226_1⟩ := at_T49 HR0.out x25_2 p226 q226
          cases e226
          have ho226_1 := Aside0.mk hx226_1
          replace hx226_0 := (HB.out.cell (World.block_lt_of_cell? w _ hx226_0)).trans hx226_0
          replace hx226_1 := (HB.out.cell (World.block_lt_of_cell? w _ hx226_1)).trans hx226_1
          replace hx226_2 := (HB.out.cell (World.block_lt_of_cell? w _ hx226_2)).trans hx226_2
          replace hx226_3 := (HB.out.cell (World.block_lt_of_cell? w _ hx226_3)).trans hx226_3
          have HR226_1 := Aside0.mk hi226_1
          have HC226_1 := Aside0.mk hl226_1
          clear hi226_1 hl226_1
          replace p226 := eq_true p226
          replace q226 := eq_true q226
          go_upto_region 12 with (first | ((with_reducible refine gate_dst (N := 7) rfl ?_); refine box_event ?hg (N := 7) ?hd (cs := #[.string (⟨#[]⟩ : ByteArray), .slice none 0 0, .int .i64 0, .int .i64 0]) (t := 49) ?hr ?_; (case hd => rfl); (case hg => rfl); (case hr => first | (go_simp; done) | (go_simp; rfl)); intro gb227 hg w23 hbox hb; have n0_ := Aside0.mk (Kd.R_below (by (with_reducible repeat (first | apply Kd.R_alloc | apply Kd.R_drewN | apply Kd.R_drew)); exact HO_217000.out) hb); have n1_ := Aside0.mk (blk_below (g := gb216) (o := .cells #[.slice Ao17 x217000_1.length co17] 32 (0, 0)) (by (with_reducible repeat (first | refine blk_drewN ?_ _ | refine blk_drew ?_ | refine blk_alloc ?_ _)); exact BK216.out) hb); have n2_ := Aside0.mk (below_step (by repeat (first | (with_reducible first | exact HB.out | apply below_alloc | apply pw_below_drewN | apply below_drew1 | refine below_set ?_ GE216.out) | exact HB.out)) hb); have n3_ := Aside0.mk (hbox); have n4_ := Aside0.mk ((by rw [hg]; exact (below_size (by repeat (first | (with_reducible first | exact HB.out | apply below_alloc | apply pw_below_drewN | apply below_drew1 | refine below_set ?_ GE216.out) | exact HB.out))) : w.heap.size ≤ gb227)); have n5_ := Aside0.mk ((by rw [hg]; exact (below_size (by repeat (first | (with_reducible first | exact HB.out | apply below_alloc | apply pw_below_drewN | apply below_drew1 | refine below_set ?_ GE216.out) | exact HB.out))) : w.heap.size ≤ gb227)); have n6_ := Aside0.mk ((by rw [hg]; exact Nat.ne_of_lt (blk_lt (g := gb216) (o := .cells #[.slice Ao17 x217000_1.length co17] 32 (0, 0)) (by (with_reducible repeat (first | refine blk_drewN ?_ _ | refine blk_drew ?_ | refine blk_alloc ?_ _)); exact BK216.out)) : gb216 ≠ gb227)); have n7_ := Aside0.mk ((by rw [hg]; exact Nat.ne_of_gt (blk_lt (g := gb216) (o := .cells #[.slice Ao17 x217000_1.length co17] 32 (0, 0)) (by (with_reducible repeat (first | refine blk_drewN ?_ _ | refine blk_drew ?_ | refine blk_alloc ?_ _)); exact BK216.out)) : gb227 ≠ gb216)); clear HO_217000; clear BK216; clear HB; have HO_217000 := n0_; have BK216 := n1_; have HB := n2_; have BK227 := n3_; have GW227 := n4_; have GE227 := n5_; have NB216_227 := n6_; have NB227_216 := n7_; clear n0_ n1_ n2_ n3_ n4_ n5_ n6_ n7_; clear hb hbox hg; have hnb24 := NB227_216.out; have hnc24 := NB216_227.out; have hcz25_0 : w23.cell? ⟨gb227, 0, none⟩ = some (.string (⟨#[]⟩ : ByteArray)) := (blk_cell BK227.out 0).trans rfl; have hcz25_1 : w23.cell? ⟨gb227, 1, none⟩ = some (.slice none 0 0) := (blk_cell BK227.out 1).trans rfl; have hcz25_2 : w23.cell? ⟨gb227, 2, none⟩ = some (.int .i64 0) := (blk_cell BK227.out 2).trans rfl; have hcz25_3 : w23.cell? ⟨gb227, 3, none⟩ = some (.int .i64 0) := (blk_cell BK227.out 3).trans rfl; have hfz25_0 := blk_frozen BK227.out 0; have hfz25_1 := blk_frozen BK227.out 1; have hfz25_2 := blk_frozen BK227.out 2; have hfz25_3 := blk_frozen BK227.out 3))
          (try simp only [Act.put, List.setIfInBounds_toArray, List.set_cons_zero, List.set_cons_succ])
          go_cut [44] (fun v44 wc => ∃ (kq : Nat) (x44_21 : Bool), v44 = .bool x44_21 ∧ Aside0 (impl_ValidItems.j2 kq l0 l0 (l0.length : Int) x25_2 x44_21 x217000_1 ((rd_T49 l0 x25_2).f0) ((rd_T49 l0 x25_2).f1) ((rd_T49 l0 x25_2).f2) ((rd_T49 l0 x25_2).f3) = some r) ∧ Aside0 (kq ≤ k2) ∧ Aside0 (Kd.R Kd.string 9 wc w.heap.size (fun _ => True) (.slice Ao17 x217000_1.length co17) x217000_1) ∧ Aside0 (wc.heap[gb216]? = some (.cells #[(.slice Ao17 x217000_1.length co17)] 32 (0, 0))) ∧ Aside0 (wc.heap[gb227]? = some (.cells #[.string ((rd_T49 l0 x25_2).f0), (.slice A226_1 ((rd_T49 l0 x25_2).f1).length c226_1), .int .i64 ((rd_T49 l0 x25_2).f2), .int .i64 ((rd_T49 l0 x25_2).f3)] 49 (0, 0))) ∧ Aside0 (Below w.heap.size w wc))
          case first =>
           have H := HC22.out
           clear HC22
           replace H := Option.bind_eq_some_iff.mp H
           obtain ⟨t228, A260, H⟩ := H
           replace H : (if t228 = true then ((impl_within.f ((rd_T49 l0 x25_2).f2) 0 1000000).bind fun t229 => (if t229 = true then ((impl_within.f ((rd_T49 l0 x25_2).f3) 0 1000).bind fun t230 => (impl_ValidItems.j2 k2 l0 l0 (l0.length : Int) x25_2 (!t230) x217000_1 ((rd_T49 l0 x25_2).f0) ((rd_T49 l0 x25_2).f1) ((rd_T49 l0 x25_2).f2) ((rd_T49 l0 x25_2).f3))) else (impl_ValidItems.j2 k2 l0 l0 (l0.length : Int) x25_2 true x217000_1 ((rd_T49 l0 x25_2).f0) ((rd_T49 l0 x25_2).f1) ((rd_T49 l0 x25_2).f2) ((rd_T49 l0 x25_2).f3)))) else (impl_ValidItems.j2 k2 l0 l0 (l0.length : Int) x25_2 true x217000_1 ((rd_T49 l0 x25_2).f0) ((rd_T49 l0 x25_2).f1) ((rd_T49 l0 x25_2).f2) ((rd_T49 l0 x25_2).f3))) = some r := H
           have A26 := Aside0.mk A260
           clear A260
           by_cases c27 : t228 = true
           ·subst c27
            have H1 : ((impl_within.f ((rd_T49 l0 x25_2).f2) 0 1000000).bind fun t229 => (if t229 = true then ((impl_within.f ((rd_T49 l0 x25_2).f3) 0 1000).bind fun t230 => (impl_ValidItems.j2 k2 l0 l0 (l0.length : Int) x25_2 (!t230) x217000_1 ((rd_T49 l0 x25_2).f0) ((rd_T49 l0 x25_2).f1) ((rd_T49 l0 x25_2).f2) ((rd_T49 l0 x25_2).f3))) else (impl_ValidItems.j2 k2 l0 l0 (l0.length : Int) x25_2 true x217000_1 ((rd_T49 l0 x25_2).f0) ((rd_T49 l0 x25_2).f1) ((rd_T49 l0 x25_2).f2) ((rd_T49 l0 x25_2).f3)))) = some r := by rw [if_pos rfl] at H; exact H
            clear H
            have H := H1
            clear H1
            replace H := Option.bind_eq_some_iff.mp H
            obtain ⟨t229, A280, H⟩ := H
            replace H : (if t229 = true then ((impl_within.f ((rd_T49 l0 x25_2).f3) 0 1000).bind fun t230 => (impl_ValidItems.j2 k2 l0 l0 (l0.length : Int) x25_2 (!t230) x217000_1 ((rd_T49 l0 x25_2).f0) ((rd_T49 l0 x25_2).f1) ((rd_T49 l0 x25_2).f2) ((rd_T49 l0 x25_2).f3))) else (impl_ValidItems.j2 k2 l0 l0 (l0.length : Int) x25_2 true x217000_1 ((rd_T49 l0 x25_2).f0) ((rd_T49 l0 x25_2).f1) ((rd_T49 l0 x25_2).f2) ((rd_T49 l0 x25_2).f3))) = some r := H
            have A28 := Aside0.mk A280
            clear A280
            by_cases c29 : t229 = true
            ·subst c29
             have H1 : ((impl_within.f ((rd_T49 l0 x25_2).f3) 0 1000).bind fun t230 => (impl_ValidItems.j2 k2 l0 l0 (l0.length : Int) x25_2 (!t230) x217000_1 ((rd_T49 l0 x25_2).f0) ((rd_T49 l0 x25_2).f1) ((rd_T49 l0 x25_2).f2) ((rd_T49 l0 x25_2).f3))) = some r := by rw [if_pos rfl] at H; exact H
             clear H
             have H := H1
             clear H1
             replace H := Option.bind_eq_some_iff.mp H
             obtain ⟨t230, A300, H⟩ := H
             replace H : (impl_ValidItems.j2 k2 l0 l0 (l0.length : Int) x25_2 (!t230) x217000_1 ((rd_T49 l0 x25_2).f0) ((rd_T49 l0 x25_2).f1) ((rd_T49 l0 x25_2).f2) ((rd_T49 l0 x25_2).f3)) = some r := H
             have A30 := Aside0.mk A300
             clear A300
             have H' := Aside0.mk H
             clear H
             have hnb31 := NB227_216.out
             have hnc31 := NB216_227.out
             have hcz32_0 : w23.cell? ⟨gb227, 0, none⟩ = some (.string (⟨#[]⟩ : ByteArray)) := (blk_cell BK227.out 0).trans rfl
             have hcz32_1 : w23.cell? ⟨gb227, 1, none⟩ = some (.slice none 0 0) := (blk_cell BK227.out 1).trans rfl
             have hcz32_2 : w23.cell? ⟨gb227, 2, none⟩ = some (.int .i64 0) := (blk_cell BK227.out 2).trans rfl
             have hcz32_3 : w23.cell? ⟨gb227, 3, none⟩ = some (.int .i64 0) := (blk_cell BK227.out 3).trans rfl
             have hfz32_0 := blk_frozen BK227.out 0
             have hfz32_1 := blk_frozen BK227.out 1
             have hfz32_2 := blk_frozen BK227.out 2
             have hfz32_3 := blk_frozen BK227.out 3
             go_wp2_with (first | ((with_reducible refine gate_callee (f := 50) rfl ?_); refine goesL_ (some 31) rfl rfl Tryd.func50 (by kernel_rfl) rfl #[.slice A226_1 ((rd_T49 l0 x25_2).f1).length c226_1, .int .i64 16] rfl (by (try simp only [List.map_toArray, List.map_cons, List.map_nil]); first | done | rfl | (simp only [List.length_drop, List.length_take]; rfl)) ?_; (with_reducible refine (impl_areNames.calls k2 _ _ ((rd_T49 l0 x25_2).f1) 16 true _ ?side1 ?side2 A26.out).mono ?_); (case side1 => exact Kd.C_below HR226_1.out (by repeat (first | (with_reducible first | exact HB.out | apply below_alloc | apply pw_below_drewN | apply below_drew1 | refine below_set ?_ GE216.out | refine below_set ?_ GE227.out) | exact HB.out))); (case side2 => exact HC226_1.out); rintro e w33 ⟨rfl, hb⟩; refine ⟨_, rfl, ?_⟩; have n0_ := Aside0.mk (Kd.R_below (by (with_reducible repeat (first | apply Kd.R_alloc | apply Kd.R_drewN | apply Kd.R_drew)); exact (Kd.R_mono (Kd.R_far (p := ⟨gb227, 3, none⟩) (Kd.R_far (p := ⟨gb227, 2, none⟩) (Kd.R_far (p := ⟨gb227, 1, none⟩) (Kd.R_far (p := ⟨gb227, 0, none⟩) (Kd.R_types HO_217000.out BK227.out (by decide)) (fun _ hk => hk.2) (.string ((rd_T49 l0 x25_2).f0))) (fun _ hk => hk.2) (.slice A226_1 ((rd_T49 l0 x25_2).f1).length c226_1)) (fun _ hk => hk.2) (.int .i64 ((rd_T49 l0 x25_2).f2))) (fun _ hk => hk.2) (.int .i64 ((rd_T49 l0 x25_2).f3))) (fun _ h_ => h_.1))) hb); have n1_ := Aside0.mk (blk_below (g := gb216) (o := .cells #[.slice Ao17 x217000_1.length co17] 32 (0, 0)) (by (with_reducible repeat (first | refine blk_drewN ?_ _ | refine blk_drew ?_ | refine blk_alloc ?_ _)); refine blk_far ?_ NB216_227.out _; (with_reducible repeat (first | refine blk_drewN ?_ _ | refine blk_drew ?_ | refine blk_alloc ?_ _)); refine blk_far ?_ NB216_227.out _; (with_reducible repeat (first | refine blk_drewN ?_ _ | refine blk_drew ?_ | refine blk_alloc ?_ _)); refine blk_far ?_ NB216_227.out _; (with_reducible repeat (first | refine blk_drewN ?_ _ | refine blk_drew ?_ | refine blk_alloc ?_ _)); refine blk_far ?_ NB216_227.out _; (with_reducible repeat (first | refine blk_drewN ?_ _ | refine blk_drew ?_ | refine blk_alloc ?_ _)); exact BK216.out) hb); have n2_ := Aside0.mk (blk_below (g := gb227) (o := .cells #[.string ((rd_T49 l0 x25_2).f0), .slice A226_1 ((rd_T49 l0 x25_2).f1).length c226_1, .int .i64 ((rd_T49 l0 x25_2).f2), .int .i64 ((rd_T49 l0 x25_2).f3)] 49 (0, 0)) (by (with_reducible repeat (first | refine blk_drewN ?_ _ | refine blk_drew ?_ | refine blk_alloc ?_ _)); refine blk_put (cs := #[.string ((rd_T49 l0 x25_2).f0), .slice A226_1 ((rd_T49 l0 x25_2).f1).length c226_1, .int .i64 ((rd_T49 l0 x25_2).f2), .int .i64 0]) ?_ 3 _ rfl; (with_reducible repeat (first | refine blk_drewN ?_ _ | refine blk_drew ?_ | refine blk_alloc ?_ _)); refine blk_put (cs := #[.string ((rd_T49 l0 x25_2).f0), .slice A226_1 ((rd_T49 l0 x25_2).f1).length c226_1, .int .i64 0, .int .i64 0]) ?_ 2 _ rfl; (with_reducible repeat (first | refine blk_drewN ?_ _ | refine blk_drew ?_ | refine blk_alloc ?_ _)); refine blk_put (cs := #[.string ((rd_T49 l0 x25_2).f0), .slice none 0 0, .int .i64 0, .int .i64 0]) ?_ 1 _ rfl; (with_reducible repeat (first | refine blk_drewN ?_ _ | refine blk_drew ?_ | refine blk_alloc ?_ _)); refine blk_put (cs := #[.string (⟨#[]⟩ : ByteArray), .slice none 0 0, .int .i64 0, .int .i64 0]) ?_ 0 _ rfl; (with_reducible repeat (first | refine blk_drewN ?_ _ | refine blk_drew ?_ | refine blk_alloc ?_ _)); exact BK227.out) hb); have n3_ := Aside0.mk (below_step (by repeat (first | (with_reducible first | exact HB.out | apply below_alloc | apply pw_below_drewN | apply below_drew1 | refine below_set ?_ GE216.out | refine below_set ?_ GE227.out) | exact HB.out)) hb); clear HO_217000; clear BK216; clear BK227; clear HB; have HO_217000 := n0_; have BK216 := n1_; have BK227 := n2_; have HB := n3_; clear n0_ n1_ n2_ n3_; (try clear hb); (try clear hb2); (try clear hk); (try clear hi); have hcz34_0 : w33.cell? ⟨gb227, 0, none⟩ = some (.string ((rd_T49 l0 x25_2).f0)) := (blk_cell BK227.out 0).trans rfl; have hcz34_1 : w33.cell? ⟨gb227, 1, none⟩ = some (.slice A226_1 ((rd_T49 l0 x25_2).f1).length c226_1) := (blk_cell BK227.out 1).trans rfl; have hcz34_2 : w33.cell? ⟨gb227, 2, none⟩ = some (.int .i64 ((rd_T49 l0 x25_2).f2)) := (blk_cell BK227.out 2).trans rfl; have hcz34_3 : w33.cell? ⟨gb227, 3, none⟩ = some (.int .i64 ((rd_T49 l0 x25_2).f3)) := (blk_cell BK227.out 3).trans rfl; have hfz34_0 := blk_frozen BK227.out 0; have hfz34_1 := blk_frozen BK227.out 1; have hfz34_2 := blk_frozen BK227.out 2; have hfz34_3 := blk_frozen BK227.out 3) | (go_at_call 51; (with_reducible refine (impl_within.calls ((rd_T49 l0 x25_2).f2) 0 1000000 true _ A28.out).mono ?_); rintro e w' ⟨rfl, ⟨nd, rfl⟩⟩) | (go_at_call 51; (with_reducible refine (impl_within.calls ((rd_T49 l0 x25_2).f3) 0 1000 t230 _ A30.out).mono ?_); rintro e w' ⟨rfl, ⟨nd, rfl⟩⟩))
             go_meet
             case rel => exact ⟨_, (!t230), (by first | rfl | (simp; done) | (simp [*]; done)), H', ⟨by have := HK1.out; have := HK2.out; first | omega | exact Nat.le_refl _⟩, ⟨by (with_reducible repeat (first | apply Kd.R_alloc | apply Kd.R_drewN | apply Kd.R_drew)); exact HO_217000.out⟩, ⟨by (with_reducible repeat (first | refine blk_drewN ?_ _ | refine blk_drew ?_ | refine blk_alloc ?_ _)); exact BK216.out⟩, ⟨by (with_reducible repeat (first | refine blk_drewN ?_ _ | refine blk_drew ?_ | refine blk_alloc ?_ _)); exact BK227.out⟩, ⟨by repeat (first | (with_reducible first | exact HB.out | apply below_alloc | apply pw_below_drewN | apply below_drew1 | refine below_set ?_ GE216.out | refine below_set ?_ GE227.out) | exact HB.out)⟩⟩
            ·replace c29 := Bool.eq_false_iff.mpr c29
             subst c29
             have H1 : (impl_ValidItems.j2 k2 l0 l0 (l0.length : Int) x25_2 true x217000_1 ((rd_T49 l0 x25_2).f0) ((rd_T49 l0 x25_2).f1) ((rd_T49 l0 x25_2).f2) ((rd_T49 l0 x25_2).f3)) = some r := by rw [if_neg (show ¬ (false = true) by decide)] at H; exact H
             clear H
             have H := H1
             clear H1
             have H' := Aside0.mk H
             clear H
             have hnb35 := NB227_216.out
             have hnc35 := NB216_227.out
             have hcz36_0 : w23.cell? ⟨gb227, 0, none⟩ = some (.string (⟨#[]⟩ : ByteArray)) := (blk_cell BK227.out 0).trans rfl
             have hcz36_1 : w23.cell? ⟨gb227, 1, none⟩ = some (.slice none 0 0) := (blk_cell BK227.out 1).trans rfl
             have hcz36_2 : w23.cell? ⟨gb227, 2, none⟩ = some (.int .i64 0) := (blk_cell BK227.out 2).trans rfl
             have hcz36_3 : w23.cell? ⟨gb227, 3, none⟩ = some (.int .i64 0) := (blk_cell BK227.out 3).trans rfl
             have hfz36_0 := blk_frozen BK227.out 0
             have hfz36_1 := blk_frozen BK227.out 1
             have hfz36_2 := blk_frozen BK227.out 2
             have hfz36_3 := blk_frozen BK227.out 3
             go_wp2_with (first | ((with_reducible refine gate_callee (f := 50) rfl ?_); refine goesL_ (some 31) rfl rfl Tryd.func50 (by kernel_rfl) rfl #[.slice A226_1 ((rd_T49 l0 x25_2).f1).length c226_1, .int .i64 16] rfl (by (try simp only [List.map_toArray, List.map_cons, List.map_nil]); first | done | rfl | (simp only [List.length_drop, List.length_take]; rfl)) ?_; (with_reducible refine (impl_areNames.calls k2 _ _ ((rd_T49 l0 x25_2).f1) 16 true _ ?side1 ?side2 A26.out).mono ?_); (case side1 => exact Kd.C_below HR226_1.out (by repeat (first | (with_reducible first | exact HB.out | apply below_alloc | apply pw_below_drewN | apply below_drew1 | refine below_set ?_ GE216.out | refine below_set ?_ GE227.out) | exact HB.out))); (case side2 => exact HC226_1.out); rintro e w37 ⟨rfl, hb⟩; refine ⟨_, rfl, ?_⟩; have n0_ := Aside0.mk (Kd.R_below (by (with_reducible repeat (first | apply Kd.R_alloc | apply Kd.R_drewN | apply Kd.R_drew)); exact (Kd.R_mono (Kd.R_far (p := ⟨gb227, 3, none⟩) (Kd.R_far (p := ⟨gb227, 2, none⟩) (Kd.R_far (p := ⟨gb227, 1, none⟩) (Kd.R_far (p := ⟨gb227, 0, none⟩) (Kd.R_types HO_217000.out BK227.out (by decide)) (fun _ hk => hk.2) (.string ((rd_T49 l0 x25_2).f0))) (fun _ hk => hk.2) (.slice A226_1 ((rd_T49 l0 x25_2).f1).length c226_1)) (fun _ hk => hk.2) (.int .i64 ((rd_T49 l0 x25_2).f2))) (fun _ hk => hk.2) (.int .i64 ((rd_T49 l0 x25_2).f3))) (fun _ h_ => h_.1))) hb); have n1_ := Aside0.mk (blk_below (g := gb216) (o := .cells #[.slice Ao17 x217000_1.length co17] 32 (0, 0)) (by (with_reducible repeat (first | refine blk_drewN ?_ _ | refine blk_drew ?_ | refine blk_alloc ?_ _)); refine blk_far ?_ NB216_227.out _; (with_reducible repeat (first | refine blk_drewN ?_ _ | refine blk_drew ?_ | refine blk_alloc ?_ _)); refine blk_far ?_ NB216_227.out _; (with_reducible repeat (first | refine blk_drewN ?_ _ | refine blk_drew ?_ | refine blk_alloc ?_ _)); refine blk_far ?_ NB216_227.out _; (with_reducible repeat (first | refine blk_drewN ?_ _ | refine blk_drew ?_ | refine blk_alloc ?_ _)); refine blk_far ?_ NB216_227.out _; (with_reducible repeat (first | refine blk_drewN ?_ _ | refine blk_drew ?_ | refine blk_alloc ?_ _)); exact BK216.out) hb); have n2_ := Aside0.mk (blk_below (g := gb227) (o := .cells #[.string ((rd_T49 l0 x25_2).f0), .slice A226_1 ((rd_T49 l0 x25_2).f1).length c226_1, .int .i64 ((rd_T49 l0 x25_2).f2), .int .i64 ((rd_T49 l0 x25_2).f3)] 49 (0, 0)) (by (with_reducible repeat (first | refine blk_drewN ?_ _ | refine blk_drew ?_ | refine blk_alloc ?_ _)); refine blk_put (cs := #[.string ((rd_T49 l0 x25_2).f0), .slice A226_1 ((rd_T49 l0 x25_2).f1).length c226_1, .int .i64 ((rd_T49 l0 x25_2).f2), .int .i64 0]) ?_ 3 _ rfl; (with_reducible repeat (first | refine blk_drewN ?_ _ | refine blk_drew ?_ | refine blk_alloc ?_ _)); refine blk_put (cs := #[.string ((rd_T49 l0 x25_2).f0), .slice A226_1 ((rd_T49 l0 x25_2).f1).length c226_1, .int .i64 0, .int .i64 0]) ?_ 2 _ rfl; (with_reducible repeat (first | refine blk_drewN ?_ _ | refine blk_drew ?_ | refine blk_alloc ?_ _)); refine blk_put (cs := #[.string ((rd_T49 l0 x25_2).f0), .slice none 0 0, .int .i64 0, .int .i64 0]) ?_ 1 _ rfl; (with_reducible repeat (first | refine blk_drewN ?_ _ | refine blk_drew ?_ | refine blk_alloc ?_ _)); refine blk_put (cs := #[.string (⟨#[]⟩ : ByteArray), .slice none 0 0, .int .i64 0, .int .i64 0]) ?_ 0 _ rfl; (with_reducible repeat (first | refine blk_drewN ?_ _ | refine blk_drew ?_ | refine blk_alloc ?_ _)); exact BK227.out) hb); have n3_ := Aside0.mk (below_step (by repeat (first | (with_reducible first | exact HB.out | apply below_alloc | apply pw_below_drewN | apply below_drew1 | refine below_set ?_ GE216.out | refine below_set ?_ GE227.out) | exact HB.out)) hb); clear HO_217000; clear BK216; clear BK227; clear HB; have HO_217000 := n0_; have BK216 := n1_; have BK227 := n2_; have HB := n3_; clear n0_ n1_ n2_ n3_; (try clear hb); (try clear hb2); (try clear hk); (try clear hi); have hcz38_0 : w37.cell? ⟨gb227, 0, none⟩ = some (.string ((rd_T49 l0 x25_2).f0)) := (blk_cell BK227.out 0).trans rfl; have hcz38_1 : w37.cell? ⟨gb227, 1, none⟩ = some (.slice A226_1 ((rd_T49 l0 x25_2).f1).length c226_1) := (blk_cell BK227.out 1).trans rfl; have hcz38_2 : w37.cell? ⟨gb227, 2, none⟩ = some (.int .i64 ((rd_T49 l0 x25_2).f2)) := (blk_cell BK227.out 2).trans rfl; have hcz38_3 : w37.cell? ⟨gb227, 3, none⟩ = some (.int .i64 ((rd_T49 l0 x25_2).f3)) := (blk_cell BK227.out 3).trans rfl; have hfz38_0 := blk_frozen BK227.out 0; have hfz38_1 := blk_frozen BK227.out 1; have hfz38_2 := blk_frozen BK227.out 2; have hfz38_3 := blk_frozen BK227.out 3) | (go_at_call 51; (with_reducible refine (impl_within.calls ((rd_T49 l0 x25_2).f2) 0 1000000 false _ A28.out).mono ?_); rintro e w' ⟨rfl, ⟨nd, rfl⟩⟩))
             go_meet
             case rel => exact ⟨_, (true), (by first | rfl | (simp; done) | (simp [*]; done)), H', ⟨by have := HK1.out; have := HK2.out; first | omega | exact Nat.le_refl _⟩, ⟨by (with_reducible repeat (first | apply Kd.R_alloc | apply Kd.R_drewN | apply Kd.R_drew)); exact HO_217000.out⟩, ⟨by (with_reducible repeat (first | refine blk_drewN ?_ _ | refine blk_drew ?_ | refine blk_alloc ?_ _)); exact BK216.out⟩, ⟨by (with_reducible repeat (first | refine blk_drewN ?_ _ | refine blk_drew ?_ | refine blk_alloc ?_ _)); exact BK227.out⟩, ⟨by repeat (first | (with_reducible first | exact HB.out | apply below_alloc | apply pw_below_drewN | apply below_drew1 | refine below_set ?_ GE216.out | refine below_set ?_ GE227.out) | exact HB.out)⟩⟩
           ·replace c27 := Bool.eq_false_iff.mpr c27
            subst c27
            have H1 : (impl_ValidItems.j2 k2 l0 l0 (l0.length : Int) x25_2 true x217000_1 ((rd_T49 l0 x25_2).f0) ((rd_T49 l0 x25_2).f1) ((rd_T49 l0 x25_2).f2) ((rd_T49 l0 x25_2).f3)) = some r := by rw [if_neg (show ¬ (false = true) by decide)] at H; exact H
            clear H
            have H := H1
            clear H1
            have H' := Aside0.mk H
            clear H
            have hnb39 := NB227_216.out
            have hnc39 := NB216_227.out
            have hcz40_0 : w23.cell? ⟨gb227, 0, none⟩ = some (.string (⟨#[]⟩ : ByteArray)) := (blk_cell BK227.out 0).trans rfl
            have hcz40_1 : w23.cell? ⟨gb227, 1, none⟩ = some (.slice none 0 0) := (blk_cell BK227.out 1).trans rfl
            have hcz40_2 : w23.cell? ⟨gb227, 2, none⟩ = some (.int .i64 0) := (blk_cell BK227.out 2).trans rfl
            have hcz40_3 : w23.cell? ⟨gb227, 3, none⟩ = some (.int .i64 0) := (blk_cell BK227.out 3).trans rfl
            have hfz40_0 := blk_frozen BK227.out 0
            have hfz40_1 := blk_frozen BK227.out 1
            have hfz40_2 := blk_frozen BK227.out 2
            have hfz40_3 := blk_frozen BK227.out 3
            go_wp2_with (first | ((with_reducible refine gate_callee (f := 50) rfl ?_); refine goesL_ (some 31) rfl rfl Tryd.func50 (by kernel_rfl) rfl #[.slice A226_1 ((rd_T49 l0 x25_2).f1).length c226_1, .int .i64 16] rfl (by (try simp only [List.map_toArray, List.map_cons, List.map_nil]); first | done | rfl | (simp only [List.length_drop, List.length_take]; rfl)) ?_; (with_reducible refine (impl_areNames.calls k2 _ _ ((rd_T49 l0 x25_2).f1) 16 false _ ?side1 ?side2 A26.out).mono ?_); (case side1 => exact Kd.C_below HR226_1.out (by repeat (first | (with_reducible first | exact HB.out | apply below_alloc | apply pw_below_drewN | apply below_drew1 | refine below_set ?_ GE216.out | refine below_set ?_ GE227.out) | exact HB.out))); (case side2 => exact HC226_1.out); rintro e w41 ⟨rfl, hb⟩; refine ⟨_, rfl, ?_⟩; have n0_ := Aside0.mk (Kd.R_below (by (with_reducible repeat (first | apply Kd.R_alloc | apply Kd.R_drewN | apply Kd.R_drew)); exact (Kd.R_mono (Kd.R_far (p := ⟨gb227, 3, none⟩) (Kd.R_far (p := ⟨gb227, 2, none⟩) (Kd.R_far (p := ⟨gb227, 1, none⟩) (Kd.R_far (p := ⟨gb227, 0, none⟩) (Kd.R_types HO_217000.out BK227.out (by decide)) (fun _ hk => hk.2) (.string ((rd_T49 l0 x25_2).f0))) (fun _ hk => hk.2) (.slice A226_1 ((rd_T49 l0 x25_2).f1).length c226_1)) (fun _ hk => hk.2) (.int .i64 ((rd_T49 l0 x25_2).f2))) (fun _ hk => hk.2) (.int .i64 ((rd_T49 l0 x25_2).f3))) (fun _ h_ => h_.1))) hb); have n1_ := Aside0.mk (blk_below (g := gb216) (o := .cells #[.slice Ao17 x217000_1.length co17] 32 (0, 0)) (by (with_reducible repeat (first | refine blk_drewN ?_ _ | refine blk_drew ?_ | refine blk_alloc ?_ _)); refine blk_far ?_ NB216_227.out _; (with_reducible repeat (first | refine blk_drewN ?_ _ | refine blk_drew ?_ | refine blk_alloc ?_ _)); refine blk_far ?_ NB216_227.out _; (with_reducible repeat (first | refine blk_drewN ?_ _ | refine blk_drew ?_ | refine blk_alloc ?_ _)); refine blk_far ?_ NB216_227.out _; (with_reducible repeat (first | refine blk_drewN ?_ _ | refine blk_drew ?_ | refine blk_alloc ?_ _)); refine blk_far ?_ NB216_227.out _; (with_reducible repeat (first | refine blk_drewN ?_ _ | refine blk_drew ?_ | refine blk_alloc ?_ _)); exact BK216.out) hb); have n2_ := Aside0.mk (blk_below (g := gb227) (o := .cells #[.string ((rd_T49 l0 x25_2).f0), .slice A226_1 ((rd_T49 l0 x25_2).f1).length c226_1, .int .i64 ((rd_T49 l0 x25_2).f2), .int .i64 ((rd_T49 l0 x25_2).f3)] 49 (0, 0)) (by (with_reducible repeat (first | refine blk_drewN ?_ _ | refine blk_drew ?_ | refine blk_alloc ?_ _)); refine blk_put (cs := #[.string ((rd_T49 l0 x25_2).f0), .slice A226_1 ((rd_T49 l0 x25_2).f1).length c226_1, .int .i64 ((rd_T49 l0 x25_2).f2), .int .i64 0]) ?_ 3 _ rfl; (with_reducible repeat (first | refine blk_drewN ?_ _ | refine blk_drew ?_ | refine blk_alloc ?_ _)); refine blk_put (cs := #[.string ((rd_T49 l0 x25_2).f0), .slice A226_1 ((rd_T49 l0 x25_2).f1).length c226_1, .int .i64 0, .int .i64 0]) ?_ 2 _ rfl; (with_reducible repeat (first | refine blk_drewN ?_ _ | refine blk_drew ?_ | refine blk_alloc ?_ _)); refine blk_put (cs := #[.string ((rd_T49 l0 x25_2).f0), .slice none 0 0, .int .i64 0, .int .i64 0]) ?_ 1 _ rfl; (with_reducible repeat (first | refine blk_drewN ?_ _ | refine blk_drew ?_ | refine blk_alloc ?_ _)); refine blk_put (cs := #[.string (⟨#[]⟩ : ByteArray), .slice none 0 0, .int .i64 0, .int .i64 0]) ?_ 0 _ rfl; (with_reducible repeat (first | refine blk_drewN ?_ _ | refine blk_drew ?_ | refine blk_alloc ?_ _)); exact BK227.out) hb); have n3_ := Aside0.mk (below_step (by repeat (first | (with_reducible first | exact HB.out | apply below_alloc | apply pw_below_drewN | apply below_drew1 | refine below_set ?_ GE216.out | refine below_set ?_ GE227.out) | exact HB.out)) hb); clear HO_217000; clear BK216; clear BK227; clear HB; have HO_217000 := n0_; have BK216 := n1_; have BK227 := n2_; have HB := n3_; clear n0_ n1_ n2_ n3_; (try clear hb); (try clear hb2); (try clear hk); (try clear hi)))
            go_meet
            case rel => exact ⟨_, (true), (by first | rfl | (simp; done) | (simp [*]; done)), H', ⟨by have := HK1.out; have := HK2.out; first | omega | exact Nat.le_refl _⟩, ⟨by (with_reducible repeat (first | apply Kd.R_alloc | apply Kd.R_drewN | apply Kd.R_drew)); exact HO_217000.out⟩, ⟨by (with_reducible repeat (first | refine blk_drewN ?_ _ | refine blk_drew ?_ | refine blk_alloc ?_ _)); exact BK216.out⟩, ⟨by (with_reducible repeat (first | refine blk_drewN ?_ _ | refine blk_drew ?_ | refine blk_alloc ?_ _)); exact BK227.out⟩, ⟨by repeat (first | (with_reducible first | exact HB.out | apply below_alloc | apply pw_below_drewN | apply below_drew1 | refine below_set ?_ GE216.out | refine below_set ?_ GE227.out) | exact HB.out)⟩⟩
          case rest =>
           clear HC22
           try clear c1
           try clear c2
           try clear p2
           try clear q2
           try clear hx2
           try clear c3
           try clear c3b0
           try clear c4
           try clear c4b0
           try clear c5
           try clear c5b0
           try clear c6
           try clear p6
           try clear c8
           try clear c15
           try clear c19
           try clear c19b0
           try clear c20
           try clear c20b0
           try clear c21
           try clear c21b0
           try clear p21
           try clear q21
           try clear hx21
           try clear c22
           try clear p22
           try clear q22
           try clear hx22
           try clear c24
           try clear c27
           try clear c29
           try clear c31
           try clear c35
           try clear c39
           try clear hcz10_0
           try clear hcz13_0
           try clear hcz16_0
           try clear hcz25_0
           try clear hcz25_1
           try clear hcz25_2
           try clear hcz25_3
           try clear hcz32_0
           try clear hcz32_1
           try clear hcz32_2
           try clear hcz32_3
           try clear hcz34_0
           try clear hcz34_1
           try clear hcz34_2
           try clear hcz34_3
           try clear hcz36_0
           try clear hcz36_1
           try clear hcz36_2
           try clear hcz36_3
           try clear hcz38_0
           try clear hcz38_1
           try clear hcz38_2
           try clear hcz38_3
           try clear hcz40_0
           try clear hcz40_1
           try clear hcz40_2
           try clear hcz40_3
           try clear hcz9_0
           try clear hcz9_1
           try clear hcz9_2
           try clear hcz9_3
           try clear hfz10_0
           try clear hfz13_0
           try clear hfz16_0
           try clear hfz25_0
           try clear hfz25_1
           try clear hfz25_2
           try clear hfz25_3
           try clear hfz32_0
           try clear hfz32_1
           try clear hfz32_2
           try clear hfz32_3
           try clear hfz34_0
           try clear hfz34_1
           try clear hfz34_2
           try clear hfz34_3
           try clear hfz36_0
           try clear hfz36_1
           try clear hfz36_2
           try clear hfz36_3
           try clear hfz38_0
           try clear hfz38_1
           try clear hfz38_2
           try clear hfz38_3
           try clear hfz40_0
           try clear hfz40_1
           try clear hfz40_2
           try clear hfz40_3
           try clear hfz9_0
           try clear hfz9_1
           try clear hfz9_2
           try clear hfz9_3
           try clear hx217_0
           try clear hx217_1
           try clear hx217_2
           try clear hx217_3
           try clear hx226_0
           try clear hx226_1
           try clear hx226_2
           try clear hx226_3
           try clear p2
           try clear p217
           try clear p226
           try clear p6
           try clear q2
           try clear q217
           try clear q226
           obtain ⟨kq, x44_21, rfl, HA, HJ21, HO_217000, BK216, BK227, HB⟩ := hcut
           cases kq with
           | zero => exact absurd HA.out (by simp [impl_ValidItems.j2])
           | succ kj21 =>
            have H := HA.out
            clear HA
            simp only [impl_ValidItems.j2] at H
            by_cases c42 : x44_21 = true
            ·subst c42
             have H1 : (some false) = some r := by rw [if_pos rfl] at H; exact H
             clear H
             have H := H1
             clear H1
             obtain rfl := Option.some.inj H
             go_wp2
             go_ret
             exact ⟨by first | rfl | (simp [errW_none, errW_some] <;> rfl) | (simp [*, errW_none, errW_some] <;> rfl), by repeat (first | (with_reducible first | exact HB.out | apply below_alloc | apply pw_below_drewN | apply below_drew1 | refine below_set ?_ GE216.out | refine below_set ?_ GE227.out) | exact HB.out)⟩
            ·replace c42 := Bool.eq_false_iff.mpr c42
             subst c42
             have H1 : ((slices_ContainsFunc_string_string__impl_ValidItems_1.f kj21 ((rd_T49 l0 x25_2).f1) [x217000_1]).bind fun t231 => (if t231 = true then (some false) else (impl_ValidItems.l1 kj21 l0 l0 (l0.length : Int) (wrap64 (x25_2 + 1)) x217000_1))) = some r := by rw [if_neg (show ¬ (false = true) by decide)] at H; exact H
             clear H
             have H := H1
             clear H1
             replace H := Option.bind_eq_some_iff.mp H
             obtain ⟨t231, A430, H⟩ := H
             replace H : (if t231 = true then (some false) else (impl_ValidItems.l1 kj21 l0 l0 (l0.length : Int) (wrap64 (x25_2 + 1)) x217000_1)) = some r := H
             have A43 := Aside0.mk A430
             clear A430
             by_cases c44 : t231 = true
             ·subst c44
              have H1 : (some false) = some r := by rw [if_pos rfl] at H; exact H
              clear H
              have H := H1
              clear H1
              obtain rfl := Option.some.inj H
              have hnb45 := NB227_216.out
              have hnc45 := NB216_227.out
              have hcz46_0 : wc.cell? ⟨gb227, 0, none⟩ = some (.string ((rd_T49 l0 x25_2).f0)) := (blk_cell BK227.out 0).trans rfl
              have hcz46_1 : wc.cell? ⟨gb227, 1, none⟩ = some (.slice A226_1 ((rd_T49 l0 x25_2).f1).length c226_1) := (blk_cell BK227.out 1).trans rfl
              have hcz46_2 : wc.cell? ⟨gb227, 2, none⟩ = some (.int .i64 ((rd_T49 l0 x25_2).f2)) := (blk_cell BK227.out 2).trans rfl
              have hcz46_3 : wc.cell? ⟨gb227, 3, none⟩ = some (.int .i64 ((rd_T49 l0 x25_2).f3)) := (blk_cell BK227.out 3).trans rfl
              have hfz46_0 := blk_frozen BK227.out 0
              have hfz46_1 := blk_frozen BK227.out 1
              have hfz46_2 := blk_frozen BK227.out 2
              have hfz46_3 := blk_frozen BK227.out 3
              go_wp2_with (first | (go_at_call 52; (with_reducible refine (slices_ContainsFunc_string_string__impl_ValidItems_1.calls kj21 _ _ ((rd_T49 l0 x25_2).f1) _ [x217000_1] true _ ?side1 ?side2 ?side3 A43.out).mono ?_); (case side1 => repeat (first | exact (Kd.C_below HR226_1.out HB.out) | (with_reducible refine Kd.C_alloc ?_ _) | (with_reducible refine Kd.C_drewN ?_ _) | (with_reducible refine Kd.C_drew ?_))); (case side2 => exact HC226_1.out); (case side3 => exact Kd.C_lone_blk (g := gb216) (T := 32) (cells := #[.slice Ao17 x217000_1.length co17]) (by (with_reducible repeat (first | refine blk_drewN ?_ _ | refine blk_drew ?_ | refine blk_alloc ?_ _)); exact BK216.out) 0 rfl ⟨_, _, rfl, (by exact (Kd.R_reads' HO_217000.out).2.1), (by repeat (first | exact (Kd.R_reads' HO_217000.out).2.2 | (with_reducible refine Kd.C_alloc ?_ _) | (with_reducible refine Kd.C_drewN ?_ _) | (with_reducible refine Kd.C_drew ?_)))⟩); rintro e w' ⟨rfl, ⟨nd, rfl⟩⟩))
              go_ret
              exact ⟨by first | rfl | (simp [errW_none, errW_some] <;> rfl) | (simp [*, errW_none, errW_some] <;> rfl), by repeat (first | (with_reducible first | exact HB.out | apply below_alloc | apply pw_below_drewN | apply below_drew1 | refine below_set ?_ GE216.out | refine below_set ?_ GE227.out) | exact HB.out)⟩
             ·replace c44 := Bool.eq_false_iff.mpr c44
              subst c44
              have H1 : (impl_ValidItems.l1 kj21 l0 l0 (l0.length : Int) (wrap64 (x25_2 + 1)) x217000_1) = some r := by rw [if_neg (show ¬ (false = true) by decide)] at H; exact H
              clear H
              have H := H1
              clear H1
              have H' := Aside0.mk H
              clear H
              have hnb47 := NB227_216.out
              have hnc47 := NB216_227.out
              have hcz48_0 : wc.cell? ⟨gb227, 0, none⟩ = some (.string ((rd_T49 l0 x25_2).f0)) := (blk_cell BK227.out 0).trans rfl
              have hcz48_1 : wc.cell? ⟨gb227, 1, none⟩ = some (.slice A226_1 ((rd_T49 l0 x25_2).f1).length c226_1) := (blk_cell BK227.out 1).trans rfl
              have hcz48_2 : wc.cell? ⟨gb227, 2, none⟩ = some (.int .i64 ((rd_T49 l0 x25_2).f2)) := (blk_cell BK227.out 2).trans rfl
              have hcz48_3 : wc.cell? ⟨gb227, 3, none⟩ = some (.int .i64 ((rd_T49 l0 x25_2).f3)) := (blk_cell BK227.out 3).trans rfl
              have hfz48_0 := blk_frozen BK227.out 0
              have hfz48_1 := blk_frozen BK227.out 1
              have hfz48_2 := blk_frozen BK227.out 2
              have hfz48_3 := blk_frozen BK227.out 3
              go_wp2_with (first | (go_at_call 52; (with_reducible refine (slices_ContainsFunc_string_string__impl_ValidItems_1.calls kj21 _ _ ((rd_T49 l0 x25_2).f1) _ [x217000_1] false _ ?side1 ?side2 ?side3 A43.out).mono ?_); (case side1 => repeat (first | exact (Kd.C_below HR226_1.out HB.out) | (with_reducible refine Kd.C_alloc ?_ _) | (with_reducible refine Kd.C_drewN ?_ _) | (with_reducible refine Kd.C_drew ?_))); (case side2 => exact HC226_1.out); (case side3 => exact Kd.C_lone_blk (g := gb216) (T := 32) (cells := #[.slice Ao17 x217000_1.length co17]) (by (with_reducible repeat (first | refine blk_drewN ?_ _ | refine blk_drew ?_ | refine blk_alloc ?_ _)); exact BK216.out) 0 rfl ⟨_, _, rfl, (by exact (Kd.R_reads' HO_217000.out).2.1), (by repeat (first | exact (Kd.R_reads' HO_217000.out).2.2 | (with_reducible refine Kd.C_alloc ?_ _) | (with_reducible refine Kd.C_drewN ?_ _) | (with_reducible refine Kd.C_drew ?_)))⟩); rintro e w' ⟨rfl, ⟨nd, rfl⟩⟩))
              go_roundg kj21
              case measure => have := HK1.out; have := HK2.out; have := HJ21.out; omega
              case rel => exact ⟨(wrap64 (x25_2 + 1)), (by first | rfl | (simp; done) | (simp [*]; done)), H', ⟨by have := HK1.out; have := HK2.out; have := HJ21.out; omega⟩, ⟨by (with_reducible repeat (first | apply Kd.R_alloc | apply Kd.R_drewN | apply Kd.R_drew)); exact HO_217000.out⟩, ⟨by (with_reducible repeat (first | refine blk_drewN ?_ _ | refine blk_drew ?_ | refine blk_alloc ?_ _)); exact BK216.out⟩, ⟨by repeat (first | (with_reducible first | exact HB.out | apply below_alloc | apply pw_below_drewN | apply below_drew1 | refine below_set ?_ GE216.out | refine below_set ?_ GE227.out) | exact HB.out)⟩⟩
         ·rw [if_neg c21] at H
          exact absurd H (by simp)
        ·rw [if_neg c20] at H
         exact absurd H (by simp)
       ·rw [if_neg c19] at H
        have c19b0 : decide (x25_2 < (l0.length : Int)) = false := decide_eq_false c19
        clear c19
        replace H := Option.bind_eq_some_iff.mp H
        obtain ⟨t223, A490, H⟩ := H
        replace H : (some ((t223.length : Int) == (l0.length : Int))) = some r := H
        have A49 := Aside0.mk A490
        clear A490
        obtain rfl := Option.some.inj H
        go_wp2_with (first | ((with_reducible refine gate_callee (f := 55) rfl ?_); refine goesL_ (some 51) rfl rfl Tryd.func55 (by kernel_rfl) rfl #[.slice A0 l0.length c0] rfl (by (try simp only [List.map_toArray, List.map_cons, List.map_nil]); first | done | rfl | (simp only [List.length_drop, List.length_take]; rfl)) ?_; (with_reducible refine (impl_makeOrder.calls k2 _ _ l0 t223 _ ?side1 ?side2 A49.out).mono ?_); (case side1 => repeat (first | exact (Kd.C_below HR0.out HB.out) | (with_reducible refine Kd.C_alloc ?_ _) | (with_reducible refine Kd.C_drewN ?_ _) | (with_reducible refine Kd.C_drew ?_))); (case side2 => exact HC0.out); rintro e w50 ⟨v224, rfl, ho0, hb⟩; refine ⟨_, rfl, ?_⟩; have n0_ := Aside0.mk (Kd.R_elder' (by (with_reducible repeat (first | apply Kd.R_alloc | apply Kd.R_drewN | apply Kd.R_drew)); exact HO_217000.out) (Kd.R_base ho0) hb); have n1_ := Aside0.mk (Kd.R_lower (Kd.R_new' ho0 (Kd.R_lt (by (with_reducible repeat (first | apply Kd.R_alloc | apply Kd.R_drewN | apply Kd.R_drew)); exact HO_217000.out))) (below_size (by repeat (first | (with_reducible first | exact HB.out | apply below_alloc | apply pw_below_drewN | apply below_drew1 | refine below_set ?_ GE216.out) | exact HB.out)))); have n2_ := Aside0.mk (blk_below (g := gb216) (o := .cells #[.slice Ao17 x217000_1.length co17] 32 (0, 0)) (by (with_reducible repeat (first | refine blk_drewN ?_ _ | refine blk_drew ?_ | refine blk_alloc ?_ _)); exact BK216.out) hb); have n3_ := Aside0.mk (below_step (by repeat (first | (with_reducible first | exact HB.out | apply below_alloc | apply pw_below_drewN | apply below_drew1 | refine below_set ?_ GE216.out) | exact HB.out)) hb); clear HO_217000; clear BK216; clear HB; have HO_217000 := n0_; have HO225 := n1_; have BK216 := n2_; have HB := n3_; clear n0_ n1_ n2_ n3_; (try clear hb); (try clear hb2); (try clear hk); (try clear hi); (try clear ho0); obtain ⟨Ao51, co51, eo51⟩ := Kd.R_slice HO225.out; subst eo51))
        go_ret
        exact ⟨by first | rfl | (simp [errW_none, errW_some] <;> rfl) | (simp [*, errW_none, errW_some] <;> rfl), by repeat (first | (with_reducible first | exact HB.out | apply below_alloc | apply pw_below_drewN | apply below_drew1 | refine below_set ?_ GE216.out) | exact HB.out)⟩
    ·replace c15 := Bool.eq_false_iff.mpr c15
     subst c15
     have H1 : (some false) = some r := by rw [if_neg (show ¬ (false = true) by decide)] at H; exact H
     clear H
     have H := H1
     clear H1
     obtain rfl := Option.some.inj H
     have hcz52_0 : wr.cell? ⟨gb216, 0, none⟩ = some (u217000) := (blk_cell BK216.out 0).trans rfl
     have hfz52_0 := blk_frozen BK216.out 0
     obtain ⟨Ao53, co53, eo53⟩ := Kd.R_slice HO_217000.out
     subst eo53
     go_wp2_with (first | ((with_reducible refine gate_callee (f := 50) rfl ?_); refine goesL_ (some 21) rfl rfl Tryd.func50 (by kernel_rfl) rfl #[.slice Ao53 x217000_1.length co53, .int .i64 16] rfl (by (try simp only [List.map_toArray, List.map_cons, List.map_nil]); first | done | rfl | (simp only [List.length_drop, List.length_take]; rfl)) ?_; (with_reducible refine (impl_areNames.calls k1 _ _ x217000_1 16 false _ ?side1 ?side2 A14.out).mono ?_); (case side1 => repeat (first | exact (Kd.R_reads' HO_217000.out).2.2 | (with_reducible refine Kd.C_alloc ?_ _) | (with_reducible refine Kd.C_drewN ?_ _) | (with_reducible refine Kd.C_drew ?_))); (case side2 => exact (Kd.R_reads' HO_217000.out).2.1); rintro e w54 ⟨rfl, hb⟩; refine ⟨_, rfl, ?_⟩; have n0_ := Aside0.mk (Kd.R_below (by (with_reducible repeat (first | apply Kd.R_alloc | apply Kd.R_drewN | apply Kd.R_drew)); exact HO_217000.out) hb); have n1_ := Aside0.mk (blk_below (g := gb216) (o := .cells #[.slice Ao53 x217000_1.length co53] 32 (0, 0)) (by (with_reducible repeat (first | refine blk_drewN ?_ _ | refine blk_drew ?_ | refine blk_alloc ?_ _)); exact BK216.out) hb); have n2_ := Aside0.mk (below_step (by repeat (first | (with_reducible first | exact HB.out | apply below_alloc | apply pw_below_drewN | apply below_drew1 | refine below_set ?_ GE216.out) | exact HB.out)) hb); clear HO_217000; clear BK216; clear HB; have HO_217000 := n0_; have BK216 := n1_; have HB := n2_; clear n0_ n1_ n2_; (try clear hb); (try clear hb2); (try clear hk); (try clear hi)))
     go_ret
     exact ⟨by first | rfl | (simp [errW_none, errW_some] <;> rfl) | (simp [*, errW_none, errW_some] <;> rfl), by repeat (first | (with_reducible first | exact HB.out | apply below_alloc | apply pw_below_drewN | apply below_drew1 | refine below_set ?_ GE216.out) | exact HB.out)⟩
/-! ### strings_Join: function 56 -/
def strings_Join.f (l0 : List ByteArray) (a1 : ByteArray) : Option ByteArray := if l0.length ≤ 140737488355328 ∧ (Lib.join (l0.map (·.data.toList)) a1.data.toList).length ≤ 140737488355328 then some ⟨(Lib.join (l0.map (·.data.toList)) a1.data.toList).toArray⟩ else none
theorem strs_cells {w : World} {ad : Addr} {xs : List ByteArray} (h : Kd.C Kd.string w (some ad) xs.length xs) (hp : 0 < xs.length) :
  ad.spot = none ∧ ad.block < w.heap.size ∧ ∀ (j : Nat) x, xs[j]? = some x → w.cell? ⟨ad.block, ad.off + j, none⟩ = some (.string x) := by
 obtain ⟨ad', e, hc⟩ := h.2.2 hp
 cases e
 have all : ∀ j x, xs[j]? = some x → w.cell? (ad.add j) = some (.string x) := by
  intro j x hx
  obtain ⟨cs, hl, hk, hcell⟩ := hc j x hx
  have hk' : cs = [.string x] := hk
  subst hk'
  have := hcell 0 (.string x) rfl
  rw [show (Kd.string).sz = 1 from rfl, Nat.mul_one, Nat.add_zero] at this
  exact this
 have h0 := all 0 _ (List.getElem?_eq_getElem hp)
 have e0 : ad.add 0 = ad := by unfold Addr.add; rw [if_pos rfl]
 rw [e0] at h0
 have hs : ad.spot = none := by
  rcases hsp : ad.spot with _ | q
  ·rfl
  ·unfold World.cell? at h0
   split at h0
   ·rw [hsp] at h0; simp at h0
   ·cases h0
 refine ⟨hs, World.block_lt_of_cell? w ad h0, fun j x hx => ?_⟩
 have := all j x hx
 unfold Addr.add at this
 split at this
 ·rename_i hj
  subst hj
  have e : (⟨ad.block, ad.off + 0, none⟩ : Addr) = ad := by obtain ⟨b, o, s⟩ := ad; cases hs; rfl
  rw [e]; exact this
 ·exact this
theorem strings_Join.calls (A0 : Option Addr) (c0 : Nat) (l0 : List ByteArray) (a1 : ByteArray) (r : ByteArray) (w : World) (hr0 : Kd.C Kd.string w A0 l0.length l0) (hc0 : l0.length ≤ c0) (h : strings_Join.f l0 a1 = some r) :
  Calls Tryd.prog 56 #[.slice A0 l0.length c0, .string a1] w fun e w' => e = .returned (.string r) ∧ Below w.heap.size w w' := by
 unfold strings_Join.f at h
 by_cases hc : l0.length ≤ 140737488355328 ∧ (Lib.join (l0.map (·.data.toList)) a1.data.toList).length ≤ 140737488355328
 ·rw [if_pos hc] at h
  obtain rfl := Option.some.inj h
  clear h
  rcases Nat.eq_zero_or_pos l0.length with h0 | h0
  ·obtain rfl := List.eq_nil_of_length_eq_zero h0
   refine (Tryd.strings_Join_none A0 c0 a1 w).mono ?_
   rintro e w' ⟨rfl, rfl⟩
   exact ⟨rfl, Below.refl _ _⟩
  ·obtain ⟨ad, rfl, _⟩ := hr0.2.2 h0
   obtain ⟨hs, hb, hcells⟩ := strs_cells hr0 h0
   obtain ⟨b, o, s⟩ := ad
   cases hs
   exact Tryd.strings_Join b o c0 l0 a1 w hcells hb hc.1 hc0 hc.2
 ·rw [if_neg hc] at h; exact absurd h (by simp)
end Go.Proofs.YtiopkeepldmlkaaDoor.QRI
