/- The walk of the law FnExactReadItems, by hand: what its calls come to decides that it returns true. -/
import Derived.Test.YtiopkeepldmlkaaDoorCRIQRIx13
set_option linter.unusedVariables false
set_option linter.unusedSimpArgs false
namespace Go.Proofs.YtiopkeepldmlkaaDoor.QRI
open Go Go.RowKit Go.Proofs.YtiopkeepldmlkaaDoorW.PrintWords Go.Proofs.YtiopkeepldmlkaaDoorW.PrintLast Go.Proofs.YtiopkeepldmlkaaDoorW.PrintMore
/-- What the law's calls come to, for a text. -/
def laws_FnExactReadItems.Good (a0 : ByteArray) : Prop :=
 (a0.size : Int) > 1048576 ∨ ∃ (k : Nat) (L L' M : List S49) (b : Bool) (m : Int), ¬ (a0.size : Int) > 1048576 ∧ spec_ReadItems.f k a0 = some (L, b) ∧ impl_ReadItems.f k a0 = some (L', b) ∧ laws_eqItemS.f k L' L = some true ∧ laws_markItemS.f k L' 1 = some (m, M) ∧ laws_heldItemS.f k M 1 = some m ∧ 0 ≤ m
def laws_FnExactReadItems.Pure : Prop := ∀ a0 : ByteArray, a0.size ≤ 140737488351232 → laws_FnExactReadItems.Good a0
set_option maxHeartbeats 8000000 in
set_option maxRecDepth 100000 in
theorem laws_FnExactReadItems.walk (P : laws_FnExactReadItems.Pure) (a0 : ByteArray) (w : World) (hsz : a0.size ≤ 140737488351232) (hG : GOK w) :
  Calls Tryd.prog 4 #[.string a0] w fun e w' => e = .returned (.bool true) ∧ Below w.heap.size w w' := by
 rcases P a0 hsz with hbig | ⟨k, L, L', M, b, m, hsmall, h1, h2, h3, h4, h5, h6⟩
 ·have c1 : decide ((a0.size : Int) > 1048576) = true := decide_eq_true hbig
  have c2 : decide ((1048576 : Int) < (a0.size : Int)) = true := decide_eq_true (by omega)
  have c3 : decide (1048576 < a0.size) = true := decide_eq_true (by omega)
  go_enter Tryd.func4, Tryd.ntmps4
  go_wp2
  go_ret
  exact ⟨rfl, Below.refl _ _⟩
 ·have c1 : decide ((a0.size : Int) > 1048576) = false := decide_eq_false hsmall
  have c2 : decide ((1048576 : Int) < (a0.size : Int)) = false := decide_eq_false (by omega)
  have c3 : decide (1048576 < a0.size) = false := decide_eq_false (by omega)
  have c4 : (b != b) = false := by simp
  have c5 : decide (m < 0) = false := decide_eq_false (by omega)
  have c6 : (m != m) = false := by simp
  have hlen : M.length = L'.length := by
   unfold laws_markItemS.f at h4
   split at h4
   ·exact mark_len _ _ _ _ _ h4
   ·cases h4
  have HG := Aside0.mk hG
  have H1 := Aside0.mk h1
  have H2 := Aside0.mk h2
  have H3 := Aside0.mk h3
  have H4 := Aside0.mk h4
  have H5 := Aside0.mk h5
  have HL := Aside0.mk hlen
  clear hG h1 h2 h3 h4 h5 hsmall hsz hlen
  go_enter Tryd.func4, Tryd.ntmps4
  go_wp2_with (first
   | ((with_reducible refine gate_callee (f := 10) rfl ?_); refine goesL_ (some 16) rfl rfl Tryd.func10 (by kernel_rfl) rfl #[.string a0] rfl (by (try simp only [List.map_toArray, List.map_cons, List.map_nil]); first | done | rfl) ?_; (with_reducible refine (spec_ReadItems.calls k a0 L b _ H1.out).mono ?_); rintro e w1 ⟨v1, rfl, hS1, hb1⟩; refine ⟨_, rfl, ?_⟩; (obtain ⟨A1, c1_, rfl⟩ := Kd.S_slice hS1); (have HS1 := Aside0.mk hS1); (have HB1 := Aside0.mk hb1); (have HG1 := Aside0.mk (HG.out.below hb1)); clear hS1 hb1)
   | ((with_reducible refine gate_callee (f := 11) rfl ?_); refine goesL_ (some 21) rfl rfl Tryd.func11 (by kernel_rfl) rfl #[.string a0] rfl (by (try simp only [List.map_toArray, List.map_cons, List.map_nil]); first | done | rfl) ?_; (with_reducible refine (impl_ReadItems.calls k a0 L' b _ HG1.out H2.out).mono ?_); rintro e w2 ⟨v2, rfl, hS2, hb2⟩; refine ⟨_, rfl, ?_⟩; (obtain ⟨A2, c2_, rfl⟩ := Kd.S_slice hS2); (have HS2 := Aside0.mk hS2); (have HB2 := Aside0.mk hb2); (have HR1 := Aside0.mk (Kd.S_reads' (Kd.S_below HS1.out hb2))); (have HR2 := Aside0.mk (Kd.S_reads' hS2)); clear hS2 hb2)
   | ((with_reducible refine gate_callee (f := 12) rfl ?_); refine goesL_ (some 26) rfl rfl Tryd.func12 (by kernel_rfl) rfl #[.slice A2 L'.length c2_, .slice A1 L.length c1_] rfl (by (try simp only [List.map_toArray, List.map_cons, List.map_nil]); first | done | rfl) ?_; (with_reducible refine (laws_eqItemS.calls k A2 c2_ L' A1 c1_ L true _ HR2.out.2.2 HR2.out.2.1 HR1.out.2.2 HR1.out.2.1 H3.out).mono ?_); rintro e w3 ⟨rfl, hb3⟩; refine ⟨_, rfl, ?_⟩; (have HS3 := Aside0.mk (Kd.S_below HS2.out hb3)); (have HB3 := Aside0.mk (below_step HB2.out hb3)); clear hb3)
   | ((with_reducible refine gate_callee (f := 13) rfl ?_); refine goesL_ (some 35) rfl rfl Tryd.func13 (by kernel_rfl) rfl #[.slice A2 L'.length c2_, .int .i64 1] rfl (by (try simp only [List.map_toArray, List.map_cons, List.map_nil]); first | done | rfl) ?_; (with_reducible refine (laws_markItemS.calls k (.slice A2 L'.length c2_) L' 1 m M w1 _ HB3.out HS3.out H4.out).mono ?_); rintro e w4 ⟨rfl, hS4, hb4⟩; refine ⟨_, rfl, ?_⟩; (have HS4 := Aside0.mk hS4); (have HB4 := Aside0.mk hb4); (have HR4 := Aside0.mk (Kd.S_reads' hS4)); clear hS4 hb4)
   | ((with_reducible refine gate_callee (f := 14) rfl ?_); refine goesL_ (some 38) rfl rfl Tryd.func14 (by kernel_rfl) rfl #[.slice A2 M.length c2_, .int .i64 1] rfl (by (try simp only [List.map_toArray, List.map_cons, List.map_nil]); rw [HL.out]; first | done | rfl) ?_; (with_reducible refine (laws_heldItemS.calls k A2 c2_ M 1 m _ HR4.out.2.2 (HL.out ▸ HR4.out.2.1) H5.out).mono ?_); rintro e w5 ⟨rfl, hb5⟩; refine ⟨_, rfl, ?_⟩; (have HS5 := Aside0.mk (Kd.S_below HS4.out hb5)); (have HB5 := Aside0.mk (below_then HB4.out HB4.out.size hb5)); (have HG5 := Aside0.mk (HG1.out.below (below_then HB4.out HB4.out.size hb5))); clear hb5)
   | ((with_reducible refine gate_callee (f := 11) rfl ?_); refine goesL_ (some 46) rfl rfl Tryd.func11 (by kernel_rfl) rfl #[.string a0] rfl (by (try simp only [List.map_toArray, List.map_cons, List.map_nil]); first | done | rfl) ?_; (with_reducible refine (impl_ReadItems.calls k a0 L' b _ HG5.out H2.out).mono ?_); rintro e w6 ⟨v6, rfl, hS6, hb6⟩; refine ⟨_, rfl, ?_⟩; (obtain ⟨A6, c6_, rfl⟩ := Kd.S_slice hS6); (have HR6 := Aside0.mk (Kd.S_reads' hS6)); (have HS6 := Aside0.mk (Kd.S_below HS5.out hb6)); (have HB6 := Aside0.mk (below_then HB5.out HB5.out.size hb6)); (have HR7 := Aside0.mk (Kd.S_reads' (Kd.S_below HS1.out (below_then HB5.out HB5.out.size hb6)))); clear hS6 hb6)
   | ((with_reducible refine gate_callee (f := 12) rfl ?_); refine goesL_ (some 51) rfl rfl Tryd.func12 (by kernel_rfl) rfl #[.slice A6 L'.length c6_, .slice A1 L.length c1_] rfl (by (try simp only [List.map_toArray, List.map_cons, List.map_nil]); first | done | rfl) ?_; (with_reducible refine (laws_eqItemS.calls k A6 c6_ L' A1 c1_ L true _ HR6.out.2.2 HR6.out.2.1 HR7.out.2.2 HR7.out.2.1 H3.out).mono ?_); rintro e w7 ⟨rfl, hb7⟩; refine ⟨_, rfl, ?_⟩; (have HR8 := Aside0.mk (Kd.S_reads' (Kd.S_below HS6.out hb7))); (have HB7 := Aside0.mk (below_then HB6.out HB6.out.size hb7)); clear hb7)
   | ((with_reducible refine gate_callee (f := 14) rfl ?_); refine goesL_ (some 60) rfl rfl Tryd.func14 (by kernel_rfl) rfl #[.slice A2 M.length c2_, .int .i64 1] rfl (by (try simp only [List.map_toArray, List.map_cons, List.map_nil]); rw [HL.out]; first | done | rfl) ?_; (with_reducible refine (laws_heldItemS.calls k A2 c2_ M 1 m _ HR8.out.2.2 (HL.out ▸ HR8.out.2.1) H5.out).mono ?_); rintro e w8 ⟨rfl, hb8⟩; refine ⟨_, rfl, ?_⟩; (have HB8 := Aside0.mk (below_then HB7.out HB7.out.size hb8)); clear hb8))
  go_ret
  exact ⟨rfl, below_then HB1.out HB1.out.size HB8.out⟩
end Go.Proofs.YtiopkeepldmlkaaDoor.QRI
