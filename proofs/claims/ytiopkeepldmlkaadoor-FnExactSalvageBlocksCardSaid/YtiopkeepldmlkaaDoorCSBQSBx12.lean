/- A part of the proof: no condition of its own. Out of what the print tool printed, or of own texts, cut down to what this claim needs by a program of the prover (prune.py). -/
-- Made by wip/tool (a turned print tool and hand-written contracts) for this claim.
import Derived.Test.YtiopkeepldmlkaaDoorCSBQSBx0
import Derived.Test.YtiopkeepldmlkaaDoorCSBQSBx6
import Derived.Test.YtiopkeepldmlkaaDoorCSBQSBx7
import Derived.Test.YtiopkeepldmlkaaDoorCSBQSBx8
import Derived.Test.YtiopkeepldmlkaaDoorCSBQSBx10
import Derived.Test.YtiopkeepldmlkaaDoorCSBQSBx11
namespace Go.Proofs.YtiopkeepldmlkaaDoor.QSB
open Go.RowKit Go.Proofs.YtiopkeepldmlkaaDoorW.PrintWords Go.Proofs.YtiopkeepldmlkaaDoorW.PrintLast Go.Proofs.YtiopkeepldmlkaaDoorW.PrintMore
attribute [local go_sem] max2_int min2_int max_two min_two max_three min_three max_four min_four   -- for this text's walks alone
set_option linter.unusedVariables false
set_option linter.unusedSimpArgs false
/-! ### impl_Block_73: function 73 -/
/-- slices.Insert of one element into a row of one's own. -/
def impl_Block_73.f (l0 : List (S36)) (a1 : Int) (l2 : List (S36)) : Option (List (S36)) := if 0 ≤ a1 ∧ a1 ≤ l0.length ∧ l2.length = 1 ∧ (l0.length + 1) * 48 ≤ 140737488355328 then some (l0.take a1.toNat ++ l2 ++ l0.drop a1.toNat) else none
section
variable (P0_ P2_ : Nat → Prop) (n i c g g2 c2 : Nat) (cur cur2 : Array Value) (inner news : List Value) (l0 l2 : List (S36)) (w0 w : World)
set_option maxHeartbeats 4000000 in
set_option maxRecDepth 100000 in
theorem impl_Block_73.shift (hi : i < l0.length) (hl2 : l2.length = 1) (hB : Below w0.heap.size w0 w) (hb : w0.heap.size ≤ g) (hP : P0_ g) (hg : w.heap[g]? = some (.cells cur 36 (0, 0))) (hroom : l0.length + 1 ≤ c) (hm : c ≤ 9223372036854775807) (hs : cur.size = c * 3) (ht : cur.toList.take (l0.length * 3) = inner)
    (hr : Reps (Kd.M k36 w w0.heap.size (fun k => P0_ k ∧ k ≠ g ∧ w0.heap.size ≤ k ∧ k < w.heap.size)) 3 l0 inner)
    (hne : g2 ≠ g) (hg2 : w.heap[g2]? = some (.cells cur2 36 (0, 0))) (ht2 : cur2.toList.take (1 * 3) = news) (hr2 : Reps (Kd.M k36 w w0.heap.size (fun k => P2_ k ∧ k ≠ g ∧ w0.heap.size ≤ k ∧ k < w.heap.size)) 3 l2 news) :
    Calls Tryd.prog 73 #[.slice (some ⟨g, 0, none⟩) l0.length c, .int .i64 (i : Int), .slice (some ⟨g2, 0, none⟩) 1 c2] w fun e w' => ∃ v0_ : Value, e = .returned (v0_) ∧ Kd.R k36 36 w' w0.heap.size (fun k_ => ((P0_ k_ ∨ P2_ k_) ∨ w.heap.size ≤ k_)) v0_ (l0.take i ++ l2 ++ l0.drop i) ∧ Below w0.heap.size w0 w' ∧ Kept w w' (fun k_ => P0_ k_ ∨ P2_ k_) := by
  have hinfo : ((Tryd.prog).info? 36).map (·.size) = some 3 := by
    have h := info36
    cases hq : (Tryd.prog).info? 36 with
    | none => simp [hq] at h
    | some i => simp [hq] at h; simp [h]
  obtain ⟨ti_, hti_, hinfo_⟩ : ∃ i, (Tryd.prog).info? 36 = some i ∧ i.size = 3 := Option.map_eq_some_iff.1 hinfo
  obtain ⟨hlr, _⟩ := id hr
  have hl2n : news.length = 1 * 3 := by rw [hr2.1, hl2]
  have hlin : inner.length = l0.length * 3 := hlr
  obtain ⟨C1, hC1⟩ : ∃ C1, C1 = cur.toList.take ((i + 1) * 3) ++ inner.drop (i * 3) ++ cur.toList.drop ((i + 1) * 3 + (inner.drop (i * 3)).length) := ⟨_, rfl⟩
  obtain ⟨C2, hC2⟩ : ∃ C2, C2 = C1.take (i * 3) ++ news ++ C1.drop (i * 3 + news.length) := ⟨_, rfl⟩
  obtain ⟨hs1, hs2, hct⟩ := ins_cells ht (Nat.le_of_lt hi) hlin hl2n (by rw [hs]; exact Nat.mul_le_mul_right _ hroom) hC1 hC2
  have hone : ∀ u ∈ inner, u.oneCell' = true := reps_cells hr
  have hone2 : ∀ u ∈ news, u.oneCell' = true := reps_cells hr2
  have hdl : (inner.drop (i * 3)).length = (l0.length - i) * 3 := by rw [List.length_drop, hlin, Nat.sub_mul]
  have hcur : ∀ j v, inner[j]? = some v → cur[j]? = some v := fun j v hj => by
    rw [← ht] at hj
    have := (List.getElem?_eq_some_iff.1 hj).1
    rw [List.length_take] at this
    rw [List.getElem?_take_of_lt (by omega)] at hj
    simpa using hj
  have hcur2 : ∀ j v, news[j]? = some v → cur2[j]? = some v := fun j v hj => by
    rw [← ht2] at hj
    have := (List.getElem?_eq_some_iff.1 hj).1
    rw [List.length_take] at this
    rw [List.getElem?_take_of_lt (by omega)] at hj
    simpa using hj
  have hov : ∀ lb cb, (callFunc 99 #[.slice (some ⟨g2, 0, none⟩) 1 c2, .slice (some ⟨g, (i + 1) * 3, none⟩) lb cb]).run Tryd.prog w = .ok (.value (.bool false)) w := fun lb cb => by
    rw [run_callFunc_extern Tryd.func99 (by kernel_rfl) (by kernel_rfl) (by kernel_rfl) (e := Extern.SlicesOverlaps.overlaps #[22, 22] #[4]) (by kernel_rfl),
      Lib.run_overlaps_apart w 22 4 36 Tryd.underlying22 3 (fun w => by simp [sizeOf, typeInfo, hti_, hinfo_]) ⟨g2, 0, none⟩ ⟨g, (i + 1) * 3, none⟩ 1 c2 lb cb hne 36 36 cur2.size cur.size (by simp [World.shape?, hg2]) (by simp [World.shape?, hg]) (by omega) (by simp [World.frozen?, hg2]) (by simp [World.frozen?, hg2])]
    rfl
  have hcp1 : ∀ ty dc sc, (Builtin.copy_ #[22, 22] ty #[.slice (some ⟨g, (i + 1) * 3, none⟩) (l0.length - i) dc, .slice (some ⟨g, i * 3, none⟩) (l0.length + 1 - i) sc]).run Tryd.prog w.drew = .ok (goInt ((l0.length - i : Nat) : Int)) (w.drew.setRow g C1.toArray) := fun ty dc sc => by
    have h := run_copy_rowN (P := Tryd.prog) w.drew 22 22 ty 36 g ((i + 1) * 3) (l0.length - i) dc ⟨g, i * 3, none⟩ (l0.length + 1 - i) sc cur 36 3 (inner.drop (i * 3)) Tryd.underlying22 hinfo hg
      (by rw [hdl]; congr 1; simp only [Nat.min_def]; split <;> omega)
      (fun j v hj => by
        rw [List.getElem?_drop] at hj
        have := hcur _ v hj
        rw [Addr.add_lit]
        exact (cell_blk (w := w) hg).trans this)
      (by rw [hdl, hs, ← Nat.add_mul]; exact Nat.mul_le_mul_right _ (by omega)) (fun v hv => hone v (List.mem_of_mem_drop hv))
    rw [show Nat.min (l0.length + 1 - i) (l0.length - i) = l0.length - i from by simp only [Nat.min_def]; split <;> omega, ← hC1] at h
    exact h
  have hg1 : (w.drew.setRow g C1.toArray).heap[g]? = some (.cells C1.toArray 36 (0, 0)) := setRow_heap w.drew g cur C1.toArray 36 (0, 0) hg
  have hcp2 : ∀ (W : World), W.heap = (w.drew.setRow g C1.toArray).heap → ∀ ty dc, (Builtin.copy_ #[22, 22] ty #[.slice (some ⟨g, i * 3, none⟩) (l0.length + 1 - i) dc, .slice (some ⟨g2, 0, none⟩) 1 c2]).run Tryd.prog W = .ok (goInt ((1 : Nat) : Int)) (W.setRow g C2.toArray) := fun W hW ty dc => by
    have h := run_copy_rowN (P := Tryd.prog) W 22 22 ty 36 g (i * 3) (l0.length + 1 - i) dc ⟨g2, 0, none⟩ 1 c2 C1.toArray 36 3 news Tryd.underlying22 hinfo (by rw [hW]; exact hg1)
      (by rw [hl2n]; congr 1; simp only [Nat.min_def]; split <;> omega)
      (fun j v hj => by
        rw [Addr.add_lit, Nat.zero_add]
        have h3 : W.heap[g2]? = some (.cells cur2 36 (0, 0)) := by rw [hW, setRow_other w.drew g g2 C1.toArray hne]; exact hg2
        exact (cell_blk h3).trans (hcur2 j v hj))
      (by rw [hl2n, ← Nat.add_mul, List.size_toArray, hs1, hs]; exact Nat.mul_le_mul_right _ (by omega)) hone2
    rw [show Nat.min 1 (l0.length + 1 - i) = 1 from by simp only [Nat.min_def]; split <;> omega] at h
    simpa [← hC2] using h
  have hw1 : IntKind.i64.wrap ((i : Int) + ((1 : Nat) : Int)) = (i : Int) + 1 := by rw [IntKind.wrap_i64]; omega
  have hw2 : IntKind.i64.wrap ((l0.length : Int) + ((1 : Nat) : Int)) = (l0.length : Int) + 1 := by rw [IntKind.wrap_i64]; omega
  have hb1 : (0 : Int) ≤ (i : Int) + 1 := by omega
  have htn : ((i : Int) + 1).toNat = i + 1 := by omega
  have htn2 : ((l0.length : Int) + 1).toNat = l0.length + 1 := by omega
  have hz2 : ¬ ((i : Int) = (l0.length : Int)) := by omega
  have hb2 : ¬ (c = i + 1) := by omega
  have hb3 : (i : Int) ≤ (l0.length : Int) + 1 := by omega
  have hb4 : ¬ (c = i) := by omega
  have mixed : Tryd.prog.follows Departure.mixedOrders = true := by kernel_rfl
  have hw3 : IntKind.i64.wrap ((i : Int) + 1) = (i : Int) + 1 := by rw [IntKind.wrap_i64]; omega
  have hb10 : i ≤ l0.length + 1 := by omega
  have hb11 : i ≤ c := by omega
  have hb9 : i ≤ l0.length := by omega
  have hb5 : (i : Int) ≤ (l0.length : Int) := by omega
  have hb6 : ¬ ((c : Int) < (l0.length : Int) + 1) := by omega
  have hb7 : (l0.length : Int) + 1 ≤ (c : Int) := by omega
  have hs2' : C2.toArray.size = c * 3 := by rw [List.size_toArray, hs2, hs]
  clear hC1 hC2 hdl hcur hcur2 hone hone2 hlr hlin hl2n ti_ hti_ hinfo_ hinfo
  have HB := Aside0.mk hB
  have HR := Aside0.mk hr
  have HR2 := Aside0.mk hr2
  have HT := Aside0.mk hct
  have HG1 := Aside0.mk hg1
  have HS := Aside0.mk hs2'
  clear hB hr hr2 hct hg1 hs2' ht ht2 hg hg2 hs hs1 hs2
  go_enter Tryd.func73, Tryd.ntmps73
  go_wp2_with (simp only [hov])
  go_region_law_o (refine step_copy_runI rfl _ _ 22 22 rfl _ _ (by simp [Act.eval, Act.put]) (by simp [Act.eval, Act.put]) (hcp1 _ _ _) ?_)
  go_wp2_with (at_builtin; refine wpList_copy_runI _ rfl _ _ 22 22 rfl _ _ rfl rfl (hcp2 _ rfl _ _) ?_)
  go_ret
  have hG2 := setRow_heap (w.drew.setRow g C1.toArray) g C1.toArray C2.toArray 36 (0, 0) HG1.out
  have hsame : ∀ k, k ≠ g → ((w.drew.setRow g C1.toArray).setRow g C2.toArray).heap[k]? = w.heap[k]? := fun k hk => (setRow_other _ g k _ hk).trans (setRow_other w.drew g k _ hk)
  have h := R_put_in (d := k36) (P0_ := P0_) (P2_ := P2_) (w := w) hG2 hb (.inl (.inl hP)) (by rw [hl2]; exact hroom) hm HS.out hb9 (by rw [hl2]; exact HT.out) HR.out HR2.out (fun k _ hk => hsame k hk)
  rw [hl2] at h
  exact ⟨_, rfl, h, below_setRow (below_setRow (below_drew HB.out) hb _) hb _, by rw [setRow_size, setRow_size]; exact Nat.le_refl _, fun k _ hk => hsame k (fun e_ => hk (.inl (e_ ▸ hP)))⟩
set_option maxHeartbeats 4000000 in
set_option maxRecDepth 100000 in
theorem impl_Block_73.grow (hi : i < l0.length) (hl2 : l2.length = 1) (hbig : (l0.length + 1) * 48 ≤ 140737488355328) (hB : Below w0.heap.size w0 w) (hg : w.heap[g]? = some (.cells cur 36 (0, 0))) (hlc : l0.length ≤ c) (hroom : c < l0.length + 1) (hm : c ≤ 9223372036854775807) (hs : cur.size = c * 3) (ht : cur.toList.take (l0.length * 3) = inner)
    (hr : Reps (Kd.M k36 w w0.heap.size (fun k => P0_ k ∧ w0.heap.size ≤ k ∧ k < w.heap.size)) 3 l0 inner)
    (hg2 : w.heap[g2]? = some (.cells cur2 36 (0, 0))) (ht2 : cur2.toList.take (1 * 3) = news) (hr2 : Reps (Kd.M k36 w w0.heap.size (fun k => P2_ k ∧ w0.heap.size ≤ k ∧ k < w.heap.size)) 3 l2 news) :
    Calls Tryd.prog 73 #[.slice (some ⟨g, 0, none⟩) l0.length c, .int .i64 (i : Int), .slice (some ⟨g2, 0, none⟩) 1 c2] w fun e w' => ∃ v0_ : Value, e = .returned (v0_) ∧ Kd.R k36 36 w' w0.heap.size (fun k_ => ((P0_ k_ ∨ P2_ k_) ∨ w.heap.size ≤ k_)) v0_ (l0.take i ++ l2 ++ l0.drop i) ∧ Below w0.heap.size w0 w' ∧ Kept w w' (fun k_ => P0_ k_ ∨ P2_ k_) := by
  obtain ⟨ti_, hti_, hz0_, hz1_, hz2_⟩ : ∃ i, (Tryd.prog).info? 36 = some i ∧ i.zero = some (.agg #[(.string ⟨#[]⟩), (.string ⟨#[]⟩), (.string ⟨#[]⟩)]) ∧ i.size = 3 ∧ i.bytes = 48 := by
    obtain ⟨i, h1, h2⟩ := Option.map_eq_some_iff.1 info36
    simp only [Prod.mk.injEq] at h2
    exact ⟨i, h1, h2.1, h2.2.1, h2.2.2⟩
  have hinfo : ((Tryd.prog).info? 36).map (·.size) = some 3 := by rw [hti_]; simp [hz1_]
  have hl2n : news.length = 1 * 3 := by rw [hr2.1, hl2]
  have hlin : inner.length = l0.length * 3 := hr.1
  have hone : ∀ u ∈ inner, u.oneCell' = true := reps_cells hr
  have hone2 : ∀ u ∈ news, u.oneCell' = true := reps_cells hr2
  have hdl : (inner.drop (i * 3)).length = (l0.length - i) * 3 := by rw [List.length_drop, hlin, Nat.sub_mul]
  have hcur : ∀ j v, inner[j]? = some v → cur[j]? = some v := fun j v hj => by
    rw [← ht] at hj
    have := (List.getElem?_eq_some_iff.1 hj).1
    rw [List.length_take] at this
    rw [List.getElem?_take_of_lt (by omega)] at hj
    simpa using hj
  have hcur2 : ∀ j v, news[j]? = some v → cur2[j]? = some v := fun j v hj => by
    rw [← ht2] at hj
    have := (List.getElem?_eq_some_iff.1 hj).1
    rw [List.length_take] at this
    rw [List.getElem?_take_of_lt (by omega)] at hj
    simpa using hj
  have hgw : g < w.heap.size := (Array.getElem?_eq_some_iff.1 hg).1
  have hgw2 : g2 < w.heap.size := (Array.getElem?_eq_some_iff.1 hg2).1
  obtain ⟨G, hG⟩ : ∃ G, G = grownCap w (l0.length + 1) c 36 := ⟨_, rfl⟩
  have hGn : l0.length + 1 ≤ G := by rw [hG]; exact grownCap_ge w _ _ _
  have hG63 : G ≤ 9223372036854775807 := by
    have := grownCap_le_maxLen w (l0.length + 1) c 36 (by unfold maxLen; omega)
    rw [← hG] at this
    unfold maxLen at this
    omega
  obtain ⟨ROW, hROW⟩ : ∃ ROW : Array Value, ROW = (inner.take (i * 3)).toArray ++ Builtin.zeroCells (Value.cells (.agg #[(.string ⟨#[]⟩), (.string ⟨#[]⟩), (.string ⟨#[]⟩)])) (l0.length + 1 - i) ++ Builtin.zeroCells (Value.cells (.agg #[(.string ⟨#[]⟩), (.string ⟨#[]⟩), (.string ⟨#[]⟩)])) (G - (l0.length + 1)) := ⟨_, rfl⟩
  have hik : i + (l0.length + 1 - i) = l0.length + 1 := by omega
  have hrz : ∀ ty, (Builtin.append_ #[22, 3] ty #[.slice (some ⟨g, 0, none⟩) i c, .int .i64 ((l0.length : Int) + 1 - (i : Int))]).run Tryd.prog w = .ok (.slice (some ⟨w.heap.size, 0, none⟩) (l0.length + 1) G) (w.drew.alloc (.cells ROW 36)) := fun ty => by
    have hold : (Builtin.firstCells ti_.size i (.slice (some ⟨g, 0, none⟩) i c)).run Tryd.prog w.drew = .ok (inner.take (i * 3)).toArray w.drew := by
      rw [hz1_]
      exact run_firstCells_some w.drew 3 i ⟨g, 0, none⟩ i c (inner.take (i * 3)) (by rw [List.length_take, hlin]; omega) (fun j v hj => by
        rw [Addr.add_lit, Nat.zero_add]
        rw [List.getElem?_take] at hj
        split at hj
        · exact (cell_blk (w := w) hg).trans (hcur j v hj)
        · cases hj)
    have h := Lib.run_append_grow_zeros (P := Tryd.prog) w 22 3 ty 36 ti_ (.agg #[(.string ⟨#[]⟩), (.string ⟨#[]⟩), (.string ⟨#[]⟩)]) .i64 .i64 Tryd.underlying22 Tryd.underlying3 hti_ hz0_ (some ⟨g, 0, none⟩) i c (inner.take (i * 3)) hold (l0.length + 1 - i) (by omega) (by rw [hz1_]; decide) (by omega) (by omega) (by rw [hz2_]; omega) (by rw [hz2_, hik]; exact growslice_fits hroom hbig)
    rw [hik, ← hG] at h
    rw [show (l0.length : Int) + 1 - (i : Int) = ((l0.length + 1 - i : Nat) : Int) from by omega, h, hROW]
  obtain ⟨C1, hC1⟩ : ∃ C1, C1 = ROW.toList.take (i * 3) ++ news ++ ROW.toList.drop (i * 3 + news.length) := ⟨_, rfl⟩
  obtain ⟨C2, hC2⟩ : ∃ C2, C2 = C1.take ((i + 1) * 3) ++ inner.drop (i * 3) ++ C1.drop ((i + 1) * 3 + (inner.drop (i * 3)).length) := ⟨_, rfl⟩
  obtain ⟨hs0, hs1, hs2, hct⟩ := ins_new (ROW := ROW) (n := l0.length) (i := i) (z := 3) (m := 1) (G := G) (zs := (Builtin.zeroCells (Value.cells (.agg #[(.string ⟨#[]⟩), (.string ⟨#[]⟩), (.string ⟨#[]⟩)])) (l0.length + 1 - i) ++ Builtin.zeroCells (Value.cells (.agg #[(.string ⟨#[]⟩), (.string ⟨#[]⟩), (.string ⟨#[]⟩)])) (G - (l0.length + 1))).toList) (by rw [hROW]; simp) (by
      rw [Array.length_toList, Array.size_append, zeros_size, zeros_size, ← Nat.add_mul]
      show (l0.length + 1 - i + (G - (l0.length + 1))) * 3 = _
      congr 1; omega) (Nat.le_of_lt hi) hGn hlin hl2n hC1 hC2
  obtain ⟨W1, hW1⟩ : ∃ W1, W1 = w.drew.alloc (.cells ROW 36) := ⟨_, rfl⟩
  have hWn : W1.heap[w.heap.size]? = some (.cells ROW 36 (0, 0)) := by rw [hW1]; show (w.heap.push (.cells ROW 36))[w.heap.size]? = _; simp
  have hWo : ∀ k, k < w.heap.size → W1.heap[k]? = w.heap[k]? := fun k hk => by rw [hW1]; exact (below_alloc (below_drew (Below.refl w.heap.size w)) _).block k hk
  have hWb : Below w.heap.size w W1 := by rw [hW1]; exact below_alloc (below_drew (Below.refl w.heap.size w)) _
  have hcpA : ∀ ty dc, (Builtin.copy_ #[22, 22] ty #[.slice (some ⟨w.heap.size, i * 3, none⟩) (l0.length + 1 - i) dc, .slice (some ⟨g2, 0, none⟩) 1 c2]).run Tryd.prog W1 = .ok (goInt ((1 : Nat) : Int)) (W1.setRow w.heap.size C1.toArray) := fun ty dc => by
    have h := run_copy_rowN (P := Tryd.prog) W1 22 22 ty 36 w.heap.size (i * 3) (l0.length + 1 - i) dc ⟨g2, 0, none⟩ 1 c2 ROW 36 3 news Tryd.underlying22 hinfo hWn
      (by rw [hl2n]; congr 1; simp only [Nat.min_def]; split <;> omega)
      (fun j v hj => by
        rw [Addr.add_lit, Nat.zero_add]
        exact (cell_blk ((hWo g2 hgw2).trans hg2)).trans (hcur2 j v hj))
      (by rw [hl2n, ← Nat.add_mul, hs0]; exact Nat.mul_le_mul_right _ (by omega)) hone2
    rw [show Nat.min 1 (l0.length + 1 - i) = 1 from by simp only [Nat.min_def]; split <;> omega] at h
    rw [hC1]; exact h
  have hg1 : (W1.setRow w.heap.size C1.toArray).heap[w.heap.size]? = some (.cells C1.toArray 36 (0, 0)) := setRow_heap W1 w.heap.size ROW C1.toArray 36 (0, 0) hWn
  have hcpB : ∀ (W : World), W.heap = (W1.setRow w.heap.size C1.toArray).heap → ∀ ty dc sc, (Builtin.copy_ #[22, 22] ty #[.slice (some ⟨w.heap.size, (i + 1) * 3, none⟩) (l0.length - i) dc, .slice (some ⟨g, i * 3, none⟩) (l0.length - i) sc]).run Tryd.prog W = .ok (goInt ((l0.length - i : Nat) : Int)) (W.setRow w.heap.size C2.toArray) := fun W hW ty dc sc => by
    have h := run_copy_rowN (P := Tryd.prog) W 22 22 ty 36 w.heap.size ((i + 1) * 3) (l0.length - i) dc ⟨g, i * 3, none⟩ (l0.length - i) sc C1.toArray 36 3 (inner.drop (i * 3)) Tryd.underlying22 hinfo (by rw [hW]; exact hg1)
      (by rw [hdl]; congr 1; simp only [Nat.min_def]; split <;> omega)
      (fun j v hj => by
        rw [List.getElem?_drop] at hj
        rw [Addr.add_lit]
        have h3 : W.heap[g]? = some (.cells cur 36 (0, 0)) := by rw [hW, setRow_other W1 w.heap.size g C1.toArray (by omega), hWo g hgw]; exact hg
        exact (cell_blk h3).trans (hcur _ v hj))
      (by rw [hdl, List.size_toArray, hs1, ← Nat.add_mul]; exact Nat.mul_le_mul_right _ (by omega)) (fun v hv => hone v (List.mem_of_mem_drop hv))
    rw [show Nat.min (l0.length - i) (l0.length - i) = l0.length - i from Nat.min_self _] at h
    rw [hC2]; exact h
  have hw1 : IntKind.i64.wrap ((i : Int) + ((1 : Nat) : Int)) = (i : Int) + 1 := by rw [IntKind.wrap_i64]; omega
  have hw2 : IntKind.i64.wrap ((l0.length : Int) + ((1 : Nat) : Int)) = (l0.length : Int) + 1 := by rw [IntKind.wrap_i64]; omega
  have hw3 : IntKind.i64.wrap ((i : Int) + 1) = (i : Int) + 1 := by rw [IntKind.wrap_i64]; omega
  have hw4 : IntKind.i64.wrap ((l0.length : Int) + 1) = (l0.length : Int) + 1 := by rw [IntKind.wrap_i64]; omega
  have hw5 : IntKind.i64.wrap ((l0.length : Int) + 1 - (i : Int)) = (l0.length : Int) + 1 - (i : Int) := by rw [IntKind.wrap_i64]; omega
  have hb1 : (0 : Int) ≤ (i : Int) + 1 := by omega
  have htn : ((i : Int) + 1).toNat = i + 1 := by omega
  have hz2 : ¬ ((i : Int) = (l0.length : Int)) := by omega
  have hb2 : ¬ (G = i + 1) := by omega
  have hb3 : (i : Int) ≤ (l0.length : Int) + 1 := by omega
  have hb4 : ¬ (c = i) := by omega
  have hb12 : ¬ (G = i) := by omega
  have mixed : Tryd.prog.follows Departure.mixedOrders = true := by kernel_rfl
  have hb10 : i ≤ l0.length + 1 := by omega
  have hb11 : i ≤ c := by omega
  have hb9 : i ≤ l0.length := by omega
  have hb5 : (i : Int) ≤ (l0.length : Int) := by omega
  have hb6 : (c : Int) < (l0.length : Int) + 1 := by omega
  have hbN : w0.heap.size ≤ w.heap.size := hB.size
  have hs2' : C2.toArray.size = G * 3 := by rw [List.size_toArray, hs2]
  rw [← hW1] at hrz
  have hWe : (W1.setRow w.heap.size C1.toArray).drew.heap = (W1.setRow w.heap.size C1.toArray).heap := rfl
  have HWO := Aside0.mk hWo
  have HWB := Aside0.mk hWb
  have HB := Aside0.mk hB
  have HR := Aside0.mk hr
  have HR2 := Aside0.mk hr2
  have HT := Aside0.mk hct
  have HG1 := Aside0.mk hg1
  have HS := Aside0.mk hs2'
  clear hC1 hC2 hdl hcur hcur2 hone hone2 hlin hl2n hti_ hz0_ hz1_ hz2_ hinfo hB hr hr2 hct hg1 hs2' ht ht2 hg hg2 hs hs0 hs1 hs2 hROW hG hW1 hWn hWo hWb
  go_enter Tryd.func73, Tryd.ntmps73
  go_wp2_with (first
    | (at_builtin; refine Lib.wpList_append_run _ rfl _ _ _ _ rfl _ _ rfl rfl _ _ (hrz _) ?_)
    | (at_builtin; refine wpList_copy_runI _ rfl _ _ 22 22 rfl _ _ rfl rfl (hcpA _ _) ?_))
  go_region_law_o (refine step_copy_runI rfl _ _ 22 22 rfl (.slice (some ⟨w.heap.size, (i + 1) * 3, none⟩) (l0.length - i) (G - (i + 1))) (.slice (some ⟨g, i * 3, none⟩) (l0.length - i) (c - i)) (by simp [Act.eval, Act.put]) (by simp [Act.eval, Act.put]) (hcpB (W1.setRow w.heap.size C1.toArray).drew hWe 3 (G - (i + 1)) (c - i)) ?_)
  go_wp2
  go_ret
  have hle : (W1.setRow w.heap.size C1.toArray).heap.size = W1.heap.size := setRow_size _ _ _
  have hG2 := setRow_heap (W1.setRow w.heap.size C1.toArray).drew w.heap.size C1.toArray C2.toArray 36 (0, 0) HG1.out
  have hsame : ∀ k, k < w.heap.size → ((W1.setRow w.heap.size C1.toArray).drew.setRow w.heap.size C2.toArray).heap[k]? = w.heap[k]? := fun k hk => (setRow_other (W1.setRow w.heap.size C1.toArray).drew w.heap.size k _ (by omega)).trans ((setRow_other W1 w.heap.size k _ (by omega)).trans (HWO.out k hk))
  have h := R_put_in (d := k36) (P0_ := P0_) (P2_ := P2_) (w := w) hG2 hbN (.inr (Nat.le_refl _)) (by rw [hl2]; exact hGn) hG63 HS.out hb9 (by rw [hl2]; exact HT.out) (HR.out.imp_ (fun p c hp => Kd.M_mono _ (fun k hk => ⟨hk.1, by omega, hk.2⟩) hp)) (HR2.out.imp_ (fun p c hp => Kd.M_mono _ (fun k hk => ⟨hk.1, by omega, hk.2⟩) hp)) (fun k hk _ => hsame k hk)
  rw [hl2] at h
  have hbel : Below w.heap.size w ((W1.setRow w.heap.size C1.toArray).drew.setRow w.heap.size C2.toArray) := below_setRow (below_drew (below_setRow HWB.out (Nat.le_refl _) _)) (Nat.le_refl _) _
  exact ⟨_, rfl, h, below_step HB.out hbel, Kept.of_below hbel _⟩
set_option maxHeartbeats 4000000 in
set_option maxRecDepth 100000 in
theorem impl_Block_73.atEnd (Ad : Option Addr) (hA : (Ad = none ∧ l0.length = 0 ∧ c = 0) ∨ (Ad = some ⟨g, 0, none⟩ ∧ l0.length ≤ c)) (hbig : (l0.length + 1) * 48 ≤ 140737488355328) (hB : Below w0.heap.size w0 w) (ho0 : Kd.R k36 36 w w0.heap.size P0_ (.slice Ad l0.length c) l0)
    (hr2 : ReadsRow (Kd.M k36 w w0.heap.size (fun k => P2_ k ∧ k < w.heap.size)) 3 w (some ⟨g2, 0, none⟩) 1 l2) (hp : ∀ k_, P0_ k_ → ¬ P2_ k_) :
    Calls Tryd.prog 73 #[.slice Ad l0.length c, .int .i64 (l0.length : Int), .slice (some ⟨g2, 0, none⟩) 1 c2] w fun e w' => ∃ v0_ : Value, e = .returned (v0_) ∧ Kd.R k36 36 w' w0.heap.size (fun k_ => ((P0_ k_ ∨ P2_ k_) ∨ w.heap.size ≤ k_)) v0_ (l0 ++ l2) ∧ Below w0.heap.size w0 w' ∧ Kept w w' (fun k_ => P0_ k_ ∨ P2_ k_) := by
  have HB := Aside0.mk hB
  have HBs := Aside0.mk (hB.size)
  have HO := Aside0.mk ho0
  have HR2 := Aside0.mk hr2
  have HL := Aside0.mk hbig
  clear hB ho0 hr2 hbig
  rcases hA with ⟨rfl, h0, rfl⟩ | ⟨rfl, hc⟩
  · obtain rfl : l0 = [] := List.eq_nil_of_length_eq_zero h0
    clear h0
    go_enter Tryd.func73, Tryd.ntmps73
    go_wp2_with (at_builtin; refine Kd.R_append_rows k36 (Rr := Kd.M k36 w w0.heap.size (fun k => P2_ k ∧ k < w.heap.size)) (w0 := w0) w0.heap.size rfl (.tmp 23) (.tmp 24) 22 36 (.agg #[(.string ⟨#[]⟩), (.string ⟨#[]⟩), (.string ⟨#[]⟩)]) 48 rfl Tryd.underlying22 info36 rfl (by decide) (by omega) (.slice none 0 0) ([] : List (S36)) l2 (some ⟨g2, 0, none⟩) 1 c2 (fun k_ => ((P0_ k_ ∨ P2_ k_) ∨ w.heap.size ≤ k_)) (fun k => P2_ k ∧ k < w.heap.size) rfl rfl ?aO HR2.out (fun _ _ h => h) ?aP (fun k hk => .inr hk) HB.out HBs.out ?aL ?_; (case aO => exact Kd.R_mono HO.out (fun k hk => .inl (.inl hk))); (case aP => exact fun k hk => ⟨.inl (.inr hk.1), fun e_ => hp k (HO.out.1 k e_.symm) hk.1⟩); (case aL => exact HL.out); intro v1 w1 hown hbel hg hat)
    go_ret
    exact ⟨_, rfl, hown, hbel, Kept.of_grown hg (Kept.refl _ _) (fun k hk => .inl (.inl (HO.out.1 k hk)))⟩
  · rcases Nat.eq_or_lt_of_le hc with hc' | hc'
    · subst hc'
      go_enter Tryd.func73, Tryd.ntmps73
      go_wp2_with (at_builtin; refine Kd.R_append_rows k36 (Rr := Kd.M k36 w w0.heap.size (fun k => P2_ k ∧ k < w.heap.size)) (w0 := w0) w0.heap.size rfl (.tmp 23) (.tmp 24) 22 36 (.agg #[(.string ⟨#[]⟩), (.string ⟨#[]⟩), (.string ⟨#[]⟩)]) 48 rfl Tryd.underlying22 info36 rfl (by decide) (by omega) (.slice (some ⟨g, 0, none⟩) l0.length l0.length) l0 l2 (some ⟨g2, 0, none⟩) 1 c2 (fun k_ => ((P0_ k_ ∨ P2_ k_) ∨ w.heap.size ≤ k_)) (fun k => P2_ k ∧ k < w.heap.size) rfl rfl ?aO HR2.out (fun _ _ h => h) ?aP (fun k hk => .inr hk) HB.out HBs.out ?aL ?_; (case aO => exact Kd.R_mono HO.out (fun k hk => .inl (.inl hk))); (case aP => exact fun k hk => ⟨.inl (.inr hk.1), fun e_ => hp k (HO.out.1 k e_.symm) hk.1⟩); (case aL => exact HL.out); intro v1 w1 hown hbel hg hat)
      go_ret
      exact ⟨_, rfl, hown, hbel, Kept.of_grown hg (Kept.refl _ _) (fun k hk => .inl (.inl (HO.out.1 k hk)))⟩
    · have hb2 : ¬ (c = l0.length) := by omega
      go_enter Tryd.func73, Tryd.ntmps73
      go_wp2_with (at_builtin; refine Kd.R_append_rows k36 (Rr := Kd.M k36 w w0.heap.size (fun k => P2_ k ∧ k < w.heap.size)) (w0 := w0) w0.heap.size rfl (.tmp 23) (.tmp 24) 22 36 (.agg #[(.string ⟨#[]⟩), (.string ⟨#[]⟩), (.string ⟨#[]⟩)]) 48 rfl Tryd.underlying22 info36 rfl (by decide) (by omega) (.slice (some ⟨g, 0, none⟩) l0.length c) l0 l2 (some ⟨g2, 0, none⟩) 1 c2 (fun k_ => ((P0_ k_ ∨ P2_ k_) ∨ w.heap.size ≤ k_)) (fun k => P2_ k ∧ k < w.heap.size) rfl rfl ?aO HR2.out (fun _ _ h => h) ?aP (fun k hk => .inr hk) HB.out HBs.out ?aL ?_; (case aO => exact Kd.R_mono HO.out (fun k hk => .inl (.inl hk))); (case aP => exact fun k hk => ⟨.inl (.inr hk.1), fun e_ => hp k (HO.out.1 k e_.symm) hk.1⟩); (case aL => exact HL.out); intro v1 w1 hown hbel hg hat)
      go_ret
      exact ⟨_, rfl, hown, hbel, Kept.of_grown hg (Kept.refl _ _) (fun k hk => .inl (.inl (HO.out.1 k hk)))⟩
end
set_option maxHeartbeats 2000000 in
theorem impl_Block_73.calls (P0_ : Nat → Prop) (u9000_ : Value) (l0 : List (S36)) (a1 : Int) (P2_ : Nat → Prop) (u9001_ : Value) (l2 : List (S36)) (r : List (S36)) (w0 w : World) (hB : Below w0.heap.size w0 w) (ho0 : Kd.R k36 36 w w0.heap.size P0_ u9000_ l0) (hp0_2 : ∀ k_, P0_ k_ → ¬ P2_ k_) (ho2 : Kd.R k36 36 w w0.heap.size P2_ u9001_ l2) (hp2_0 : ∀ k_, P2_ k_ → ¬ P0_ k_) (h : impl_Block_73.f l0 a1 l2 = some r) :
    Calls Tryd.prog 73 #[u9000_, .int .i64 a1, u9001_] w fun e w' => ∃ v0_ : Value, e = .returned (v0_) ∧ Kd.R k36 36 w' w0.heap.size (fun k_ => ((P0_ k_ ∨ P2_ k_) ∨ w.heap.size ≤ k_)) v0_ r ∧ Below w0.heap.size w0 w' ∧ Kept w w' (fun k_ => P0_ k_ ∨ P2_ k_) := by
  unfold impl_Block_73.f at h
  split at h
  · rename_i hc
    obtain ⟨h0, h1, hl2, hbig⟩ := hc
    obtain rfl := Option.some.inj h
    clear h
    obtain ⟨i, rfl⟩ : ∃ i : Nat, a1 = (i : Int) := ⟨a1.toNat, by omega⟩
    rw [Int.toNat_natCast]
    have hi : i ≤ l0.length := by omega
    obtain ⟨g2, cap2, cur2, news, rfl, hb2, hok2, hg2, hc2, hm2, hs2, ht2, hr2⟩ := R_parts ho2 (by omega)
    rw [hl2] at ht2 hc2 ⊢
    rcases Nat.lt_or_ge i l0.length with hlt | hge
    · obtain ⟨g, cap, cur, inner, rfl, hb, hok, hg, hc, hm, hs, ht, hr⟩ := R_parts ho0 (by omega)
      have hne : g2 ≠ g := fun e_ => hp0_2 g hok (e_ ▸ hok2)
      rcases Nat.lt_or_ge cap (l0.length + 1) with hroom | hroom
      · exact impl_Block_73.grow P0_ P2_ i cap g g2 cap2 cur cur2 inner news l0 l2 w0 w hlt hl2 hbig hB hg hc hroom hm hs ht (hr.imp_ (fun p c hp => Kd.M_mono _ (fun k hk => ⟨hk.1, hk.2.2⟩) hp)) hg2 ht2 (hr2.imp_ (fun p c hp => Kd.M_mono _ (fun k hk => ⟨hk.1, hk.2.2⟩) hp))
      · exact impl_Block_73.shift P0_ P2_ i cap g g2 cap2 cur cur2 inner news l0 l2 w0 w hlt hl2 hB hb hok hg hroom hm hs ht hr hne hg2 ht2 (hr2.imp_ (fun p c hp => Kd.M_mono _ (fun k hk => ⟨hk.1, fun e_ => hp0_2 g hok (e_ ▸ hk.1), hk.2.2⟩) hp))
    · obtain rfl : i = l0.length := by omega
      rw [List.take_length, List.drop_length, List.append_nil]
      obtain ⟨hok2', inner2, hown2, hrr2⟩ := ho2
      obtain ⟨A2, c2', e2, hread⟩ := own_reads_row (R := Kd.M k36 w w0.heap.size (fun k => P2_ k ∧ k < w.heap.size)) hown2 (hrr2.imp_ (fun p c hp => Kd.M_mono _ (fun k hk => ⟨hk.1.1, hk.2.2.1⟩) (Kd.M_bound _ hp))) rfl
      injection e2 with e2a e2b e2c
      subst e2a
      rw [hl2] at hread
      have hform : ∃ Ad c g, u9000_ = .slice Ad l0.length c ∧ ((Ad = none ∧ l0.length = 0 ∧ c = 0) ∨ (Ad = some ⟨g, 0, none⟩ ∧ l0.length ≤ c)) := by
        obtain ⟨inner, ho⟩ := Kd.R_own ho0
        rcases ho.2 with ⟨hv, h0⟩ | ⟨g, cap, cur, hv, _, _, hc, _⟩
        · exact ⟨none, 0, 0, by rw [hv, h0], .inl ⟨rfl, h0, rfl⟩⟩
        · exact ⟨_, cap, g, hv, .inr ⟨rfl, hc⟩⟩
      obtain ⟨Ad, c, g, rfl, hA⟩ := hform
      exact impl_Block_73.atEnd P0_ P2_ c g g2 cap2 l0 l2 w0 w Ad hA hbig hB ho0 hread hp0_2
  · cases h
/-! ### impl_putBlock: function 44 -/
def impl_putBlock.f (k : Nat) (l0 : List (S36)) (a1_0 : ByteArray) (a1_1 : ByteArray) (a1_2 : ByteArray) : Option ((List (S36))) := (impl_Block_71.f l0).bind fun t250 => ((impl_blockAt.f k t250 a1_0 a1_1 a1_2).bind fun bt253 => (if bt253.2 = true then (if 0 ≤ bt253.1 then (if bt253.1 < (t250.length : Int) then (some (t250.set (bt253.1 : Int).toNat (⟨a1_0, a1_1, a1_2⟩ : S36))) else (none)) else (none)) else ((impl_Block_73.f t250 bt253.1 (([(⟨a1_0, a1_1, a1_2⟩ : S36)] : List (S36)))).bind fun t259 => (some t259))))
set_option maxHeartbeats 8000000 in
set_option maxRecDepth 100000 in
theorem impl_putBlock.calls (k : Nat) (A0 : Option Addr) (c0 : Nat) (l0 : List (S36)) (a1_0 : ByteArray) (a1_1 : ByteArray) (a1_2 : ByteArray) (r : List (S36)) (w : World) (hr0 : Kd.C k36 w A0 l0.length l0) (hc0 : l0.length ≤ c0) (h : impl_putBlock.f k l0 a1_0 a1_1 a1_2 = some r) :
    Calls Tryd.prog 44 #[.slice A0 l0.length c0, .agg #[.string a1_0, .string a1_1, .string a1_2]] w fun e w' => ∃ v0_ : Value, e = .returned (v0_) ∧ Kd.R k36 36 w' w.heap.size (fun _ => True) v0_ r ∧ Below w.heap.size w w' := by
  have hu36 := Tryd.underlying36
  have HR0 := Aside0.mk hr0
  have HC0 := Aside0.mk hc0
  clear hr0 hc0
  have HB := Aside0.mk (Below.refl w.heap.size w)
  have H : ((impl_Block_71.f l0).bind fun t250 => ((impl_blockAt.f k t250 a1_0 a1_1 a1_2).bind fun bt253 => (if bt253.2 = true then (if 0 ≤ bt253.1 then (if bt253.1 < (t250.length : Int) then (some (t250.set (bt253.1 : Int).toNat (⟨a1_0, a1_1, a1_2⟩ : S36))) else (none)) else (none)) else ((impl_Block_73.f t250 bt253.1 (([(⟨a1_0, a1_1, a1_2⟩ : S36)] : List (S36)))).bind fun t259 => (some t259))))) = some r := h
  clear h
  replace H := Option.bind_eq_some_iff.mp H
  obtain ⟨t250, A30, H⟩ := H
  replace H : ((impl_blockAt.f k t250 a1_0 a1_1 a1_2).bind fun bt253 => (if bt253.2 = true then (if 0 ≤ bt253.1 then (if bt253.1 < (t250.length : Int) then (some (t250.set (bt253.1 : Int).toNat (⟨a1_0, a1_1, a1_2⟩ : S36))) else (none)) else (none)) else ((impl_Block_73.f t250 bt253.1 (([(⟨a1_0, a1_1, a1_2⟩ : S36)] : List (S36)))).bind fun t259 => (some t259)))) = some r := H
  have A3 := Aside0.mk A30
  clear A30
  replace H := Option.bind_eq_some_iff.mp H
  obtain ⟨⟨t253, t254⟩, A40, H⟩ := H
  replace H : (if t254 = true then (if 0 ≤ t253 then (if t253 < (t250.length : Int) then (some (t250.set (t253 : Int).toNat (⟨a1_0, a1_1, a1_2⟩ : S36))) else (none)) else (none)) else ((impl_Block_73.f t250 t253 (([(⟨a1_0, a1_1, a1_2⟩ : S36)] : List (S36)))).bind fun t259 => (some t259))) = some r := H
  have A4 := Aside0.mk A40
  clear A40
  by_cases c5 : t254 = true
  · subst c5
    have H1 : (if 0 ≤ t253 then (if t253 < (t250.length : Int) then (some (t250.set (t253 : Int).toNat (⟨a1_0, a1_1, a1_2⟩ : S36))) else (none)) else (none)) = some r := by rw [if_pos rfl] at H; exact H
    clear H
    have H := H1
    clear H1
    by_cases c6 : 0 ≤ t253
    · rw [if_pos c6] at H
      have c6b0 : decide (0 ≤ t253) = true := decide_eq_true c6
      clear c6
      by_cases c7 : t253 < (t250.length : Int)
      · rw [if_pos c7] at H
        have c7b0 : decide (t253 < (t250.length : Int)) = true := decide_eq_true c7
        clear c7
        obtain ⟨y255, hy255⟩ : ∃ y_ : List (S36), y_ = (t250.set (t253 : Int).toNat (⟨a1_0, a1_1, a1_2⟩ : S36)) := ⟨_, rfl⟩
        replace H : (some y255) = some r := by first | (rw [hy255]; with_reducible exact H) | (have H2_ := (Option.bind_some _ _).symm.trans H; rw [hy255]; with_reducible exact H2_) | (have H2_ := (Option.bind_some _ _).symm.trans H; with_reducible exact H2_) | with_reducible exact H | (rw [hy255]; exact H) | exact H
        have Ny255 := Aside0.mk hy255
        clear hy255
        obtain rfl := Option.some.inj H
        go_enter Tryd.func44, Tryd.ntmps44
        go_wp2_with (first | ((with_reducible refine gate_dst (N := 3) rfl ?_); refine box_event ?hg (N := 3) ?hd (cs := #[.string a1_0, .string a1_1, .string a1_2]) (t := 36) ?hr ?_; (case hd => rfl); (case hg => rfl); (case hr => first | (go_simp; done) | (go_simp; rfl)); intro gb249 hg w9 hbox hb; have n0_ := Aside0.mk (below_step (by repeat (first | (with_reducible first | exact HB.out | apply below_alloc | apply pw_below_drewN | apply below_drew1) | exact HB.out)) hb); have n1_ := Aside0.mk (hbox); have n2_ := Aside0.mk ((by rw [hg]; exact (below_size (by repeat (first | (with_reducible first | exact HB.out | apply below_alloc | apply pw_below_drewN | apply below_drew1) | exact HB.out))) : w.heap.size ≤ gb249)); have n3_ := Aside0.mk ((by rw [hg]; exact (below_size (by repeat (first | (with_reducible first | exact HB.out | apply below_alloc | apply pw_below_drewN | apply below_drew1) | exact HB.out))) : w.heap.size ≤ gb249)); clear HB; have HB := n0_; have BK249 := n1_; have GW249 := n2_; have GE249 := n3_; clear n0_ n1_ n2_ n3_; clear hb hbox hg) | ((with_reducible refine gate_callee (f := 71) rfl ?_); refine goesL_ (some 9) rfl rfl Tryd.func71 (by kernel_rfl) rfl #[.slice A0 l0.length c0] rfl (by (try simp only [List.map_toArray, List.map_cons, List.map_nil]); first | done | rfl | (simp only [List.length_drop, List.length_take]; rfl)) ?_; (with_reducible refine (impl_Block_71.calls _ _ l0 t250 _ ?side1 ?side2 A3.out).mono ?_); (case side1 => repeat (first | exact (Kd.C_below HR0.out HB.out) | (with_reducible refine Kd.C_alloc ?_ _) | (with_reducible refine Kd.C_drewN ?_ _) | (with_reducible refine Kd.C_drew ?_))); (case side2 => exact HC0.out); rintro e w10 ⟨v251, rfl, ho0, hb⟩; refine ⟨_, rfl, ?_⟩; have n0_ := Aside0.mk (Kd.R_lower (Kd.R_newB ho0 (g := gb249) (o := .cells #[.string a1_0, .string a1_1, .string a1_2] 36 (0, 0)) (by (with_reducible repeat (first | refine blk_drewN ?_ _ | refine blk_drew ?_ | refine blk_alloc ?_ _)); exact BK249.out)) (below_size (by repeat (first | (with_reducible first | exact HB.out | apply below_alloc | apply pw_below_drewN | apply below_drew1 | refine below_set ?_ GE249.out) | exact HB.out)))); have n1_ := Aside0.mk (blk_below (g := gb249) (o := .cells #[.string a1_0, .string a1_1, .string a1_2] 36 (0, 0)) (by (with_reducible repeat (first | refine blk_drewN ?_ _ | refine blk_drew ?_ | refine blk_alloc ?_ _)); exact BK249.out) hb); have n2_ := Aside0.mk (below_step (by repeat (first | (with_reducible first | exact HB.out | apply below_alloc | apply pw_below_drewN | apply below_drew1 | refine below_set ?_ GE249.out) | exact HB.out)) hb); clear BK249; clear HB; have HO252 := n0_; have BK249 := n1_; have HB := n2_; clear n0_ n1_ n2_; (try clear hb); (try clear hb2); (try clear hk); (try clear hi); (try clear ho0); have hcz11_0 : w10.cell? ⟨gb249, 0, none⟩ = some (.string a1_0) := (blk_cell BK249.out 0).trans rfl; have hcz11_1 : w10.cell? ⟨gb249, 1, none⟩ = some (.string a1_1) := (blk_cell BK249.out 1).trans rfl; have hcz11_2 : w10.cell? ⟨gb249, 2, none⟩ = some (.string a1_2) := (blk_cell BK249.out 2).trans rfl; have hfz11_0 := blk_frozen BK249.out 0; have hfz11_1 := blk_frozen BK249.out 1; have hfz11_2 := blk_frozen BK249.out 2; obtain ⟨Ao12, co12, eo12⟩ := Kd.R_slice HO252.out; subst eo12) | ((with_reducible refine gate_callee (f := 72) rfl ?_); refine goesL_ (some 13) rfl rfl Tryd.func72 (by kernel_rfl) rfl #[.slice Ao12 t250.length co12, .agg #[.string a1_0, .string a1_1, .string a1_2]] rfl (by (try simp only [List.map_toArray, List.map_cons, List.map_nil]); first | done | rfl | (simp only [List.length_drop, List.length_take]; rfl)) ?_; (with_reducible refine (impl_blockAt.calls k _ _ t250 a1_0 a1_1 a1_2 t253 true _ ?side1 ?side2 A4.out).mono ?_); (case side1 => repeat (first | exact (Kd.R_reads' HO252.out).2.2 | (with_reducible refine Kd.C_alloc ?_ _) | (with_reducible refine Kd.C_drewN ?_ _) | (with_reducible refine Kd.C_drew ?_))); (case side2 => exact (Kd.R_reads' HO252.out).2.1); rintro e w13 ⟨rfl, hb⟩; refine ⟨_, rfl, ?_⟩; have n0_ := Aside0.mk (Kd.R_below (by (with_reducible repeat (first | apply Kd.R_alloc | apply Kd.R_drewN | apply Kd.R_drew)); exact HO252.out) hb); have n1_ := Aside0.mk (blk_below (g := gb249) (o := .cells #[.string a1_0, .string a1_1, .string a1_2] 36 (0, 0)) (by (with_reducible repeat (first | refine blk_drewN ?_ _ | refine blk_drew ?_ | refine blk_alloc ?_ _)); exact BK249.out) hb); have n2_ := Aside0.mk (below_step (by repeat (first | (with_reducible first | exact HB.out | apply below_alloc | apply pw_below_drewN | apply below_drew1 | refine below_set ?_ GE249.out) | exact HB.out)) hb); clear HO252; clear BK249; clear HB; have HO252 := n0_; have BK249 := n1_; have HB := n2_; clear n0_ n1_ n2_; (try clear hb); (try clear hb2); (try clear hk); (try clear hi); have hcz14_0 : w13.cell? ⟨gb249, 0, none⟩ = some (.string a1_0) := (blk_cell BK249.out 0).trans rfl; have hcz14_1 : w13.cell? ⟨gb249, 1, none⟩ = some (.string a1_1) := (blk_cell BK249.out 1).trans rfl; have hcz14_2 : w13.cell? ⟨gb249, 2, none⟩ = some (.string a1_2) := (blk_cell BK249.out 2).trans rfl; have hfz14_0 := blk_frozen BK249.out 0; have hfz14_1 := blk_frozen BK249.out 1; have hfz14_2 := blk_frozen BK249.out 2; have p8 : 0 ≤ (t253 : Int) := of_decide_eq_true (by first | (with_reducible assumption) | assumption); have q8 : (t253 : Int) < ((t250.length : Int) : Int) := of_decide_eq_true (by first | (with_reducible assumption) | assumption); obtain ⟨go8, co8, eo8, gb8, gl8, cl8, HG8⟩ := Kd.R_form HO252.out (by omega); (first | cases eo8 | (injection eo8 with ea_ en_ ec_; (first | subst ea_ | (injection ea_ with ea_; subst ea_)); subst ec_; clear en_)); have GB8 := Aside0.mk gb8; have GG8 := Aside0.mk HG8; clear gb8 gl8 HG8; obtain ⟨ce8, hcl8, hM8, hcc8, hfr8⟩ := Kd.R_elem HO252.out z36 (t253 : Int) p8 q8; obtain rfl := k36_openM hM8; have hx8_0 : w13.cell? ⟨go8, (t253 : Int).toNat * 3, none⟩ = some (.string ((rd_T36 t250 t253).f0)) := hcc8 0 _ rfl; have hx8_1 : w13.cell? ⟨go8, (t253 : Int).toNat * 3 + 1, none⟩ = some (.string ((rd_T36 t250 t253).f1)) := hcc8 1 _ rfl; have hx8_2 : w13.cell? ⟨go8, (t253 : Int).toNat * 3 + 2, none⟩ = some (.string ((rd_T36 t250 t253).f2)) := hcc8 2 _ rfl; have hf8_0 : w13.frozen? ⟨go8, (t253 : Int).toNat * 3, none⟩ = false := hfr8 0; have hf8_1 : w13.frozen? ⟨go8, (t253 : Int).toNat * 3 + 1, none⟩ = false := hfr8 1; have hf8_2 : w13.frozen? ⟨go8, (t253 : Int).toNat * 3 + 2, none⟩ = false := hfr8 2; clear hcl8 hcc8 hfr8 hM8; replace p8 := eq_true p8; replace q8 := eq_true q8; have n_ := Aside0.mk (Kd.R_mono (ok' := (fun k_ => k_ ≠ gb249)) HO252.out (fun k_ hk => hk.2)); clear HO252; have HO252 := n_; clear n_; have HX15 := Aside0.mk (show Kd.R k36 36 w13 w.heap.size (fun k_ => k_ ≠ gb249) (.slice (some ⟨go8, 0, none⟩) t250.length co12) t250 from (by (with_reducible repeat (first | apply Kd.R_alloc | apply Kd.R_drewN | apply Kd.R_drew)); exact HO252.out)); obtain ⟨ce15, hcl15, hM15, hcc15, hfr15⟩ := Kd.R_elem HX15.out z36 (t253 : Int) (of_decide_eq_true (by first | (with_reducible assumption) | assumption)) (by have h_ : (t253 : Int) < ((t250.length : Int) : Int) := of_decide_eq_true (by first | (with_reducible assumption) | assumption); first | exact h_ | (have e_ := (Kd.R_reads' HO252.out).1; omega) | simpa using h_); obtain rfl := k36_openM hM15; have HP15 := Kd.R_seg HX15.out (t253 : Int) (of_decide_eq_true (by first | (with_reducible assumption) | assumption)) (by have h_ : (t253 : Int) < ((t250.length : Int) : Int) := of_decide_eq_true (by first | (with_reducible assumption) | assumption); first | exact h_ | (have e_ := (Kd.R_reads' HO252.out).1; omega) | simpa using h_) (seg := [.string a1_0, .string a1_1, .string a1_2]) (j := 0) hcl15 hcc15 (show 3 ≤ 3 from by decide) (x' := (⟨a1_0, a1_1, a1_2⟩ : S36)) (k36_mkM _ _ _ (⟨a1_0, a1_1, a1_2⟩ : S36) ) (fun _ hk => hk); have hx15_0 := hcc15 0 _ rfl; (try simp only [show (k36).sz = 3 from rfl, Nat.mul_one, Nat.add_zero] at hx15_0); have hf15_0 := hfr15 0; (try simp only [show (k36).sz = 3 from rfl, Nat.mul_one, Nat.add_zero] at hf15_0); have hx15_1 := hcc15 1 _ rfl; (try simp only [show (k36).sz = 3 from rfl, Nat.mul_one, Nat.add_zero] at hx15_1); have hf15_1 := hfr15 1; (try simp only [show (k36).sz = 3 from rfl, Nat.mul_one, Nat.add_zero] at hf15_1); have hx15_2 := hcc15 2 _ rfl; (try simp only [show (k36).sz = 3 from rfl, Nat.mul_one, Nat.add_zero] at hx15_2); have hf15_2 := hfr15 2; (try simp only [show (k36).sz = 3 from rfl, Nat.mul_one, Nat.add_zero] at hf15_2); clear hcl15 hcc15 hfr15 hM15) | ((with_reducible refine gate_store (t := 36) (p := 20) rfl ?_); refine store_event (t := 36) (p := 20) (v := ?vo_w16) (w1 := (((w13.setCell ⟨go8, (t253 : Int).toNat * 3, none⟩ (.string a1_0)).setCell ⟨go8, (t253 : Int).toNat * 3 + 1, none⟩ (.string a1_1)).setCell ⟨go8, (t253 : Int).toNat * 3 + 2, none⟩ (.string a1_2))) ?hg ?ho ?hn ?hr ?_; (case ho => rfl); (case hg => rfl); (case hn => rfl); (case hr => first | (go_simp; done) | (go_simp; rfl)); intro w16 hw; have hg : w13.grownBy w16 (some go8) := (by rw [hw]; exact HP15.2); have hp_ : Kd.R k36 36 w16 w.heap.size (fun k_ => k_ ≠ gb249) (.slice (some ⟨go8, 0, none⟩) t250.length co12) y255 := (by rw [hw, Ny255.out]; exact HP15.1); clear HP15; have n0_ := Aside0.mk (blk_grown (g := gb249) (o := .cells #[.string a1_0, .string a1_1, .string a1_2] 36 (0, 0)) (by (with_reducible repeat (first | refine blk_drewN ?_ _ | refine blk_drew ?_ | refine blk_alloc ?_ _)); exact BK249.out) hg (Kd.R_away HO252.out (fun _ hk => hk))); have n1_ := Aside0.mk (hp_); have n2_ := Aside0.mk ((by rw [hw]; exact below_set (below_set (below_set (HB.out) GB8.out) GB8.out) GB8.out : Below w.heap.size w w16)); clear BK249; clear HO252; clear HB; have BK249 := n0_; have HO252 := n1_; have HB := n2_; clear n0_ n1_ n2_; clear hg hw hp_))
        go_ret
        exact ⟨_, by first | rfl | (simp [errW_none, errW_some] <;> rfl) | (simp [*, errW_none, errW_some] <;> rfl), by (with_reducible repeat (first | apply Kd.R_alloc | apply Kd.R_drewN | apply Kd.R_drew)); exact Kd.R_mono HO252.out (fun _ hk => trivial), by repeat (first | (with_reducible first | exact HB.out | apply below_alloc | apply pw_below_drewN | apply below_drew1 | refine below_set ?_ GE249.out) | exact HB.out)⟩
      · rw [if_neg c7] at H
        exact absurd H (by simp)
    · rw [if_neg c6] at H
      exact absurd H (by simp)
  · replace c5 := Bool.eq_false_iff.mpr c5
    subst c5
    have H1 : ((impl_Block_73.f t250 t253 (([(⟨a1_0, a1_1, a1_2⟩ : S36)] : List (S36)))).bind fun t259 => (some t259)) = some r := by rw [if_neg (show ¬ (false = true) by decide)] at H; exact H
    clear H
    have H := H1
    clear H1
    obtain ⟨y256, hy256⟩ : ∃ y_ : List (S36), y_ = (([(⟨a1_0, a1_1, a1_2⟩ : S36)] : List (S36))) := ⟨_, rfl⟩
    replace H : ((impl_Block_73.f t250 t253 y256).bind fun t259 => (some t259)) = some r := by first | (rw [hy256]; with_reducible exact H) | (have H2_ := (Option.bind_some _ _).symm.trans H; rw [hy256]; with_reducible exact H2_) | (have H2_ := (Option.bind_some _ _).symm.trans H; with_reducible exact H2_) | with_reducible exact H | (rw [hy256]; exact H) | exact H
    have Ny256 := Aside0.mk hy256
    clear hy256
    replace H := Option.bind_eq_some_iff.mp H
    obtain ⟨t259, A170, H⟩ := H
    replace H : (some t259) = some r := H
    have A17 := Aside0.mk A170
    clear A170
    obtain rfl := Option.some.inj H
    go_enter Tryd.func44, Tryd.ntmps44
    go_wp2_with (first | ((with_reducible refine gate_dst (N := 3) rfl ?_); refine box_event ?hg (N := 3) ?hd (cs := #[.string a1_0, .string a1_1, .string a1_2]) (t := 36) ?hr ?_; (case hd => rfl); (case hg => rfl); (case hr => first | (go_simp; done) | (go_simp; rfl)); intro gb249 hg w18 hbox hb; have n0_ := Aside0.mk (below_step (by repeat (first | (with_reducible first | exact HB.out | apply below_alloc | apply pw_below_drewN | apply below_drew1) | exact HB.out)) hb); have n1_ := Aside0.mk (hbox); have n2_ := Aside0.mk ((by rw [hg]; exact (below_size (by repeat (first | (with_reducible first | exact HB.out | apply below_alloc | apply pw_below_drewN | apply below_drew1) | exact HB.out))) : w.heap.size ≤ gb249)); have n3_ := Aside0.mk ((by rw [hg]; exact (below_size (by repeat (first | (with_reducible first | exact HB.out | apply below_alloc | apply pw_below_drewN | apply below_drew1) | exact HB.out))) : w.heap.size ≤ gb249)); clear HB; have HB := n0_; have BK249 := n1_; have GW249 := n2_; have GE249 := n3_; clear n0_ n1_ n2_ n3_; clear hb hbox hg) | ((with_reducible refine gate_callee (f := 71) rfl ?_); refine goesL_ (some 9) rfl rfl Tryd.func71 (by kernel_rfl) rfl #[.slice A0 l0.length c0] rfl (by (try simp only [List.map_toArray, List.map_cons, List.map_nil]); first | done | rfl | (simp only [List.length_drop, List.length_take]; rfl)) ?_; (with_reducible refine (impl_Block_71.calls _ _ l0 t250 _ ?side1 ?side2 A3.out).mono ?_); (case side1 => repeat (first | exact (Kd.C_below HR0.out HB.out) | (with_reducible refine Kd.C_alloc ?_ _) | (with_reducible refine Kd.C_drewN ?_ _) | (with_reducible refine Kd.C_drew ?_))); (case side2 => exact HC0.out); rintro e w19 ⟨v251, rfl, ho0, hb⟩; refine ⟨_, rfl, ?_⟩; have n0_ := Aside0.mk (Kd.R_lower (Kd.R_newB ho0 (g := gb249) (o := .cells #[.string a1_0, .string a1_1, .string a1_2] 36 (0, 0)) (by (with_reducible repeat (first | refine blk_drewN ?_ _ | refine blk_drew ?_ | refine blk_alloc ?_ _)); exact BK249.out)) (below_size (by repeat (first | (with_reducible first | exact HB.out | apply below_alloc | apply pw_below_drewN | apply below_drew1 | refine below_set ?_ GE249.out) | exact HB.out)))); have n1_ := Aside0.mk (blk_below (g := gb249) (o := .cells #[.string a1_0, .string a1_1, .string a1_2] 36 (0, 0)) (by (with_reducible repeat (first | refine blk_drewN ?_ _ | refine blk_drew ?_ | refine blk_alloc ?_ _)); exact BK249.out) hb); have n2_ := Aside0.mk (below_step (by repeat (first | (with_reducible first | exact HB.out | apply below_alloc | apply pw_below_drewN | apply below_drew1 | refine below_set ?_ GE249.out) | exact HB.out)) hb); clear BK249; clear HB; have HO252 := n0_; have BK249 := n1_; have HB := n2_; clear n0_ n1_ n2_; (try clear hb); (try clear hb2); (try clear hk); (try clear hi); (try clear ho0); have hcz20_0 : w19.cell? ⟨gb249, 0, none⟩ = some (.string a1_0) := (blk_cell BK249.out 0).trans rfl; have hcz20_1 : w19.cell? ⟨gb249, 1, none⟩ = some (.string a1_1) := (blk_cell BK249.out 1).trans rfl; have hcz20_2 : w19.cell? ⟨gb249, 2, none⟩ = some (.string a1_2) := (blk_cell BK249.out 2).trans rfl; have hfz20_0 := blk_frozen BK249.out 0; have hfz20_1 := blk_frozen BK249.out 1; have hfz20_2 := blk_frozen BK249.out 2; obtain ⟨Ao21, co21, eo21⟩ := Kd.R_slice HO252.out; subst eo21) | ((with_reducible refine gate_callee (f := 72) rfl ?_); refine goesL_ (some 13) rfl rfl Tryd.func72 (by kernel_rfl) rfl #[.slice Ao21 t250.length co21, .agg #[.string a1_0, .string a1_1, .string a1_2]] rfl (by (try simp only [List.map_toArray, List.map_cons, List.map_nil]); first | done | rfl | (simp only [List.length_drop, List.length_take]; rfl)) ?_; (with_reducible refine (impl_blockAt.calls k _ _ t250 a1_0 a1_1 a1_2 t253 false _ ?side1 ?side2 A4.out).mono ?_); (case side1 => repeat (first | exact (Kd.R_reads' HO252.out).2.2 | (with_reducible refine Kd.C_alloc ?_ _) | (with_reducible refine Kd.C_drewN ?_ _) | (with_reducible refine Kd.C_drew ?_))); (case side2 => exact (Kd.R_reads' HO252.out).2.1); rintro e w22 ⟨rfl, hb⟩; refine ⟨_, rfl, ?_⟩; have n0_ := Aside0.mk (Kd.R_below (by (with_reducible repeat (first | apply Kd.R_alloc | apply Kd.R_drewN | apply Kd.R_drew)); exact HO252.out) hb); have n1_ := Aside0.mk (blk_below (g := gb249) (o := .cells #[.string a1_0, .string a1_1, .string a1_2] 36 (0, 0)) (by (with_reducible repeat (first | refine blk_drewN ?_ _ | refine blk_drew ?_ | refine blk_alloc ?_ _)); exact BK249.out) hb); have n2_ := Aside0.mk (below_step (by repeat (first | (with_reducible first | exact HB.out | apply below_alloc | apply pw_below_drewN | apply below_drew1 | refine below_set ?_ GE249.out) | exact HB.out)) hb); clear HO252; clear BK249; clear HB; have HO252 := n0_; have BK249 := n1_; have HB := n2_; clear n0_ n1_ n2_; (try clear hb); (try clear hb2); (try clear hk); (try clear hi); have hcz23_0 : w22.cell? ⟨gb249, 0, none⟩ = some (.string a1_0) := (blk_cell BK249.out 0).trans rfl; have hcz23_1 : w22.cell? ⟨gb249, 1, none⟩ = some (.string a1_1) := (blk_cell BK249.out 1).trans rfl; have hcz23_2 : w22.cell? ⟨gb249, 2, none⟩ = some (.string a1_2) := (blk_cell BK249.out 2).trans rfl; have hfz23_0 := blk_frozen BK249.out 0; have hfz23_1 := blk_frozen BK249.out 1; have hfz23_2 := blk_frozen BK249.out 2) | ((with_reducible refine gate_dst (N := 25) rfl ?_); refine Kd.R_lit k36 _ 36 ?hg (N := 25) ?hd (xs := ([(⟨a1_0, a1_1, a1_2⟩ : S36)] : List (S36))) (inner := [.string a1_0, .string a1_1, .string a1_2]) (ok := fun _ => True) (okp := fun _ => True) ?hr ?hp (fun _ hk => hk) trivial (Below.refl _ _) (Nat.le_refl _) (by simp) ?_; (case hd => rfl); (case hg => rfl); (case hr => first | (go_simp; done) | (go_simp; rfl)); (case hp => exact (Reps.c3 (show Kd.M k36 _ _ _ (⟨a1_0, a1_1, a1_2⟩ : S36) [.string a1_0, .string a1_1, .string a1_2] from (k36_mkM _ _ _ (⟨a1_0, a1_1, a1_2⟩ : S36) )) (Reps.none _ _))); intro v257 w24 ho25 hb hg_ hnew_; clear hg_ hnew_; (first | rw [← Ny256.out] at ho25 | (simp only [Int.reduceToNat] at ho25; rw [← Ny256.out] at ho25)); have n0_ := Aside0.mk (Kd.R_elder' (by (with_reducible repeat (first | apply Kd.R_alloc | apply Kd.R_drewN | apply Kd.R_drew)); exact HO252.out) (Kd.R_base ho25) hb); have n1_ := Aside0.mk (Kd.R_lower (Kd.R_newB (Kd.R_new' ho25 (Kd.R_lt (by (with_reducible repeat (first | apply Kd.R_alloc | apply Kd.R_drewN | apply Kd.R_drew)); exact HO252.out))) (g := gb249) (o := .cells #[.string a1_0, .string a1_1, .string a1_2] 36 (0, 0)) (by (with_reducible repeat (first | refine blk_drewN ?_ _ | refine blk_drew ?_ | refine blk_alloc ?_ _)); exact BK249.out)) (below_size (by repeat (first | (with_reducible first | exact HB.out | apply below_alloc | apply pw_below_drewN | apply below_drew1 | refine below_set ?_ GE249.out) | exact HB.out)))); have n2_ := Aside0.mk (blk_below (g := gb249) (o := .cells #[.string a1_0, .string a1_1, .string a1_2] 36 (0, 0)) (by (with_reducible repeat (first | refine blk_drewN ?_ _ | refine blk_drew ?_ | refine blk_alloc ?_ _)); exact BK249.out) hb); have n3_ := Aside0.mk (below_step (by repeat (first | (with_reducible first | exact HB.out | apply below_alloc | apply pw_below_drewN | apply below_drew1 | refine below_set ?_ GE249.out) | exact HB.out)) hb); clear HO252; clear BK249; clear HB; have HO252 := n0_; have HO258 := n1_; have BK249 := n2_; have HB := n3_; clear n0_ n1_ n2_ n3_; clear hb ho25; obtain ⟨Ao26, co26, eo26⟩ := Kd.R_slice HO258.out; subst eo26) | ((with_reducible refine gate_callee (f := 73) rfl ?_); refine goesL_ (some 26) rfl rfl Tryd.func73 (by kernel_rfl) rfl #[.slice Ao21 t250.length co21, .int .i64 t253, .slice Ao26 y256.length co26] rfl (by (try simp only [List.map_toArray, List.map_cons, List.map_nil]); first | done | rfl | (simp only [List.length_drop, List.length_take]; rfl)) ?_; (with_reducible refine (impl_Block_73.calls (fun k_ => some k_ = (.slice Ao21 t250.length co21 : Value).ownBlock) (.slice Ao21 t250.length co21) t250 t253 (fun k_ => some k_ = (.slice Ao26 y256.length co26 : Value).ownBlock) (.slice Ao26 y256.length co26) y256 t259 w _ ?side1 ?side2 ?side3 ?side4 ?side5 A17.out).mono ?_); (case side1 => repeat (first | (with_reducible first | exact HB.out | apply below_alloc | apply pw_below_drewN | apply below_drew1 | refine below_set ?_ GE249.out) | exact HB.out)); (case side2 => exact Kd.R_tight rfl HO252.out); (case side3 => exact fun k_ e_ => (HO252.out.1 k_ e_.symm).2); (case side4 => exact Kd.R_tight rfl HO258.out); (case side5 => exact fun k_ e_ => (HO258.out.1 k_ e_.symm).1.2); rintro e w27 ⟨v260, rfl, ho0, hb, hkp⟩; refine ⟨_, rfl, ?_⟩; have n0_ := Aside0.mk (blk_kept (by (with_reducible repeat (first | refine blk_drewN ?_ _ | refine blk_drew ?_ | refine blk_alloc ?_ _)); exact BK249.out) hkp (fun hs_ => Or.elim hs_ (fun e_ => (fun e_ => (Kd.R_away HO252.out (fun _ hk => hk.1.2)) e_) e_) (fun e_ => (fun e_ => (Kd.R_away HO258.out (fun _ hk => hk.2)) e_) e_))); have n1_ := Aside0.mk (Kd.R_mono (ok' := fun k_ => k_ ≠ gb249) ho0 (fun k_ hk_ => Or.elim hk_ (fun hs_ => Or.elim hs_ (fun hs_ => fun e_ => (Kd.R_away HO252.out (fun _ hk => hk.1.2)) (by rw [← e_]; exact hs_)) (fun hs_ => fun e_ => (Kd.R_away HO258.out (fun _ hk => hk.2)) (by rw [← e_]; exact hs_))) (fun hn_ => (Kd.freshB (g := gb249) (o := .cells #[.string a1_0, .string a1_1, .string a1_2] 36 (0, 0)) (by (with_reducible repeat (first | refine blk_drewN ?_ _ | refine blk_drew ?_ | refine blk_alloc ?_ _)); exact BK249.out) k_ hn_)))); have n2_ := Aside0.mk (hb); clear BK249; clear HB; clear HO252; clear HO258; have BK249 := n0_; have HO261 := n1_; have HB := n2_; clear n0_ n1_ n2_; (try clear hb); (try clear hkp); (try clear ho0)))
    go_ret
    exact ⟨_, by first | rfl | (simp [errW_none, errW_some] <;> rfl) | (simp [*, errW_none, errW_some] <;> rfl), by (with_reducible repeat (first | apply Kd.R_alloc | apply Kd.R_drewN | apply Kd.R_drew)); exact Kd.R_mono HO261.out (fun _ hk => trivial), by repeat (first | (with_reducible first | exact HB.out | apply below_alloc | apply pw_below_drewN | apply below_drew1 | refine below_set ?_ GE249.out) | exact HB.out)⟩
/-! ### impl_PutBlock: function 20 -/
def impl_PutBlock.j0 : Nat → List (S36) → Bool → ByteArray → ByteArray → ByteArray → Option ((List (S36)) × Int)
  | 0, _, _, _, _, _ => none
  | k + 1, x0, x14, x263000, x263001, x263002 => if x14 = true then (some (([] : List (S36)), 1)) else ((impl_putBlock.f k x0 x263000 x263001 x263002).bind fun t265 => (if (t265.length : Int) > 32 then (some (([] : List (S36)), 5)) else (some (t265, 0))))
def impl_PutBlock.f (k : Nat) (l0 : List (S36)) (a1_0 : ByteArray) (a1_1 : ByteArray) (a1_2 : ByteArray) : Option ((List (S36)) × Int) := (impl_ValidBlocks.f k l0).bind fun t263 => (if t263 = true then ((impl_ValidBlock.f k a1_0 a1_1 a1_2).bind fun t264 => (impl_PutBlock.j0 k l0 (!t264) a1_0 a1_1 a1_2)) else (impl_PutBlock.j0 k l0 true a1_0 a1_1 a1_2))
set_option maxHeartbeats 8000000 in
set_option maxRecDepth 100000 in
theorem impl_PutBlock.calls (k : Nat) (A0 : Option Addr) (c0 : Nat) (l0 : List (S36)) (a1_0 : ByteArray) (a1_1 : ByteArray) (a1_2 : ByteArray) (r1 : List (S36)) (r2 : Int) (w : World) (hr0 : Kd.C k36 w A0 l0.length l0) (hc0 : l0.length ≤ c0) (hG : GOK w) (h : impl_PutBlock.f k l0 a1_0 a1_1 a1_2 = some (r1, r2)) :
    Calls Tryd.prog 20 #[.slice A0 l0.length c0, .agg #[.string a1_0, .string a1_1, .string a1_2]] w fun e w' => ∃ v0_ : Value, e = .returned (.tuple #[v0_, .int .i64 r2]) ∧ Kd.R k36 36 w' w.heap.size (fun _ => True) v0_ r1 ∧ Below w.heap.size w w' := by
  have HG := Aside0.mk hG
  clear hG
  have hu36 := Tryd.underlying36
  have HR0 := Aside0.mk hr0
  have HC0 := Aside0.mk hc0
  clear hr0 hc0
  have HB := Aside0.mk (Below.refl w.heap.size w)
  have H : ((impl_ValidBlocks.f k l0).bind fun t263 => (if t263 = true then ((impl_ValidBlock.f k a1_0 a1_1 a1_2).bind fun t264 => (impl_PutBlock.j0 k l0 (!t264) a1_0 a1_1 a1_2)) else (impl_PutBlock.j0 k l0 true a1_0 a1_1 a1_2))) = some (r1, r2) := h
  clear h
  have HC3 := Aside0.mk H
  clear H
  go_enter Tryd.func20, Tryd.ntmps20
  go_upto_region 1 with (first | ((with_reducible refine gate_dst (N := 3) rfl ?_); refine box_event ?hg (N := 3) ?hd (cs := #[.string a1_0, .string a1_1, .string a1_2]) (t := 36) ?hr ?_; (case hd => rfl); (case hg => rfl); (case hr => first | (go_simp; done) | (go_simp; rfl)); intro gb262 hg w4 hbox hb; have n0_ := Aside0.mk (below_step (by repeat (first | (with_reducible first | exact HB.out | apply below_alloc | apply pw_below_drewN | apply below_drew1) | exact HB.out)) hb); have n1_ := Aside0.mk (hbox); have n2_ := Aside0.mk ((by rw [hg]; exact (below_size (by repeat (first | (with_reducible first | exact HB.out | apply below_alloc | apply pw_below_drewN | apply below_drew1) | exact HB.out))) : w.heap.size ≤ gb262)); have n3_ := Aside0.mk ((by rw [hg]; exact (below_size (by repeat (first | (with_reducible first | exact HB.out | apply below_alloc | apply pw_below_drewN | apply below_drew1) | exact HB.out))) : w.heap.size ≤ gb262)); clear HB; have HB := n0_; have BK262 := n1_; have GW262 := n2_; have GE262 := n3_; clear n0_ n1_ n2_ n3_; clear hb hbox hg))
  (try simp only [Act.put, List.setIfInBounds_toArray, List.set_cons_zero, List.set_cons_succ])
  go_cut [14] (fun v14 wc => ∃ (kq : Nat) (x14_2 : Bool), v14 = .bool x14_2 ∧ Aside0 (impl_PutBlock.j0 kq l0 x14_2 a1_0 a1_1 a1_2 = some (r1, r2)) ∧ Aside0 (kq ≤ k) ∧ Aside0 (wc.heap[gb262]? = some (.cells #[.string a1_0, .string a1_1, .string a1_2] 36 (0, 0))) ∧ Aside0 (Below w.heap.size w wc))
  case first =>
    have H := HC3.out
    clear HC3
    replace H := Option.bind_eq_some_iff.mp H
    obtain ⟨t263, A50, H⟩ := H
    replace H : (if t263 = true then ((impl_ValidBlock.f k a1_0 a1_1 a1_2).bind fun t264 => (impl_PutBlock.j0 k l0 (!t264) a1_0 a1_1 a1_2)) else (impl_PutBlock.j0 k l0 true a1_0 a1_1 a1_2)) = some (r1, r2) := H
    have A5 := Aside0.mk A50
    clear A50
    by_cases c6 : t263 = true
    · subst c6
      have H1 : ((impl_ValidBlock.f k a1_0 a1_1 a1_2).bind fun t264 => (impl_PutBlock.j0 k l0 (!t264) a1_0 a1_1 a1_2)) = some (r1, r2) := by rw [if_pos rfl] at H; exact H
      clear H
      have H := H1
      clear H1
      replace H := Option.bind_eq_some_iff.mp H
      obtain ⟨t264, A70, H⟩ := H
      replace H : (impl_PutBlock.j0 k l0 (!t264) a1_0 a1_1 a1_2) = some (r1, r2) := H
      have A7 := Aside0.mk A70
      clear A70
      have H' := Aside0.mk H
      clear H
      go_wp2_with (first | ((with_reducible refine gate_callee (f := 43) rfl ?_); refine goesL_ (some 8) rfl rfl Tryd.func43 (by kernel_rfl) rfl #[.slice A0 l0.length c0] rfl (by (try simp only [List.map_toArray, List.map_cons, List.map_nil]); first | done | rfl | (simp only [List.length_drop, List.length_take]; rfl)) ?_; (with_reducible refine (impl_ValidBlocks.calls k _ _ l0 true _ ?side1 ?side2 ?side3 A5.out).mono ?_); (case side1 => repeat (first | exact (Kd.C_below HR0.out HB.out) | (with_reducible refine Kd.C_alloc ?_ _) | (with_reducible refine Kd.C_drewN ?_ _) | (with_reducible refine Kd.C_drew ?_))); (case side2 => exact HC0.out); (case side3 => first | exact HG.out | exact GOK.drewN HG.out _ | exact GOK.drew HG.out | exact GOK.below HG.out (by repeat (first | (with_reducible first | exact HB.out | apply below_alloc | apply pw_below_drewN | apply below_drew1 | refine below_set ?_ GE262.out) | exact HB.out))); rintro e w8 ⟨rfl, hb⟩; refine ⟨_, rfl, ?_⟩; have n0_ := Aside0.mk (blk_below (g := gb262) (o := .cells #[.string a1_0, .string a1_1, .string a1_2] 36 (0, 0)) (by (with_reducible repeat (first | refine blk_drewN ?_ _ | refine blk_drew ?_ | refine blk_alloc ?_ _)); exact BK262.out) hb); have n1_ := Aside0.mk (below_step (by repeat (first | (with_reducible first | exact HB.out | apply below_alloc | apply pw_below_drewN | apply below_drew1 | refine below_set ?_ GE262.out) | exact HB.out)) hb); clear BK262; clear HB; have BK262 := n0_; have HB := n1_; clear n0_ n1_; (try clear hb); (try clear hb2); (try clear hk); (try clear hi); have hcz9_0 : w8.cell? ⟨gb262, 0, none⟩ = some (.string a1_0) := (blk_cell BK262.out 0).trans rfl; have hcz9_1 : w8.cell? ⟨gb262, 1, none⟩ = some (.string a1_1) := (blk_cell BK262.out 1).trans rfl; have hcz9_2 : w8.cell? ⟨gb262, 2, none⟩ = some (.string a1_2) := (blk_cell BK262.out 2).trans rfl; have hfz9_0 := blk_frozen BK262.out 0; have hfz9_1 := blk_frozen BK262.out 1; have hfz9_2 := blk_frozen BK262.out 2) | (go_at_call 41; (with_reducible refine (impl_ValidBlock.calls k a1_0 a1_1 a1_2 t264 _ ?side1 A7.out).mono ?_); (case side1 => first | exact HG.out | exact GOK.drewN HG.out _ | exact GOK.drew HG.out | exact GOK.below HG.out (by repeat (first | (with_reducible first | exact HB.out | apply below_alloc | apply pw_below_drewN | apply below_drew1 | refine below_set ?_ GE262.out) | exact HB.out))); rintro e w10 ⟨rfl, hb⟩; have n0_ := Aside0.mk (blk_below (g := gb262) (o := .cells #[.string a1_0, .string a1_1, .string a1_2] 36 (0, 0)) (by (with_reducible repeat (first | refine blk_drewN ?_ _ | refine blk_drew ?_ | refine blk_alloc ?_ _)); exact BK262.out) hb); have n1_ := Aside0.mk (below_step (by repeat (first | (with_reducible first | exact HB.out | apply below_alloc | apply pw_below_drewN | apply below_drew1 | refine below_set ?_ GE262.out) | exact HB.out)) hb); clear BK262; clear HB; have BK262 := n0_; have HB := n1_; clear n0_ n1_; (try clear hb); (try clear hb2); (try clear hk); (try clear hi)))
      go_meet
      case rel => exact ⟨_, (!t264), (by first | rfl | (simp; done) | (simp [*]; done)), H', ⟨by first | omega | exact Nat.le_refl _⟩, ⟨by (with_reducible repeat (first | refine blk_drewN ?_ _ | refine blk_drew ?_ | refine blk_alloc ?_ _)); exact BK262.out⟩, ⟨by repeat (first | (with_reducible first | exact HB.out | apply below_alloc | apply pw_below_drewN | apply below_drew1 | refine below_set ?_ GE262.out) | exact HB.out)⟩⟩
    · replace c6 := Bool.eq_false_iff.mpr c6
      subst c6
      have H1 : (impl_PutBlock.j0 k l0 true a1_0 a1_1 a1_2) = some (r1, r2) := by rw [if_neg (show ¬ (false = true) by decide)] at H; exact H
      clear H
      have H := H1
      clear H1
      have H' := Aside0.mk H
      clear H
      go_wp2_with (first | ((with_reducible refine gate_callee (f := 43) rfl ?_); refine goesL_ (some 8) rfl rfl Tryd.func43 (by kernel_rfl) rfl #[.slice A0 l0.length c0] rfl (by (try simp only [List.map_toArray, List.map_cons, List.map_nil]); first | done | rfl | (simp only [List.length_drop, List.length_take]; rfl)) ?_; (with_reducible refine (impl_ValidBlocks.calls k _ _ l0 false _ ?side1 ?side2 ?side3 A5.out).mono ?_); (case side1 => repeat (first | exact (Kd.C_below HR0.out HB.out) | (with_reducible refine Kd.C_alloc ?_ _) | (with_reducible refine Kd.C_drewN ?_ _) | (with_reducible refine Kd.C_drew ?_))); (case side2 => exact HC0.out); (case side3 => first | exact HG.out | exact GOK.drewN HG.out _ | exact GOK.drew HG.out | exact GOK.below HG.out (by repeat (first | (with_reducible first | exact HB.out | apply below_alloc | apply pw_below_drewN | apply below_drew1 | refine below_set ?_ GE262.out) | exact HB.out))); rintro e w11 ⟨rfl, hb⟩; refine ⟨_, rfl, ?_⟩; have n0_ := Aside0.mk (blk_below (g := gb262) (o := .cells #[.string a1_0, .string a1_1, .string a1_2] 36 (0, 0)) (by (with_reducible repeat (first | refine blk_drewN ?_ _ | refine blk_drew ?_ | refine blk_alloc ?_ _)); exact BK262.out) hb); have n1_ := Aside0.mk (below_step (by repeat (first | (with_reducible first | exact HB.out | apply below_alloc | apply pw_below_drewN | apply below_drew1 | refine below_set ?_ GE262.out) | exact HB.out)) hb); clear BK262; clear HB; have BK262 := n0_; have HB := n1_; clear n0_ n1_; (try clear hb); (try clear hb2); (try clear hk); (try clear hi)))
      go_meet
      case rel => exact ⟨_, (true), (by first | rfl | (simp; done) | (simp [*]; done)), H', ⟨by first | omega | exact Nat.le_refl _⟩, ⟨by (with_reducible repeat (first | refine blk_drewN ?_ _ | refine blk_drew ?_ | refine blk_alloc ?_ _)); exact BK262.out⟩, ⟨by repeat (first | (with_reducible first | exact HB.out | apply below_alloc | apply pw_below_drewN | apply below_drew1 | refine below_set ?_ GE262.out) | exact HB.out)⟩⟩
  case rest =>
    clear HC3
    try clear c2
    try clear p2
    try clear c4
    try clear c6
    try clear hcz9_0
    try clear hcz9_1
    try clear hcz9_2
    try clear hfz9_0
    try clear hfz9_1
    try clear hfz9_2
    obtain ⟨kq, x14_2, rfl, HA, HJ2, BK262, HB⟩ := hcut
    cases kq with
    | zero => exact absurd HA.out (by simp [impl_PutBlock.j0])
    | succ kj2 =>
      have H := HA.out
      clear HA
      simp only [impl_PutBlock.j0] at H
      by_cases c12 : x14_2 = true
      · subst c12
        have H1 : (some (([] : List (S36)), 1)) = some (r1, r2) := by rw [if_pos rfl] at H; exact H
        clear H
        have H := H1
        clear H1
        simp only [Option.some.injEq, Prod.mk.injEq] at H
        obtain ⟨rfl, rfl⟩ := H
        go_wp2
        go_ret2
        exact ⟨_, by first | rfl | (simp [errW_none, errW_some] <;> rfl) | (simp [*, errW_none, errW_some] <;> rfl), by first | exact Kd.R_nil _ _ _ _ _ | exact Kd.N_nil _ _ _ _ _ | exact Kd.V_nil _ _ _ _ _ | exact Kd.Q_nil _ _ _ _ _ | exact Kd.S_nil _ _ _ _ _, by repeat (first | (with_reducible first | exact HB.out | apply below_alloc | apply pw_below_drewN | apply below_drew1 | refine below_set ?_ GE262.out) | exact HB.out)⟩
      · replace c12 := Bool.eq_false_iff.mpr c12
        subst c12
        have H1 : ((impl_putBlock.f kj2 l0 a1_0 a1_1 a1_2).bind fun t265 => (if (t265.length : Int) > 32 then (some (([] : List (S36)), 5)) else (some (t265, 0)))) = some (r1, r2) := by rw [if_neg (show ¬ (false = true) by decide)] at H; exact H
        clear H
        have H := H1
        clear H1
        replace H := Option.bind_eq_some_iff.mp H
        obtain ⟨t265, A130, H⟩ := H
        replace H : (if (t265.length : Int) > 32 then (some (([] : List (S36)), 5)) else (some (t265, 0))) = some (r1, r2) := H
        have A13 := Aside0.mk A130
        clear A130
        by_cases c14 : (t265.length : Int) > 32
        · rw [if_pos c14] at H
          have c14b0 : decide (32 < (t265.length : Int)) = true := decide_eq_true c14
          have c14b1 : decide (32 < t265.length) = true := decide_eq_true (by omega)
          clear c14
          simp only [Option.some.injEq, Prod.mk.injEq] at H
          obtain ⟨rfl, rfl⟩ := H
          have hcz15_0 : wc.cell? ⟨gb262, 0, none⟩ = some (.string a1_0) := (blk_cell BK262.out 0).trans rfl
          have hcz15_1 : wc.cell? ⟨gb262, 1, none⟩ = some (.string a1_1) := (blk_cell BK262.out 1).trans rfl
          have hcz15_2 : wc.cell? ⟨gb262, 2, none⟩ = some (.string a1_2) := (blk_cell BK262.out 2).trans rfl
          have hfz15_0 := blk_frozen BK262.out 0
          have hfz15_1 := blk_frozen BK262.out 1
          have hfz15_2 := blk_frozen BK262.out 2
          go_wp2_with (first | ((with_reducible refine gate_callee (f := 44) rfl ?_); refine goesL_ (some 17) rfl rfl Tryd.func44 (by kernel_rfl) rfl #[.slice A0 l0.length c0, .agg #[.string a1_0, .string a1_1, .string a1_2]] rfl (by (try simp only [List.map_toArray, List.map_cons, List.map_nil]); first | done | rfl | (simp only [List.length_drop, List.length_take]; rfl)) ?_; (with_reducible refine (impl_putBlock.calls kj2 _ _ l0 a1_0 a1_1 a1_2 t265 _ ?side1 ?side2 A13.out).mono ?_); (case side1 => repeat (first | exact (Kd.C_below HR0.out HB.out) | (with_reducible refine Kd.C_alloc ?_ _) | (with_reducible refine Kd.C_drewN ?_ _) | (with_reducible refine Kd.C_drew ?_))); (case side2 => exact HC0.out); rintro e w16 ⟨v266, rfl, ho0, hb⟩; refine ⟨_, rfl, ?_⟩; have n0_ := Aside0.mk (Kd.R_lower (Kd.R_newB ho0 (g := gb262) (o := .cells #[.string a1_0, .string a1_1, .string a1_2] 36 (0, 0)) (by (with_reducible repeat (first | refine blk_drewN ?_ _ | refine blk_drew ?_ | refine blk_alloc ?_ _)); exact BK262.out)) (below_size (by repeat (first | (with_reducible first | exact HB.out | apply below_alloc | apply pw_below_drewN | apply below_drew1 | refine below_set ?_ GE262.out) | exact HB.out)))); have n1_ := Aside0.mk (blk_below (g := gb262) (o := .cells #[.string a1_0, .string a1_1, .string a1_2] 36 (0, 0)) (by (with_reducible repeat (first | refine blk_drewN ?_ _ | refine blk_drew ?_ | refine blk_alloc ?_ _)); exact BK262.out) hb); have n2_ := Aside0.mk (below_step (by repeat (first | (with_reducible first | exact HB.out | apply below_alloc | apply pw_below_drewN | apply below_drew1 | refine below_set ?_ GE262.out) | exact HB.out)) hb); clear BK262; clear HB; have HO267 := n0_; have BK262 := n1_; have HB := n2_; clear n0_ n1_ n2_; (try clear hb); (try clear hb2); (try clear hk); (try clear hi); (try clear ho0); obtain ⟨Ao17, co17, eo17⟩ := Kd.R_slice HO267.out; subst eo17))
          go_ret2
          exact ⟨_, by first | rfl | (simp [errW_none, errW_some] <;> rfl) | (simp [*, errW_none, errW_some] <;> rfl), by first | exact Kd.R_nil _ _ _ _ _ | exact Kd.N_nil _ _ _ _ _ | exact Kd.V_nil _ _ _ _ _ | exact Kd.Q_nil _ _ _ _ _ | exact Kd.S_nil _ _ _ _ _, by repeat (first | (with_reducible first | exact HB.out | apply below_alloc | apply pw_below_drewN | apply below_drew1 | refine below_set ?_ GE262.out) | exact HB.out)⟩
        · rw [if_neg c14] at H
          have c14b0 : decide (32 < (t265.length : Int)) = false := decide_eq_false c14
          have c14b1 : decide (32 < t265.length) = false := decide_eq_false (by omega)
          clear c14
          simp only [Option.some.injEq, Prod.mk.injEq] at H
          obtain ⟨rfl, rfl⟩ := H
          have hcz18_0 : wc.cell? ⟨gb262, 0, none⟩ = some (.string a1_0) := (blk_cell BK262.out 0).trans rfl
          have hcz18_1 : wc.cell? ⟨gb262, 1, none⟩ = some (.string a1_1) := (blk_cell BK262.out 1).trans rfl
          have hcz18_2 : wc.cell? ⟨gb262, 2, none⟩ = some (.string a1_2) := (blk_cell BK262.out 2).trans rfl
          have hfz18_0 := blk_frozen BK262.out 0
          have hfz18_1 := blk_frozen BK262.out 1
          have hfz18_2 := blk_frozen BK262.out 2
          go_wp2_with (first | ((with_reducible refine gate_callee (f := 44) rfl ?_); refine goesL_ (some 17) rfl rfl Tryd.func44 (by kernel_rfl) rfl #[.slice A0 l0.length c0, .agg #[.string a1_0, .string a1_1, .string a1_2]] rfl (by (try simp only [List.map_toArray, List.map_cons, List.map_nil]); first | done | rfl | (simp only [List.length_drop, List.length_take]; rfl)) ?_; (with_reducible refine (impl_putBlock.calls kj2 _ _ l0 a1_0 a1_1 a1_2 t265 _ ?side1 ?side2 A13.out).mono ?_); (case side1 => repeat (first | exact (Kd.C_below HR0.out HB.out) | (with_reducible refine Kd.C_alloc ?_ _) | (with_reducible refine Kd.C_drewN ?_ _) | (with_reducible refine Kd.C_drew ?_))); (case side2 => exact HC0.out); rintro e w19 ⟨v266, rfl, ho0, hb⟩; refine ⟨_, rfl, ?_⟩; have n0_ := Aside0.mk (Kd.R_lower (Kd.R_newB ho0 (g := gb262) (o := .cells #[.string a1_0, .string a1_1, .string a1_2] 36 (0, 0)) (by (with_reducible repeat (first | refine blk_drewN ?_ _ | refine blk_drew ?_ | refine blk_alloc ?_ _)); exact BK262.out)) (below_size (by repeat (first | (with_reducible first | exact HB.out | apply below_alloc | apply pw_below_drewN | apply below_drew1 | refine below_set ?_ GE262.out) | exact HB.out)))); have n1_ := Aside0.mk (blk_below (g := gb262) (o := .cells #[.string a1_0, .string a1_1, .string a1_2] 36 (0, 0)) (by (with_reducible repeat (first | refine blk_drewN ?_ _ | refine blk_drew ?_ | refine blk_alloc ?_ _)); exact BK262.out) hb); have n2_ := Aside0.mk (below_step (by repeat (first | (with_reducible first | exact HB.out | apply below_alloc | apply pw_below_drewN | apply below_drew1 | refine below_set ?_ GE262.out) | exact HB.out)) hb); clear BK262; clear HB; have HO267 := n0_; have BK262 := n1_; have HB := n2_; clear n0_ n1_ n2_; (try clear hb); (try clear hb2); (try clear hk); (try clear hi); (try clear ho0); obtain ⟨Ao20, co20, eo20⟩ := Kd.R_slice HO267.out; subst eo20))
          go_ret2
          exact ⟨_, by first | rfl | (simp [errW_none, errW_some] <;> rfl) | (simp [*, errW_none, errW_some] <;> rfl), by (with_reducible repeat (first | apply Kd.R_alloc | apply Kd.R_drewN | apply Kd.R_drew)); exact Kd.R_mono HO267.out (fun _ hk => trivial), by repeat (first | (with_reducible first | exact HB.out | apply below_alloc | apply pw_below_drewN | apply below_drew1 | refine below_set ?_ GE262.out) | exact HB.out)⟩
/-! ### impl_SalvageBlocks: function 6 -/
mutual
def impl_SalvageBlocks.l0 : Nat → List (S36) → List ByteArray → Int → Int → Option ((List (S36)))
  | 0, _, _, _, _ => none
  | k + 1, x5, x17, x18, x19 => if x19 < x18 then (if 0 ≤ x19 then (if x19 < (x17.length : Int) then ((impl_blockOfLine.f k (rdOf ByteArray.empty x17 x19)).bind fun bt273 => (if x19 = 0 then (impl_SalvageBlocks.j1 k x5 x17 x18 x19 true bt273.1 bt273.2.1 bt273.2.2.1) else (impl_SalvageBlocks.j1 k x5 x17 x18 x19 (bt273.2.2.2 != 0) bt273.1 bt273.2.1 bt273.2.2.1))) else (none)) else (none)) else (some x5)
def impl_SalvageBlocks.j1 : Nat → List (S36) → List ByteArray → Int → Int → Bool → ByteArray → ByteArray → ByteArray → Option ((List (S36)))
  | 0, _, _, _, _, _, _, _, _ => none
  | k + 1, x5, x17, x18, x19, x34, x278000, x278001, x278002 => if x34 = true then (impl_SalvageBlocks.l0 k x5 x17 x18 (wrap64 (x19 + 1))) else ((impl_PutBlock.f k x5 x278000 x278001 x278002).bind fun bt278 => (if bt278.2 = 0 then (impl_SalvageBlocks.l0 k bt278.1 x17 x18 (wrap64 (x19 + 1))) else (impl_SalvageBlocks.l0 k x5 x17 x18 (wrap64 (x19 + 1)))))
end
def impl_SalvageBlocks.f (k : Nat) (a0 : ByteArray) : Option ((List (S36))) := (impl_endedLines.f a0).bind fun bt268 => (impl_SalvageBlocks.l0 k ([] : List (S36)) bt268.1 (bt268.1.length : Int) 0)
set_option maxHeartbeats 8000000 in
set_option maxRecDepth 100000 in
theorem impl_SalvageBlocks.calls (k : Nat) (a0 : ByteArray) (r : List (S36)) (w : World) (hG : GOK w) (h : impl_SalvageBlocks.f k a0 = some r) :
    Calls Tryd.prog 6 #[.string a0] w fun e w' => ∃ v0_ : Value, e = .returned (v0_) ∧ Kd.R k36 36 w' w.heap.size (fun _ => True) v0_ r ∧ Below w.heap.size w w' := by
  have HG := Aside0.mk hG
  clear hG
  have hu36 := Tryd.underlying36
  have HB := Aside0.mk (Below.refl w.heap.size w)
  have H : ((impl_endedLines.f a0).bind fun bt268 => (impl_SalvageBlocks.l0 k ([] : List (S36)) bt268.1 (bt268.1.length : Int) 0)) = some r := h
  clear h
  replace H := Option.bind_eq_some_iff.mp H
  obtain ⟨⟨t268, t269⟩, A20, H⟩ := H
  replace H : (impl_SalvageBlocks.l0 k ([] : List (S36)) t268 (t268.length : Int) 0) = some r := H
  have A2 := Aside0.mk A20
  clear A20
  have H' := Aside0.mk H
  clear H
  go_enter Tryd.func6, Tryd.ntmps6
  go_wp2_with (first | ((with_reducible refine gate_callee (f := 18) rfl ?_); refine goesL_ (some 14) rfl rfl Tryd.func18 (by kernel_rfl) rfl #[.string a0] rfl (by (try simp only [List.map_toArray, List.map_cons, List.map_nil]); first | done | rfl | (simp only [List.length_drop, List.length_take]; rfl)) ?_; (with_reducible refine (impl_endedLines.calls a0 t268 t269 _ ?side1 A2.out).mono ?_); (case side1 => first | exact HG.out | exact GOK.drewN HG.out _ | exact GOK.drew HG.out | exact GOK.below HG.out (by repeat (first | (with_reducible first | exact HB.out | apply below_alloc | apply pw_below_drewN | apply below_drew1) | exact HB.out))); rintro e w3 ⟨v270, rfl, ho0, hb⟩; refine ⟨_, rfl, ?_⟩; have n0_ := Aside0.mk (Kd.R_lower ho0 (below_size (by repeat (first | (with_reducible first | exact HB.out | apply below_alloc | apply pw_below_drewN | apply below_drew1) | exact HB.out)))); have n1_ := Aside0.mk (below_step (by repeat (first | (with_reducible first | exact HB.out | apply below_alloc | apply pw_below_drewN | apply below_drew1) | exact HB.out)) hb); clear HB; have HO271 := n0_; have HB := n1_; clear n0_ n1_; (try clear hb); (try clear hb2); (try clear hk); (try clear hi); (try clear ho0); obtain ⟨Ao4, co4, eo4⟩ := Kd.R_slice HO271.out; subst eo4))
  go_loopg [5, 19] k (fun kq v5 v19 w' => ∃ (x5_1 : List (S36)) (x19_1 : Int), v19 = .int .i64 x19_1 ∧ Aside0 (impl_SalvageBlocks.l0 kq x5_1 t268 (t268.length : Int) x19_1 = some r) ∧ Aside0 (kq ≤ k) ∧ Aside0 (Kd.R k36 36 w' w.heap.size (fun _ => True) v5 x5_1) ∧ Aside0 (Kd.R Kd.string 9 w' w.heap.size (fun _ => True) (.slice Ao4 t268.length co4) t268) ∧ Aside0 (Below w.heap.size w w'))
  case atStart => exact ⟨(([] : List (S36))), (0), (by first | rfl | (simp; done) | (simp [*]; done)), H', ⟨Nat.le_refl _⟩, ⟨by first | exact Kd.R_nil _ _ _ _ _ | exact Kd.N_nil _ _ _ _ _ | exact Kd.V_nil _ _ _ _ _ | exact Kd.Q_nil _ _ _ _ _ | exact Kd.S_nil _ _ _ _ _⟩, ⟨by (with_reducible repeat (first | apply Kd.R_alloc | apply Kd.R_drewN | apply Kd.R_drew)); exact HO271.out⟩, ⟨by repeat (first | (with_reducible first | exact HB.out | apply below_alloc | apply pw_below_drewN | apply below_drew1) | exact HB.out)⟩⟩
  case round =>
    clear H'
    try clear c1
    try clear p2
    obtain ⟨x5_1, x19_1, rfl, HA, HK1, HO_5, HO_17, HB⟩ := hrel
    cases gk with
    | zero => exact absurd HA.out (by simp [impl_SalvageBlocks.l0])
    | succ k1 =>
      have H := HA.out
      clear HA
      simp only [impl_SalvageBlocks.l0] at H
      by_cases c5 : x19_1 < (t268.length : Int)
      · rw [if_pos c5] at H
        have c5b0 : decide (x19_1 < (t268.length : Int)) = true := decide_eq_true c5
        clear c5
        by_cases c6 : 0 ≤ x19_1
        · rw [if_pos c6] at H
          have c6b0 : decide (0 ≤ x19_1) = true := decide_eq_true c6
          clear c6
          by_cases c7 : x19_1 < (t268.length : Int)
          · rw [if_pos c7] at H
            have c7b0 : decide (x19_1 < (t268.length : Int)) = true := decide_eq_true c7
            clear c7
            replace H := Option.bind_eq_some_iff.mp H
            obtain ⟨⟨t273, t274, t275, t276⟩, A80, H⟩ := H
            replace H : (if x19_1 = 0 then (impl_SalvageBlocks.j1 k1 x5_1 t268 (t268.length : Int) x19_1 true t273 t274 t275) else (impl_SalvageBlocks.j1 k1 x5_1 t268 (t268.length : Int) x19_1 (t276 != 0) t273 t274 t275)) = some r := H
            have A8 := Aside0.mk A80
            clear A80
            have HC9 := Aside0.mk H
            clear H
            have p272 : 0 ≤ (x19_1 : Int) := of_decide_eq_true (by first | (with_reducible assumption) | assumption)
            have q272 : x19_1 < (t268.length : Int) := of_decide_eq_true (by first | (with_reducible assumption) | assumption)
            obtain ⟨ad272, e272, hx272_0⟩ := Kd.at_string (Kd.R_reads' HO_17.out).2.2 x19_1 p272 q272
            cases e272
            replace p272 := eq_true p272
            replace q272 := eq_true q272
            go_upto_region 7 with (first | ((with_reducible refine gate_callee (f := 19) rfl ?_); refine goesL_ (some 26) rfl rfl Tryd.func19 (by kernel_rfl) rfl #[.string (rdOf ByteArray.empty t268 x19_1)] rfl (by (try simp only [List.map_toArray, List.map_cons, List.map_nil]); first | done | rfl | (simp only [List.length_drop, List.length_take]; rfl)) ?_; (with_reducible refine (impl_blockOfLine.calls k1 (rdOf ByteArray.empty t268 x19_1) t273 t274 t275 t276 _ ?side1 A8.out).mono ?_); (case side1 => first | exact HG.out | exact GOK.drewN HG.out _ | exact GOK.drew HG.out | exact GOK.below HG.out (by repeat (first | (with_reducible first | exact HB.out | apply below_alloc | apply pw_below_drewN | apply below_drew1) | exact HB.out))); rintro e w10 ⟨rfl, hb⟩; refine ⟨_, rfl, ?_⟩; have n0_ := Aside0.mk (Kd.R_below (by (with_reducible repeat (first | apply Kd.R_alloc | apply Kd.R_drewN | apply Kd.R_drew)); exact HO_5.out) hb); have n1_ := Aside0.mk (Kd.R_below (by (with_reducible repeat (first | apply Kd.R_alloc | apply Kd.R_drewN | apply Kd.R_drew)); exact HO_17.out) hb); have n2_ := Aside0.mk (below_step (by repeat (first | (with_reducible first | exact HB.out | apply below_alloc | apply pw_below_drewN | apply below_drew1) | exact HB.out)) hb); clear HO_5; clear HO_17; clear HB; have HO_5 := n0_; have HO_17 := n1_; have HB := n2_; clear n0_ n1_ n2_; (try clear hb); (try clear hb2); (try clear hk); (try clear hi)) | ((with_reducible refine gate_dst (N := 8) rfl ?_); refine box_event ?hg (N := 8) ?hd (cs := #[.string (⟨#[]⟩ : ByteArray), .string (⟨#[]⟩ : ByteArray), .string (⟨#[]⟩ : ByteArray)]) (t := 36) ?hr ?_; (case hd => rfl); (case hg => rfl); (case hr => first | (go_simp; done) | (go_simp; rfl)); intro gb277 hg w11 hbox hb; have n0_ := Aside0.mk (Kd.R_below (Kd.R_elderB (by (with_reducible repeat (first | apply Kd.R_alloc | apply Kd.R_drewN | apply Kd.R_drew)); exact HO_5.out) gb277 (Nat.le_of_eq hg.symm)) hb); have n1_ := Aside0.mk (Kd.R_below (by (with_reducible repeat (first | apply Kd.R_alloc | apply Kd.R_drewN | apply Kd.R_drew)); exact HO_17.out) hb); have n2_ := Aside0.mk (below_step (by repeat (first | (with_reducible first | exact HB.out | apply below_alloc | apply pw_below_drewN | apply below_drew1) | exact HB.out)) hb); have n3_ := Aside0.mk (hbox); have n4_ := Aside0.mk ((by rw [hg]; exact (below_size (by repeat (first | (with_reducible first | exact HB.out | apply below_alloc | apply pw_below_drewN | apply below_drew1) | exact HB.out))) : w.heap.size ≤ gb277)); have n5_ := Aside0.mk ((by rw [hg]; exact (below_size (by repeat (first | (with_reducible first | exact HB.out | apply below_alloc | apply pw_below_drewN | apply below_drew1) | exact HB.out))) : w.heap.size ≤ gb277)); clear HO_5; clear HO_17; clear HB; have HO_5 := n0_; have HO_17 := n1_; have HB := n2_; have BK277 := n3_; have GW277 := n4_; have GE277 := n5_; clear n0_ n1_ n2_ n3_ n4_ n5_; clear hb hbox hg; have hcz12_0 : w11.cell? ⟨gb277, 0, none⟩ = some (.string (⟨#[]⟩ : ByteArray)) := (blk_cell BK277.out 0).trans rfl; have hcz12_1 : w11.cell? ⟨gb277, 1, none⟩ = some (.string (⟨#[]⟩ : ByteArray)) := (blk_cell BK277.out 1).trans rfl; have hcz12_2 : w11.cell? ⟨gb277, 2, none⟩ = some (.string (⟨#[]⟩ : ByteArray)) := (blk_cell BK277.out 2).trans rfl; have hfz12_0 := blk_frozen BK277.out 0; have hfz12_1 := blk_frozen BK277.out 1; have hfz12_2 := blk_frozen BK277.out 2))
            (try simp only [Act.put, List.setIfInBounds_toArray, List.set_cons_zero, List.set_cons_succ])
            go_cut [34] (fun v34 wc => ∃ (kq : Nat) (x34_8 : Bool), v34 = .bool x34_8 ∧ Aside0 (impl_SalvageBlocks.j1 kq x5_1 t268 (t268.length : Int) x19_1 x34_8 t273 t274 t275 = some r) ∧ Aside0 (kq ≤ k1) ∧ Aside0 (Kd.R k36 36 wc w.heap.size (fun k_ => k_ ≠ gb277) u5 x5_1) ∧ Aside0 (Kd.R Kd.string 9 wc w.heap.size (fun _ => True) (.slice (some ad272) t268.length co4) t268) ∧ Aside0 (wc.heap[gb277]? = some (.cells #[.string t273, .string t274, .string t275] 36 (0, 0))) ∧ Aside0 (Below w.heap.size w wc))
            case first =>
              have H := HC9.out
              clear HC9
              by_cases c13 : x19_1 = 0
              · rw [if_pos c13] at H
                have c13b0 : (x19_1 == 0) = true := beq_iff_eq.mpr c13
                have c13b1 : (x19_1 != 0) = false := bne_eq_false_iff_eq.mpr c13
                clear c13
                (first | rw [c13b0] | (simp only [i64_w, i32_w]; rw [c13b0]) | skip)
                have H' := Aside0.mk H
                clear H
                go_wp2
                go_meet
                case rel => exact ⟨_, (true), (by first | rfl | (simp; done) | (simp [*]; done)), H', ⟨by have := HK1.out; first | omega | exact Nat.le_refl _⟩, ⟨by (with_reducible repeat (first | apply Kd.R_alloc | apply Kd.R_drewN | apply Kd.R_drew)); exact Kd.R_mono (Kd.R_far (p := ⟨gb277, 2, none⟩) (Kd.R_far (p := ⟨gb277, 1, none⟩) (Kd.R_far (p := ⟨gb277, 0, none⟩) (Kd.R_mono HO_5.out (fun k_ hk => (⟨hk, hk.2⟩ : _ ∧ k_ ≠ gb277))) (fun _ hk => hk.2) (.string t273)) (fun _ hk => hk.2) (.string t274)) (fun _ hk => hk.2) (.string t275)) (fun _ hk => hk.1.2)⟩, ⟨by (with_reducible repeat (first | apply Kd.R_alloc | apply Kd.R_drewN | apply Kd.R_drew)); exact Kd.R_mono (Kd.R_far (p := ⟨gb277, 2, none⟩) (Kd.R_far (p := ⟨gb277, 1, none⟩) (Kd.R_far (p := ⟨gb277, 0, none⟩) (Kd.R_types HO_17.out BK277.out (by decide)) (fun _ hk => hk.2) (.string t273)) (fun _ hk => hk.2) (.string t274)) (fun _ hk => hk.2) (.string t275)) (fun _ hk => trivial)⟩, ⟨by (with_reducible repeat (first | refine blk_drewN ?_ _ | refine blk_drew ?_ | refine blk_alloc ?_ _)); refine blk_put (cs := #[.string t273, .string t274, .string (⟨#[]⟩ : ByteArray)]) ?_ 2 _ rfl; (with_reducible repeat (first | refine blk_drewN ?_ _ | refine blk_drew ?_ | refine blk_alloc ?_ _)); refine blk_put (cs := #[.string t273, .string (⟨#[]⟩ : ByteArray), .string (⟨#[]⟩ : ByteArray)]) ?_ 1 _ rfl; (with_reducible repeat (first | refine blk_drewN ?_ _ | refine blk_drew ?_ | refine blk_alloc ?_ _)); refine blk_put (cs := #[.string (⟨#[]⟩ : ByteArray), .string (⟨#[]⟩ : ByteArray), .string (⟨#[]⟩ : ByteArray)]) ?_ 0 _ rfl; (with_reducible repeat (first | refine blk_drewN ?_ _ | refine blk_drew ?_ | refine blk_alloc ?_ _)); exact BK277.out⟩, ⟨by repeat (first | (with_reducible first | exact HB.out | apply below_alloc | apply pw_below_drewN | apply below_drew1 | refine below_set ?_ GE277.out) | exact HB.out)⟩⟩
              · rw [if_neg c13] at H
                have c13b0 : (x19_1 == 0) = false := beq_eq_false_iff_ne.mpr c13
                have c13b1 : (x19_1 != 0) = true := bne_iff_ne.mpr c13
                (first | rw [c13b0] | (simp only [i64_w, i32_w]; rw [c13b0]) | skip)
                have H' := Aside0.mk H
                clear H
                go_wp2
                go_meet
                case rel => exact ⟨_, ((t276 != 0)), (by first | rfl | (simp; done) | (simp [*]; done)), H', ⟨by have := HK1.out; first | omega | exact Nat.le_refl _⟩, ⟨by (with_reducible repeat (first | apply Kd.R_alloc | apply Kd.R_drewN | apply Kd.R_drew)); exact Kd.R_mono (Kd.R_far (p := ⟨gb277, 2, none⟩) (Kd.R_far (p := ⟨gb277, 1, none⟩) (Kd.R_far (p := ⟨gb277, 0, none⟩) (Kd.R_mono HO_5.out (fun k_ hk => (⟨hk, hk.2⟩ : _ ∧ k_ ≠ gb277))) (fun _ hk => hk.2) (.string t273)) (fun _ hk => hk.2) (.string t274)) (fun _ hk => hk.2) (.string t275)) (fun _ hk => hk.1.2)⟩, ⟨by (with_reducible repeat (first | apply Kd.R_alloc | apply Kd.R_drewN | apply Kd.R_drew)); exact Kd.R_mono (Kd.R_far (p := ⟨gb277, 2, none⟩) (Kd.R_far (p := ⟨gb277, 1, none⟩) (Kd.R_far (p := ⟨gb277, 0, none⟩) (Kd.R_types HO_17.out BK277.out (by decide)) (fun _ hk => hk.2) (.string t273)) (fun _ hk => hk.2) (.string t274)) (fun _ hk => hk.2) (.string t275)) (fun _ hk => trivial)⟩, ⟨by (with_reducible repeat (first | refine blk_drewN ?_ _ | refine blk_drew ?_ | refine blk_alloc ?_ _)); refine blk_put (cs := #[.string t273, .string t274, .string (⟨#[]⟩ : ByteArray)]) ?_ 2 _ rfl; (with_reducible repeat (first | refine blk_drewN ?_ _ | refine blk_drew ?_ | refine blk_alloc ?_ _)); refine blk_put (cs := #[.string t273, .string (⟨#[]⟩ : ByteArray), .string (⟨#[]⟩ : ByteArray)]) ?_ 1 _ rfl; (with_reducible repeat (first | refine blk_drewN ?_ _ | refine blk_drew ?_ | refine blk_alloc ?_ _)); refine blk_put (cs := #[.string (⟨#[]⟩ : ByteArray), .string (⟨#[]⟩ : ByteArray), .string (⟨#[]⟩ : ByteArray)]) ?_ 0 _ rfl; (with_reducible repeat (first | refine blk_drewN ?_ _ | refine blk_drew ?_ | refine blk_alloc ?_ _)); exact BK277.out⟩, ⟨by repeat (first | (with_reducible first | exact HB.out | apply below_alloc | apply pw_below_drewN | apply below_drew1 | refine below_set ?_ GE277.out) | exact HB.out)⟩⟩
            case rest =>
              clear HC9
              try clear c1
              try clear p2
              try clear q2
              try clear hx2
              try clear c5
              try clear c5b0
              try clear c6
              try clear c6b0
              try clear c7
              try clear c7b0
              try clear c13
              try clear c13b0
              try clear c13b1
              try clear hcz12_0
              try clear hcz12_1
              try clear hcz12_2
              try clear hfz12_0
              try clear hfz12_1
              try clear hfz12_2
              try clear hx272_0
              try clear p2
              try clear p272
              try clear q272
              obtain ⟨kq, x34_8, rfl, HA, HJ8, HO_5, HO_17, BK277, HB⟩ := hcut
              cases kq with
              | zero => exact absurd HA.out (by simp [impl_SalvageBlocks.j1])
              | succ kj8 =>
                have H := HA.out
                clear HA
                simp only [impl_SalvageBlocks.j1] at H
                by_cases c14 : x34_8 = true
                · subst c14
                  have H1 : (impl_SalvageBlocks.l0 kj8 x5_1 t268 (t268.length : Int) (wrap64 (x19_1 + 1))) = some r := by rw [if_pos rfl] at H; exact H
                  clear H
                  have H := H1
                  clear H1
                  have H' := Aside0.mk H
                  clear H
                  go_wp2
                  go_roundg kj8
                  case measure => have := HK1.out; have := HJ8.out; omega
                  case rel => exact ⟨(x5_1), (wrap64 (x19_1 + 1)), (by first | rfl | (simp; done) | (simp [*]; done)), H', ⟨by have := HK1.out; have := HJ8.out; omega⟩, ⟨by (with_reducible repeat (first | apply Kd.R_alloc | apply Kd.R_drewN | apply Kd.R_drew)); exact Kd.R_mono HO_5.out (fun _ hk => trivial)⟩, ⟨by (with_reducible repeat (first | apply Kd.R_alloc | apply Kd.R_drewN | apply Kd.R_drew)); exact HO_17.out⟩, ⟨by repeat (first | (with_reducible first | exact HB.out | apply below_alloc | apply pw_below_drewN | apply below_drew1 | refine below_set ?_ GE277.out) | exact HB.out)⟩⟩
                · replace c14 := Bool.eq_false_iff.mpr c14
                  subst c14
                  have H1 : ((impl_PutBlock.f kj8 x5_1 t273 t274 t275).bind fun bt278 => (if bt278.2 = 0 then (impl_SalvageBlocks.l0 kj8 bt278.1 t268 (t268.length : Int) (wrap64 (x19_1 + 1))) else (impl_SalvageBlocks.l0 kj8 x5_1 t268 (t268.length : Int) (wrap64 (x19_1 + 1))))) = some r := by rw [if_neg (show ¬ (false = true) by decide)] at H; exact H
                  clear H
                  have H := H1
                  clear H1
                  replace H := Option.bind_eq_some_iff.mp H
                  obtain ⟨⟨t278, t281⟩, A150, H⟩ := H
                  replace H : (if t281 = 0 then (impl_SalvageBlocks.l0 kj8 t278 t268 (t268.length : Int) (wrap64 (x19_1 + 1))) else (impl_SalvageBlocks.l0 kj8 x5_1 t268 (t268.length : Int) (wrap64 (x19_1 + 1)))) = some r := H
                  have A15 := Aside0.mk A150
                  clear A150
                  by_cases c16 : t281 = 0
                  · rw [if_pos c16] at H
                    have c16b0 : (t281 == 0) = true := beq_iff_eq.mpr c16
                    have c16b1 : (t281 != 0) = false := bne_eq_false_iff_eq.mpr c16
                    clear c16
                    have H' := Aside0.mk H
                    clear H
                    have hcz17_0 : wc.cell? ⟨gb277, 0, none⟩ = some (.string t273) := (blk_cell BK277.out 0).trans rfl
                    have hcz17_1 : wc.cell? ⟨gb277, 1, none⟩ = some (.string t274) := (blk_cell BK277.out 1).trans rfl
                    have hcz17_2 : wc.cell? ⟨gb277, 2, none⟩ = some (.string t275) := (blk_cell BK277.out 2).trans rfl
                    have hfz17_0 := blk_frozen BK277.out 0
                    have hfz17_1 := blk_frozen BK277.out 1
                    have hfz17_2 := blk_frozen BK277.out 2
                    obtain ⟨Ao18, co18, eo18⟩ := Kd.R_slice HO_5.out
                    subst eo18
                    go_wp2_with (first | ((with_reducible refine gate_callee (f := 20) rfl ?_); refine goesL_ (some 38) rfl rfl Tryd.func20 (by kernel_rfl) rfl #[.slice Ao18 x5_1.length co18, .agg #[.string t273, .string t274, .string t275]] rfl (by (try simp only [List.map_toArray, List.map_cons, List.map_nil]); first | done | rfl | (simp only [List.length_drop, List.length_take]; rfl)) ?_; (with_reducible refine (impl_PutBlock.calls kj8 _ _ x5_1 t273 t274 t275 t278 t281 _ ?side1 ?side2 ?side3 A15.out).mono ?_); (case side1 => repeat (first | exact (Kd.R_reads' HO_5.out).2.2 | (with_reducible refine Kd.C_alloc ?_ _) | (with_reducible refine Kd.C_drewN ?_ _) | (with_reducible refine Kd.C_drew ?_))); (case side2 => exact (Kd.R_reads' HO_5.out).2.1); (case side3 => first | exact HG.out | exact GOK.drewN HG.out _ | exact GOK.drew HG.out | exact GOK.below HG.out (by repeat (first | (with_reducible first | exact HB.out | apply below_alloc | apply pw_below_drewN | apply below_drew1 | refine below_set ?_ GE277.out) | exact HB.out))); rintro e w19 ⟨v279, rfl, ho0, hb⟩; refine ⟨_, rfl, ?_⟩; have n0_ := Aside0.mk (Kd.R_elder' (by (with_reducible repeat (first | apply Kd.R_alloc | apply Kd.R_drewN | apply Kd.R_drew)); exact HO_5.out) (Kd.R_base ho0) hb); have n1_ := Aside0.mk (Kd.R_below (by (with_reducible repeat (first | apply Kd.R_alloc | apply Kd.R_drewN | apply Kd.R_drew)); exact HO_17.out) hb); have n2_ := Aside0.mk (Kd.R_lower (Kd.R_newB (Kd.R_new' ho0 (Kd.R_lt (by (with_reducible repeat (first | apply Kd.R_alloc | apply Kd.R_drewN | apply Kd.R_drew)); exact HO_5.out))) (g := gb277) (o := .cells #[.string t273, .string t274, .string t275] 36 (0, 0)) (by (with_reducible repeat (first | refine blk_drewN ?_ _ | refine blk_drew ?_ | refine blk_alloc ?_ _)); exact BK277.out)) (below_size (by repeat (first | (with_reducible first | exact HB.out | apply below_alloc | apply pw_below_drewN | apply below_drew1 | refine below_set ?_ GE277.out) | exact HB.out)))); have n3_ := Aside0.mk (blk_below (g := gb277) (o := .cells #[.string t273, .string t274, .string t275] 36 (0, 0)) (by (with_reducible repeat (first | refine blk_drewN ?_ _ | refine blk_drew ?_ | refine blk_alloc ?_ _)); exact BK277.out) hb); have n4_ := Aside0.mk (below_step (by repeat (first | (with_reducible first | exact HB.out | apply below_alloc | apply pw_below_drewN | apply below_drew1 | refine below_set ?_ GE277.out) | exact HB.out)) hb); clear HO_5; clear HO_17; clear BK277; clear HB; have HO_5 := n0_; have HO_17 := n1_; have HO280 := n2_; have BK277 := n3_; have HB := n4_; clear n0_ n1_ n2_ n3_ n4_; (try clear hb); (try clear hb2); (try clear hk); (try clear hi); (try clear ho0)))
                    go_roundg kj8
                    case measure => have := HK1.out; have := HJ8.out; omega
                    case rel => exact ⟨(t278), (wrap64 (x19_1 + 1)), (by first | rfl | (simp; done) | (simp [*]; done)), H', ⟨by have := HK1.out; have := HJ8.out; omega⟩, ⟨by (with_reducible repeat (first | apply Kd.R_alloc | apply Kd.R_drewN | apply Kd.R_drew)); exact Kd.R_mono HO280.out (fun _ hk => trivial)⟩, ⟨by (with_reducible repeat (first | apply Kd.R_alloc | apply Kd.R_drewN | apply Kd.R_drew)); exact HO_17.out⟩, ⟨by repeat (first | (with_reducible first | exact HB.out | apply below_alloc | apply pw_below_drewN | apply below_drew1 | refine below_set ?_ GE277.out) | exact HB.out)⟩⟩
                  · rw [if_neg c16] at H
                    have c16b0 : (t281 == 0) = false := beq_eq_false_iff_ne.mpr c16
                    have c16b1 : (t281 != 0) = true := bne_iff_ne.mpr c16
                    have H' := Aside0.mk H
                    clear H
                    have hcz20_0 : wc.cell? ⟨gb277, 0, none⟩ = some (.string t273) := (blk_cell BK277.out 0).trans rfl
                    have hcz20_1 : wc.cell? ⟨gb277, 1, none⟩ = some (.string t274) := (blk_cell BK277.out 1).trans rfl
                    have hcz20_2 : wc.cell? ⟨gb277, 2, none⟩ = some (.string t275) := (blk_cell BK277.out 2).trans rfl
                    have hfz20_0 := blk_frozen BK277.out 0
                    have hfz20_1 := blk_frozen BK277.out 1
                    have hfz20_2 := blk_frozen BK277.out 2
                    obtain ⟨Ao21, co21, eo21⟩ := Kd.R_slice HO_5.out
                    subst eo21
                    go_wp2_with (first | ((with_reducible refine gate_callee (f := 20) rfl ?_); refine goesL_ (some 38) rfl rfl Tryd.func20 (by kernel_rfl) rfl #[.slice Ao21 x5_1.length co21, .agg #[.string t273, .string t274, .string t275]] rfl (by (try simp only [List.map_toArray, List.map_cons, List.map_nil]); first | done | rfl | (simp only [List.length_drop, List.length_take]; rfl)) ?_; (with_reducible refine (impl_PutBlock.calls kj8 _ _ x5_1 t273 t274 t275 t278 t281 _ ?side1 ?side2 ?side3 A15.out).mono ?_); (case side1 => repeat (first | exact (Kd.R_reads' HO_5.out).2.2 | (with_reducible refine Kd.C_alloc ?_ _) | (with_reducible refine Kd.C_drewN ?_ _) | (with_reducible refine Kd.C_drew ?_))); (case side2 => exact (Kd.R_reads' HO_5.out).2.1); (case side3 => first | exact HG.out | exact GOK.drewN HG.out _ | exact GOK.drew HG.out | exact GOK.below HG.out (by repeat (first | (with_reducible first | exact HB.out | apply below_alloc | apply pw_below_drewN | apply below_drew1 | refine below_set ?_ GE277.out) | exact HB.out))); rintro e w22 ⟨v279, rfl, ho0, hb⟩; refine ⟨_, rfl, ?_⟩; have n0_ := Aside0.mk (Kd.R_elder' (by (with_reducible repeat (first | apply Kd.R_alloc | apply Kd.R_drewN | apply Kd.R_drew)); exact HO_5.out) (Kd.R_base ho0) hb); have n1_ := Aside0.mk (Kd.R_below (by (with_reducible repeat (first | apply Kd.R_alloc | apply Kd.R_drewN | apply Kd.R_drew)); exact HO_17.out) hb); have n2_ := Aside0.mk (Kd.R_lower (Kd.R_newB (Kd.R_new' ho0 (Kd.R_lt (by (with_reducible repeat (first | apply Kd.R_alloc | apply Kd.R_drewN | apply Kd.R_drew)); exact HO_5.out))) (g := gb277) (o := .cells #[.string t273, .string t274, .string t275] 36 (0, 0)) (by (with_reducible repeat (first | refine blk_drewN ?_ _ | refine blk_drew ?_ | refine blk_alloc ?_ _)); exact BK277.out)) (below_size (by repeat (first | (with_reducible first | exact HB.out | apply below_alloc | apply pw_below_drewN | apply below_drew1 | refine below_set ?_ GE277.out) | exact HB.out)))); have n3_ := Aside0.mk (blk_below (g := gb277) (o := .cells #[.string t273, .string t274, .string t275] 36 (0, 0)) (by (with_reducible repeat (first | refine blk_drewN ?_ _ | refine blk_drew ?_ | refine blk_alloc ?_ _)); exact BK277.out) hb); have n4_ := Aside0.mk (below_step (by repeat (first | (with_reducible first | exact HB.out | apply below_alloc | apply pw_below_drewN | apply below_drew1 | refine below_set ?_ GE277.out) | exact HB.out)) hb); clear HO_5; clear HO_17; clear BK277; clear HB; have HO_5 := n0_; have HO_17 := n1_; have HO280 := n2_; have BK277 := n3_; have HB := n4_; clear n0_ n1_ n2_ n3_ n4_; (try clear hb); (try clear hb2); (try clear hk); (try clear hi); (try clear ho0)))
                    go_roundg kj8
                    case measure => have := HK1.out; have := HJ8.out; omega
                    case rel => exact ⟨(x5_1), (wrap64 (x19_1 + 1)), (by first | rfl | (simp; done) | (simp [*]; done)), H', ⟨by have := HK1.out; have := HJ8.out; omega⟩, ⟨by (with_reducible repeat (first | apply Kd.R_alloc | apply Kd.R_drewN | apply Kd.R_drew)); exact Kd.R_mono HO_5.out (fun _ hk => trivial)⟩, ⟨by (with_reducible repeat (first | apply Kd.R_alloc | apply Kd.R_drewN | apply Kd.R_drew)); exact HO_17.out⟩, ⟨by repeat (first | (with_reducible first | exact HB.out | apply below_alloc | apply pw_below_drewN | apply below_drew1 | refine below_set ?_ GE277.out) | exact HB.out)⟩⟩
          · rw [if_neg c7] at H
            exact absurd H (by simp)
        · rw [if_neg c6] at H
          exact absurd H (by simp)
      · rw [if_neg c5] at H
        have c5b0 : decide (x19_1 < (t268.length : Int)) = false := decide_eq_false c5
        clear c5
        obtain rfl := Option.some.inj H
        go_wp2
        go_ret
        exact ⟨_, by first | rfl | (simp [errW_none, errW_some] <;> rfl) | (simp [*, errW_none, errW_some] <;> rfl), by (with_reducible repeat (first | apply Kd.R_alloc | apply Kd.R_drewN | apply Kd.R_drew)); exact HO_5.out, by repeat (first | (with_reducible first | exact HB.out | apply below_alloc | apply pw_below_drewN | apply below_drew1) | exact HB.out)⟩
end Go.Proofs.YtiopkeepldmlkaaDoor.QSB
