/- Plain Lean on the printed functions: blocks loaded from bytes: the head, the lines, their order: the program answers as the reference does. -/
import Derived.Test.YtiopkeepldmlkaaGreatDoorCLBPLBM
import Derived.Test.YtiopkeepldmlkaaGreatDoorCLBPLBNumS
set_option linter.unusedVariables false
set_option linter.unusedSimpArgs false
namespace Go.Proofs.YtiopkeepldmlkaaGreatDoor.QLB
open Go Go.RowKit Go.Proofs.YtiopkeepldmlkaaGreatDoorW.PrintWords Go.Proofs.YtiopkeepldmlkaaGreatDoor.Plain
theorem splitL_snoc (c b : UInt8) : ∀ (l cur : Bytes), splitL c cur (l ++ [b]) = if b = c then splitL c cur l ++ [[]] else (splitL c cur l).dropLast ++ [(splitL c cur l).getLastD [] ++ [b]]
  | [], cur => by
    by_cases h : b = c
    · rw [if_pos h]; simp [splitL, h]
    · rw [if_neg h]; simp [splitL, h]
  | x :: t, cur => by
    have ne : ∀ cur', splitL c cur' t ≠ [] := fun cur' => splitL_ne c t cur'
    by_cases hx : x = c
    · have e1 : splitL c cur (x :: t ++ [b]) = cur :: splitL c [] (t ++ [b]) := by rw [List.cons_append]; simp [splitL, hx]
      have e2 : splitL c cur (x :: t) = cur :: splitL c [] t := by simp [splitL, hx]
      rw [e1, e2, splitL_snoc c b t []]
      rcases hq : splitL c [] t with _ | ⟨y, ys⟩
      · exact absurd hq (ne [])
      · by_cases h : b = c
        · rw [if_pos h, if_pos h]; rfl
        · rw [if_neg h, if_neg h]; simp
    · have e1 : splitL c cur (x :: t ++ [b]) = splitL c (cur ++ [x]) (t ++ [b]) := by rw [List.cons_append]; simp [splitL, hx]
      have e2 : splitL c cur (x :: t) = splitL c (cur ++ [x]) t := by simp [splitL, hx]
      rw [e1, e2, splitL_snoc c b t (cur ++ [x])]
theorem lines_end (p : Bytes) : linesOf (p ++ [10]) = splitL 10 [] p ∧ restOf (p ++ [10]) = [] := by
  unfold linesOf restOf
  rw [splitL_snoc, if_pos rfl]
  simp
theorem rest_open (p : Bytes) (b : UInt8) (h : b ≠ 10) : (restOf (p ++ [b])).isEmpty = false := by
  unfold restOf
  rw [splitL_snoc, if_neg h]
  simp
theorem suffix_nil : strings_HasSuffix.f (B []) (⟨#[10]⟩ : ByteArray) = some false := rfl
theorem suffix_raw (p : Bytes) (b : UInt8) (hs : p.length ≤ 1048576) : stringslite_HasSuffix.f (B (p ++ [b])) (⟨#[10]⟩ : ByteArray) = some (b == 10) := by
  have hz : (B (p ++ [b])).size = p.length + 1 := by rw [B_size]; simp
  have h1 : (⟨#[10]⟩ : ByteArray).size = 1 := rfl
  unfold stringslite_HasSuffix.f
  rw [h1, hz, wrap_id (by omega) (by omega), if_pos (by omega), if_pos (by omega), if_pos (by omega)]
  congr 1
  rw [toList_L, toList_L, L_extract, L_B, show (((p.length + 1 : Nat) : Int) - ((1 : Nat) : Int)).toNat = p.length from by omega, List.drop_left, show p.length + 1 - p.length = 1 from by omega]
  show ([b] == [10]) = (b == 10)
  simp
theorem suffix_snoc (p : Bytes) (b : UInt8) (hs : p.length ≤ 1048576) : strings_HasSuffix.f (B (p ++ [b])) (⟨#[10]⟩ : ByteArray) = some (b == 10) := by
  unfold strings_HasSuffix.f
  rw [suffix_raw p b hs]; rfl
theorem trim_end (p : Bytes) (hs : p.length ≤ 1048576) : strings_TrimSuffix.f (B (p ++ [10])) (⟨#[10]⟩ : ByteArray) = some (B p) := by
  have hz : (B (p ++ [10])).size = p.length + 1 := by rw [B_size]; simp
  have h1 : (⟨#[10]⟩ : ByteArray).size = 1 := rfl
  unfold strings_TrimSuffix.f stringslite_TrimSuffix.f
  rw [suffix_raw p 10 hs, Option.bind_some, if_pos (show ((10 : UInt8) == 10) = true from rfl), h1, hz, wrap_id (by omega) (by omega), if_pos (by omega), if_pos (by omega), Option.bind_some]
  congr 1
  rw [extract_zero, L_B, show (((p.length + 1 : Nat) : Int) - ((1 : Nat) : Int)).toNat = p.length from by omega, List.take_left]
theorem text_lines (p : Bytes) (hs : p.length ≤ 1048576) : impl_textLines.f (B (p ++ [10])) = some ((splitL 10 [] p).map B) := by
  unfold impl_textLines.f
  rw [if_neg (by rw [toList_L, L_B]; simp), trim_end p hs, Option.bind_some, show (⟨#[10]⟩ : ByteArray) = B [10] from rfl, split_lib (B p) (by rw [B_size]; omega) (by rw [B_size]; omega), L_B]; rfl
/-! ### The head -/
def arch7 : Bytes := [97, 114, 99, 104, 105, 118, 101]
def arch : Bytes := [97, 114, 99, 104, 105, 118, 101, 32]
theorem arch_eq : arch = arch7 ++ [32] := rfl
theorem arch7_no : ∀ b ∈ arch7, b ≠ 32 := by decide
def small32 (n : Int) : Bool := decide (0 ≤ n) && decide (n ≤ 32)
def headC (w : Bytes) : Option Int := if w.take 8 = arch then (numC (w.drop 8)).filter small32 else none
theorem num_clean {l : Bytes} {n : Int} (h : numC l = some n) : ∀ b ∈ l, b ≠ 32 := by
  have hd : ∀ r : Bytes, canon r = true → ∀ b ∈ r, b ≠ 32 := by
    intro r hr b hb e
    obtain ⟨_, _, c3, _⟩ := canon_iff.1 hr
    have := List.all_eq_true.1 c3 b hb
    rw [e] at this
    exact absurd this (by decide)
  unfold numC at h
  split at h
  · rename_i h45
    split at h
    · rename_i hc
      rcases l with _ | ⟨c, t⟩
      · simp at h45
      · obtain rfl : c = 45 := by simpa using h45
        intro b hb
        rcases List.mem_cons.1 hb with rfl | hb
        · decide
        · exact hd t hc.1 b hb
    · cases h
  · split at h
    · rename_i hc; exact hd l hc
    · cases h
theorem within_impl (n : Int) : impl_within.f n 0 32 = some (small32 n) := by
  unfold impl_within.f small32
  by_cases h : n ≥ 0
  · rw [if_pos h, decide_eq_true (show 0 ≤ n from h), Bool.true_and]
  · rw [if_neg h, decide_eq_false (show ¬ 0 ≤ n from h), Bool.false_and]
theorem in_spec (n : Int) : spec_l00In.f n 0 32 = some (small32 n) := by
  unfold spec_l00In.f small32
  by_cases h : n ≥ 0
  · rw [if_pos h, decide_eq_true (show 0 ≤ n from h), Bool.true_and]
  · rw [if_neg h, decide_eq_false (show ¬ 0 ≤ n from h), Bool.false_and]
theorem head_no {ws : List ByteArray} : Ev (fun k => spec_l29Head.j0 k ws true) ((0 : Int), false) := Ev.step (fun k => spec_l29Head.j0.eq_2 ..) (Ev.pos rfl (Ev.const _))
theorem head_arch {a t : Bytes} (ha : ∀ b ∈ a, b ≠ 32) : (a ++ 32 :: t).take 8 = arch ↔ a = arch7 := by
  constructor
  · intro h
    have e : a ++ 32 :: t = arch7 ++ 32 :: (a ++ 32 :: t).drop 8 := by
      conv => lhs; rw [← List.take_append_drop 8 (a ++ 32 :: t), h, arch_eq]
      simp
    have h1 := cutL_hit 32 a t ha
    have h2 := cutL_hit 32 arch7 ((a ++ 32 :: t).drop 8) arch7_no
    rw [← e, h1] at h2
    exact congrArg Prod.fst h2
  · intro h; subst h; rfl
theorem head_drop {t : Bytes} : (arch7 ++ 32 :: t).drop 8 = t := rfl
theorem head_spec (w : Bytes) (hw : w.length ≤ 1048576) : ∃ m, Ev (fun k => spec_l29Head.f k (B w)) (m, (headC w).isSome) ∧ ∀ n, headC w = some n → m = n := by
  have hsp := split_spec (B w) (by rw [B_size]; omega) 32
  rw [L_B] at hsp
  have start : ∀ {v : Int × Bool}, Ev (fun k => if (((splitL 32 [] w).map B).length : Int) = 2 then (if 0 < (((splitL 32 [] w).map B).length : Int) then (spec_l29Head.j0 k ((splitL 32 [] w).map B) ((rdOf ByteArray.empty ((splitL 32 [] w).map B) 0).toList != ([97, 114, 99, 104, 105, 118, 101] : List UInt8))) else (none)) else (spec_l29Head.j0 k ((splitL 32 [] w).map B) true)) v → Ev (fun k => spec_l29Head.f k (B w)) v := fun h => Ev.bind hsp h
  rcases index_cases 32 w with ⟨_, h1⟩ | ⟨a, t, h1, _, h3⟩
  · have hn : headC w = none := by
      unfold headC
      rw [if_neg]
      intro h
      have : (32 : UInt8) ∈ w := List.mem_of_mem_take (i := 8) (by rw [h]; decide)
      exact h1 32 this rfl
    refine ⟨0, start ?_, fun n h => by rw [hn] at h; cases h⟩
    rw [hn, splitL_miss 32 w [] h1]
    exact Ev.neg (by show ¬ ((1 : Int) = 2); decide) head_no
  · rw [h1] at hsp ⊢
    rw [h1] at start hw
    rw [splitL_hit 32 a t [] h3] at start
    rw [List.nil_append] at start
    rcases index_cases 32 t with ⟨_, g1⟩ | ⟨a', t', g1, _, g3⟩
    · rw [splitL_miss 32 t [] g1, List.nil_append] at start
      have start2 : ∀ {v : Int × Bool}, Ev (fun k => spec_l29Head.j0 k [B a, B t] ((B a).toList != ([97, 114, 99, 104, 105, 118, 101] : List UInt8))) v → Ev (fun k => spec_l29Head.f k (B (a ++ 32 :: t))) v := fun h => start (Ev.pos rfl (Ev.pos (by show (0 : Int) < 2; decide) h))
      by_cases ha : a = arch7
      · subst ha
        have hc : headC (arch7 ++ 32 :: t) = (numC t).filter small32 := by
          unfold headC
          rw [if_pos ((head_arch arch7_no).2 rfl), head_drop]
        have hnum := num_spec t (by simp at hw; omega)
        rw [hc]
        rcases hq : numC t with _ | n
        · refine ⟨0, start2 ?_, fun n h => by cases h⟩
          refine Ev.step (fun k => spec_l29Head.j0.eq_2 ..) (Ev.neg (by rw [toList_L, L_B]; decide) (Ev.pos (by show (1 : Int) < 2; decide) ?_))
          rw [hq] at hnum
          exact Ev.bind hnum (Ev.neg (by decide) (Ev.const _))
        · refine ⟨n, start2 ?_, fun m h => by
            by_cases h2 : small32 n = true
            · rw [Option.filter_some, if_pos h2] at h
              exact Option.some.inj h
            · rw [Option.filter_some, if_neg h2] at h; cases h⟩
          refine Ev.step (fun k => spec_l29Head.j0.eq_2 ..) (Ev.neg (by rw [toList_L, L_B]; decide) (Ev.pos (by show (1 : Int) < 2; decide) ?_))
          rw [hq] at hnum
          refine Ev.bind hnum (Ev.pos rfl ?_)
          refine Ev.bind (Ev.all (fun _ => in_spec n)) ?_
          rw [show (Option.filter small32 (some n)).isSome = small32 n from by
            rw [Option.filter_some]
            by_cases h2 : small32 n = true
            · rw [if_pos h2, h2]; rfl
            · rw [if_neg h2]; rw [Bool.not_eq_true] at h2; rw [h2]; rfl]
          exact Ev.const _
      · have hn : headC (a ++ 32 :: t) = none := by
          unfold headC
          rw [if_neg (fun h => ha ((head_arch h3).1 h))]
        refine ⟨0, start2 ?_, fun n h => by rw [hn] at h; cases h⟩
        rw [hn]
        refine Ev.step (fun k => spec_l29Head.j0.eq_2 ..) (Ev.pos ?_ (Ev.const _))
        rw [bne_iff_ne, toList_L, L_B]
        exact ha
    · have hn : headC (a ++ 32 :: t) = none := by
        unfold headC
        by_cases ha : (a ++ 32 :: t).take 8 = arch
        · rw [if_pos ha]
          obtain rfl := (head_arch h3).1 ha
          rw [head_drop]
          rcases hq : numC t with _ | n
          · rfl
          · exact absurd rfl (num_clean hq 32 (by rw [g1]; simp))
        · rw [if_neg ha]
      refine ⟨0, start ?_, fun n h => by rw [hn] at h; cases h⟩
      rw [hn, g1, splitL_hit 32 a' t' [] g3]
      have hp : 1 ≤ (splitL 32 [] t').length := by
        rcases hq : splitL 32 [] t' with _ | ⟨y, ys⟩
        · exact absurd hq (splitL_ne 32 t' [])
        · simp
      refine Ev.neg ?_ head_no
      simp only [List.map_cons, List.length_cons, List.length_map]
      omega
/-! ### The lines -/
def blk (l : Bytes) : S44 := ⟨B (parseC l).1, B (parseC l).2.1, B (parseC l).2.2.1⟩
def after (out : List S44) (b : S44) : Bool := match out.getLast? with
  | some z => decide (lt z b)
  | none => true
def loadL (n : Int) : List Bytes → Nat → List S44 → List S44 × Int × Int
  | [], _, out => if (out.length : Int) = n then (out, 0, 0) else ([], 0, 11)
  | l :: t, i, out =>
    if (parseC l).2.2.2 = 0 then (if after out (blk l) = true then loadL n t (i + 1) (out ++ [blk l]) else ([], ((i + 1 : Nat) : Int), 7)) else ([], ((i + 1 : Nat) : Int), (parseC l).2.2.2)
theorem rd_last {out : List S44} {z : S44} (h : out.getLast? = some z) : 0 < out.length ∧ rd_T44 out (((out.length - 1 : Nat) : Int)) = z := by
  have hne : 0 < out.length := by
    rcases out with _ | ⟨x, t⟩
    · simp at h
    · simp
  refine ⟨hne, ?_⟩
  rw [rd_at (by omega)]
  rw [List.getLast?_eq_getElem?, List.getElem?_eq_getElem (by omega)] at h
  exact Option.some.inj h
theorem sload_l0 (n : Int) (ls : List Bytes) (hn : ls.length ≤ 2000000) (hl : ∀ l ∈ ls, l.length ≤ 1048576) : ∀ (t : List Bytes) (i : Nat) (out : List S44), ls.drop i = t → i ≤ ls.length → out.length ≤ i → Ev (fun k => spec_LoadBlocks.l0 k (ls.map B) n out (i : Int)) (loadL n t i out)
  | [], i, out, h, hi, ho => by
    have hil : ls.length ≤ i := by have := congrArg List.length h; simp at this; omega
    refine Ev.step (fun k => spec_LoadBlocks.l0.eq_2 ..) ?_
    refine Ev.neg (by rw [List.length_map]; omega) ?_
    unfold loadL
    by_cases hc : (out.length : Int) = n
    · rw [if_pos hc, if_pos hc]; exact Ev.const _
    · rw [if_neg hc, if_neg hc]; exact Ev.const _
  | l :: t, i, out, h, hi, ho => by
    obtain ⟨hlt, ht, hrd⟩ := rd_lines h
    have hll := hl l (by rw [← List.take_append_drop i ls, h]; simp)
    refine Ev.step (fun k => spec_LoadBlocks.l0.eq_2 ..) ?_
    refine Ev.pos (by rw [List.length_map]; omega) ?_
    refine Ev.pos (by omega) ?_
    rw [hrd, wrap_nat (by omega)]
    have hp := parse_spec (B l) (by rw [B_size]; exact hll)
    rw [L_B] at hp
    refine Ev.bind hp ?_
    have ih := sload_l0 n ls hn hl t (i + 1) (out ++ [blk l]) ht (by omega) (by simp; omega)
    unfold loadL
    by_cases h0 : (parseC l).2.2.2 = 0
    · rw [if_pos h0]
      refine Ev.pos h0 ?_
      rcases hz : out.getLast? with _ | z
      · obtain rfl : out = [] := by simpa using hz
        rw [if_pos (show after [] (blk l) = true from rfl)]
        refine Ev.neg (by decide) ?_
        exact Ev.pos (by decide) ih
      · obtain ⟨hpos, hzr⟩ := rd_last hz
        refine Ev.pos (by omega) ?_
        rw [show wrap64 ((out.length : Int) - 1) = ((out.length - 1 : Nat) : Int) from by rw [wrap_id (by omega) (by omega)]; omega]
        refine Ev.pos (by omega) ?_
        refine Ev.pos (by omega) ?_
        rw [hzr]
        refine Ev.bind (Ev.all (fun _ => before_spec z (blk l))) ?_
        have ha : after out (blk l) = decide (lt z (blk l)) := by unfold after; rw [hz]
        rw [ha]
        by_cases hd : decide (lt z (blk l)) = true
        · rw [if_pos hd]
          refine Ev.pos hd ?_
          exact Ev.pos (by omega) ih
        · rw [if_neg hd]
          refine Ev.neg hd ?_
          exact Ev.const _
    · rw [if_neg h0]
      exact Ev.neg h0 (Ev.const _)
theorem iload_l0 (n : Int) (ls : List Bytes) (hn : ls.length ≤ 2000000) (hl : ∀ l ∈ ls, l.length ≤ 1048576) : ∀ (t : List Bytes) (i : Nat) (out : List S44), ls.drop i = t → i ≤ ls.length → out.length = i → Ev (fun k => impl_LoadBlocks.l0 k n out (ls.map B) (ls.length : Int) (i : Int)) (loadL n t (i + 1) out)
  | [], i, out, h, hi, ho => by
    have hil : ls.length ≤ i := by have := congrArg List.length h; simp at this; omega
    refine Ev.step (fun k => impl_LoadBlocks.l0.eq_2 ..) ?_
    refine Ev.neg (by omega) ?_
    refine Ev.bind (Ev.const _) ?_
    unfold loadL
    by_cases hc : (out.length : Int) = n
    · rw [if_pos hc, if_pos hc]; exact Ev.const _
    · rw [if_neg hc, if_neg hc]; exact Ev.const _
  | l :: t, i, out, h, hi, ho => by
    obtain ⟨hlt, ht, hrd⟩ := rd_lines h
    have hll := hl l (by rw [← List.take_append_drop i ls, h]; simp)
    refine Ev.step (fun k => impl_LoadBlocks.l0.eq_2 ..) ?_
    refine Ev.pos (by omega) ?_
    refine Ev.pos (by omega) ?_
    refine Ev.pos (by rw [List.length_map]; omega) ?_
    rw [hrd]
    have hp := line_impl_of (B l) (by rw [B_size]; exact hll)
    rw [L_B] at hp
    refine Ev.bind hp ?_
    have ih := iload_l0 n ls hn hl t (i + 1) (out ++ [blk l]) ht (by omega) (by simp; omega)
    have go : Ev (fun k => impl_LoadBlocks.j2 k n out (i : Int) (parseC l).2.2.2 (ls.map B) (ls.length : Int) (i : Int) false (B (parseC l).1) (B (parseC l).2.1) (B (parseC l).2.2.1))
        (if (parseC l).2.2.2 = 0 then loadL n t (i + 1 + 1) (out ++ [blk l]) else ([], ((i + 1 + 1 : Nat) : Int), (parseC l).2.2.2)) := by
      refine Ev.step (fun k => impl_LoadBlocks.j2.eq_2 ..) ?_
      refine Ev.neg (by decide) ?_
      by_cases h0 : (parseC l).2.2.2 = 0
      · rw [if_pos h0]
        refine Ev.pos h0 ?_
        refine Ev.pos (by omega) ?_
        rw [wrap_nat (by omega)]
        exact ih
      · rw [if_neg h0]
        refine Ev.neg h0 ?_
        rw [show wrap64 ((i : Int) + 2) = ((i + 1 + 1 : Nat) : Int) from by rw [wrap_id (by omega) (by omega)]; omega]
        exact Ev.const _
    unfold loadL
    by_cases h0 : (parseC l).2.2.2 = 0
    · rw [if_pos h0] at go ⊢
      refine Ev.pos h0 ?_
      rcases hz : out.getLast? with _ | z
      · obtain rfl : out = [] := by simpa using hz
        rw [if_pos (show after [] (blk l) = true from rfl)]
        refine Ev.neg (by simp at ho; omega) ?_
        exact go
      · obtain ⟨hpos, hzr⟩ := rd_last hz
        refine Ev.pos (by omega) ?_
        rw [show wrap64 ((i : Int) - 1) = ((out.length - 1 : Nat) : Int) from by rw [wrap_id (by omega) (by omega)]; omega]
        refine Ev.pos (by omega) ?_
        refine Ev.pos (by omega) ?_
        rw [hzr]
        refine Ev.bind (cmp_spec z (blk l)) ?_
        have ha : after out (blk l) = decide (lt z (blk l)) := by unfold after; rw [hz]
        rw [ha]
        by_cases hd : lt z (blk l)
        · have hc := (cmpI_neg z (blk l)).2 hd
          rw [if_pos (decide_eq_true hd), decide_eq_false (show ¬ cmpI z (blk l) ≥ 0 by omega)]
          exact go
        · have hc : cmpI z (blk l) ≥ 0 := by
            by_cases h' : cmpI z (blk l) < 0
            · exact absurd ((cmpI_neg z (blk l)).1 h') hd
            · omega
          rw [if_neg (by rw [decide_eq_true_iff]; exact hd), decide_eq_true hc]
          refine Ev.step (fun k => impl_LoadBlocks.j2.eq_2 ..) ?_
          refine Ev.pos rfl ?_
          rw [show wrap64 ((i : Int) + 2) = ((i + 1 + 1 : Nat) : Int) from by rw [wrap_id (by omega) (by omega)]; omega]
          exact Ev.const _
    · rw [if_neg h0] at go ⊢
      refine Ev.neg h0 ?_
      exact go
/-! ### The whole -/
def loadC (l : Bytes) : List S44 × Int × Int :=
  if (restOf l).isEmpty = true then (match linesOf l with
    | [] => ([], 0, 11)
    | w :: ws => match headC w with
      | some n => loadL n ws 1 []
      | none => ([], 1, 9)) else ([], 0, 11)
theorem load_spec (s : ByteArray) (hs : s.size ≤ 1048576) : Ev (fun k => spec_LoadBlocks.f k s) (loadC (L s)) := by
  obtain ⟨h1, h2⟩ := lines_bound s hs
  refine Ev.bind (lines_spec s hs) ?_
  dsimp only
  unfold loadC
  by_cases hr : (restOf (L s)).isEmpty = true
  · rw [if_pos hr]
    refine Ev.pos hr ?_
    refine Ev.step (fun k => spec_LoadBlocks.j0.eq_2 ..) ?_
    rcases hq : linesOf (L s) with _ | ⟨w, ws⟩
    · exact Ev.pos (by decide) (Ev.const _)
    · rw [hq] at h1 h2
      refine Ev.neg (by simp only [List.map_cons, List.length_cons]; rw [beq_iff_eq]; omega) ?_
      refine Ev.pos (by simp only [List.map_cons, List.length_cons]; omega) ?_
      rw [show rdOf ByteArray.empty ((w :: ws).map B) 0 = B w from rfl]
      obtain ⟨m, hm, hu⟩ := head_spec w (h2 w (by simp))
      refine Ev.bind hm ?_
      dsimp only
      rcases hc : headC w with _ | n
      · exact Ev.neg (by decide) (Ev.const _)
      · rw [hu n hc]
        refine Ev.pos rfl ?_
        exact sload_l0 n (w :: ws) h1 h2 ws 1 [] rfl (by simp) (by simp)
  · rw [if_neg hr]
    refine Ev.neg hr ?_
    exact Ev.step (fun k => spec_LoadBlocks.j0.eq_2 ..) (Ev.pos rfl (Ev.const _))
theorem prefix_impl (w : Bytes) (hs : w.length ≤ 1048576) : strings_TrimPrefix.f (B w) (⟨#[97, 114, 99, 104, 105, 118, 101, 32]⟩ : ByteArray) = some (if w.take 8 = arch then B (w.drop 8) else B w) := by
  have h8 : (⟨#[97, 114, 99, 104, 105, 118, 101, 32]⟩ : ByteArray).size = 8 := rfl
  have hz := B_size w
  unfold strings_TrimPrefix.f stringslite_TrimPrefix.f
  have hp : stringslite_HasPrefix.f (B w) (⟨#[97, 114, 99, 104, 105, 118, 101, 32]⟩ : ByteArray) = some (decide (w.take 8 = arch)) := by
    unfold stringslite_HasPrefix.f
    rw [h8]
    by_cases h : ((B w).size : Int) ≥ ((8 : Nat) : Int)
    · rw [if_pos h, if_pos (by omega), if_pos (by omega)]
      congr 1
      rw [extract_zero, L_B, toList_L, toList_L, L_B]
      show (w.take 8 == arch) = _
      by_cases he : w.take 8 = arch
      · rw [decide_eq_true he]; simpa using he
      · rw [decide_eq_false he]; simpa using he
    · rw [if_neg h, decide_eq_false]
      intro he
      have := congrArg List.length he
      rw [List.length_take] at this
      have e8 : arch.length = 8 := rfl
      omega
  rw [hp, Option.bind_some]
  by_cases he : w.take 8 = arch
  · rw [if_pos (decide_eq_true he), if_pos he, h8]
    have hl : 8 ≤ w.length := by
      have := congrArg List.length he
      rw [List.length_take] at this
      have e8 : arch.length = 8 := rfl
      omega
    rw [if_pos (by omega), if_pos (by omega), Option.bind_some]
    congr 1
    have := extract_end (B w) 8
    rw [L_B] at this
    exact this
  · rw [if_neg (by simpa using he), if_neg he]; rfl
theorem load_impl (s : ByteArray) (hs : s.size ≤ 1048576) : Ev (fun k => impl_LoadBlocks.f k s) (loadC (L s)) := by
  obtain ⟨l, rfl⟩ : ∃ l, s = B l := ⟨L s, (B_L s).symm⟩
  rw [B_size] at hs
  rw [L_B]
  rcases List.eq_nil_or_concat l with rfl | ⟨p, b, rfl⟩
  · refine Ev.bind (Ev.all (fun _ => suffix_nil)) ?_
    exact Ev.neg (by decide) (Ev.const _)
  · rw [List.length_concat] at hs
    rw [List.concat_eq_append]
    refine Ev.bind (Ev.all (fun _ => suffix_snoc p b (by omega))) ?_
    by_cases hb : b = 10
    · subst hb
      refine Ev.pos rfl ?_
      refine Ev.bind (Ev.all (fun _ => text_lines p (by omega))) ?_
      obtain ⟨g1, g2⟩ := lines_end p
      have hbd := lines_bound (B (p ++ [10])) (by rw [B_size]; simp; omega)
      rw [L_B, g1] at hbd
      unfold loadC
      rw [g1, g2, if_pos (show ([] : Bytes).isEmpty = true from rfl)]
      rcases hq : splitL 10 [] p with _ | ⟨w, ws⟩
      · exact absurd hq (splitL_ne 10 p [])
      · rw [hq] at hbd
        obtain ⟨h1, h2⟩ := hbd
        have hw := h2 w (by simp)
        refine Ev.pos (by simp only [List.map_cons, List.length_cons]; omega) ?_
        rw [show rdOf ByteArray.empty ((w :: ws).map B) 0 = B w from rfl]
        refine Ev.bind (Ev.all (fun _ => prefix_impl w hw)) ?_
        have bad : ∀ m, Ev (fun k => impl_LoadBlocks.j0 k ((w :: ws).map B) m true) (([] : List S44), 1, 9) := fun m => Ev.step (fun k => impl_LoadBlocks.j0.eq_2 ..) (Ev.pos rfl (Ev.const _))
        have good : ∀ n, Ev (fun k => impl_LoadBlocks.j0 k ((w :: ws).map B) n false) (loadL n ws 1 []) := by
          intro n
          refine Ev.step (fun k => impl_LoadBlocks.j0.eq_2 ..) ?_
          refine Ev.neg (by decide) ?_
          refine Ev.pos (by simp; omega) ?_
          refine Ev.bind (Ev.const _) ?_
          show Ev (fun k => impl_LoadBlocks.l0 k n [] (ws.map B) ((ws.map B).length : Int) 0) _
          rw [List.length_map]
          exact iload_l0 n ws (by simp at h1; omega) (fun l hl => h2 l (by simp [hl])) ws 0 [] rfl (Nat.zero_le _) rfl
        have dec : ∀ n : Int, numC w = some n ∨ numC (w.drop 8) = some n → impl_Decimal.f n = some (B (Lib.itoa n)) := by
          intro n h
          rcases h with h | h
          · have := numC_itoa h; exact dec_impl n (by omega) (by omega)
          · have := numC_itoa h; exact dec_impl n (by omega) (by omega)
        by_cases ha : w.take 8 = arch
        · rw [if_pos ha]
          refine Ev.bind (Ev.all (fun _ => read_impl (w.drop 8) (by rw [List.length_drop]; omega))) ?_
          dsimp only
          have hc : headC w = (numC (w.drop 8)).filter small32 := by unfold headC; rw [if_pos ha]
          rw [hc]
          rcases hn : numC (w.drop 8) with _ | n
          · exact Ev.neg (by decide) (bad 0)
          · refine Ev.pos rfl ?_
            refine Ev.bind (Ev.all (fun _ => within_impl n)) ?_
            rw [Option.filter_some]
            by_cases h32 : small32 n = true
            · rw [if_pos h32]
              refine Ev.pos h32 ?_
              refine Ev.bind (Ev.all (fun _ => dec n (.inr hn))) ?_
              have hi := numC_itoa hn
              have hlen := itoa_len n (by omega) (by omega)
              refine Ev.pos (by rw [B_size]; omega) ?_
              have e : ((B w).toList != ((⟨#[97, 114, 99, 104, 105, 118, 101, 32]⟩ : ByteArray) ++ B (Lib.itoa n)).toList) = false := by
                rw [bne_eq_false_iff_eq, toList_L, toList_L, L_B, L_append, L_B, hi.1]
                show w = arch ++ w.drop 8
                rw [← ha, List.take_append_drop]
              show Ev (fun k => impl_LoadBlocks.j0 k ((w :: ws).map B) n ((B w).toList != ((⟨#[97, 114, 99, 104, 105, 118, 101, 32]⟩ : ByteArray) ++ B (Lib.itoa n)).toList)) _
              rw [e]
              exact good n
            · rw [if_neg h32]
              exact Ev.neg h32 (bad n)
        · rw [if_neg ha]
          refine Ev.bind (Ev.all (fun _ => read_impl w (by omega))) ?_
          dsimp only
          have hc : headC w = none := by unfold headC; rw [if_neg ha]
          rw [hc]
          rcases hn : numC w with _ | n
          · exact Ev.neg (by decide) (bad 0)
          · refine Ev.pos rfl ?_
            refine Ev.bind (Ev.all (fun _ => within_impl n)) ?_
            by_cases h32 : small32 n = true
            · refine Ev.pos h32 ?_
              refine Ev.bind (Ev.all (fun _ => dec n (.inl hn))) ?_
              have hi := numC_itoa hn
              have hlen := itoa_len n (by omega) (by omega)
              refine Ev.pos (by rw [B_size]; omega) ?_
              have e : ((B w).toList != ((⟨#[97, 114, 99, 104, 105, 118, 101, 32]⟩ : ByteArray) ++ B (Lib.itoa n)).toList) = true := by
                rw [bne_iff_ne, toList_L, toList_L, L_B, L_append, L_B]
                intro h
                apply ha
                rw [h]
                show (arch ++ Lib.itoa n).take 8 = arch
                exact List.take_left (l₁ := arch)
              show Ev (fun k => impl_LoadBlocks.j0 k ((w :: ws).map B) n ((B w).toList != ((⟨#[97, 114, 99, 104, 105, 118, 101, 32]⟩ : ByteArray) ++ B (Lib.itoa n)).toList)) _
              rw [e]
              exact bad n
            · exact Ev.neg h32 (bad n)
    · refine Ev.neg (by simpa using hb) ?_
      unfold loadC
      rw [rest_open p b hb, if_neg (by decide)]
      exact Ev.const _
theorem loadL_len (n : Int) (hn : n ≤ 32) : ∀ (t : List Bytes) (i : Nat) (out : List S44), ((loadL n t i out).1.length : Int) ≤ 32
  | [], i, out => by
    unfold loadL
    split
    · rename_i h; show (out.length : Int) ≤ 32; omega
    · simp
  | l :: t, i, out => by
    unfold loadL
    split
    · split
      · exact loadL_len n hn t _ _
      · simp
    · simp
theorem loadC_len (l : Bytes) : (loadC l).1.length ≤ 32 := by
  unfold loadC
  split
  · split
    · simp
    · split
      · rename_i n hc
        have h32 : n ≤ 32 := by
          unfold headC at hc
          split at hc
          · have := Option.filter_eq_some_iff.1 hc
            have h := this.2
            unfold small32 at h
            rw [Bool.and_eq_true] at h
            exact of_decide_eq_true h.2
          · cases hc
        have := loadL_len n h32 (by assumption) 1 []
        omega
      · simp
  · simp
theorem law : laws_FnExactLoadBlocks.Pure := by
  intro a0 h0
  refine Ev.rounds (r := true) ?_
  unfold laws_FnExactLoadBlocks.f
  by_cases hs : (a0.size : Int) > 1048576
  · exact Ev.pos hs (Ev.const _)
  · refine Ev.neg hs ?_
    have hs' : a0.size ≤ 1048576 := by omega
    obtain ⟨M, hM⟩ := marks
    have hlen := loadC_len (L a0)
    have hmark := markS_l0 hM (loadC (L a0)).1 [] 1 (by decide) (by simp; omega) (by omega)
    have hheld := heldS_l0 hM (loadC (L a0)).1 [] 1 (by decide) (by simp; omega) (by omega)
    refine Ev.bind (load_spec a0 hs') ?_
    refine Ev.bind (load_impl a0 hs') ?_
    refine Ev.bind (eqS_spec (loadC (L a0)).1 (by omega)) ?_
    refine Ev.pos rfl ?_
    refine Ev.pos rfl ?_
    refine Ev.step (fun k => laws_FnExactLoadBlocks.j0.eq_2 ..) ?_
    refine Ev.neg (by simp) ?_
    refine Ev.bind hmark ?_
    refine Ev.bind hheld ?_
    refine Ev.neg (by omega) ?_
    refine Ev.pos rfl ?_
    refine Ev.bind (load_impl a0 hs') ?_
    refine Ev.bind (eqS_spec (loadC (L a0)).1 (by omega)) ?_
    refine Ev.pos rfl ?_
    refine Ev.pos rfl ?_
    refine Ev.step (fun k => laws_FnExactLoadBlocks.j1.eq_2 ..) ?_
    refine Ev.neg (by simp) ?_
    refine Ev.bind hheld ?_
    refine Ev.neg (by omega) ?_
    exact Ev.pos rfl (Ev.const _)
end Go.Proofs.YtiopkeepldmlkaaGreatDoor.QLB
