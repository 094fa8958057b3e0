/- Plain Lean on the printed functions: a block and its line. -/
import Derived.Test.YtiopkeepldmlkaaGreatDoorCLBPLBC
set_option linter.unusedVariables false
set_option linter.unusedSimpArgs false
namespace Go.Proofs.YtiopkeepldmlkaaGreatDoor.QLB
open Go Go.RowKit Go.Proofs.YtiopkeepldmlkaaGreatDoorW.PrintWords Go.Proofs.YtiopkeepldmlkaaGreatDoor.Plain
def blockOk (a b c : Bytes) : Bool := !(c.any (· == 10)) && (isName a && (isName b && decide (c.length ≤ 400)))
theorem one_l0 (a b c : ByteArray) (ha : a.size ≤ 1048576) (hb : b.size ≤ 1048576) (hc : c.size ≤ 1048576) : ∀ (l : Bytes) (i : Nat), At c i l →
    Ev (fun k => spec_l29One.l0 k [(⟨a, b, c⟩ : S44)] (i : Int)) (!(l.any (· == 10)) && (isName (L a) && (isName (L b) && decide ((L c).length ≤ 400))))
  | [], i, h => by
    have hi := h.nil
    refine Ev.step (fun k => spec_l29One.l0.eq_2 ..) ?_
    refine Ev.pos (by show (0 : Int) < 1; decide) ?_
    refine Ev.neg (by show ¬ ((i : Int) < (c.size : Int)); omega) ?_
    rw [List.any_nil, Bool.not_false, Bool.true_and]
    refine Ev.bind (name_spec a (by omega)) ?_
    by_cases h1 : isName (L a) = true
    · refine Ev.pos h1 ?_
      rw [h1, Bool.true_and]
      refine Ev.bind (name_spec b (by omega)) ?_
      by_cases h2 : isName (L b) = true
      · refine Ev.pos h2 ?_
        rw [h2, Bool.true_and]
        rw [show decide ((L c).length ≤ 400) = decide ((c.size : Int) ≤ 400) from decide_eq_decide.2 (by rw [L_length]; omega)]
        exact Ev.const _
      · refine Ev.neg h2 ?_
        rw [Bool.not_eq_true] at h2
        rw [h2, Bool.false_and]; exact Ev.const _
    · refine Ev.neg h1 ?_
      rw [Bool.not_eq_true] at h1
      rw [h1, Bool.false_and]; exact Ev.const _
  | x :: t, i, h => by
    have hi := h.lt
    refine Ev.step (fun k => spec_l29One.l0.eq_2 ..) ?_
    refine Ev.pos (by show (0 : Int) < 1; decide) ?_
    refine Ev.pos (by show ((i : Int) < (c.size : Int)); omega) ?_
    refine Ev.pos (by omega) ?_
    rw [show (rd_T44 [(⟨a, b, c⟩ : S44)] 0).f2 = c from rfl, h.bt, wrap_nat (by omega), List.any_cons]
    by_cases hx : x = 10
    · subst hx
      refine Ev.pos (by decide) ?_
      exact Ev.const _
    · refine Ev.neg (by rw [show (10 : Int) = ((10 : UInt8).toNat : Int) from rfl, byte_eq]; exact hx) ?_
      rw [show (x == 10) = false from by simpa using hx, Bool.false_or]
      exact one_l0 a b c ha hb hc t (i + 1) h.tail
theorem one_spec (a b c : ByteArray) (ha : a.size ≤ 1048576) (hb : b.size ≤ 1048576) (hc : c.size ≤ 1048576) : Ev (fun k => spec_l29One.f k [(⟨a, b, c⟩ : S44)]) (blockOk (L a) (L b) (L c)) :=
  one_l0 a b c ha hb hc (L c) 0 (At.start c)
theorem one_impl (a b c : ByteArray) (ha : a.size ≤ 1048576) (hb : b.size ≤ 1048576) (hc : c.size ≤ 1048576) : Ev (fun k => impl_ValidBlock.f k a b c) (blockOk (L a) (L b) (L c)) := by
  unfold blockOk
  refine Ev.bind (name_impl a (by omega)) ?_
  by_cases h1 : isName (L a) = true
  · refine Ev.pos h1 ?_
    rw [h1, Bool.true_and]
    refine Ev.bind (name_impl b (by omega)) ?_
    by_cases h2 : isName (L b) = true
    · refine Ev.pos h2 ?_
      rw [h2, Bool.true_and]
      have hl := L_length c
      by_cases h3 : (c.size : Int) ≤ 400
      · refine Ev.pos h3 ?_
        rw [decide_eq_true (show (L c).length ≤ 400 by omega), Bool.and_true]
        refine Ev.bind (a := (L c).any (· == 10)) (Ev.all (fun _ => ?_)) (Ev.const _)
        unfold strings_Contains.f
        rw [if_pos (by omega), show (⟨#[10]⟩ : ByteArray).data.toList = [10] from rfl, contains_one]
        rfl
      · refine Ev.neg h3 ?_
        rw [decide_eq_false (show ¬ (L c).length ≤ 400 by omega), Bool.and_false]; exact Ev.const _
    · refine Ev.neg h2 ?_
      rw [Bool.not_eq_true] at h2
      rw [h2, Bool.false_and, Bool.and_false]; exact Ev.const _
  · refine Ev.neg h1 ?_
    rw [Bool.not_eq_true] at h1
    rw [h1, Bool.false_and, Bool.and_false]; exact Ev.const _
/-! ### A line's block -/
def bad (n : Int) : Bytes × Bytes × Bytes × Int := ([], [], [], n)
def parseC (l : Bytes) : Bytes × Bytes × Bytes × Int :=
  if l.length < 6 then bad 9 else if l.getD 5 0 ≠ 32 then bad 9 else if l.take 5 ≠ five (crcL 65535 (l.drop 6)) then bad 10 else
  match (cutL 32 (l.drop 6)).2 with
  | none => bad 9
  | some r => match (cutL 32 r).2 with
    | none => bad 9
    | some c => if blockOk (cutL 32 (l.drop 6)).1 (cutL 32 r).1 c = true then ((cutL 32 (l.drop 6)).1, (cutL 32 r).1, c, 0) else bad 9
def toQ (x : Bytes × Bytes × Bytes × Int) : ByteArray × ByteArray × ByteArray × Int := (B x.1, B x.2.1, B x.2.2.1, x.2.2.2)
theorem parse_l0 (s : ByteArray) (hs : s.size ≤ 1048576) {v : ByteArray × ByteArray × ByteArray × Int} : ∀ (l : Bytes) (i : Nat), At s i l → Ev (fun k => spec_l29Parse.j2 k s (((i + (cutL 32 l).1.length : Nat) : Int))) v → Ev (fun k => spec_l29Parse.l0 k s (i : Int)) v
  | [], i, h, hv => by
    have hi := h.nil
    refine Ev.step (fun k => spec_l29Parse.l0.eq_2 ..) ?_
    refine Ev.neg (by omega) ?_
    exact hv
  | x :: t, i, h, hv => by
    have hi := h.lt
    refine Ev.step (fun k => spec_l29Parse.l0.eq_2 ..) ?_
    refine Ev.pos (by omega) ?_
    refine Ev.pos (by omega) ?_
    rw [h.bt, wrap_nat (by omega)]
    by_cases hx : x = 32
    · subst hx
      refine Ev.pos (by decide) ?_
      simpa [cutL] using hv
    · refine Ev.neg (by rw [show (32 : Int) = ((32 : UInt8).toNat : Int) from rfl, byte_eq]; exact hx) ?_
      refine parse_l0 s hs t (i + 1) h.tail ?_
      have e : (cutL 32 (x :: t)).1.length = 1 + (cutL 32 t).1.length := by simp [cutL, hx]; omega
      rw [e, ← Nat.add_assoc] at hv
      exact hv
theorem parse_l1 (s : ByteArray) (hs : s.size ≤ 1048576) (x5 : Int) {v : ByteArray × ByteArray × ByteArray × Int} : ∀ (l : Bytes) (i : Nat), At s i l → Ev (fun k => spec_l29Parse.j4 k s x5 (((i + (cutL 32 l).1.length : Nat) : Int))) v → Ev (fun k => spec_l29Parse.l1 k s x5 (i : Int)) v
  | [], i, h, hv => by
    have hi := h.nil
    refine Ev.step (fun k => spec_l29Parse.l1.eq_2 ..) ?_
    refine Ev.neg (by omega) ?_
    exact hv
  | x :: t, i, h, hv => by
    have hi := h.lt
    refine Ev.step (fun k => spec_l29Parse.l1.eq_2 ..) ?_
    refine Ev.pos (by omega) ?_
    refine Ev.pos (by omega) ?_
    rw [h.bt, wrap_nat (by omega)]
    by_cases hx : x = 32
    · subst hx
      refine Ev.pos (by decide) ?_
      simpa [cutL] using hv
    · refine Ev.neg (by rw [show (32 : Int) = ((32 : UInt8).toNat : Int) from rfl, byte_eq]; exact hx) ?_
      refine parse_l1 s hs x5 t (i + 1) h.tail ?_
      have e : (cutL 32 (x :: t)).1.length = 1 + (cutL 32 t).1.length := by simp [cutL, hx]; omega
      rw [e, ← Nat.add_assoc] at hv
      exact hv
theorem bt5 (s : ByteArray) (h : 5 < s.size) : bt s 5 = (((L s).getD 5 0).toNat : Int) := by
  have hl : 5 < (L s).length := by rw [L_length]; exact h
  have hat : At s 5 ((L s)[5] :: (L s).drop 6) := ⟨by rw [List.drop_eq_getElem_cons hl], by omega⟩
  have := hat.bt
  rw [show ((5 : Nat) : Int) = 5 from rfl] at this
  rw [this, List.getD_eq_getElem?_getD, List.getElem?_eq_getElem hl]
  rfl
theorem sum_ok (l : Bytes) : 0 ≤ crcL 65535 l ∧ crcL 65535 l ≤ 65535 := crcL_range l 65535 (by decide) (by decide)
/-- The reference's parts, once the check sum is right. -/
theorem parse_rest (rest : Bytes) (hs : rest.length ≤ 1048576) : Ev (fun k => spec_l29Parse.l0 k (B rest) 0) (toQ (match (cutL 32 rest).2 with
  | none => bad 9
  | some r => match (cutL 32 r).2 with
    | none => bad 9
    | some c => if blockOk (cutL 32 rest).1 (cutL 32 r).1 c = true then ((cutL 32 rest).1, (cutL 32 r).1, c, 0) else bad 9)) := by
  have hsz : (B rest).size ≤ 1048576 := by rw [B_size]; exact hs
  have hat : At (B rest) 0 rest := ⟨by rw [L_B]; rfl, Nat.zero_le _⟩
  refine parse_l0 (B rest) hsz rest 0 hat ?_
  rw [Nat.zero_add]
  refine Ev.step (fun k => spec_l29Parse.j2.eq_2 ..) ?_
  rcases hc : (cutL 32 rest).2 with _ | r
  · have ha := (cutL_none 32 rest hc).1
    rw [ha, wrap_nat (by omega)]
    refine Ev.step (fun k => spec_l29Parse.l1.eq_2 ..) ?_
    refine Ev.neg (by rw [B_size]; omega) ?_
    refine Ev.step (fun k => spec_l29Parse.j4.eq_2 ..) ?_
    refine Ev.pos (by rw [B_size]; omega) ?_
    exact Ev.const _
  · have hg := (cutL_glue 32 rest r hc).1
    generalize ha : (cutL 32 rest).1 = a at hg ⊢
    have hlen : rest.length = a.length + 1 + r.length := by rw [hg]; simp; omega
    rw [wrap_nat (by omega)]
    have hat2 : At (B rest) (a.length + 1) r := ⟨by rw [L_B, hg, ← List.drop_drop, List.drop_left]; rfl, by rw [B_size]; omega⟩
    refine parse_l1 (B rest) hsz _ r (a.length + 1) hat2 ?_
    refine Ev.step (fun k => spec_l29Parse.j4.eq_2 ..) ?_
    dsimp only
    rcases hc2 : (cutL 32 r).2 with _ | c
    · have hb := (cutL_none 32 r hc2).1
      rw [hb]
      refine Ev.pos (by rw [B_size]; omega) ?_
      exact Ev.const _
    · have hg2 := (cutL_glue 32 r c hc2).1
      generalize hb : (cutL 32 r).1 = b at hg2 ⊢
      have hlen2 : r.length = b.length + 1 + c.length := by rw [hg2]; simp; omega
      refine Ev.neg (by rw [B_size]; omega) ?_
      refine Ev.pos (by omega) ?_
      refine Ev.pos (by rw [B_size]; omega) ?_
      rw [wrap_nat (n := a.length) (by omega), wrap_nat (n := a.length + 1 + b.length) (by omega)]
      refine Ev.pos (by omega) ?_
      refine Ev.pos (by omega) ?_
      refine Ev.pos (by rw [B_size]; omega) ?_
      refine Ev.pos (by omega) ?_
      refine Ev.pos (by rw [B_size]; omega) ?_
      have e1 : (B rest).extract 0 ((a.length : Nat) : Int).toNat = B a := by rw [Int.toNat_natCast, extract_zero, L_B, hg, List.take_left]
      have e2 : (B rest).extract (((a.length + 1 : Nat) : Int)).toNat (((a.length + 1 + b.length : Nat) : Int)).toNat = B b := by
        rw [Int.toNat_natCast, Int.toNat_natCast]
        apply L_inj
        rw [L_extract, L_B, L_B, hg, ← List.drop_drop, List.drop_left, List.drop_succ_cons, List.drop_zero, hg2, show a.length + 1 + b.length - (a.length + 1) = b.length from by omega, List.take_left]
      have e3 : (B rest).extract (((a.length + 1 + b.length + 1 : Nat) : Int)).toNat (B rest).size = B c := by
        rw [Int.toNat_natCast, extract_end, L_B, hg, hg2, show a.length + 1 + b.length + 1 = a.length + (1 + (b.length + 1)) from by omega, ← List.drop_drop, List.drop_left, ← List.drop_drop]
        show B (List.drop (b.length + 1) (b ++ 32 :: c)) = _
        rw [← List.drop_drop, List.drop_left]; rfl
      rw [e1, e2, e3]
      have ho := one_spec (B a) (B b) (B c) (by rw [B_size]; omega) (by rw [B_size]; omega) (by rw [B_size]; omega)
      rw [L_B, L_B, L_B] at ho
      refine Ev.bind ho ?_
      by_cases hk : blockOk a b c = true
      · refine Ev.pos hk ?_
        show Ev _ (toQ (if blockOk a b c = true then (a, b, c, 0) else bad 9))
        rw [if_pos hk]
        exact Ev.const _
      · refine Ev.neg hk ?_
        show Ev _ (toQ (if blockOk a b c = true then (a, b, c, 0) else bad 9))
        rw [if_neg hk]
        exact Ev.const _
theorem parse_spec (s : ByteArray) (hs : s.size ≤ 1048576) : Ev (fun k => spec_l29Parse.f k s) (toQ (parseC (L s))) := by
  unfold spec_l29Parse.f
  have hl := L_length s
  by_cases h6 : (s.size : Int) < 6
  · refine Ev.pos h6 ?_
    refine Ev.step (fun k => spec_l29Parse.j0.eq_2 ..) ?_
    refine Ev.pos rfl ?_
    rw [show parseC (L s) = bad 9 from by unfold parseC; rw [if_pos (by omega)]]
    exact Ev.const _
  · refine Ev.neg h6 ?_
    refine Ev.pos (by omega) ?_
    refine Ev.step (fun k => spec_l29Parse.j0.eq_2 ..) ?_
    rw [bt5 s (by omega)]
    by_cases h5 : (L s).getD 5 0 = 32
    · refine Ev.neg (by rw [h5]; decide) ?_
      refine Ev.pos (by omega) ?_
      refine Ev.bind (Ev.const _) ?_
      refine Ev.pos (by decide) ?_
      refine Ev.pos (by omega) ?_
      have hr := extract_end s 6
      have hd : ((L s).drop 6).length ≤ 1048576 := by rw [List.length_drop]; omega
      rw [hr]
      have hc := crc_spec (B ((L s).drop 6)) (by rw [B_size]; omega) 65535
      rw [L_B] at hc
      refine Ev.bind hc ?_
      have hrange := sum_ok ((L s).drop 6)
      refine Ev.bind (five_spec _ (by omega) (by omega)) ?_
      by_cases hsum : (L s).take 5 = five (crcL 65535 ((L s).drop 6))
      · refine Ev.pos (by rw [bytes_eq, extract_zero, hsum]) ?_
        have h := parse_rest ((L s).drop 6) hd
        unfold parseC
        rw [if_neg (by omega), if_neg (by rw [h5]; simp), if_neg (by rw [hsum]; simp)]
        exact h
      · refine Ev.neg (fun h => hsum (by rw [bytes_eq, extract_zero] at h; exact B_inj h)) ?_
        rw [show parseC (L s) = bad 10 from by unfold parseC; rw [if_neg (by omega), if_neg (by rw [h5]; simp), if_pos hsum]]
        exact Ev.const _
    · refine Ev.pos ?_ ?_
      · rw [bne_iff_ne]
        intro h
        exact h5 (byte_eq.1 (by rw [h]; rfl))
      · rw [show parseC (L s) = bad 9 from by unfold parseC; rw [if_neg (by omega), if_pos h5]]
        exact Ev.const _
/-! ### The program's way -/
theorem cut_impl (s : ByteArray) (hs : s.size ≤ 1048576) : strings_Cut.f s (⟨#[32]⟩ : ByteArray) = some (B (cutL 32 (L s)).1, B ((cutL 32 (L s)).2.getD []), (cutL 32 (L s)).2.isSome) := by
  unfold strings_Cut.f
  rw [if_pos (by omega), show (⟨#[32]⟩ : ByteArray).data.toList = [32] from rfl, cut_one]
  rfl
def lineL (a b c : Bytes) : Bytes := five (crcL 65535 (a ++ 32 :: (b ++ 32 :: c))) ++ 32 :: (a ++ 32 :: (b ++ 32 :: c))
theorem glue3 (a b c : Bytes) : B a ++ (⟨#[32]⟩ : ByteArray) ++ B b ++ (⟨#[32]⟩ : ByteArray) ++ B c = B (a ++ 32 :: (b ++ 32 :: c)) := by
  rw [show (⟨#[32]⟩ : ByteArray) = B [32] from rfl]
  simp only [B_append]
  congr 1
  simp
theorem five_split (n : Int) : B (List.replicate (5 - (Lib.itoa n).length) 48) ++ B (Lib.itoa n) = B (five n) := by rw [B_append]; rfl
theorem five_len (n : Int) (h0 : 0 ≤ n) (h1 : n ≤ 65535) : (five n).length = 5 := by
  have := itoa_len5 n h0 h1
  unfold five
  rw [List.length_append, List.length_replicate]
  omega
theorem line_impl (a b c : Bytes) (hs : a.length + b.length + c.length ≤ 2097152) : Ev (fun k => impl_lineOfBlock.f k (B a) (B b) (B c)) (B (lineL a b c)) := by
  unfold impl_lineOfBlock.f
  simp only [glue3]
  have h0 : (B a).size = a.length := B_size a
  have h1 : (B b).size = b.length := B_size b
  have h2 : (B c).size = c.length := B_size c
  refine Ev.pos (by omega) ?_
  refine Ev.pos (by omega) ?_
  refine Ev.pos (by omega) ?_
  refine Ev.pos (by omega) ?_
  have hc := crc_impl (B (a ++ 32 :: (b ++ 32 :: c))) (by rw [B_size]; simp; omega) 65535 (by decide) (by decide)
  rw [L_B] at hc
  refine Ev.bind hc ?_
  have hr := sum_ok (a ++ 32 :: (b ++ 32 :: c))
  refine Ev.bind (Ev.all (fun _ => dec_impl _ (by omega) (by omega))) ?_
  refine Ev.bind (Ev.all (fun _ => pad_impl _ hr.1 hr.2)) ?_
  have h5 := itoa_len5 _ hr.1 hr.2
  have e1 : (B (List.replicate (5 - (Lib.itoa (crcL 65535 (a ++ 32 :: (b ++ 32 :: c)))).length) 48)).size = 5 - (Lib.itoa (crcL 65535 (a ++ 32 :: (b ++ 32 :: c)))).length := by rw [B_size, List.length_replicate]
  have e2 : (B (Lib.itoa (crcL 65535 (a ++ 32 :: (b ++ 32 :: c))))).size = (Lib.itoa (crcL 65535 (a ++ 32 :: (b ++ 32 :: c)))).length := B_size _
  refine Ev.pos (by omega) ?_
  refine Ev.pos (by omega) ?_
  refine Ev.pos (by omega) ?_
  rw [five_split, show (⟨#[32]⟩ : ByteArray) = B [32] from rfl, B_append, B_append]
  rw [show five (crcL 65535 (a ++ 32 :: (b ++ 32 :: c))) ++ [32] ++ (a ++ 32 :: (b ++ 32 :: c)) = lineL a b c from by unfold lineL; simp]
  exact Ev.const _
theorem isName_nil : isName [] = false := by decide
theorem line_impl_of (s : ByteArray) (hs : s.size ≤ 1048576) : Ev (fun k => impl_blockOfLine.f k s) (toQ (parseC (L s))) := by
  unfold impl_blockOfLine.f
  have hl := L_length s
  by_cases h6 : (s.size : Int) < 6
  · refine Ev.pos h6 ?_
    refine Ev.step (fun k => impl_blockOfLine.j0.eq_2 ..) ?_
    refine Ev.pos rfl ?_
    rw [show parseC (L s) = bad 9 from by unfold parseC; rw [if_pos (by omega)]]
    exact Ev.const _
  · refine Ev.neg h6 ?_
    refine Ev.pos (by omega) ?_
    refine Ev.step (fun k => impl_blockOfLine.j0.eq_2 ..) ?_
    rw [bt5 s (by omega)]
    by_cases h5 : (L s).getD 5 0 = 32
    · refine Ev.neg (by rw [h5]; decide) ?_
      refine Ev.pos (by omega) ?_
      rw [extract_end s 6]
      generalize hrest : (L s).drop 6 = rest
      have hrl : rest.length + 6 = s.size := by rw [← hrest, List.length_drop]; omega
      have hcut := cut_impl (B rest) (by rw [B_size]; omega)
      rw [L_B] at hcut
      refine Ev.bind (Ev.all (fun _ => hcut)) ?_
      dsimp only
      have hcut2 := cut_impl (B ((cutL 32 rest).2.getD [])) (by
        rw [B_size]
        rcases hc : (cutL 32 rest).2 with _ | r
        · simp
        · have := congrArg List.length (cutL_glue 32 rest r hc).1; simp at this ⊢; omega)
      rw [L_B] at hcut2
      refine Ev.bind (Ev.all (fun _ => hcut2)) ?_
      dsimp only
      have hcc := crc_impl (B rest) (by rw [B_size]; omega) 65535 (by decide) (by decide)
      rw [L_B] at hcc
      refine Ev.bind hcc ?_
      have hr := sum_ok rest
      refine Ev.bind (Ev.all (fun _ => dec_impl _ (by omega) (by omega))) ?_
      refine Ev.pos (by decide) ?_
      refine Ev.pos (by omega) ?_
      refine Ev.bind (Ev.all (fun _ => pad_impl _ hr.1 hr.2)) ?_
      have h55 := itoa_len5 _ hr.1 hr.2
      refine Ev.pos (by rw [B_size, B_size, List.length_replicate]; omega) ?_
      by_cases hsum : (L s).take 5 = five (crcL 65535 rest)
      · refine Ev.pos (by rw [bytes_eq, extract_zero, hsum, five_split]) ?_
        have hline : L s = five (crcL 65535 rest) ++ 32 :: rest := by
          have e1 : L s = (L s).take 5 ++ (L s).drop 5 := (List.take_append_drop 5 _).symm
          have e2 : (L s).drop 5 = (L s).getD 5 0 :: (L s).drop 6 := by
            rw [List.drop_eq_getElem_cons (show 5 < (L s).length by omega), List.getD_eq_getElem?_getD, List.getElem?_eq_getElem (show 5 < (L s).length by omega)]; rfl
          rw [e1, e2, hsum, h5, hrest]
        have hpc : parseC (L s) = (match (cutL 32 rest).2 with
            | none => bad 9
            | some r => match (cutL 32 r).2 with
              | none => bad 9
              | some c => if blockOk (cutL 32 rest).1 (cutL 32 r).1 c = true then ((cutL 32 rest).1, (cutL 32 r).1, c, 0) else bad 9) := by
          unfold parseC
          rw [if_neg (by omega), if_neg (by rw [h5]; simp), hrest, if_neg (by rw [hsum]; simp)]
        rw [hpc]
        rcases hc : (cutL 32 rest).2 with _ | r
        · have ha := (cutL_none 32 rest hc).1
          simp only [Option.getD_none, cutL]
          have ho := one_impl (B (cutL 32 rest).1) (B []) (B []) (by rw [B_size, ha]; omega) (by rw [B_size]; simp) (by rw [B_size]; simp)
          rw [L_B, L_B, show blockOk (cutL 32 rest).1 [] [] = false from by unfold blockOk; rw [isName_nil]; simp] at ho
          refine Ev.bind ho ?_
          refine Ev.neg (by decide) ?_
          exact Ev.const _
        · have hg := (cutL_glue 32 rest r hc).1
          simp only [Option.getD_some]
          generalize hga : (cutL 32 rest).1 = a at hg ⊢
          have hlen : rest.length = a.length + 1 + r.length := by rw [hg]; simp; omega
          rcases hc2 : (cutL 32 r).2 with _ | c
          · have hb := (cutL_none 32 r hc2).1
            simp only [Option.getD_none]
            rw [hb]
            have ho := one_impl (B a) (B r) (B []) (by rw [B_size]; omega) (by rw [B_size]; omega) (by rw [B_size]; simp)
            rw [L_B, L_B, L_B] at ho
            refine Ev.bind ho ?_
            by_cases hk : blockOk a r [] = true
            · refine Ev.pos hk ?_
              refine Ev.bind (line_impl a r [] (by simp; omega)) ?_
              refine Ev.neg ?_ (Ev.const _)
              intro he
              rw [bytes_eq] at he
              have he2 := congrArg L he
              rw [L_B, hline] at he2
              have := congrArg List.length he2
              unfold lineL at this
              have hr2 := sum_ok (a ++ 32 :: (r ++ 32 :: []))
              simp only [List.length_append, List.length_cons, five_len _ hr.1 hr.2, five_len _ hr2.1 hr2.2, List.length_nil] at this
              omega
            · exact Ev.neg hk (Ev.const _)
          · have hg2 := (cutL_glue 32 r c hc2).1
            simp only [Option.getD_some]
            generalize hgb : (cutL 32 r).1 = b at hg2 ⊢
            have hlen2 : r.length = b.length + 1 + c.length := by rw [hg2]; simp; omega
            have ho := one_impl (B a) (B b) (B c) (by rw [B_size]; omega) (by rw [B_size]; omega) (by rw [B_size]; omega)
            rw [L_B, L_B, L_B] at ho
            refine Ev.bind ho ?_
            by_cases hk : blockOk a b c = true
            · refine Ev.pos hk ?_
              rw [if_pos hk]
              refine Ev.bind (line_impl a b c (by omega)) ?_
              refine Ev.pos ?_ (Ev.const _)
              rw [bytes_eq]
              apply L_inj
              rw [L_B, hline, hg, hg2]; rfl
            · refine Ev.neg hk ?_
              rw [if_neg hk]
              exact Ev.const _
      · refine Ev.neg (fun h => hsum (by rw [bytes_eq, extract_zero, five_split] at h; exact B_inj h)) ?_
        rw [show parseC (L s) = bad 10 from by unfold parseC; rw [if_neg (by omega), if_neg (by rw [h5]; simp), hrest, if_pos hsum]]
        exact Ev.const _
    · refine Ev.pos ?_ ?_
      · rw [bne_iff_ne]
        intro h
        exact h5 (byte_eq.1 (by rw [h]; rfl))
      · rw [show parseC (L s) = bad 9 from by unfold parseC; rw [if_neg (by omega), if_pos h5]]
        exact Ev.const _
end Go.Proofs.YtiopkeepldmlkaaGreatDoor.QLB
