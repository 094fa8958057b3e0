/- Plain Lean on the printed functions: decimal numbers, five digits, names. -/
import Derived.Test.YtiopkeepldmlkaaGreatDoorCLBPLBB
set_option linter.unusedVariables false
set_option linter.unusedSimpArgs false
namespace Go.Proofs.YtiopkeepldmlkaaGreatDoor.QLB
open Go Go.RowKit Go.Proofs.YtiopkeepldmlkaaGreatDoorW.PrintWords Go.Proofs.YtiopkeepldmlkaaGreatDoor.Plain
/-- The decimal digits from the last one on. -/
def revDigits (a : Nat) : List Int := if h : a = 0 then [] else ((48 + a % 10 : Nat) : Int) :: revDigits (a / 10)
termination_by a
decreasing_by omega
theorem revDigits_zero : revDigits 0 = [] := by rw [revDigits, dif_pos rfl]
theorem revDigits_pos {a : Nat} (h : ¬ a = 0) : revDigits a = ((48 + a % 10 : Nat) : Int) :: revDigits (a / 10) := by rw [revDigits, dif_neg h]
theorem revDigits_length : ∀ (k a : Nat), a < 10 ^ k → (revDigits a).length ≤ k
  | 0, a, h => by
    have : a = 0 := by simpa using h
    rw [this, revDigits_zero]; simp
  | k + 1, a, h => by
    by_cases h0 : a = 0
    · rw [h0, revDigits_zero]; simp
    · rw [revDigits_pos h0]
      have := revDigits_length k (a / 10) (by rw [Nat.pow_succ] at h; omega)
      simp; omega
theorem revDigits_dec : ∀ (a : Nat), a ≠ 0 → ((revDigits a).reverse.map fun n : Int => UInt8.ofNat n.toNat) = Lib.decDigits a := by
  intro a
  induction a using Nat.strongRecOn with
  | ind a ih =>
    intro h0
    rw [revDigits_pos h0, List.reverse_cons, List.map_append]
    conv => rhs; rw [Lib.decDigits]
    by_cases h : a < 10
    · rw [dif_pos h, show a / 10 = 0 from by omega, revDigits_zero, show a % 10 = a from by omega]
      simp only [List.reverse_nil, List.map_nil, List.nil_append, List.map_cons, Int.toNat_natCast]
    · rw [dif_neg h, ih (a / 10) (by omega) (by omega)]
      simp only [List.map_nil, List.map_cons, Int.toNat_natCast]
theorem dec_l1 (xs : List Int) (hx : xs.length ≤ 1000) : ∀ (i : Nat) (out : List Int), i ≤ xs.length → out.length + i ≤ 1000 → Ev (fun k => spec_l01Dec.l1 k xs out ((i : Int) - 1)) (strOfNums (out ++ (xs.take i).reverse))
  | 0, out, _, _ => by
    refine Ev.step (fun k => spec_l01Dec.l1.eq_2 ..) ?_
    refine Ev.neg (by omega) ?_
    rw [List.take_zero, List.reverse_nil, List.append_nil]
    exact Ev.const _
  | i + 1, out, hi, ho => by
    refine Ev.step (fun k => spec_l01Dec.l1.eq_2 ..) ?_
    refine Ev.pos (by omega) ?_
    refine Ev.pos (by omega) ?_
    refine Ev.pos (by omega) ?_
    refine Ev.pos (by omega) ?_
    rw [show wrap64 (((i + 1 : Nat) : Int) - 1 - 1) = (i : Int) - 1 from by rw [wrap_id (by omega) (by omega)]; omega]
    have ih := dec_l1 xs hx i (out ++ [rd xs (((i + 1 : Nat) : Int) - 1)]) (by omega) (by simp; omega)
    have e : rd xs (((i + 1 : Nat) : Int) - 1) = xs[i]'(by omega) := by
      unfold rd
      rw [show (((i + 1 : Nat) : Int) - 1).toNat = i from by omega, List.getD_eq_getElem?_getD, List.getElem?_eq_getElem (by omega)]
      rfl
    rw [List.take_add_one, List.getElem?_eq_getElem (by omega), List.reverse_append]
    rw [e] at ih ⊢
    simpa using ih
theorem dec_j1 (xs : List Int) (hx : xs.length ≤ 1000) : Ev (fun k => spec_l01Dec.j1 k xs) (strOfNums xs.reverse) := by
  refine Ev.step (fun k => spec_l01Dec.j1.eq_2 ..) ?_
  rw [wrap_id (by omega) (by omega)]
  have h := dec_l1 xs hx xs.length [] (Nat.le_refl _) (by simpa using hx)
  rw [List.take_length] at h
  exact h
theorem dec_l0 (n : Int) : ∀ (a : Nat) (m : Int) (xs : List Int), m.natAbs = a → a < 9223372036854775808 → (revDigits a).length + xs.length ≤ 900 →
    Ev (fun k => spec_l01Dec.l0 k n xs m) (strOfNums ((if n < 0 then xs ++ revDigits a ++ [45] else xs ++ revDigits a)).reverse) := by
  intro a
  induction a using Nat.strongRecOn with
  | ind a ih =>
    intro m xs hm ha hl
    refine Ev.step (fun k => spec_l01Dec.l0.eq_2 ..) ?_
    by_cases h0 : m = 0
    · refine Ev.pos h0 ?_
      have ha0 : a = 0 := by omega
      rw [ha0, revDigits_zero, List.append_nil]
      by_cases hn : n < 0
      · rw [if_pos hn]
        refine Ev.pos hn ?_
        refine Ev.pos (by omega) ?_
        exact dec_j1 _ (by simp; omega)
      · rw [if_neg hn]
        refine Ev.neg hn ?_
        exact dec_j1 _ (by omega)
    · refine Ev.neg h0 ?_
      have ha0 : ¬ a = 0 := by omega
      have hr := revDigits_pos ha0
      rw [hr] at hl
      simp only [List.length_cons] at hl
      have hq : (Int.tdiv m 10).natAbs = a / 10 := by rw [Int.natAbs_tdiv, hm]; rfl
      have hw : wrap64 (Int.tdiv m 10) = Int.tdiv m 10 := wrap_id (by omega) (by omega)
      have ih' := ih (a / 10) (by omega) (Int.tdiv m 10) (xs ++ [((48 + a % 10 : Nat) : Int)]) hq (by omega) (by simp; omega)
      rw [show xs ++ [((48 + a % 10 : Nat) : Int)] ++ revDigits (a / 10) = xs ++ revDigits a from by rw [hr, List.append_assoc]; rfl] at ih'
      have hmod : (Int.tmod m 10).natAbs = a % 10 := by rw [Int.natAbs_tmod, hm]; rfl
      have hlt : a % 10 < 10 := Nat.mod_lt _ (by decide)
      rw [hw]
      by_cases hneg : Int.tmod m 10 < 0
      · refine Ev.pos hneg ?_
        refine Ev.pos (by omega) ?_
        rw [wrap_id (n := -(Int.tmod m 10)) (by omega) (by omega), wrap_id (by omega) (by omega), show (48 + -(Int.tmod m 10)) % 256 = ((48 + a % 10 : Nat) : Int) from by omega]
        exact ih'
      · refine Ev.neg hneg ?_
        refine Ev.pos (by omega) ?_
        rw [wrap_id (by omega) (by omega), show (48 + (Int.tmod m 10)) % 256 = ((48 + a % 10 : Nat) : Int) from by omega]
        exact ih'
/-- The reference's decimal form is the library's. -/
theorem dec_spec (n : Int) (h0 : -9223372036854775808 < n) (h1 : n ≤ 9223372036854775807) : Ev (fun k => spec_l01Dec.f k n) (B (Lib.itoa n)) := by
  unfold spec_l01Dec.f
  by_cases hz : n = 0
  · subst hz
    refine Ev.pos rfl ?_
    rw [show B (Lib.itoa 0) = (⟨#[48]⟩ : ByteArray) from by unfold Lib.itoa; rw [if_neg (by decide), Lib.decDigits, dif_pos (by decide)]; rfl]
    exact Ev.const _
  · refine Ev.neg hz ?_
    have hl : (revDigits n.natAbs).length ≤ 19 := revDigits_length 19 _ (by omega)
    have h := dec_l0 n n.natAbs n [] rfl (by omega) (by simp; omega)
    have e : strOfNums ((if n < 0 then [] ++ revDigits n.natAbs ++ [45] else [] ++ revDigits n.natAbs)).reverse = B (Lib.itoa n) := by
      apply L_inj
      rw [L_B]
      show (strOfNums _).data.toList = _
      rw [strOfNums_data]
      unfold Lib.itoa
      by_cases hn : n < 0
      · rw [if_pos hn, if_pos hn, List.nil_append, List.reverse_append, List.map_append, revDigits_dec _ (by omega)]; rfl
      · rw [if_neg hn, if_neg hn, List.nil_append, revDigits_dec _ (by omega)]
        congr 1; omega
    rw [e] at h
    exact h
theorem dec_len : ∀ (k u : Nat), u < 10 ^ (k + 1) → (Lib.decDigits u).length ≤ k + 1
  | 0, u, h => by rw [Lib.decDigits, dif_pos (by simpa using h)]; simp
  | k + 1, u, h => by
    rw [Lib.decDigits]
    split
    · simp
    · have := dec_len k (u / 10) (by rw [Nat.pow_succ] at h; omega)
      simp; omega
theorem dec_len_pos (u : Nat) : 1 ≤ (Lib.decDigits u).length := by
  rw [Lib.decDigits]
  split <;> simp
/-- Five digits. -/
def five (n : Int) : Bytes := List.replicate (5 - (Lib.itoa n).length) 48 ++ Lib.itoa n
theorem five_l0 : ∀ (d : Nat) (l : Bytes), 5 - l.length = d → l.length ≤ 1000 → Ev (fun k => spec_l29Five.l0 k (B l)) (B (List.replicate d 48 ++ l))
  | 0, l, hd, hl => by
    refine Ev.step (fun k => spec_l29Five.l0.eq_2 ..) ?_
    refine Ev.neg (by rw [B_size]; omega) ?_
    exact Ev.const _
  | d + 1, l, hd, hl => by
    refine Ev.step (fun k => spec_l29Five.l0.eq_2 ..) ?_
    refine Ev.pos (by rw [B_size]; omega) ?_
    refine Ev.pos (by rw [B_size]; omega) ?_
    have ih := five_l0 d (48 :: l) (by simp; omega) (by simp; omega)
    rw [show (⟨#[48]⟩ : ByteArray) ++ B l = B (48 :: l) from by rw [show (⟨#[48]⟩ : ByteArray) = B [48] from rfl, B_append]; rfl]
    rw [show List.replicate (d + 1) (48 : UInt8) ++ l = List.replicate d 48 ++ 48 :: l from by rw [List.replicate_succ', List.append_assoc]; rfl]
    exact ih
theorem itoa_len (n : Int) (h0 : -9223372036854775808 ≤ n) (h1 : n ≤ 9223372036854775807) : (Lib.itoa n).length ≤ 21 := by
  unfold Lib.itoa
  split
  · have := dec_len 19 n.natAbs (by omega); simp; omega
  · have := dec_len 19 n.toNat (by omega); omega
theorem five_spec (n : Int) (h0 : -9223372036854775808 < n) (h1 : n ≤ 9223372036854775807) : Ev (fun k => spec_l29Five.f k n) (B (five n)) := by
  refine Ev.bind (dec_spec n h0 h1) ?_
  exact five_l0 _ _ rfl (by have := itoa_len n (by omega) h1; omega)
theorem itoa_len5 (n : Int) (h0 : 0 ≤ n) (h1 : n ≤ 65535) : (Lib.itoa n).length ≤ 5 := by
  unfold Lib.itoa
  rw [if_neg (by omega)]
  exact dec_len 4 n.toNat (by omega)
theorem repeat_one (c : UInt8) : ∀ n, Lib.repeatL [c] n = List.replicate n c
  | 0 => rfl
  | n + 1 => by rw [Lib.repeatL, repeat_one c n]; rfl
theorem dec_impl (n : Int) (h0 : -9223372036854775808 ≤ n) (h1 : n ≤ 9223372036854775807) : impl_Decimal.f n = some (B (Lib.itoa n)) := by
  unfold impl_Decimal.f strconv_FormatInt_53.f
  rw [if_pos ⟨rfl, h0, h1⟩]; rfl
theorem pad_impl (n : Int) (h0 : 0 ≤ n) (h1 : n ≤ 65535) : strings_Repeat.f (⟨#[48]⟩ : ByteArray) (wrap64 (5 - ((B (Lib.itoa n)).size : Int))) = some (B (List.replicate (5 - (Lib.itoa n).length) 48)) := by
  have := itoa_len5 n h0 h1
  rw [B_size, wrap_id (by omega) (by omega)]
  unfold strings_Repeat.f
  have hs : (⟨#[48]⟩ : ByteArray).size = 1 := rfl
  rw [if_pos ⟨by omega, by omega, by rw [hs]; omega⟩]
  rw [show (⟨#[48]⟩ : ByteArray).data.toList = [48] from rfl, repeat_one, show (5 - ((Lib.itoa n).length : Int)).toNat = 5 - (Lib.itoa n).length from by omega]
  rfl
/-! ### The check sum's range -/
theorem bits_xor_any (k : IntKind) (j : Nat) (hj : j ≤ k.bits) (hk : ∀ n : Int, 0 ≤ n → n < 2 ^ j → k.wrap n = n) (a b : Nat) (ha : a < 2 ^ j) (hb : b < 2 ^ j) : Go.bits .xor k a b = ((a ^^^ b : Nat) : Int) := by
  have hp : 2 ^ j ≤ 2 ^ k.bits := Nat.pow_le_pow_right (by decide) hj
  have ha' : a % 2 ^ k.bits = a := Nat.mod_eq_of_lt (Nat.lt_of_lt_of_le ha hp)
  have hb' : b % 2 ^ k.bits = b := Nat.mod_eq_of_lt (Nat.lt_of_lt_of_le hb hp)
  have cast : ∀ n : Nat, n < 2 ^ j → ((n : Nat) : Int) < 2 ^ j := fun n h => by exact_mod_cast h
  simp only [Go.bits, BitVec.ofInt_natCast, BitVec.toNat_xor, BitVec.toNat_ofNat, ha', hb']
  exact hk _ (Int.natCast_nonneg _) (cast _ (Nat.xor_lt_two_pow ha hb))
theorem bits_xor_nat {a b : Nat} (ha : a < 2 ^ 16) (hb : b < 2 ^ 16) : Go.bits .xor .i64 (a : Int) (b : Int) = ((a ^^^ b : Nat) : Int) := bits_xor_any .i64 16 (by decide) (fun n h0 h1 => by rw [IntKind.wrap_i64]; omega) a b ha hb
theorem crcBit_range {n : Int} (h0 : 0 ≤ n) (h1 : n ≤ 65535) : 0 ≤ crcBit n ∧ crcBit n ≤ 65535 := by
  unfold crcBit
  rw [wrap_id (by omega) (by omega)]
  split
  · have hm : Go.bits .and .i64 (n * 2) 65535 = (n * 2) % 65536 := bits_mask .i64 62 (by decide) (fun n h0 h1 => by rw [IntKind.wrap_i64]; omega) 16 (by decide) (n * 2) (by omega) (by omega)
    rw [hm]
    obtain ⟨a, ha⟩ : ∃ a : Nat, (n * 2) % 65536 = (a : Int) := ⟨((n * 2) % 65536).toNat, by omega⟩
    have ha2 : a < 2 ^ 16 := by omega
    rw [ha, show (4129 : Int) = ((4129 : Nat) : Int) from rfl, bits_xor_nat ha2 (by decide)]
    have := Nat.xor_lt_two_pow ha2 (show 4129 < 2 ^ 16 by decide)
    omega
  · omega
theorem crcByte_range {n : Int} (h0 : 0 ≤ n) (h1 : n ≤ 65535) (b : UInt8) : 0 ≤ crcByte n b ∧ crcByte n b ≤ 65535 := by
  unfold crcByte
  have hb := byte_lt b
  have hx : 0 ≤ Go.bits .xor .i64 n (wrap64 (wrap64 (b.toNat : Int) * 256)) ∧ Go.bits .xor .i64 n (wrap64 (wrap64 (b.toNat : Int) * 256)) ≤ 65535 := by
    rw [wrap_id (n := (b.toNat : Int)) (by omega) (by omega), wrap_id (by omega) (by omega)]
    obtain ⟨a, rfl⟩ := Int.eq_ofNat_of_zero_le h0
    have ha2 : a < 2 ^ 16 := by omega
    rw [show ((b.toNat : Int) * 256) = ((b.toNat * 256 : Nat) : Int) from by omega, bits_xor_nat ha2 (by omega)]
    have := Nat.xor_lt_two_pow ha2 (show b.toNat * 256 < 2 ^ 16 by omega)
    omega
  have r := fun {n : Int} (h : 0 ≤ n ∧ n ≤ 65535) => crcBit_range h.1 h.2
  exact r (r (r (r (r (r (r (r hx)))))))
theorem crcL_range : ∀ (l : Bytes) (n : Int), 0 ≤ n → n ≤ 65535 → 0 ≤ crcL n l ∧ crcL n l ≤ 65535
  | [], n, h0, h1 => ⟨h0, h1⟩
  | b :: t, n, h0, h1 => crcL_range t _ (crcByte_range h0 h1 b).1 (crcByte_range h0 h1 b).2
/-! ### Names -/
def small (b : UInt8) : Bool := decide (97 ≤ b.toNat) && decide (b.toNat ≤ 122)
def digit (b : UInt8) : Bool := decide (48 ≤ b.toNat) && decide (b.toNat ≤ 57)
def isName (l : Bytes) : Bool := decide (l.length ≤ 10) && small (l.headD 0) && l.all fun b => small b || digit b
theorem small_spec (b : UInt8) : spec_l01Small.f (b.toNat : Int) = some (small b) := by
  unfold spec_l01Small.f small
  by_cases h : (b.toNat : Int) ≥ 97
  · rw [if_pos h, show decide (97 ≤ b.toNat) = true from decide_eq_true (by omega), Bool.true_and]
    congr 1
    exact decide_eq_decide.2 (by omega)
  · rw [if_neg h, show decide (97 ≤ b.toNat) = false from decide_eq_false (by omega), Bool.false_and]
theorem digit_spec (b : UInt8) : spec_l01Digit.f (b.toNat : Int) = some (digit b) := by
  unfold spec_l01Digit.f digit
  by_cases h : (b.toNat : Int) ≥ 48
  · rw [if_pos h, show decide (48 ≤ b.toNat) = true from decide_eq_true (by omega), Bool.true_and]
    congr 1
    exact decide_eq_decide.2 (by omega)
  · rw [if_neg h, show decide (48 ≤ b.toNat) = false from decide_eq_false (by omega), Bool.false_and]
theorem name_l0 (s : ByteArray) (hs : s.size ≤ 1099511627776) : ∀ (l : Bytes) (i : Nat), At s i l → Ev (fun k => spec_l01Name.l0 k s (i : Int)) (l.all fun b => small b || digit b)
  | [], i, h => by
    have hi := h.nil
    refine Ev.step (fun k => spec_l01Name.l0.eq_2 ..) ?_
    refine Ev.neg (by omega) ?_
    exact Ev.const _
  | b :: t, i, h => by
    have hi := h.lt
    refine Ev.step (fun k => spec_l01Name.l0.eq_2 ..) ?_
    refine Ev.pos (by omega) ?_
    refine Ev.pos (by omega) ?_
    rw [h.bt, wrap_nat (by omega)]
    refine Ev.bind (Ev.all (fun _ => small_spec b)) ?_
    have ih := name_l0 s hs t (i + 1) h.tail
    rw [List.all_cons]
    by_cases h1 : small b = true
    · refine Ev.pos h1 ?_
      rw [h1, Bool.true_or, Bool.true_and]; exact ih
    · refine Ev.neg h1 ?_
      refine Ev.bind (Ev.all (fun _ => digit_spec b)) ?_
      rw [Bool.not_eq_true] at h1
      by_cases h2 : digit b = true
      · refine Ev.pos h2 ?_
        rw [h2, Bool.or_true, Bool.true_and]; exact ih
      · refine Ev.neg h2 ?_
        rw [Bool.not_eq_true] at h2
        rw [h1, h2, Bool.or_false, Bool.false_and]; exact Ev.const _
theorem name_spec (s : ByteArray) (hs : s.size ≤ 1099511627776) : Ev (fun k => spec_l01Name.f k s) (isName (L s)) := by
  unfold spec_l01Name.f
  have hlen := L_length s
  rcases hl : L s with _ | ⟨b, t⟩
  · refine Ev.pos (by rw [toList_L, hl]) ?_
    refine Ev.step (fun k => spec_l01Name.j0.eq_2 ..) ?_
    refine Ev.pos rfl ?_
    exact Ev.const _
  · rw [hl] at hlen
    have hat : At s 0 (b :: t) := ⟨hl, Nat.zero_le _⟩
    refine Ev.neg (by rw [toList_L, hl]; simp) ?_
    by_cases h10 : (s.size : Int) > 10
    · refine Ev.pos h10 ?_
      refine Ev.step (fun k => spec_l01Name.j0.eq_2 ..) ?_
      refine Ev.pos rfl ?_
      rw [show isName (b :: t) = false from by unfold isName; rw [decide_eq_false (by omega)]; simp]
      exact Ev.const _
    · refine Ev.neg h10 ?_
      refine Ev.pos (by have := hat.lt; omega) ?_
      have hb := hat.bt
      rw [show ((0 : Nat) : Int) = 0 from rfl] at hb
      rw [hb]
      refine Ev.bind (Ev.all (fun _ => small_spec b)) ?_
      refine Ev.step (fun k => spec_l01Name.j0.eq_2 ..) ?_
      by_cases h1 : small b = true
      · refine Ev.neg (by rw [h1]; simp) ?_
        rw [show isName (b :: t) = ((b :: t).all fun b => small b || digit b) from by unfold isName; rw [decide_eq_true (by omega)]; simp [h1]]
        exact name_l0 s hs _ 0 hat
      · rw [Bool.not_eq_true] at h1
        refine Ev.pos (by rw [h1]; rfl) ?_
        rw [show isName (b :: t) = false from by unfold isName; simp [h1]]
        exact Ev.const _
theorem iname_l0 (s : ByteArray) (hs : s.size ≤ 1099511627776) : ∀ (l : Bytes) (i : Nat), At s i l → Ev (fun k => impl_IsName.l0 k (Go.Proofs.YtiopkeepldmlkaaGreatDoorW.PrintWords.bytesOf s) (s.size : Int) (i : Int)) ((i != 0 || l.isEmpty || small (l.headD 0)) && l.all fun b => small b || digit b)
  | [], i, h => by
    have hi := h.nil
    refine Ev.step (fun k => impl_IsName.l0.eq_2 ..) ?_
    refine Ev.neg (by omega) ?_
    rw [show ((i != 0 || ([] : Bytes).isEmpty || small (([] : Bytes).headD 0)) && ([] : Bytes).all fun b => small b || digit b) = true from by simp]
    exact Ev.const _
  | b :: t, i, h => by
    have hi := h.lt
    refine Ev.step (fun k => impl_IsName.l0.eq_2 ..) ?_
    refine Ev.pos (by omega) ?_
    refine Ev.pos (by omega) ?_
    refine Ev.pos (by rw [bytesOf_length]; omega) ?_
    rw [rd_bytesOf, h.bt, wrap_nat (by omega)]
    have ih := iname_l0 s hs t (i + 1) h.tail
    rw [show ((i + 1 != 0 || t.isEmpty || small (t.headD 0)) && t.all fun b => small b || digit b) = (t.all fun b => small b || digit b) from by simp] at ih
    have hb := byte_lt b
    by_cases h97 : (b.toNat : Int) ≥ 97
    · refine Ev.pos h97 ?_
      refine Ev.pos (by omega) ?_
      by_cases h122 : (b.toNat : Int) ≤ 122
      · refine Ev.pos h122 ?_
        have hsm : small b = true := by unfold small; rw [decide_eq_true (by omega), decide_eq_true (by omega)]; rfl
        rw [show ((i != 0 || (b :: t).isEmpty || small ((b :: t).headD 0)) && (b :: t).all fun b => small b || digit b) = (t.all fun b => small b || digit b) from by simp [hsm]]
        exact ih
      · refine Ev.neg h122 ?_
        have hsm : small b = false := by unfold small; rw [decide_eq_false (p := b.toNat ≤ 122) (by omega), Bool.and_false]
        have hdg : digit b = false := by unfold digit; rw [decide_eq_false (p := b.toNat ≤ 57) (by omega), Bool.and_false]
        rw [show ((i != 0 || (b :: t).isEmpty || small ((b :: t).headD 0)) && (b :: t).all fun b => small b || digit b) = false from by simp [hsm, hdg]]
        by_cases hi0 : (i : Int) = 0
        · exact Ev.pos hi0 (Ev.const _)
        · refine Ev.neg hi0 ?_
          exact Ev.neg (by omega) (Ev.const _)
    · refine Ev.neg h97 ?_
      have hsm : small b = false := by unfold small; rw [decide_eq_false (p := 97 ≤ b.toNat) (by omega), Bool.false_and]
      by_cases h48 : (b.toNat : Int) ≥ 48
      · refine Ev.pos h48 ?_
        by_cases hi0 : (i : Int) = 0
        · have : i = 0 := by omega
          rw [show ((i != 0 || (b :: t).isEmpty || small ((b :: t).headD 0)) && (b :: t).all fun b => small b || digit b) = false from by simp [hsm, this]]
          exact Ev.pos hi0 (Ev.const _)
        · refine Ev.neg hi0 ?_
          have hi1 : (i != 0) = true := by simp; omega
          by_cases h57 : (b.toNat : Int) ≤ 57
          · have hdg : digit b = true := by unfold digit; rw [decide_eq_true (by omega), decide_eq_true (by omega)]; rfl
            rw [show ((i != 0 || (b :: t).isEmpty || small ((b :: t).headD 0)) && (b :: t).all fun b => small b || digit b) = (t.all fun b => small b || digit b) from by simp [hi1, hdg]]
            exact Ev.pos h57 ih
          · have hdg : digit b = false := by unfold digit; rw [decide_eq_false (p := b.toNat ≤ 57) (by omega), Bool.and_false]
            rw [show ((i != 0 || (b :: t).isEmpty || small ((b :: t).headD 0)) && (b :: t).all fun b => small b || digit b) = false from by simp [hsm, hdg]]
            exact Ev.neg h57 (Ev.const _)
      · refine Ev.neg h48 ?_
        have hdg : digit b = false := by unfold digit; rw [decide_eq_false (p := 48 ≤ b.toNat) (by omega), Bool.false_and]
        rw [show ((i != 0 || (b :: t).isEmpty || small ((b :: t).headD 0)) && (b :: t).all fun b => small b || digit b) = false from by simp [hsm, hdg]]
        by_cases hi0 : (i : Int) = 0
        · exact Ev.pos hi0 (Ev.const _)
        · exact Ev.neg hi0 (Ev.const _)
theorem name_impl (s : ByteArray) (hs : s.size ≤ 1099511627776) : Ev (fun k => impl_IsName.f k s) (isName (L s)) := by
  unfold impl_IsName.f
  have hlen := L_length s
  rcases hl : L s with _ | ⟨b, t⟩
  · rw [hl] at hlen
    simp at hlen
    refine Ev.pos (by omega) ?_
    refine Ev.step (fun k => impl_IsName.j0.eq_2 ..) ?_
    refine Ev.pos rfl ?_
    exact Ev.const _
  · rw [hl] at hlen
    have hat : At s 0 (b :: t) := ⟨hl, Nat.zero_le _⟩
    refine Ev.neg (by have := hat.lt; omega) ?_
    refine Ev.step (fun k => impl_IsName.j0.eq_2 ..) ?_
    by_cases h10 : (s.size : Int) > 10
    · refine Ev.pos (decide_eq_true h10) ?_
      rw [show isName (b :: t) = false from by unfold isName; rw [decide_eq_false (by omega)]; simp]
      exact Ev.const _
    · refine Ev.neg (by rw [decide_eq_false h10]; decide) ?_
      refine Ev.pos (by omega) ?_
      refine Ev.bind (Ev.const _) ?_
      have h := iname_l0 s hs (b :: t) 0 hat
      rw [bytesOf_length]
      rw [show isName (b :: t) = (((0 : Nat) != 0 || (b :: t).isEmpty || small ((b :: t).headD 0)) && (b :: t).all fun b => small b || digit b) from by unfold isName; rw [decide_eq_true (by omega)]; simp]
      exact h
end Go.Proofs.YtiopkeepldmlkaaGreatDoor.QLB
