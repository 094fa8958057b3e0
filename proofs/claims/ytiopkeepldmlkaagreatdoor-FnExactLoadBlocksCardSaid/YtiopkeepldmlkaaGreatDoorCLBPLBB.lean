/- Plain Lean on the printed functions: cutting at newlines, the check sum, decimal numbers, names: the program's and the reference's come to the same. -/
import Derived.Test.YtiopkeepldmlkaaGreatDoorCLBPLBA
import Derived.Test.YtiopkeepldmlkaaGreatDoorCLBQLBx13
set_option linter.unusedVariables false
set_option linter.unusedSimpArgs false
namespace Go.Proofs.YtiopkeepldmlkaaGreatDoor.QLB
open Go Go.RowKit Go.Proofs.YtiopkeepldmlkaaGreatDoorW.PrintWords Go.Proofs.YtiopkeepldmlkaaGreatDoor.Plain
theorem extract_snoc {s : ByteArray} {i j : Nat} {b : UInt8} {t : Bytes} (h : At s i (b :: t)) (hj : j ≤ i) : L (s.extract j (i + 1)) = L (s.extract j i) ++ [b] := by
  rw [L_extract, L_extract]
  have hb : (L s)[i]? = some b := by
    have := congrArg (fun l => l[0]?) h.eq
    simpa [List.getElem?_drop] using this
  rw [show i + 1 - j = (i - j) + 1 from by omega, List.take_add_one, List.getElem?_drop, show j + (i - j) = i from by omega, hb]
  rfl
theorem extract_none (s : ByteArray) (i : Nat) : L (s.extract i i) = [] := by rw [L_extract]; simp
theorem split_l0 (s : ByteArray) (hs : s.size ≤ 1099511627776) (c : UInt8) : ∀ (l : Bytes) (i j : Nat) (out : List ByteArray), At s i l → j ≤ i → out.length + l.length < 8796093022207 →
    Ev (fun k => spec_l01Split.l0 k s (c.toNat : Int) out (j : Int) (i : Int)) (out ++ (splitL c (L (s.extract j i)) l).map B)
  | [], i, j, out, h, hj, ho => by
    have hi := h.nil
    refine Ev.step (fun k => spec_l01Split.l0.eq_2 ..) ?_
    refine Ev.neg (by omega) ?_
    refine Ev.pos (by omega) ?_
    refine Ev.pos (by omega) ?_
    refine Ev.pos (by simp at ho; omega) ?_
    rw [show (out ++ (splitL c (L (s.extract j i)) []).map B) = out ++ [s.extract ((j : Int)).toNat s.size] from by simp [splitL, hi]]
    exact Ev.const _
  | b :: t, i, j, out, h, hj, ho => by
    have hi := h.lt
    have hb := h.bt
    refine Ev.step (fun k => spec_l01Split.l0.eq_2 ..) ?_
    refine Ev.pos (by omega) ?_
    refine Ev.pos (by omega) ?_
    rw [hb, wrap_nat (by omega)]
    by_cases hc : b = c
    · refine Ev.pos (by rw [hc]) ?_
      refine Ev.pos (by omega) ?_
      refine Ev.pos (by omega) ?_
      refine Ev.pos (by omega) ?_
      refine Ev.pos (by simp at ho; omega) ?_
      have ih := split_l0 s hs c t (i + 1) (i + 1) (out ++ [s.extract j i]) h.tail (Nat.le_refl _) (by simp at ho ⊢; omega)
      rw [extract_none] at ih
      have e : out ++ (splitL c (L (s.extract j i)) (b :: t)).map B = out ++ [s.extract j i] ++ (splitL c [] t).map B := by simp [splitL, hc]
      rw [e]
      exact ih
    · refine Ev.neg (by rw [byte_eq]; exact hc) ?_
      have ih := split_l0 s hs c t (i + 1) j out h.tail (by omega) (by simp at ho ⊢; omega)
      rw [extract_snoc h hj] at ih
      have e : splitL c (L (s.extract j i)) (b :: t) = splitL c (L (s.extract j i) ++ [b]) t := by simp [splitL, hc]
      rw [e]
      exact ih
theorem split_spec (s : ByteArray) (hs : s.size ≤ 1099511627776) (c : UInt8) : Ev (fun k => spec_l01Split.f k s (c.toNat : Int)) ((splitL c [] (L s)).map B) := by
  have h := split_l0 s hs c (L s) 0 0 [] (At.start s) (Nat.le_refl _) (by rw [L_length]; simp; omega)
  rw [extract_none] at h
  exact h
theorem split_lib (s : ByteArray) (hs : s.size ≤ 1099511627776) (h4 : s.size < 4294967281) (c : UInt8) : strings_Split.f s (B [c]) = some ((splitL c [] (L s)).map B) := by
  unfold strings_Split.f
  rw [if_pos ⟨h4, by simp⟩, splitB_one]
/-- The lines of bytes that are ended; what follows them. -/
def linesOf (l : Bytes) : List Bytes := (splitL 10 [] l).dropLast
def restOf (l : Bytes) : Bytes := (splitL 10 [] l).getLastD []
theorem take_map_dropLast (l : List Bytes) : (l.map B).take ((l.map B).length - 1) = l.dropLast.map B := by rw [← List.dropLast_eq_take, List.map_dropLast]
theorem split_len (l : Bytes) : 1 ≤ ((splitL 10 [] l).map B).length := by
  rw [List.length_map]
  rcases hq : splitL 10 [] l with _ | ⟨a, r⟩
  · exact absurd hq (splitL_ne 10 l [])
  · simp
theorem rdOf_last (l : List Bytes) (h : l ≠ []) : rdOf ByteArray.empty (l.map B) (((l.map B).length : Int) - 1) = B (l.getLastD []) := by
  unfold rdOf
  have hl : 0 < l.length := List.length_pos_iff.2 h
  rw [List.length_map, show ((l.length : Int) - 1).toNat = l.length - 1 from by omega, List.getD_eq_getElem?_getD, List.getElem?_map, List.getLastD_eq_getLast?, List.getLast?_eq_getElem?]
  rw [List.getElem?_eq_getElem (by omega)]
  rfl
theorem lines_spec (s : ByteArray) (hs : s.size ≤ 1048576) : Ev (fun k => spec_l29Lines.f k s) ((linesOf (L s)).map B, (restOf (L s)).isEmpty) := by
  refine Ev.bind (split_spec s (by omega) 10) ?_
  have h1 := split_len (L s)
  have h2 := splitL_length 10 (L s) []
  rw [L_length] at h2
  have hm : ((splitL 10 [] (L s)).map B).length = (splitL 10 [] (L s)).length := List.length_map _
  refine Ev.pos ⟨h1, by omega⟩ ?_
  rw [take_map_dropLast, rdOf_last _ (splitL_ne _ _ _), toList_L, L_B]
  exact Ev.const _
/-! ### The check sum -/
def crcBit (n : Int) : Int := if wrap64 (n * 2) > 65535 then Go.bits .xor .i64 (Go.bits .and .i64 (wrap64 (n * 2)) 65535) 4129 else wrap64 (n * 2)
def crcByte (n : Int) (b : UInt8) : Int := crcBit (crcBit (crcBit (crcBit (crcBit (crcBit (crcBit (crcBit (Go.bits .xor .i64 n (wrap64 (wrap64 (b.toNat : Int) * 256))))))))))
def crcL (n : Int) (l : Bytes) : Int := l.foldl crcByte n
theorem crc_round {s : ByteArray} {i : Nat} {v : Int} (j : Int) (j' : Int) (hj : j < 8) (hw : wrap64 (j + 1) = j') {n : Int} (h : Ev (fun k => spec_l01Crc.l1 k s (crcBit n) (i : Int) j') v) : Ev (fun k => spec_l01Crc.l1 k s n (i : Int) j) v := by
  refine Ev.step (fun k => spec_l01Crc.l1.eq_2 ..) ?_
  refine Ev.pos hj ?_
  rw [hw]
  unfold crcBit at h
  by_cases hc : wrap64 (n * 2) > 65535
  · rw [if_pos hc] at h
    exact Ev.pos hc h
  · rw [if_neg hc] at h
    exact Ev.neg hc h
theorem crc_l0 (s : ByteArray) (hs : s.size ≤ 1099511627776) : ∀ (l : Bytes) (i : Nat) (n : Int), At s i l → Ev (fun k => spec_l01Crc.l0 k s n (i : Int)) (crcL n l)
  | [], i, n, h => by
    have hi := h.nil
    refine Ev.step (fun k => spec_l01Crc.l0.eq_2 ..) ?_
    refine Ev.neg (by omega) ?_
    exact Ev.const _
  | b :: t, i, n, h => by
    have hi := h.lt
    refine Ev.step (fun k => spec_l01Crc.l0.eq_2 ..) ?_
    refine Ev.pos (by omega) ?_
    refine Ev.pos (by omega) ?_
    rw [h.bt]
    refine crc_round 0 1 (by decide) (by unfold wrap64; omega) (crc_round 1 2 (by decide) (by unfold wrap64; omega) (crc_round 2 3 (by decide) (by unfold wrap64; omega) (crc_round 3 4 (by decide) (by unfold wrap64; omega) (crc_round 4 5 (by decide) (by unfold wrap64; omega) (crc_round 5 6 (by decide) (by unfold wrap64; omega) (crc_round 6 7 (by decide) (by unfold wrap64; omega) (crc_round 7 8 (by decide) (by unfold wrap64; omega) ?_)))))))
    refine Ev.step (fun k => spec_l01Crc.l1.eq_2 ..) ?_
    refine Ev.neg (by decide) ?_
    rw [wrap_nat (by omega)]
    exact crc_l0 s hs t (i + 1) _ h.tail
theorem crc_spec (s : ByteArray) (hs : s.size ≤ 1099511627776) (n : Int) : Ev (fun k => spec_l01Crc.f k s n) (crcL n (L s)) := crc_l0 s hs (L s) 0 n (At.start s)
theorem icrc_round {xs : List Int} {m : Int} {i : Nat} {v : Int} (j : Int) (j' : Int) (hj : j < 8) (hw : wrap64 (j + 1) = j') {n : Int} (h : Ev (fun k => impl_Crc16.l1 k (crcBit n) xs m (i : Int) j') v) : Ev (fun k => impl_Crc16.l1 k n xs m (i : Int) j) v := by
  refine Ev.step (fun k => impl_Crc16.l1.eq_2 ..) ?_
  refine Ev.pos hj ?_
  rw [hw]
  unfold crcBit at h
  by_cases hc : wrap64 (n * 2) > 65535
  · rw [if_pos hc] at h
    exact Ev.pos hc h
  · rw [if_neg hc] at h
    exact Ev.neg hc h
theorem icrc_l0 (s : ByteArray) (hs : s.size ≤ 1099511627776) : ∀ (l : Bytes) (i : Nat) (n : Int), At s i l → Ev (fun k => impl_Crc16.l0 k n (Go.Proofs.YtiopkeepldmlkaaGreatDoorW.PrintWords.bytesOf s) (s.size : Int) (i : Int)) (crcL n l)
  | [], i, n, h => by
    have hi := h.nil
    refine Ev.step (fun k => impl_Crc16.l0.eq_2 ..) ?_
    refine Ev.neg (by omega) ?_
    exact Ev.const _
  | b :: t, i, n, h => by
    have hi := h.lt
    refine Ev.step (fun k => impl_Crc16.l0.eq_2 ..) ?_
    refine Ev.pos (by omega) ?_
    refine Ev.pos (by omega) ?_
    refine Ev.pos (by rw [bytesOf_length]; omega) ?_
    rw [rd_bytesOf, h.bt]
    refine icrc_round 0 1 (by decide) (by unfold wrap64; omega) (icrc_round 1 2 (by decide) (by unfold wrap64; omega) (icrc_round 2 3 (by decide) (by unfold wrap64; omega) (icrc_round 3 4 (by decide) (by unfold wrap64; omega) (icrc_round 4 5 (by decide) (by unfold wrap64; omega) (icrc_round 5 6 (by decide) (by unfold wrap64; omega) (icrc_round 6 7 (by decide) (by unfold wrap64; omega) (icrc_round 7 8 (by decide) (by unfold wrap64; omega) ?_)))))))
    refine Ev.step (fun k => impl_Crc16.l1.eq_2 ..) ?_
    refine Ev.neg (by decide) ?_
    rw [wrap_nat (by omega)]
    exact icrc_l0 s hs t (i + 1) _ h.tail
theorem crc_impl (s : ByteArray) (hs : s.size ≤ 1099511627776) (n : Int) (h0 : 0 ≤ n) (h1 : n ≤ 65535) : Ev (fun k => impl_Crc16.f k s n) (crcL n (L s)) := by
  have hw : impl_within.f n 0 65535 = some true := by unfold impl_within.f; rw [if_pos (by omega), decide_eq_true (by omega)]
  refine Ev.bind (Ev.all (fun _ => hw)) ?_
  refine Ev.pos rfl ?_
  refine Ev.pos (by omega) ?_
  refine Ev.bind (Ev.const _) ?_
  rw [bytesOf_length]
  exact icrc_l0 s hs (L s) 0 n (At.start s)
end Go.Proofs.YtiopkeepldmlkaaGreatDoor.QLB
