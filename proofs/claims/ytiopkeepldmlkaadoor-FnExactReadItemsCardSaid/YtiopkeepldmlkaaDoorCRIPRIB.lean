/- Plain Lean on the printed functions: cutting at newlines, the check sum, decimal numbers, names: the program's and the reference's come to the same. -/
import Derived.Test.YtiopkeepldmlkaaDoorCRIPRIA
import Derived.Test.YtiopkeepldmlkaaDoorCRIQRIx13
set_option linter.unusedVariables false
set_option linter.unusedSimpArgs false
namespace Go.Proofs.YtiopkeepldmlkaaDoor.QRI
open Go Go.RowKit Go.Proofs.YtiopkeepldmlkaaDoorW.PrintWords Go.Proofs.YtiopkeepldmlkaaDoor.Plain
theorem extract_snoc {s : ByteArray} {i j : Nat} {b : UInt8} {t : Bytes} (h : At s i (b :: t)) (hj : j ≤ i) : L (s.extract j (i + 1)) = L (s.extract j i) ++ [b] := by
 rw [L_extract, L_extract]
 have hb : (L s)[i]? = some b := by
  have := congrArg (fun l => l[0]?) h.eq
  simpa [List.getElem?_drop] using this
 rw [show i + 1 - j = (i - j) + 1 from by omega, List.take_add_one, List.getElem?_drop, show j + (i - j) = i from by omega, hb]
 rfl
theorem extract_none (s : ByteArray) (i : Nat) : L (s.extract i i) = [] := by rw [L_extract]; simp
theorem split_l0 (s : ByteArray) (hs : s.size ≤ 1099511627776) (c : UInt8) : ∀ (l : Bytes) (i j : Nat) (out : List ByteArray), At s i l → j ≤ i → out.length + l.length < 8796093022207 →
  Ev (fun k => spec_l01Split.l0 k s (c.toNat : Int) out (j : Int) (i : Int)) (out ++ (splitL c (L (s.extract j i)) l).map B)
 | [], i, j, out, h, hj, ho => by
  have hi := h.nil
  refine Ev.step (fun k => spec_l01Split.l0.eq_2 ..) ?_
  refine Ev.neg (by omega) ?_
  refine Ev.pos (by omega) ?_
  refine Ev.pos (by omega) ?_
  refine Ev.pos (by simp at ho; omega) ?_
  rw [show (out ++ (splitL c (L (s.extract j i)) []).map B) = out ++ [s.extract ((j : Int)).toNat s.size] from by simp [splitL, hi]]
  exact Ev.const _
 | b :: t, i, j, out, h, hj, ho => by
  have hi := h.lt
  have hb := h.bt
  refine Ev.step (fun k => spec_l01Split.l0.eq_2 ..) ?_
  refine Ev.pos (by omega) ?_
  refine Ev.pos (by omega) ?_
  rw [hb, wrap_nat (by omega)]
  by_cases hc : b = c
  ·refine Ev.pos (by rw [hc]) ?_
   refine Ev.pos (by omega) ?_
   refine Ev.pos (by omega) ?_
   refine Ev.pos (by omega) ?_
   refine Ev.pos (by simp at ho; omega) ?_
   have ih := split_l0 s hs c t (i + 1) (i + 1) (out ++ [s.extract j i]) h.tail (Nat.le_refl _) (by simp at ho ⊢; omega)
   rw [extract_none] at ih
   have e : out ++ (splitL c (L (s.extract j i)) (b :: t)).map B = out ++ [s.extract j i] ++ (splitL c [] t).map B := by simp [splitL, hc]
   rw [e]
   exact ih
  ·refine Ev.neg (by rw [byte_eq]; exact hc) ?_
   have ih := split_l0 s hs c t (i + 1) j out h.tail (by omega) (by simp at ho ⊢; omega)
   rw [extract_snoc h hj] at ih
   have e : splitL c (L (s.extract j i)) (b :: t) = splitL c (L (s.extract j i) ++ [b]) t := by simp [splitL, hc]
   rw [e]
   exact ih
theorem split_spec (s : ByteArray) (hs : s.size ≤ 1099511627776) (c : UInt8) : Ev (fun k => spec_l01Split.f k s (c.toNat : Int)) ((splitL c [] (L s)).map B) := by
 have h := split_l0 s hs c (L s) 0 0 [] (At.start s) (Nat.le_refl _) (by rw [L_length]; simp; omega)
 rw [extract_none] at h
 exact h
theorem split_lib (s : ByteArray) (hs : s.size ≤ 1099511627776) (h4 : s.size < 4294967281) (c : UInt8) : strings_Split.f s (B [c]) = some ((splitL c [] (L s)).map B) := by
 unfold strings_Split.f
 rw [if_pos ⟨h4, by simp⟩, splitB_one]
end Go.Proofs.YtiopkeepldmlkaaDoor.QRI
