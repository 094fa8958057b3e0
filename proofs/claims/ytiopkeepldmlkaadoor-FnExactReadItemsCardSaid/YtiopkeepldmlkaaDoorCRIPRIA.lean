/- Plain Lean with no program in sight: what a loop with fuel comes to, bytes of a string by their lists, cutting a text at a byte, decimal digits. -/
import Derived.Test.YtiopkeepldmlkaaDoorCRIWWords
import Derived.Lib.IndexMore
import Derived.Lib.Split
import Derived.Lib.CutLaws
import Derived.Lib.Repeat
import Derived.Lib.ItoaNum
set_option linter.unusedVariables false
set_option linter.unusedSimpArgs false
namespace Go.Proofs.YtiopkeepldmlkaaDoor.Plain
open Go Go.RowKit Go.Proofs.YtiopkeepldmlkaaDoorW.PrintWords
section
variable {α β : Type} {F G : Nat → Option α} {v : α} {u : β}
theorem _root_.Go.Proofs.YtiopkeepldmlkaaDoorW.PrintWords.Ev.const (v : α) : Ev (fun _ => some v) v := ⟨0, fun _ _ => rfl⟩
theorem _root_.Go.Proofs.YtiopkeepldmlkaaDoorW.PrintWords.Ev.all (h : ∀ k, F k = some v) : Ev F v := ⟨0, fun k _ => h k⟩
theorem _root_.Go.Proofs.YtiopkeepldmlkaaDoorW.PrintWords.Ev.pos {c : Prop} [Decidable c] {A B : Nat → Option α} (hc : c) (h : Ev A v) : Ev (fun k => if c then A k else B k) v := by
 obtain ⟨a, ha⟩ := h
 exact ⟨a, fun k hk => by show (if c then A k else B k) = _; rw [if_pos hc]; exact ha k hk⟩
theorem _root_.Go.Proofs.YtiopkeepldmlkaaDoorW.PrintWords.Ev.neg {c : Prop} [Decidable c] {A B : Nat → Option α} (hc : ¬ c) (h : Ev B v) : Ev (fun k => if c then A k else B k) v := by
 obtain ⟨a, ha⟩ := h
 exact ⟨a, fun k hk => by show (if c then A k else B k) = _; rw [if_neg hc]; exact ha k hk⟩
end
theorem wrap_id {n : Int} (h0 : -9223372036854775808 ≤ n) (h1 : n ≤ 9223372036854775807) : wrap64 n = n := by unfold wrap64; omega
theorem wrap_nat {n : Nat} (h : n ≤ 9223372036854775806) : wrap64 ((n : Int) + 1) = ((n + 1 : Nat) : Int) := by rw [wrap_id (by omega) (by omega)]; omega
/-! ### Bytes -/
abbrev Bytes := List UInt8
def L (s : ByteArray) : Bytes := s.data.toList
def B (l : Bytes) : ByteArray := ⟨l.toArray⟩
@[simp] theorem L_B (l : Bytes) : L (B l) = l := by simp [L, B]
@[simp] theorem B_L (s : ByteArray) : B (L s) = s := by show (⟨(s.data.toList).toArray⟩ : ByteArray) = s; rw [Array.toArray_toList]
theorem L_inj {a b : ByteArray} (h : L a = L b) : a = b := by have := congrArg B h; simpa using this
theorem toList_L (s : ByteArray) : s.toList = L s := Lib.toList_data s
theorem L_length (s : ByteArray) : (L s).length = s.size := data_length s
@[simp] theorem B_size (l : Bytes) : (B l).size = l.length := by simp [B, ByteArray.size]
theorem L_extract (s : ByteArray) (a b : Nat) : L (s.extract a b) = ((L s).drop a).take (b - a) := Lib.extract_data s a b
theorem bytes_eq (a b : ByteArray) : a.toList = b.toList ↔ a = b := ⟨fun h => L_inj (by rw [← toList_L, ← toList_L, h]), fun h => by rw [h]⟩
/-- What stands from place i on. -/
structure At (s : ByteArray) (i : Nat) (l : Bytes) : Prop where
 eq : (L s).drop i = l
 le : i ≤ s.size
theorem At.start (s : ByteArray) : At s 0 (L s) := ⟨rfl, Nat.zero_le _⟩
theorem At.nil {s : ByteArray} {i : Nat} (h : At s i []) : i = s.size := by
 have := congrArg List.length h.eq
 rw [List.length_drop, L_length] at this
 have := h.le
 simp at *
 omega
theorem At.room {s : ByteArray} {i : Nat} {l : Bytes} (h : At s i l) : i + l.length = s.size := by
 have := congrArg List.length h.eq
 rw [List.length_drop, L_length] at this
 have := h.le
 omega
theorem At.tail {s : ByteArray} {i : Nat} {b : UInt8} {l : Bytes} (h : At s i (b :: l)) : At s (i + 1) l := by
 refine ⟨?_, by have := h.room; simp at this; omega⟩
 rw [← List.drop_drop, h.eq, List.drop_succ_cons, List.drop_zero]
theorem At.lt {s : ByteArray} {i : Nat} {b : UInt8} {l : Bytes} (h : At s i (b :: l)) : i < s.size := by have := h.room; simp at this; omega
theorem At.bt {s : ByteArray} {i : Nat} {b : UInt8} {l : Bytes} (h : At s i (b :: l)) : bt s (i : Int) = (b.toNat : Int) := by
 have hi := h.lt
 have he : (L s)[i]? = some b := by
  have := congrArg (fun l => l[0]?) h.eq
  simpa [List.getElem?_drop] using this
 unfold Go.Proofs.YtiopkeepldmlkaaDoorW.PrintWords.bt
 rw [dif_pos (by simpa using hi)]
 have h2 : s.data.toList[i]? = some s[i] := Lib.data_getElem? s i hi
 have h3 : s[i] = b := by
  have : some s[i] = some b := by rw [← h2]; exact he
  exact Option.some.inj this
 simp only [Int.toNat_natCast, h3]
theorem byte_eq {b c : UInt8} : ((b.toNat : Int) = (c.toNat : Int)) ↔ b = c := ⟨fun h => UInt8.toNat_inj.1 (by omega), fun h => by rw [h]⟩
theorem byte_lt (b : UInt8) : b.toNat < 256 := b.toNat_lt
/-! ### A text cut at a byte -/
def splitL (c : UInt8) : Bytes → Bytes → List Bytes
 | cur, [] => [cur]
 | cur, b :: t => if b = c then cur :: splitL c [] t else splitL c (cur ++ [b]) t
theorem splitL_ne (c : UInt8) : ∀ (l cur : Bytes), splitL c cur l ≠ []
 | [], _ => by simp [splitL]
 | b :: t, cur => by
  unfold splitL
  split
  ·simp
  ·exact splitL_ne c t _
theorem splitL_length (c : UInt8) : ∀ (l cur : Bytes), (splitL c cur l).length ≤ l.length + 1
 | [], _ => by simp [splitL]
 | b :: t, cur => by
  unfold splitL
  split
  ·have := splitL_length c t []; simp; omega
  ·have := splitL_length c t (cur ++ [b]); simp; omega
theorem splitL_miss (c : UInt8) : ∀ (l cur : Bytes), (∀ b ∈ l, b ≠ c) → splitL c cur l = [cur ++ l]
 | [], cur, _ => by simp [splitL]
 | b :: t, cur, h => by
  unfold splitL
  rw [if_neg (h b (by simp)), splitL_miss c t _ (fun x hx => h x (by simp [hx]))]
  simp
theorem splitL_hit (c : UInt8) : ∀ (a t cur : Bytes), (∀ b ∈ a, b ≠ c) → splitL c cur (a ++ c :: t) = (cur ++ a) :: splitL c [] t
 | [], t, cur, _ => by simp [splitL]
 | b :: a, t, cur, h => by
  show (if b = c then cur :: splitL c [] (a ++ c :: t) else splitL c (cur ++ [b]) (a ++ c :: t)) = _
  rw [if_neg (h b (by simp)), splitL_hit c a t _ (fun x hx => h x (by simp [hx]))]
  simp
/-- The first place of a byte: none, or one with the byte behind a part without it. -/
theorem index_cases (c : UInt8) (l : Bytes) : (Lib.index l [c] = -1 ∧ ∀ b ∈ l, b ≠ c) ∨ (∃ a t, l = a ++ c :: t ∧ Lib.index l [c] = (a.length : Int) ∧ ∀ b ∈ a, b ≠ c) := by
 rw [Lib.index_one]
 induction l with
 | nil => exact .inl ⟨rfl, by simp⟩
 | cons b l ih =>
  by_cases h : b = c
  ·subst h
   exact .inr ⟨[], l, rfl, by simp [Lib.indexByte], by simp⟩
  ·rcases ih with ⟨h1, h2⟩ | ⟨a, t, h1, h2, h3⟩
   ·refine .inl ⟨by simp [Lib.indexByte, h, h1], fun x hx => ?_⟩
    rcases List.mem_cons.1 hx with rfl | hx
    ·exact h
    ·exact h2 x hx
   ·refine .inr ⟨b :: a, t, by rw [h1]; rfl, ?_, fun x hx => ?_⟩
    ·have : ¬ ((a.length : Int) = -1) := by omega
     simp [Lib.indexByte, h, h2, this]
    ·rcases List.mem_cons.1 hx with rfl | hx
     ·exact h
     ·exact h3 x hx
theorem split_one (c : UInt8) : ∀ (n : Nat) (l : Bytes), l.length ≤ n → Lib.splitK [c] 0 (Lib.count l [c]) l = splitL c [] l
 | n, l, hn => by
  rcases index_cases c l with ⟨h1, h2⟩ | ⟨a, t, h1, h2, h3⟩
  ·rw [Lib.count_miss h1, splitL_miss c l [] h2]; rfl
  ·cases n with
   | zero => subst h1; simp at hn
   | succ n =>
    rw [Lib.count_hit (by simp) h2, Nat.add_comm 1]
    unfold Lib.splitK
    have hne : (Lib.index l [c] == -1) = false := by rw [h2]; simp
    rw [hne, if_neg (by simp), h2]
    simp only [Int.toNat_natCast, Nat.add_zero, List.length_singleton]
    have e1 : l.take a.length = a := by rw [h1, List.take_left]
    have e2 : l.drop (a.length + 1) = t := by rw [h1, ← List.drop_drop, List.drop_left]; rfl
    rw [e1, e2, split_one c n t (by rw [h1] at hn; simp at hn; omega), h1, splitL_hit c a t [] h3]
    simp
/-- strings.Split at one byte. -/
theorem splitB_one (c : UInt8) (s : ByteArray) : Lib.splitB (B [c]) 0 (Lib.countB s (B [c])) s = (splitL c [] (L s)).map B := by
 have h := Lib.splitB_data (B [c]) 0 (Lib.countB s (B [c])) s
 have h2 : (B [c]).data.toList = [c] := rfl
 rw [h2] at h
 have h3 : Lib.splitK [c] 0 (Lib.count s.data.toList [c]) s.data.toList = splitL c [] (L s) := split_one c _ _ (Nat.le_refl _)
 have h4 : (Lib.splitB (B [c]) 0 (Lib.countB s (B [c])) s).map L = splitL c [] (L s) := h.trans h3
 rw [← h4, List.map_map]
 have : (B ∘ L) = id := by funext x; simp
 rw [this, List.map_id]
end Go.Proofs.YtiopkeepldmlkaaDoor.Plain
