/- A part of the proof: no condition of its own. Out of what the print tool printed, or of own texts, cut down to what this claim needs by a program of the prover (prune.py). -/
-- Made by wip/tool (a turned print tool and hand-written contracts) for this claim.
import Derived.Test.YtiopkeepldmlkaaDoorProg
import Derived.Below
import Derived.Deep.Draws
import Derived.Deep.AppendLies
import Derived.Maps.AppendAt
import Derived.OwnWalk
import Derived.Laws.BytesArg
import Derived.Laws.MakeOwn
import Derived.Laws.OwnMore
import Derived.Deep.OwnRows
import Derived.Tactics
import Derived.Lib.ConvBytes
import Derived.Laws.Slices
import Derived.WalkKit
import Derived.KernelRfl
import Derived.RowKit3
import Derived.Deep.LoopGhost
import Derived.Deep.QuietTactic
import Derived.BigQuiet
import Derived.WideLaws
import Derived.Deep.DeepCutAuto
import Derived.Deep.CutBlock
import Derived.Deep.RegionHeld3
import Derived.Laws.Rows
import Derived.Lib.AppendStr
import Derived.ArgAppend
import Derived.Laws.IdiomCopy
import Derived.OrdersHeld
import Derived.Laws.BitsLemmas
import Derived.RowKit
import Derived.Test.YtiopkeepldmlkaaDoorCRIWWords
import Derived.Test.YtiopkeepldmlkaaDoorCRIWLast
import Derived.Test.YtiopkeepldmlkaaDoorCRIWTab
import Derived.Test.YtiopkeepldmlkaaDoorCRIWFour
import Derived.Test.YtiopkeepldmlkaaDoorCRIWQPut
import Derived.Test.YtiopkeepldmlkaaDoorCRIWApart
import Derived.Test.YtiopkeepldmlkaaDoorCRIWArr
import Derived.Test.YtiopkeepldmlkaaDoorCRIWZeros
import Derived.Test.YtiopkeepldmlkaaDoorCRIWFoot
import Derived.Test.YtiopkeepldmlkaaDoorCRIWKept
import Derived.Test.YtiopkeepldmlkaaDoorCRIWShare
import Derived.Test.YtiopkeepldmlkaaDoorCRIWN
import Derived.Test.YtiopkeepldmlkaaDoorCRIWFootNe
import Derived.Test.YtiopkeepldmlkaaDoorCRIWAt
import Derived.Test.YtiopkeepldmlkaaDoorCRIWEqStruct
import Derived.Test.YtiopkeepldmlkaaDoorCRIWRepsOne
import Derived.Test.YtiopkeepldmlkaaDoorCRIWInv
import Derived.Test.YtiopkeepldmlkaaDoorCRIWInvWords
import Derived.Test.YtiopkeepldmlkaaDoorCRIWGuard
import Derived.Test.YtiopkeepldmlkaaDoorCRIWNEv
import Derived.Test.YtiopkeepldmlkaaDoorCRIWMore
import Derived.Lib.LaidTab
import Derived.Shelf.Strconv.ParseIntPublic10
import Derived.WalkLawsBesides
import Derived.Test.YtiopkeepldmlkaaDoorCRIShelf
import Derived.Lib.AppendIntMem
namespace Go.Proofs.YtiopkeepldmlkaaDoor.QRI
open Go.RowKit Go.Proofs.YtiopkeepldmlkaaDoorW.PrintWords Go.Proofs.YtiopkeepldmlkaaDoorW.PrintLast Go.Proofs.YtiopkeepldmlkaaDoorW.PrintMore
attribute [local go_sem] max2_int min2_int max_two min_two max_three min_three max_four min_four   -- for this text's walks alone
set_option linter.unusedVariables false
set_option linter.unusedSimpArgs false
def errW : Option Int → Value
 | none => .nilIface
 | some c => .iface 0 (.int .i64 c)
theorem errW_none : errW none = .nilIface := rfl
theorem errW_some (c : Int) : errW (some c) = .iface 0 (.int .i64 c) := rfl
theorem info3 : (Tryd.prog.info? 3).map (fun i => (i.zero, i.size, i.bytes)) = some (some (.int .i64 0), 1, 8) := by kernel_rfl
theorem info4 : (Tryd.prog.info? 4).map (fun i => (i.zero, i.size, i.bytes)) = some (some (.bool false), 1, 1) := by kernel_rfl
theorem info9 : (Tryd.prog.info? 9).map (fun i => (i.zero, i.size, i.bytes)) = some (some (.string ⟨#[]⟩), 1, 16) := by kernel_rfl
theorem info49 : (Tryd.prog.info? 49).map (fun i => (i.zero, i.size, i.bytes)) = some (some (.agg #[(.string ⟨#[]⟩), (.slice none 0 0), (.int .i64 0), (.int .i64 0)]), 4, 56) := by kernel_rfl
-- the values' own types
def rd_L1 (xs : List (List ByteArray)) (i : Int) : (List ByteArray) := xs.getD i.toNat ([] : List ByteArray)
theorem at_L1 {w : World} {A : Option Addr} {n : Nat} {xs : List (List ByteArray)} (h : Kd.C (Kd.slice 9 Kd.string) w A n xs) (i : Int) (h0 : 0 ≤ i) (h1 : i < n) : ∃ ad A0 c0, A = some ad ∧ w.cell? (ad.add i.toNat) = some (.slice A0 (rd_L1 xs i).length c0) ∧ (rd_L1 xs i).length ≤ c0 ∧ Kd.string.C w A0 (rd_L1 xs i).length (rd_L1 xs i) := by
 obtain ⟨ad, c, e, _, hK, hc0⟩ := Kd.C_get h ([] : List ByteArray) i h0 h1
 have hc : ∀ j u, c[j]? = some u → w.cell? (ad.add (i.toNat * 1 + j)) = some u := hc0
 obtain ⟨A0, c0, rfl, l0, g0⟩ := hK
 exact ⟨ad, A0, c0, e, by have hq := hc 0 _ rfl; rwa [Nat.mul_one, Nat.add_zero] at hq, l0, g0⟩
/-! #### struct type 49 -/
structure S49 where
 f0 : ByteArray
 f1 : (List ByteArray)
 f2 : Int
 f3 : Int
def z49 : S49 := ⟨(⟨#[]⟩ : ByteArray), ([] : List ByteArray), (0 : Int), (0 : Int)⟩
def k49 : Kd S49 := Kd.iso (Kd.pair Kd.string (Kd.pair (Kd.slice 9 Kd.string) (Kd.pair (Kd.int .i64) (Kd.int .i64)))) (fun x : S49 => (x.f0, x.f1, x.f2, x.f3))
theorem k49_open {w : World} {x : S49} {cs : List Value} (h : k49.K w x cs) : ∃ A1 c1, cs = [.string x.f0, .slice A1 x.f1.length c1, .int .i64 x.f2, .int .i64 x.f3] ∧ x.f1.length ≤ c1 ∧ Kd.string.C w A1 x.f1.length x.f1 := by
 obtain ⟨_, _, rfl, rfl, ⟨_, _, rfl, ⟨A1, c1, rfl, l1, g1⟩, ⟨_, _, rfl, rfl, rfl⟩⟩⟩ := h
 exact ⟨A1, c1, rfl, l1, g1⟩
theorem k49_openM {w : World} {base : Nat} {ok : Nat → Prop} {x : S49} {cs : List Value} (h : k49.M w base ok x cs) : ∃ v1, cs = [.string x.f0, v1, .int .i64 x.f2, .int .i64 x.f3] ∧ Kd.string.R 9 w base ok v1 x.f1 := by
 obtain ⟨_, _, rfl, rfl, ⟨_, _, rfl, ⟨v1, rfl, g1⟩, ⟨_, _, rfl, rfl, rfl⟩⟩⟩ := h
 exact ⟨v1, rfl, g1⟩
theorem k49_mkM (w : World) (base : Nat) (ok : Nat → Prop) (x : S49) {v1 : Value} (g1 : Kd.string.R 9 w base ok v1 x.f1) : k49.M w base ok x [.string x.f0, v1, .int .i64 x.f2, .int .i64 x.f3] := ⟨[.string x.f0], [v1, .int .i64 x.f2, .int .i64 x.f3], rfl, rfl, ⟨[v1], [.int .i64 x.f2, .int .i64 x.f3], rfl, ⟨v1, rfl, g1⟩, ⟨[.int .i64 x.f2], [.int .i64 x.f3], rfl, rfl, rfl⟩⟩⟩
def rd_T49 (xs : List S49) (i : Int) : S49 := xs.getD i.toNat z49
theorem at_T49 {w : World} {A : Option Addr} {n : Nat} {xs : List S49} (h : Kd.C k49 w A n xs) (i : Int) (h0 : 0 ≤ i) (h1 : i < n) : ∃ ad A1 c1, A = some ad ∧ w.cell? (ad.add (i.toNat * 4)) = some (.string (rd_T49 xs i).f0) ∧ w.cell? ⟨(ad.add (i.toNat * 4)).block, (ad.add (i.toNat * 4)).off + 1, none⟩ = some (.slice A1 (rd_T49 xs i).f1.length c1) ∧ w.cell? ⟨(ad.add (i.toNat * 4)).block, (ad.add (i.toNat * 4)).off + 2, none⟩ = some (.int .i64 (rd_T49 xs i).f2) ∧ w.cell? ⟨(ad.add (i.toNat * 4)).block, (ad.add (i.toNat * 4)).off + 3, none⟩ = some (.int .i64 (rd_T49 xs i).f3) ∧ (rd_T49 xs i).f1.length ≤ c1 ∧ Kd.string.C w A1 (rd_T49 xs i).f1.length (rd_T49 xs i).f1 := by
 obtain ⟨ad, c, e, _, hK, hc0⟩ := Kd.C_get h z49 i h0 h1
 have hc : ∀ j u, c[j]? = some u → w.cell? (ad.add (i.toNat * 4 + j)) = some u := hc0
 obtain ⟨A1, c1, rfl, l1, g1⟩ := k49_open hK
 exact ⟨ad, A1, c1, e, hc 0 _ rfl, by rw [← add_field _ _ 1 (by omega)]; exact hc 1 _ rfl, by rw [← add_field _ _ 2 (by omega)]; exact hc 2 _ rfl, by rw [← add_field _ _ 3 (by omega)]; exact hc 3 _ rfl, l1, g1⟩
/-! ### What the contracts ask of package-level variables -/
theorem var_now {P : Program} {w w' : World} {n : String} {cs : Array Value} (hv : w.var? P n = some cs) (hb : Below w.heap.size w w') : w'.var? P n = some cs := by
 unfold World.var? at hv ⊢
 cases hg : P.globalNamed n with
 | none => simp [hg] at hv
 | some g =>
  simp only [hg, Option.bind_some] at hv ⊢
  have hlt : g < w.heap.size := by
   rcases Nat.lt_or_ge g w.heap.size with h' | h'
   ·exact h'
   ·simp [Array.getElem?_eq_none h'] at hv
  rw [hb.block g hlt]
  exact hv
theorem bytes_less_cons (a b : UInt8) (x y : List UInt8) : Op.bytesLess (a :: x) (b :: y) = true ↔ a.toNat < b.toNat ∨ (a = b ∧ Op.bytesLess x y = true) := by
 conv => lhs; unfold Op.bytesLess
 rw [Bool.or_eq_true, Bool.and_eq_true, decide_eq_true_iff, beq_iff_eq, UInt8.lt_iff_toNat_lt]
theorem bytes_le_iff : ∀ P Q : List UInt8, (Op.bytesLess Q P || Q == P) = !(Op.bytesLess P Q)
 | [], [] => rfl
 | [], _ :: _ => rfl
 | _ :: _, [] => rfl
 | a :: x, b :: y => by
  have ih := bytes_le_iff x y
  rw [Bool.eq_iff_iff, Bool.or_eq_true, Bool.not_eq_true', ← Bool.not_eq_true, bytes_less_cons, bytes_less_cons, beq_iff_eq, List.cons.injEq]
  have h1 := UInt8.toNat_inj (a := a) (b := b)
  rw [Bool.eq_iff_iff, Bool.or_eq_true, Bool.not_eq_true', ← Bool.not_eq_true, beq_iff_eq] at ih
  constructor
  ·rintro ((h | ⟨rfl, h⟩) | ⟨rfl, h⟩)
   ·rintro (h2 | ⟨rfl, h2⟩) <;> omega
   ·rintro (h2 | ⟨_, h2⟩)
    ·omega
    ·exact ih.1 (.inl h) h2
   ·rintro (h2 | ⟨_, h2⟩)
    ·omega
    ·exact ih.1 (.inr h) h2
  ·intro h
   by_cases hab : a = b
   ·subst hab
    rcases ih.2 (fun h2 => h (.inr ⟨rfl, h2⟩)) with h3 | h3
    ·exact .inl (.inr ⟨rfl, h3⟩)
    ·exact .inr ⟨rfl, h3⟩
   ·have : a.toNat ≠ b.toNat := fun e => hab (h1.1 e)
    exact .inl (.inl (by
     rcases Nat.lt_or_ge b.toNat a.toNat with h4 | h4
     ·exact h4
     ·exact absurd (.inl (by omega)) h))
theorem bytes_le {P Q : List UInt8} {b : Bool} (h : Op.bytesLess P Q = !b) : (Op.bytesLess Q P || Q == P) = b := by rw [bytes_le_iff, h, Bool.not_not]
structure GOK (w : World) : Prop where
 maxLen : ∃ m, w.cell? ⟨0, 0, none⟩ = some (.int .i64 m)
 pow10 : Lib.TabIs Tryd.prog w "internal/strconv.uint64pow10" .u64 Lib.pow10Tab
 errSyntax : ∃ tp p, w.var? Tryd.prog "strconv.ErrSyntax" = some #[.iface tp p]
 errRange : ∃ tp p, w.var? Tryd.prog "strconv.ErrRange" = some #[.iface tp p]
theorem GOK.below {w w' : World} (h : GOK w) (hb : Below w.heap.size w w') : GOK w' where
 maxLen := by obtain ⟨m, hm⟩ := h.maxLen; exact ⟨m, pw_cell_below hb hm⟩
 pow10 := var_now h.pow10 hb
 errSyntax := by obtain ⟨t, p, hm⟩ := h.errSyntax; exact ⟨t, p, var_now hm hb⟩
 errRange := by obtain ⟨t, p, hm⟩ := h.errRange; exact ⟨t, p, var_now hm hb⟩
theorem GOK.drewN {w : World} (h : GOK w) (n : Nat) : GOK (w.drewN n) := h.below (pw_below_drewN (Below.refl _ _) n)
theorem GOK.drew {w : World} (h : GOK w) : GOK w.drew := h.below (below_drew (Below.refl _ _))
theorem GOK.alloc {w : World} (h : GOK w) (o : Obj) : GOK (w.alloc o) := h.below (below_alloc (Below.refl _ _) o)
/-- A new block that holds a row as a call has made it. -/
theorem R_of_alloc {α : Type} (d : Kd α) (w : World) (e : Nat) {xs : List α} {inner : List Value} (hrep : Reps (d.M w w.heap.size (fun _ => False)) d.sz xs inner) (hm : xs.length ≤ 9223372036854775807) :
  Kd.R d e (w.alloc (.cells inner.toArray e)) w.heap.size (fun _ => True) (.slice (some ⟨w.heap.size, 0, none⟩) xs.length xs.length) xs := by
 refine ⟨fun _ _ => trivial, inner, ?_, ?_⟩
 ·have h2 := World.ownsRow_lit (base := w.heap.size) (e := e) (size := d.sz) w inner.toArray xs.length (Nat.le_refl _) (by simpa [maxLen] using hm) (by simpa using hrep.1)
  simpa using h2
 ·exact hrep.imp_ (fun p c hp => d.M_mono (fun k hk => hk.1.elim) (Kd.M_below (d.M_bound hp) (below_alloc (Below.refl _ _) _)))
/-- '[]byte(s)': a new row that reads as the string's bytes; told as a row that is only read. -/
theorem V_conv {P : Program} {ops : Array Oper} {rest : List Oper} {o : Oper} {a : Act} {Q : Exit → Act → World → Prop} {w0 W : World} (base e : Nat) (hgd : o.guard = none) {N : Tmp} (_hd : o.dst = some N) (src dst : TypeId) (x : Operand) (ho : o.op = .convert src dst x) (s : ByteArray) (hx : a.eval x = .string s)
  {u : TypeDesc} (hs : P.underlying src = some u) (hdst : P.underlying dst = some (.slice e)) (he : P.underlying e = some (.int .u8)) {M : Nat} (hM : M ≤ W.heap.size) (HB : Below base w0 W) (hbase : base ≤ W.heap.size) (hm : s.size ≤ 9223372036854775807)
  (h : ∀ v1 w1, Kd.V (Kd.int .u8) e w1 base (fun k_ => M ≤ k_) v1 (bytesOf s) → Below base w0 w1 → W.grownBy w1 none → (∃ b, v1.ownBlock = some b ∧ W.heap.size ≤ b) → wpList P ops Q rest (a.put o.dst v1) w1) : wpList P ops Q (o :: rest) a W := by
 have hr := Lib.run_convert_string_bytes (P := P) W src dst e s hs hdst he
 have hb : Below W.heap.size W (Lib.bytesWorld W e s) := ⟨rfl, rfl, rfl, by rw [Lib.bytesWorld_size]; omega, fun k hk => Lib.bytesWorld_at_old W e s k hk⟩
 refine Kd.event_run hgd (v := .slice (some ⟨W.heap.size, 0, none⟩) s.size (grownCap W s.size 0 e)) (w1 := Lib.bytesWorld W e s) (by simp [execOp, ho, hx, hr]) (h _ _ ?_ ?_ (grown_of_below hb none) ⟨W.heap.size, rfl, Nat.le_refl _⟩)
 ·have hl : (bytesOf s).length = s.size := bytesOf_length s
  have hc : s.size ≤ grownCap W s.size 0 e := grownCap_ge W s.size 0 e
  refine ⟨some ⟨W.heap.size, 0, none⟩, grownCap W s.size 0 e, by rw [hl], by rw [hl]; exact hc, ?_⟩
  intro W' hW
  have hblk := hW W.heap.size hM (by rw [Lib.bytesWorld_size]; omega)
  refine Kd.C_of_reads (enc := Value.int .u8) (d := (0 : Int)) (h1 := fun _ => rfl) ⟨rfl, by rw [hl]; exact hm, fun _ => ⟨_, rfl, fun j hj => ?_⟩⟩
  rw [hl] at hj
  have hcell := Lib.bytesWorld_cell W e s j hj
  have hsame : W'.cell? ⟨W.heap.size, j, none⟩ = (Lib.bytesWorld W e s).cell? ⟨W.heap.size, j, none⟩ := by simp only [World.cell?, hblk]
  rw [add_plain, hsame, hcell]
  have hj' : j < s.data.toList.length := by rw [data_length]; exact hj
  simp [bytesOf, List.getD, List.getElem?_eq_getElem hj']
 ·exact HB.trans ⟨hb.os, hb.tape, hb.output, hb.size, fun k hk => hb.block k (Nat.lt_of_lt_of_le hk hbase)⟩
theorem Kd.C_rows_alloc {α : Type} {d : Kd α} {w : World} {A : Option Addr} {n : Nat} {xs : List α} (h : Kd.C d w A n xs) (o : Obj) : ReadsRow (Kd.K d w) d.sz (w.alloc o) A n xs := ReadsRow.imp_ h (below_alloc (Below.refl _ _) o) (fun _ _ hp => hp)
theorem R_open {α : Type} {d : Kd α} {e : Nat} {w : World} {base : Nat} {ok : Nat → Prop} {v : Value} {xs : List α} (h : Kd.R d e w base ok v xs) (hn : 0 < xs.length) :
  ∃ g c, v = .slice (some ⟨g, 0, none⟩) xs.length c ∧ xs.length ≤ c ∧ c ≤ 9223372036854775807 ∧ base ≤ g := by
 obtain ⟨inner, ho⟩ := Kd.R_own h
 rcases ho.2 with ⟨_, h0⟩ | ⟨g, cap, cur, rfl, hg, _, hc, hm, _⟩
 ·omega
 ·exact ⟨g, cap, rfl, hc, by simpa [maxLen] using hm, hg⟩
/-! A pointer that is only read: a row of one element. -/
def CellsRest (W : World) (a : Addr) : Nat → List Value → Prop
 | _, [] => True
 | k, u :: us => W.cell? ⟨a.block, a.off + k, none⟩ = some u ∧ CellsRest W a (k + 1) us
def CellsAt (W : World) (a : Addr) : List Value → Prop
 | [] => True
 | u :: us => W.cell? a = some u ∧ CellsRest W a 1 us
theorem CellsRest.get {W : World} {a : Addr} : ∀ {us : List Value} {k : Nat}, CellsRest W a k us → ∀ i u, us[i]? = some u → W.cell? ⟨a.block, a.off + (k + i), none⟩ = some u
 | [], _, _, i, u, h => by simp at h
 | x :: us, k, h, 0, u, hu => by
  have e : x = u := by simpa using hu
  rw [← e]; exact h.1
 | x :: us, k, h, i + 1, u, hu => by
  have := CellsRest.get h.2 i u (by simpa using hu)
  rw [show k + (i + 1) = k + 1 + i from by omega]; exact this
theorem CellsAt.get {W : World} {a : Addr} {cs : List Value} (h : CellsAt W a cs) (i : Nat) (u : Value) (hu : cs[i]? = some u) : W.cell? (a.add i) = some u := by
 cases cs with
 | nil => simp at hu
 | cons x us =>
  cases i with
  | zero =>
   have e : x = u := by simpa using hu
   have ha : a.add 0 = a := by unfold Addr.add; rw [if_pos rfl]
   rw [ha, ← e]; exact h.1
  | succ i =>
   have ha : a.add (i + 1) = ⟨a.block, a.off + (i + 1), none⟩ := by unfold Addr.add; rw [if_neg (by omega)]
   rw [ha, show i + 1 = 1 + i from by omega]
   exact CellsRest.get h.2 i u (by simpa using hu)
theorem Kd.C_lone_blk {α : Type} {d : Kd α} {W : World} {g T : Nat} {cells : Array Value} {x : α} {cs : List Value} (hb : W.heap[g]? = some (.cells cells T (0, 0))) (off : Nat) (he : (cells.toList.drop off).take cs.length = cs) (hK : d.K W x cs) : Kd.C d W (some ⟨g, off, none⟩) [x].length [x] := by
 have hcell : ∀ i u, cs[i]? = some u → W.cell? ⟨g, off + i, none⟩ = some u := by
  intro i u hu
  have hi : i < cs.length := (List.getElem?_eq_some_iff.1 hu).1
  rw [← he, List.getElem?_take_of_lt hi, List.getElem?_drop] at hu
  simp only [World.cell?, hb]
  simpa using hu
 refine ⟨rfl, by simp, fun _ => ⟨_, rfl, fun j p hj => ?_⟩⟩
 cases j with
 | zero =>
  have e : x = p := by simpa using hj
  subst e
  refine ⟨cs, d.K_len hK, hK, fun i u hu => ?_⟩
  rw [Nat.zero_mul, Nat.zero_add]
  have ha : (⟨g, off, none⟩ : Addr).add i = ⟨g, off + i, none⟩ := by
   unfold Addr.add
   split
   ·rename_i h; subst h; rfl
   ·rfl
  rw [ha]; exact hcell i u hu
 | succ j => simp at hj
/-- An operation whose result is a string gets a name for it. -/
theorem str_event {P : Program} {ops : Array Oper} {rest : List Oper} {o : Oper} {a : Act} {Q : Exit → Act → World → Prop} {W : World} {s s' : ByteArray} (hgd : o.guard = none) (hrun : (execOp a.eval o).run P W = .ok (.value (.string s)) W) (he : s' = s)
  (h : wpList P ops Q rest (a.put o.dst (.string s')) W) : wpList P ops Q (o :: rest) a W := Kd.event_run hgd hrun (he ▸ h)
end Go.Proofs.YtiopkeepldmlkaaDoor.QRI
