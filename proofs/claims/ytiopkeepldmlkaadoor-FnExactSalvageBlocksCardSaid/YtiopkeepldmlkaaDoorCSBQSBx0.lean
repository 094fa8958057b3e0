/- A part of the proof: no condition of its own. Out of what the print tool printed, or of own texts, cut down to what this claim needs by a program of the prover (prune.py). -/
-- Made by wip/tool (a turned print tool and hand-written contracts) for this claim.
import Derived.Test.YtiopkeepldmlkaaDoorProg
import Derived.Below
import Derived.Deep.Draws
import Derived.Deep.AppendLies
import Derived.Maps.AppendAt
import Derived.OwnWalk
import Derived.Laws.BytesArg
import Derived.Laws.MakeOwn
import Derived.Laws.OwnMore
import Derived.Deep.OwnRows
import Derived.Tactics
import Derived.Lib.ConvBytes
import Derived.Laws.Slices
import Derived.WalkKit
import Derived.KernelRfl
import Derived.RowKit3
import Derived.Deep.LoopGhost
import Derived.Deep.QuietTactic
import Derived.BigQuiet
import Derived.WideLaws
import Derived.Deep.DeepCutAuto
import Derived.Deep.CutBlock
import Derived.Deep.RegionHeld3
import Derived.Laws.Rows
import Derived.Lib.AppendStr
import Derived.ArgAppend
import Derived.Laws.IdiomCopy
import Derived.OrdersHeld
import Derived.Laws.BitsLemmas
import Derived.RowKit
import Derived.Test.YtiopkeepldmlkaaDoorCSBWWords
import Derived.Test.YtiopkeepldmlkaaDoorCSBWLast
import Derived.Test.YtiopkeepldmlkaaDoorCSBWTab
import Derived.Test.YtiopkeepldmlkaaDoorCSBWFour
import Derived.Test.YtiopkeepldmlkaaDoorCSBWQPut
import Derived.Test.YtiopkeepldmlkaaDoorCSBWApart
import Derived.Test.YtiopkeepldmlkaaDoorCSBWArr
import Derived.Test.YtiopkeepldmlkaaDoorCSBWZeros
import Derived.Test.YtiopkeepldmlkaaDoorCSBWFoot
import Derived.Test.YtiopkeepldmlkaaDoorCSBWKept
import Derived.Test.YtiopkeepldmlkaaDoorCSBWShare
import Derived.Test.YtiopkeepldmlkaaDoorCSBWN
import Derived.Test.YtiopkeepldmlkaaDoorCSBWFootNe
import Derived.Test.YtiopkeepldmlkaaDoorCSBWAt
import Derived.Test.YtiopkeepldmlkaaDoorCSBWEqStruct
import Derived.Test.YtiopkeepldmlkaaDoorCSBWRepsOne
import Derived.Test.YtiopkeepldmlkaaDoorCSBWInv
import Derived.Test.YtiopkeepldmlkaaDoorCSBWInvWords
import Derived.Test.YtiopkeepldmlkaaDoorCSBWGuard
import Derived.Test.YtiopkeepldmlkaaDoorCSBWNEv
import Derived.Test.YtiopkeepldmlkaaDoorCSBWMore
import Derived.Lib.LaidTab
import Derived.Shelf.Strconv.ParseIntPublic10
import Derived.WalkLawsBesides
import Derived.Test.YtiopkeepldmlkaaDoorCSBShelf
import Derived.Shelf.Spec.SlicesInsert
import Derived.Lib.AppendZerosOnto
import Derived.Laws.CopyRow
import Derived.Laws.CopyOwn
import Derived.Lib.AppendIntMem
namespace Go.Proofs.YtiopkeepldmlkaaDoor.QSB
open Go.RowKit Go.Proofs.YtiopkeepldmlkaaDoorW.PrintWords Go.Proofs.YtiopkeepldmlkaaDoorW.PrintLast Go.Proofs.YtiopkeepldmlkaaDoorW.PrintMore
attribute [local go_sem] max2_int min2_int max_two min_two max_three min_three max_four min_four   -- for this text's walks alone
set_option linter.unusedVariables false
set_option linter.unusedSimpArgs false
def errW : Option Int → Value
  | none => .nilIface
  | some c => .iface 0 (.int .i64 c)
theorem errW_none : errW none = .nilIface := rfl
theorem errW_some (c : Int) : errW (some c) = .iface 0 (.int .i64 c) := rfl
theorem info5 : (Tryd.prog.info? 5).map (fun i => (i.zero, i.size, i.bytes)) = some (some (.int .u8 0), 1, 1) := by kernel_rfl
theorem info9 : (Tryd.prog.info? 9).map (fun i => (i.zero, i.size, i.bytes)) = some (some (.string ⟨#[]⟩), 1, 16) := by kernel_rfl
theorem info36 : (Tryd.prog.info? 36).map (fun i => (i.zero, i.size, i.bytes)) = some (some (.agg #[(.string ⟨#[]⟩), (.string ⟨#[]⟩), (.string ⟨#[]⟩)]), 3, 48) := by kernel_rfl
/-! #### struct type 36 -/
structure S36 where
  f0 : ByteArray
  f1 : ByteArray
  f2 : ByteArray
def z36 : S36 := ⟨(⟨#[]⟩ : ByteArray), (⟨#[]⟩ : ByteArray), (⟨#[]⟩ : ByteArray)⟩
def k36 : Kd S36 := Kd.iso (Kd.pair Kd.string (Kd.pair Kd.string Kd.string)) (fun x : S36 => (x.f0, x.f1, x.f2))
theorem k36_open {w : World} {x : S36} {cs : List Value} (h : k36.K w x cs) : cs = [.string x.f0, .string x.f1, .string x.f2] := by
  obtain ⟨_, _, rfl, rfl, ⟨_, _, rfl, rfl, rfl⟩⟩ := h
  exact rfl
theorem k36_openM {w : World} {base : Nat} {ok : Nat → Prop} {x : S36} {cs : List Value} (h : k36.M w base ok x cs) : cs = [.string x.f0, .string x.f1, .string x.f2] := by
  obtain ⟨_, _, rfl, rfl, ⟨_, _, rfl, rfl, rfl⟩⟩ := h
  exact rfl
theorem k36_mk (w : World) (x : S36)  : k36.K w x [.string x.f0, .string x.f1, .string x.f2] := ⟨[.string x.f0], [.string x.f1, .string x.f2], rfl, rfl, ⟨[.string x.f1], [.string x.f2], rfl, rfl, rfl⟩⟩
theorem k36_mkM (w : World) (base : Nat) (ok : Nat → Prop) (x : S36)  : k36.M w base ok x [.string x.f0, .string x.f1, .string x.f2] := ⟨[.string x.f0], [.string x.f1, .string x.f2], rfl, rfl, ⟨[.string x.f1], [.string x.f2], rfl, rfl, rfl⟩⟩
def rd_T36 (xs : List S36) (i : Int) : S36 := xs.getD i.toNat z36
theorem at_T36 {w : World} {A : Option Addr} {n : Nat} {xs : List S36} (h : Kd.C k36 w A n xs) (i : Int) (h0 : 0 ≤ i) (h1 : i < n) : ∃ ad , A = some ad ∧ w.cell? (ad.add (i.toNat * 3)) = some (.string (rd_T36 xs i).f0) ∧ w.cell? ⟨(ad.add (i.toNat * 3)).block, (ad.add (i.toNat * 3)).off + 1, none⟩ = some (.string (rd_T36 xs i).f1) ∧ w.cell? ⟨(ad.add (i.toNat * 3)).block, (ad.add (i.toNat * 3)).off + 2, none⟩ = some (.string (rd_T36 xs i).f2) := by
  obtain ⟨ad, c, e, _, hK, hc0⟩ := Kd.C_get h z36 i h0 h1
  have hc : ∀ j u, c[j]? = some u → w.cell? (ad.add (i.toNat * 3 + j)) = some u := hc0
  obtain rfl := k36_open hK
  exact ⟨ad, e, hc 0 _ rfl, by rw [← add_field _ _ 1 (by omega)]; exact hc 1 _ rfl, by rw [← add_field _ _ 2 (by omega)]; exact hc 2 _ rfl⟩
/-! ### What the contracts ask of package-level variables -/
theorem var_now {P : Program} {w w' : World} {n : String} {cs : Array Value} (hv : w.var? P n = some cs) (hb : Below w.heap.size w w') : w'.var? P n = some cs := by
  unfold World.var? at hv ⊢
  cases hg : P.globalNamed n with
  | none => simp [hg] at hv
  | some g =>
    simp only [hg, Option.bind_some] at hv ⊢
    have hlt : g < w.heap.size := by
      rcases Nat.lt_or_ge g w.heap.size with h' | h'
      · exact h'
      · simp [Array.getElem?_eq_none h'] at hv
    rw [hb.block g hlt]
    exact hv
structure GOK (w : World) : Prop where
  maxLen : ∃ m, w.cell? ⟨0, 0, none⟩ = some (.int .i64 m)
  pow10 : Lib.TabIs Tryd.prog w "internal/strconv.uint64pow10" .u64 Lib.pow10Tab
theorem GOK.below {w w' : World} (h : GOK w) (hb : Below w.heap.size w w') : GOK w' where
  maxLen := by obtain ⟨m, hm⟩ := h.maxLen; exact ⟨m, pw_cell_below hb hm⟩
  pow10 := var_now h.pow10 hb
theorem GOK.drewN {w : World} (h : GOK w) (n : Nat) : GOK (w.drewN n) := h.below (pw_below_drewN (Below.refl _ _) n)
theorem GOK.drew {w : World} (h : GOK w) : GOK w.drew := h.below (below_drew (Below.refl _ _))
theorem GOK.alloc {w : World} (h : GOK w) (o : Obj) : GOK (w.alloc o) := h.below (below_alloc (Below.refl _ _) o)
theorem drawn_of {w w' : World} (h : ∃ n, w' = w.drewN n) : Drawn0 w w' := ⟨h⟩
/-- A new block that holds a row as a call has made it. -/
theorem R_of_alloc {α : Type} (d : Kd α) (w : World) (e : Nat) {xs : List α} {inner : List Value} (hrep : Reps (d.M w w.heap.size (fun _ => False)) d.sz xs inner) (hm : xs.length ≤ 9223372036854775807) :
    Kd.R d e (w.alloc (.cells inner.toArray e)) w.heap.size (fun _ => True) (.slice (some ⟨w.heap.size, 0, none⟩) xs.length xs.length) xs := by
  refine ⟨fun _ _ => trivial, inner, ?_, ?_⟩
  · have h2 := World.ownsRow_lit (base := w.heap.size) (e := e) (size := d.sz) w inner.toArray xs.length (Nat.le_refl _) (by simpa [maxLen] using hm) (by simpa using hrep.1)
    simpa using h2
  · exact hrep.imp_ (fun p c hp => d.M_mono (fun k hk => hk.1.elim) (Kd.M_below (d.M_bound hp) (below_alloc (Below.refl _ _) _)))
/-- '[]byte(s)': a new row that reads as the string's bytes; told as a row that is only read. -/
theorem V_conv {P : Program} {ops : Array Oper} {rest : List Oper} {o : Oper} {a : Act} {Q : Exit → Act → World → Prop} {w0 W : World} (base e : Nat) (hgd : o.guard = none) {N : Tmp} (_hd : o.dst = some N) (src dst : TypeId) (x : Operand) (ho : o.op = .convert src dst x) (s : ByteArray) (hx : a.eval x = .string s)
    {u : TypeDesc} (hs : P.underlying src = some u) (hdst : P.underlying dst = some (.slice e)) (he : P.underlying e = some (.int .u8)) {M : Nat} (hM : M ≤ W.heap.size) (HB : Below base w0 W) (hbase : base ≤ W.heap.size) (hm : s.size ≤ 9223372036854775807)
    (h : ∀ v1 w1, Kd.V (Kd.int .u8) e w1 base (fun k_ => M ≤ k_) v1 (bytesOf s) → Below base w0 w1 → W.grownBy w1 none → (∃ b, v1.ownBlock = some b ∧ W.heap.size ≤ b) → wpList P ops Q rest (a.put o.dst v1) w1) : wpList P ops Q (o :: rest) a W := by
  have hr := Lib.run_convert_string_bytes (P := P) W src dst e s hs hdst he
  have hb : Below W.heap.size W (Lib.bytesWorld W e s) := ⟨rfl, rfl, rfl, by rw [Lib.bytesWorld_size]; omega, fun k hk => Lib.bytesWorld_at_old W e s k hk⟩
  refine Kd.event_run hgd (v := .slice (some ⟨W.heap.size, 0, none⟩) s.size (grownCap W s.size 0 e)) (w1 := Lib.bytesWorld W e s) (by simp [execOp, ho, hx, hr]) (h _ _ ?_ ?_ (grown_of_below hb none) ⟨W.heap.size, rfl, Nat.le_refl _⟩)
  · have hl : (bytesOf s).length = s.size := bytesOf_length s
    have hc : s.size ≤ grownCap W s.size 0 e := grownCap_ge W s.size 0 e
    refine ⟨some ⟨W.heap.size, 0, none⟩, grownCap W s.size 0 e, by rw [hl], by rw [hl]; exact hc, ?_⟩
    intro W' hW
    have hblk := hW W.heap.size hM (by rw [Lib.bytesWorld_size]; omega)
    refine Kd.C_of_reads (enc := Value.int .u8) (d := (0 : Int)) (h1 := fun _ => rfl) ⟨rfl, by rw [hl]; exact hm, fun _ => ⟨_, rfl, fun j hj => ?_⟩⟩
    rw [hl] at hj
    have hcell := Lib.bytesWorld_cell W e s j hj
    have hsame : W'.cell? ⟨W.heap.size, j, none⟩ = (Lib.bytesWorld W e s).cell? ⟨W.heap.size, j, none⟩ := by simp only [World.cell?, hblk]
    rw [add_plain, hsame, hcell]
    have hj' : j < s.data.toList.length := by rw [data_length]; exact hj
    simp [bytesOf, List.getD, List.getElem?_eq_getElem hj']
  · exact HB.trans ⟨hb.os, hb.tape, hb.output, hb.size, fun k hk => hb.block k (Nat.lt_of_lt_of_le hk hbase)⟩
theorem Kd.C_rows_alloc {α : Type} {d : Kd α} {w : World} {A : Option Addr} {n : Nat} {xs : List α} (h : Kd.C d w A n xs) (o : Obj) : ReadsRow (Kd.K d w) d.sz (w.alloc o) A n xs := ReadsRow.imp_ h (below_alloc (Below.refl _ _) o) (fun _ _ hp => hp)
theorem R_open {α : Type} {d : Kd α} {e : Nat} {w : World} {base : Nat} {ok : Nat → Prop} {v : Value} {xs : List α} (h : Kd.R d e w base ok v xs) (hn : 0 < xs.length) :
    ∃ g c, v = .slice (some ⟨g, 0, none⟩) xs.length c ∧ xs.length ≤ c ∧ c ≤ 9223372036854775807 ∧ base ≤ g := by
  obtain ⟨inner, ho⟩ := Kd.R_own h
  rcases ho.2 with ⟨_, h0⟩ | ⟨g, cap, cur, rfl, hg, _, hc, hm, _⟩
  · omega
  · exact ⟨g, cap, rfl, hc, by simpa [maxLen] using hm, hg⟩
/-! A pointer that is only read: a row of one element. -/
def CellsRest (W : World) (a : Addr) : Nat → List Value → Prop
  | _, [] => True
  | k, u :: us => W.cell? ⟨a.block, a.off + k, none⟩ = some u ∧ CellsRest W a (k + 1) us
def CellsAt (W : World) (a : Addr) : List Value → Prop
  | [] => True
  | u :: us => W.cell? a = some u ∧ CellsRest W a 1 us
theorem CellsRest.get {W : World} {a : Addr} : ∀ {us : List Value} {k : Nat}, CellsRest W a k us → ∀ i u, us[i]? = some u → W.cell? ⟨a.block, a.off + (k + i), none⟩ = some u
  | [], _, _, i, u, h => by simp at h
  | x :: us, k, h, 0, u, hu => by
    have e : x = u := by simpa using hu
    rw [← e]; exact h.1
  | x :: us, k, h, i + 1, u, hu => by
    have := CellsRest.get h.2 i u (by simpa using hu)
    rw [show k + (i + 1) = k + 1 + i from by omega]; exact this
theorem CellsAt.get {W : World} {a : Addr} {cs : List Value} (h : CellsAt W a cs) (i : Nat) (u : Value) (hu : cs[i]? = some u) : W.cell? (a.add i) = some u := by
  cases cs with
  | nil => simp at hu
  | cons x us =>
    cases i with
    | zero =>
      have e : x = u := by simpa using hu
      have ha : a.add 0 = a := by unfold Addr.add; rw [if_pos rfl]
      rw [ha, ← e]; exact h.1
    | succ i =>
      have ha : a.add (i + 1) = ⟨a.block, a.off + (i + 1), none⟩ := by unfold Addr.add; rw [if_neg (by omega)]
      rw [ha, show i + 1 = 1 + i from by omega]
      exact CellsRest.get h.2 i u (by simpa using hu)
theorem Kd.C_lone {α : Type} {d : Kd α} {W : World} {a : Addr} {x : α} {cs : List Value} (hK : d.K W x cs) (hc : CellsAt W a cs) : Kd.C d W (some a) [x].length [x] := by
  refine ⟨rfl, by simp, fun _ => ⟨a, rfl, fun j p hj => ?_⟩⟩
  cases j with
  | zero =>
    have e : x = p := by simpa using hj
    subst e
    exact ⟨cs, d.K_len hK, hK, fun i u hu => by rw [Nat.zero_mul, Nat.zero_add]; exact CellsAt.get hc i u hu⟩
  | succ j => simp at hj
theorem Kd.C_lone_blk {α : Type} {d : Kd α} {W : World} {g T : Nat} {cells : Array Value} {x : α} {cs : List Value} (hb : W.heap[g]? = some (.cells cells T (0, 0))) (off : Nat) (he : (cells.toList.drop off).take cs.length = cs) (hK : d.K W x cs) : Kd.C d W (some ⟨g, off, none⟩) [x].length [x] := by
  have hcell : ∀ i u, cs[i]? = some u → W.cell? ⟨g, off + i, none⟩ = some u := by
    intro i u hu
    have hi : i < cs.length := (List.getElem?_eq_some_iff.1 hu).1
    rw [← he, List.getElem?_take_of_lt hi, List.getElem?_drop] at hu
    simp only [World.cell?, hb]
    simpa using hu
  refine ⟨rfl, by simp, fun _ => ⟨_, rfl, fun j p hj => ?_⟩⟩
  cases j with
  | zero =>
    have e : x = p := by simpa using hj
    subst e
    refine ⟨cs, d.K_len hK, hK, fun i u hu => ?_⟩
    rw [Nat.zero_mul, Nat.zero_add]
    have ha : (⟨g, off, none⟩ : Addr).add i = ⟨g, off + i, none⟩ := by
      unfold Addr.add
      split
      · rename_i h; subst h; rfl
      · rfl
    rw [ha]; exact hcell i u hu
  | succ j => simp at hj
/-- An operation whose result is a string gets a name for it. -/
theorem str_event {P : Program} {ops : Array Oper} {rest : List Oper} {o : Oper} {a : Act} {Q : Exit → Act → World → Prop} {W : World} {s s' : ByteArray} (hgd : o.guard = none) (hrun : (execOp a.eval o).run P W = .ok (.value (.string s)) W) (he : s' = s)
    (h : wpList P ops Q rest (a.put o.dst (.string s')) W) : wpList P ops Q (o :: rest) a W := Kd.event_run hgd hrun (he ▸ h)
/-- A call through a function value that is known, as a step of a region that draws. -/
theorem goesV_ {P : Program} {ops : Array Oper} {Q : Exit → Act → World → Prop} {oi : Oper} {N : Option Tmp} {a : Act} {w : World} {K : Act → World → Prop} {f : FuncId} {fn : Func} (hf : P.funcs[f]? = some fn) (hname : (fn.name == "runtime.NumGoroutine") = false) (hb : fn.body.isSome = true) (args lb : Array Value)
    (hw : Region.wanted oi (yielded ops a.tmps) = true) (hN : oi.dst = N) (t : Operand) (as_ : Array Operand) (ts : Array TypeId) (hop : oi.op = .call { callee := .value t, args := as_, argTypes := ts }) (hcal : a.eval t = .func (.func f) #[] lb) (hargs : as_.map a.eval ++ lb = args)
    (h : Calls P f args w fun e w' => ∃ v, e = .returned v ∧ K (a.put N v) w') : if Region.wanted oi (yielded ops a.tmps) = true then Oper.wp P oi a w K Q else K (a.put N undef) w := by
  refine call_ f args hw hN ?_ h
  have he := enters_ hf hname hb args w
  unfold execOp
  simp [hop, resolve, Deferred.ofValue, invoke, hcal, hargs, he]
/-! ### What slices.Insert does to a row of one's own -/
theorem run_copy_rowN {P : Program} (w : World) (dT sT ty elem : TypeId) (g o dLen dCap : Nat) (a : Addr) (sLen sCap : Nat) (cur : Array Value) (t : TypeId) (size : Nat) (cs : List Value)
    (hu : P.underlying dT = some (.slice elem)) (hs : (P.info? elem).map (·.size) = some size)
    (hg : w.heap[g]? = some (.cells cur t (0, 0))) (hn : cs.length = Nat.min sLen dLen * size)
    (hsrc : ∀ j v, cs[j]? = some v → w.cell? (a.add j) = some v) (hfit : o + cs.length ≤ cur.size) (h1 : ∀ v ∈ cs, v.oneCell' = true) :
    (Builtin.copy_ #[dT, sT] ty #[.slice (some ⟨g, o, none⟩) dLen dCap, .slice (some a) sLen sCap]).run P w =
      .ok (goInt (Nat.min sLen dLen)) (w.setRow g (cur.toList.take o ++ cs ++ cur.toList.drop (o + cs.length)).toArray) := by
  have hf := run_firstCells_some (P := P) w size (Nat.min sLen dLen) a sLen sCap cs hn hsrc
  have hst := run_storeCells_at P g o t cs 0 cur w hg (by simpa using hfit) h1
  cases hq : P.info? elem with
  | none => simp [hq] at hs
  | some i =>
    have hi : i.size = size := by simpa [hq] using hs
    simp [Builtin.copy_, run_underlying hu, Builtin.lenOf, sizeOf, typeInfo, hq, hi, hf, hst]
theorem cell_blk {w : World} {g e j : Nat} {cur : Array Value} (hg : w.heap[g]? = some (.cells cur e (0, 0))) : w.cell? ⟨g, j, none⟩ = cur[j]? := by simp [World.cell?, hg]
theorem reps_take {α : Type} {R : α → List Value → Prop} {size : Nat} {ps : List α} {cs : List Value} (h : Reps R size ps cs) (i : Nat) (hi : i ≤ ps.length) : Reps R size (ps.take i) (cs.take (i * size)) := by
  have hle : i * size ≤ ps.length * size := Nat.mul_le_mul_right _ hi
  refine ⟨by rw [List.length_take, List.length_take, h.1, Nat.min_eq_left hle, Nat.min_eq_left hi], fun j p hj => ?_⟩
  have hji : j < i := by have := (List.getElem?_eq_some_iff.1 hj).1; rw [List.length_take] at this; omega
  rw [List.getElem?_take_of_lt hji] at hj
  have h2 := h.2 j p hj
  have h3 : j * size + size ≤ i * size := by rw [← Nat.succ_mul]; exact Nat.mul_le_mul_right _ hji
  rw [List.drop_take, List.take_take, Nat.min_eq_left (by omega)]
  exact h2
theorem reps_drop {α : Type} {R : α → List Value → Prop} {size : Nat} {ps : List α} {cs : List Value} (h : Reps R size ps cs) (i : Nat) : Reps R size (ps.drop i) (cs.drop (i * size)) := by
  refine ⟨by rw [List.length_drop, List.length_drop, h.1, Nat.sub_mul], fun j p hj => ?_⟩
  rw [List.getElem?_drop] at hj
  have h2 := h.2 (i + j) p hj
  rw [List.drop_drop, ← Nat.add_mul]
  exact h2
theorem reps_cells {α : Type} {d : Kd α} {w : World} {base : Nat} {ok : Nat → Prop} {xs : List α} {cs : List Value} (h : Reps (d.M w base ok) d.sz xs cs) : ∀ u ∈ cs, u.oneCell' = true := by
  intro u hu
  obtain ⟨j, hj, rfl⟩ := List.mem_iff_getElem.1 hu
  have hs : 0 < d.sz := by
    rcases Nat.eq_zero_or_pos d.sz with h0 | h0
    · rw [h.1, h0] at hj; simp at hj
    · exact h0
  have hq : j / d.sz < xs.length := Nat.div_lt_of_lt_mul (by rw [Nat.mul_comm, ← h.1]; exact hj)
  have hM := h.2 (j / d.sz) _ (List.getElem?_eq_getElem hq)
  refine d.K_one (d.K_of_M hM) _ ?_
  have hmod : j % d.sz < d.sz := Nat.mod_lt _ hs
  have hje : j / d.sz * d.sz + j % d.sz = j := by rw [Nat.mul_comm]; exact Nat.div_add_mod j d.sz
  refine List.mem_of_getElem? (i := j % d.sz) ?_
  rw [List.getElem?_take_of_lt hmod, List.getElem?_drop, hje, List.getElem?_eq_getElem hj]
/-- A block that holds a row. -/
theorem R_of_block {α : Type} {d : Kd α} {e base g cap : Nat} {ok : Nat → Prop} {w : World} {cur : Array Value} {xs : List α} {inner : List Value} (hg : w.heap[g]? = some (.cells cur e (0, 0))) (hb : base ≤ g) (hok : ok g) (hc : xs.length ≤ cap) (hm : cap ≤ 9223372036854775807) (hs : cur.size = cap * d.sz)
    (ht : cur.toList.take (xs.length * d.sz) = inner) (hr : Reps (d.M w base (fun k => ok k ∧ k ≠ g)) d.sz xs inner) : Kd.R d e w base ok (.slice (some ⟨g, 0, none⟩) xs.length cap) xs := by
  refine ⟨fun k hk => ?_, inner, ⟨hr.1, .inr ⟨g, cap, cur, rfl, hb, hg, hc, by simpa [maxLen] using hm, hs, ht⟩⟩, hr.imp_ (fun p c hp => d.M_mono (fun k hk => ⟨hk.1, fun e_ => hk.2 (by simpa [Value.ownBlock] using e_)⟩) hp)⟩
  simp [Value.ownBlock] at hk
  exact hk ▸ hok
theorem R_parts {α : Type} {d : Kd α} {e base : Nat} {ok : Nat → Prop} {w : World} {v : Value} {xs : List α} (h : Kd.R d e w base ok v xs) (hn : 0 < xs.length) :
    ∃ g cap cur inner, v = .slice (some ⟨g, 0, none⟩) xs.length cap ∧ base ≤ g ∧ ok g ∧ w.heap[g]? = some (.cells cur e (0, 0)) ∧ xs.length ≤ cap ∧ cap ≤ 9223372036854775807 ∧ cur.size = cap * d.sz ∧ cur.toList.take (xs.length * d.sz) = inner ∧ Reps (d.M w base (fun k => ok k ∧ k ≠ g ∧ base ≤ k ∧ k < w.heap.size)) d.sz xs inner := by
  obtain ⟨hok, inner, ho, hr⟩ := h
  rcases ho.2 with ⟨_, h0⟩ | ⟨g, cap, cur, rfl, hb, hg, hc, hm, hs, ht⟩
  · omega
  · refine ⟨g, cap, cur, inner, rfl, hb, hok g rfl, hg, hc, by simpa [maxLen] using hm, hs, ht, hr.imp_ (fun p c hp => d.M_mono (fun k hk => ⟨hk.1.1, fun e_ => hk.1.2 (by simp [Value.ownBlock, e_]), hk.2.1, hk.2.2.1⟩) (d.M_bound hp))⟩
/-- 'x' put in at place i, in a block that has room. -/
theorem ins_cells {cur : Array Value} {n i z m : Nat} {inner news : List Value} (ht : cur.toList.take (n * z) = inner) (hi : i ≤ n) (hl : inner.length = n * z) (hn : news.length = m * z) (hs : (n + m) * z ≤ cur.size)
    {c1 : List Value} (h1 : c1 = cur.toList.take ((i + m) * z) ++ inner.drop (i * z) ++ cur.toList.drop ((i + m) * z + (inner.drop (i * z)).length)) {c2 : List Value} (h2 : c2 = c1.take (i * z) ++ news ++ c1.drop (i * z + news.length)) :
    c1.length = cur.size ∧ c2.length = cur.size ∧ c2.take ((n + m) * z) = inner.take (i * z) ++ news ++ inner.drop (i * z) := by
  have hiz : i * z ≤ n * z := Nat.mul_le_mul_right _ hi
  have e1 : (i + m) * z = i * z + m * z := Nat.add_mul _ _ _
  have e2 : (n + m) * z = n * z + m * z := Nat.add_mul _ _ _
  rw [e1] at h1
  rw [e2] at hs ⊢
  generalize hA : i * z = A at *
  generalize hB : m * z = B at *
  generalize hC : n * z = C at *
  have hcl : cur.toList.length = cur.size := by simp
  have hd : (inner.drop A).length = C - A := by rw [List.length_drop, hl]
  have hl1 : c1.length = cur.size := by
    rw [h1]; simp only [List.length_append, List.length_take, List.length_drop, hl, hcl]; omega
  have hl2 : c2.length = cur.size := by
    rw [h2]; simp only [List.length_append, List.length_take, List.length_drop, hl1, hn]; omega
  refine ⟨hl1, hl2, ?_⟩
  have ta : c1.take A = inner.take A := by
    rw [h1, List.append_assoc, List.take_append_of_le_length (by rw [List.length_take, hcl]; omega), List.take_take, ← ht, List.take_take]
    congr 1; omega
  have td : (c1.drop (A + B)).take (C - A) = inner.drop A := by
    rw [h1, List.append_assoc, List.drop_append, List.length_take, hcl, Nat.min_eq_left (by omega : A + B ≤ cur.size), Nat.sub_self, List.drop_zero, List.drop_eq_nil_of_le (by rw [List.length_take, hcl]; omega), List.nil_append, List.take_append_of_le_length (by omega), List.take_of_length_le (by omega)]
  have hta : (inner.take A).length = A := by rw [List.length_take, hl]; omega
  rw [h2, ta, hn, List.append_assoc, List.take_append, hta, List.take_of_length_le (l := inner.take A) (by omega), List.take_append, hn, List.take_of_length_le (l := news) (by omega), show C + B - A - B = C - A from by omega, td, List.append_assoc]
/-- The worlds of 'put in': nothing but the block g is written. -/
theorem R_put_in {α : Type} {d : Kd α} {e base g cap i : Nat} {P0_ P2_ : Nat → Prop} {w w' : World} {cur' : Array Value} {xs ys : List α} {inner news : List Value}
    (hg : w'.heap[g]? = some (.cells cur' e (0, 0))) (hb : base ≤ g) (hok : (P0_ g ∨ P2_ g) ∨ w.heap.size ≤ g) (hc : xs.length + ys.length ≤ cap) (hm : cap ≤ 9223372036854775807) (hs : cur'.size = cap * d.sz) (hi : i ≤ xs.length)
    (ht : cur'.toList.take ((xs.length + ys.length) * d.sz) = inner.take (i * d.sz) ++ news ++ inner.drop (i * d.sz))
    (hr : Reps (d.M w base (fun k => P0_ k ∧ k ≠ g ∧ base ≤ k ∧ k < w.heap.size)) d.sz xs inner) (hr2 : Reps (d.M w base (fun k => P2_ k ∧ k ≠ g ∧ base ≤ k ∧ k < w.heap.size)) d.sz ys news)
    (hk : ∀ k, k < w.heap.size → k ≠ g → w'.heap[k]? = w.heap[k]?) :
    Kd.R d e w' base (fun k_ => ((P0_ k_ ∨ P2_ k_) ∨ w.heap.size ≤ k_)) (.slice (some ⟨g, 0, none⟩) (xs.length + ys.length) cap) (xs.take i ++ ys ++ xs.drop i) := by
  have hlen : (xs.take i ++ ys ++ xs.drop i).length = xs.length + ys.length := by simp only [List.length_append, List.length_take, List.length_drop]; omega
  have hx := hr.imp_ (R' := d.M w' base (fun k => ((P0_ k ∨ P2_ k) ∨ w.heap.size ≤ k) ∧ k ≠ g)) (fun p c hp => d.M_mono (fun k hk => ⟨.inl (.inl hk.1), hk.2.1⟩) (d.M_move (fun k hk' => hk k hk'.2.2.2 hk'.2.1) hp))
  have hy := hr2.imp_ (R' := d.M w' base (fun k => ((P0_ k ∨ P2_ k) ∨ w.heap.size ≤ k) ∧ k ≠ g)) (fun p c hp => d.M_mono (fun k hk => ⟨.inl (.inr hk.1), hk.2.1⟩) (d.M_move (fun k hk' => hk k hk'.2.2.2 hk'.2.1) hp))
  rw [← hlen]
  exact R_of_block hg hb hok (by omega) hm hs (by rw [hlen]; exact ht) (Kd.reps_append (Kd.reps_append (reps_take hx i hi) hy) (reps_drop hx i))
theorem zeros_size (z : Array Value) (k : Nat) : (Builtin.zeroCells z k).size = k * z.size := by
  simp [Builtin.zeroCells]
/-- 'x' put in at place i, in a new block. -/
theorem ins_new {ROW : Array Value} {n i z m G : Nat} {inner news zs : List Value} (hR : ROW.toList = inner.take (i * z) ++ zs) (hz : zs.length = (G - i) * z) (hi : i ≤ n) (hG : n + m ≤ G) (hl : inner.length = n * z) (hn : news.length = m * z)
    {c1 : List Value} (h1 : c1 = ROW.toList.take (i * z) ++ news ++ ROW.toList.drop (i * z + news.length)) {c2 : List Value} (h2 : c2 = c1.take ((i + m) * z) ++ inner.drop (i * z) ++ c1.drop ((i + m) * z + (inner.drop (i * z)).length)) :
    ROW.size = G * z ∧ c1.length = G * z ∧ c2.length = G * z ∧ c2.take ((n + m) * z) = inner.take (i * z) ++ news ++ inner.drop (i * z) := by
  have hiz : i * z ≤ n * z := Nat.mul_le_mul_right _ hi
  have e1 : (i + m) * z = i * z + m * z := Nat.add_mul _ _ _
  have e2 : (n + m) * z = n * z + m * z := Nat.add_mul _ _ _
  have e3 : (n + m) * z ≤ G * z := Nat.mul_le_mul_right _ hG
  have e4 : (G - i) * z = G * z - i * z := Nat.sub_mul _ _ _
  rw [e1] at h2
  rw [e2] at e3 ⊢
  rw [e4] at hz
  generalize hA : i * z = A at *
  generalize hB : m * z = B at *
  generalize hC : n * z = C at *
  generalize hD : G * z = D at *
  have ha : (inner.take A).length = A := by rw [List.length_take, hl]; omega
  have hd : (inner.drop A).length = C - A := by rw [List.length_drop, hl]
  have hRl : ROW.toList.length = D := by rw [hR, List.length_append, ha, hz]; omega
  have tR : ROW.toList.take A = inner.take A := by rw [hR, List.take_append_of_le_length (by omega), List.take_take, Nat.min_self]
  have hl1 : c1.length = D := by rw [h1]; simp only [List.length_append, List.length_take, List.length_drop, hRl, hn]; omega
  have hl2 : c2.length = D := by rw [h2]; simp only [List.length_append, List.length_take, List.length_drop, hl1, hl]; omega
  refine ⟨by rw [← hRl]; simp, hl1, hl2, ?_⟩
  have t1 : c1.take (A + B) = inner.take A ++ news := by
    rw [h1, tR, List.take_append_of_le_length (by rw [List.length_append, ha, hn]; omega), List.take_of_length_le (by rw [List.length_append, ha, hn]; omega)]
  rw [h2, t1, List.take_append_of_le_length (by simp only [List.length_append, ha, hn, hd]; omega), List.take_of_length_le (by simp only [List.length_append, ha, hn, hd]; omega)]
end Go.Proofs.YtiopkeepldmlkaaDoor.QSB
