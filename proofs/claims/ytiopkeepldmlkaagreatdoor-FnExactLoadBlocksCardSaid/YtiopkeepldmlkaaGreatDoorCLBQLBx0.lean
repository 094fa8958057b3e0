/- A part of the proof: no condition of its own. Out of what the print tool printed, or of own texts, cut down to what this claim needs by a program of the prover (prune.py). -/
-- Made by wip/tool (a turned print tool and hand-written contracts) for this claim.
import Derived.Test.YtiopkeepldmlkaaGreatDoorProg
import Derived.Below
import Derived.Deep.Draws
import Derived.Deep.AppendLies
import Derived.Maps.AppendAt
import Derived.OwnWalk
import Derived.Laws.BytesArg
import Derived.Laws.MakeOwn
import Derived.Laws.OwnMore
import Derived.Deep.OwnRows
import Derived.Tactics
import Derived.Lib.ConvBytes
import Derived.Laws.Slices
import Derived.WalkKit
import Derived.KernelRfl
import Derived.RowKit3
import Derived.Deep.LoopGhost
import Derived.Deep.QuietTactic
import Derived.BigQuiet
import Derived.WideLaws
import Derived.Deep.DeepCutAuto
import Derived.Deep.CutBlock
import Derived.Deep.RegionHeld3
import Derived.Laws.Rows
import Derived.Lib.AppendStr
import Derived.ArgAppend
import Derived.Laws.IdiomCopy
import Derived.OrdersHeld
import Derived.Laws.BitsLemmas
import Derived.RowKit
import Derived.Test.YtiopkeepldmlkaaGreatDoorCLBWWords
import Derived.Test.YtiopkeepldmlkaaGreatDoorCLBWLast
import Derived.Test.YtiopkeepldmlkaaGreatDoorCLBWTab
import Derived.Test.YtiopkeepldmlkaaGreatDoorCLBWFour
import Derived.Test.YtiopkeepldmlkaaGreatDoorCLBWQPut
import Derived.Test.YtiopkeepldmlkaaGreatDoorCLBWApart
import Derived.Test.YtiopkeepldmlkaaGreatDoorCLBWArr
import Derived.Test.YtiopkeepldmlkaaGreatDoorCLBWZeros
import Derived.Test.YtiopkeepldmlkaaGreatDoorCLBWFoot
import Derived.Test.YtiopkeepldmlkaaGreatDoorCLBWKept
import Derived.Test.YtiopkeepldmlkaaGreatDoorCLBWShare
import Derived.Test.YtiopkeepldmlkaaGreatDoorCLBWN
import Derived.Test.YtiopkeepldmlkaaGreatDoorCLBWFootNe
import Derived.Test.YtiopkeepldmlkaaGreatDoorCLBWAt
import Derived.Test.YtiopkeepldmlkaaGreatDoorCLBWEqStruct
import Derived.Test.YtiopkeepldmlkaaGreatDoorCLBWRepsOne
import Derived.Test.YtiopkeepldmlkaaGreatDoorCLBWInv
import Derived.Test.YtiopkeepldmlkaaGreatDoorCLBWInvWords
import Derived.Test.YtiopkeepldmlkaaGreatDoorCLBWGuard
import Derived.Test.YtiopkeepldmlkaaGreatDoorCLBWNEv
import Derived.Test.YtiopkeepldmlkaaGreatDoorCLBWMore
import Derived.Lib.LaidTab
import Derived.Shelf.Strconv.ParseIntPublic10
import Derived.WalkLawsBesides
import Derived.Test.YtiopkeepldmlkaaGreatDoorCLBShelf
import Derived.Lib.AppendIntMem
namespace Go.Proofs.YtiopkeepldmlkaaGreatDoor.QLB
open Go.RowKit Go.Proofs.YtiopkeepldmlkaaGreatDoorW.PrintWords Go.Proofs.YtiopkeepldmlkaaGreatDoorW.PrintLast Go.Proofs.YtiopkeepldmlkaaGreatDoorW.PrintMore
attribute [local go_sem] max2_int min2_int max_two min_two max_three min_three max_four min_four   -- for this text's walks alone
set_option linter.unusedVariables false
set_option linter.unusedSimpArgs false
def errW : Option Int → Value
  | none => .nilIface
  | some c => .iface 0 (.int .i64 c)
theorem errW_none : errW none = .nilIface := rfl
theorem errW_some (c : Int) : errW (some c) = .iface 0 (.int .i64 c) := rfl
theorem info5 : (Tryz.prog.info? 5).map (fun i => (i.zero, i.size, i.bytes)) = some (some (.int .u8 0), 1, 1) := by kernel_rfl
theorem info9 : (Tryz.prog.info? 9).map (fun i => (i.zero, i.size, i.bytes)) = some (some (.string ⟨#[]⟩), 1, 16) := by kernel_rfl
theorem info44 : (Tryz.prog.info? 44).map (fun i => (i.zero, i.size, i.bytes)) = some (some (.agg #[(.string ⟨#[]⟩), (.string ⟨#[]⟩), (.string ⟨#[]⟩)]), 3, 48) := by kernel_rfl
/-! #### struct type 44 -/
structure S44 where
  f0 : ByteArray
  f1 : ByteArray
  f2 : ByteArray
def z44 : S44 := ⟨(⟨#[]⟩ : ByteArray), (⟨#[]⟩ : ByteArray), (⟨#[]⟩ : ByteArray)⟩
def k44 : Kd S44 := Kd.iso (Kd.pair Kd.string (Kd.pair Kd.string Kd.string)) (fun x : S44 => (x.f0, x.f1, x.f2))
theorem k44_open {w : World} {x : S44} {cs : List Value} (h : k44.K w x cs) : cs = [.string x.f0, .string x.f1, .string x.f2] := by
  obtain ⟨_, _, rfl, rfl, ⟨_, _, rfl, rfl, rfl⟩⟩ := h
  exact rfl
theorem k44_openM {w : World} {base : Nat} {ok : Nat → Prop} {x : S44} {cs : List Value} (h : k44.M w base ok x cs) : cs = [.string x.f0, .string x.f1, .string x.f2] := by
  obtain ⟨_, _, rfl, rfl, ⟨_, _, rfl, rfl, rfl⟩⟩ := h
  exact rfl
theorem k44_mk (w : World) (x : S44)  : k44.K w x [.string x.f0, .string x.f1, .string x.f2] := ⟨[.string x.f0], [.string x.f1, .string x.f2], rfl, rfl, ⟨[.string x.f1], [.string x.f2], rfl, rfl, rfl⟩⟩
theorem k44_mkM (w : World) (base : Nat) (ok : Nat → Prop) (x : S44)  : k44.M w base ok x [.string x.f0, .string x.f1, .string x.f2] := ⟨[.string x.f0], [.string x.f1, .string x.f2], rfl, rfl, ⟨[.string x.f1], [.string x.f2], rfl, rfl, rfl⟩⟩
def rd_T44 (xs : List S44) (i : Int) : S44 := xs.getD i.toNat z44
theorem at_T44 {w : World} {A : Option Addr} {n : Nat} {xs : List S44} (h : Kd.C k44 w A n xs) (i : Int) (h0 : 0 ≤ i) (h1 : i < n) : ∃ ad , A = some ad ∧ w.cell? (ad.add (i.toNat * 3)) = some (.string (rd_T44 xs i).f0) ∧ w.cell? ⟨(ad.add (i.toNat * 3)).block, (ad.add (i.toNat * 3)).off + 1, none⟩ = some (.string (rd_T44 xs i).f1) ∧ w.cell? ⟨(ad.add (i.toNat * 3)).block, (ad.add (i.toNat * 3)).off + 2, none⟩ = some (.string (rd_T44 xs i).f2) := by
  obtain ⟨ad, c, e, _, hK, hc0⟩ := Kd.C_get h z44 i h0 h1
  have hc : ∀ j u, c[j]? = some u → w.cell? (ad.add (i.toNat * 3 + j)) = some u := hc0
  obtain rfl := k44_open hK
  exact ⟨ad, e, hc 0 _ rfl, by rw [← add_field _ _ 1 (by omega)]; exact hc 1 _ rfl, by rw [← add_field _ _ 2 (by omega)]; exact hc 2 _ rfl⟩
/-! ### What the contracts ask of package-level variables -/
theorem var_now {P : Program} {w w' : World} {n : String} {cs : Array Value} (hv : w.var? P n = some cs) (hb : Below w.heap.size w w') : w'.var? P n = some cs := by
  unfold World.var? at hv ⊢
  cases hg : P.globalNamed n with
  | none => simp [hg] at hv
  | some g =>
    simp only [hg, Option.bind_some] at hv ⊢
    have hlt : g < w.heap.size := by
      rcases Nat.lt_or_ge g w.heap.size with h' | h'
      · exact h'
      · simp [Array.getElem?_eq_none h'] at hv
    rw [hb.block g hlt]
    exact hv
structure GOK (w : World) : Prop where
  maxLen : ∃ m, w.cell? ⟨3, 0, none⟩ = some (.int .i64 m)
  pow10 : Lib.TabIs Tryz.prog w "internal/strconv.uint64pow10" .u64 Lib.pow10Tab
  errSyntax : ∃ tp p, w.var? Tryz.prog "strconv.ErrSyntax" = some #[.iface tp p]
  errRange : ∃ tp p, w.var? Tryz.prog "strconv.ErrRange" = some #[.iface tp p]
theorem GOK.below {w w' : World} (h : GOK w) (hb : Below w.heap.size w w') : GOK w' where
  maxLen := by obtain ⟨m, hm⟩ := h.maxLen; exact ⟨m, pw_cell_below hb hm⟩
  pow10 := var_now h.pow10 hb
  errSyntax := by obtain ⟨t, p, hm⟩ := h.errSyntax; exact ⟨t, p, var_now hm hb⟩
  errRange := by obtain ⟨t, p, hm⟩ := h.errRange; exact ⟨t, p, var_now hm hb⟩
theorem GOK.drewN {w : World} (h : GOK w) (n : Nat) : GOK (w.drewN n) := h.below (pw_below_drewN (Below.refl _ _) n)
theorem GOK.drew {w : World} (h : GOK w) : GOK w.drew := h.below (below_drew (Below.refl _ _))
theorem GOK.alloc {w : World} (h : GOK w) (o : Obj) : GOK (w.alloc o) := h.below (below_alloc (Below.refl _ _) o)
theorem drawn_of {w w' : World} (h : ∃ n, w' = w.drewN n) : Drawn0 w w' := ⟨h⟩
/-- A new block that holds a row as a call has made it. -/
theorem R_of_alloc {α : Type} (d : Kd α) (w : World) (e : Nat) {xs : List α} {inner : List Value} (hrep : Reps (d.M w w.heap.size (fun _ => False)) d.sz xs inner) (hm : xs.length ≤ 9223372036854775807) :
    Kd.R d e (w.alloc (.cells inner.toArray e)) w.heap.size (fun _ => True) (.slice (some ⟨w.heap.size, 0, none⟩) xs.length xs.length) xs := by
  refine ⟨fun _ _ => trivial, inner, ?_, ?_⟩
  · have h2 := World.ownsRow_lit (base := w.heap.size) (e := e) (size := d.sz) w inner.toArray xs.length (Nat.le_refl _) (by simpa [maxLen] using hm) (by simpa using hrep.1)
    simpa using h2
  · exact hrep.imp_ (fun p c hp => d.M_mono (fun k hk => hk.1.elim) (Kd.M_below (d.M_bound hp) (below_alloc (Below.refl _ _) _)))
/-- '[]byte(s)': a new row that reads as the string's bytes; told as a row that is only read. -/
theorem V_conv {P : Program} {ops : Array Oper} {rest : List Oper} {o : Oper} {a : Act} {Q : Exit → Act → World → Prop} {w0 W : World} (base e : Nat) (hgd : o.guard = none) {N : Tmp} (_hd : o.dst = some N) (src dst : TypeId) (x : Operand) (ho : o.op = .convert src dst x) (s : ByteArray) (hx : a.eval x = .string s)
    {u : TypeDesc} (hs : P.underlying src = some u) (hdst : P.underlying dst = some (.slice e)) (he : P.underlying e = some (.int .u8)) {M : Nat} (hM : M ≤ W.heap.size) (HB : Below base w0 W) (hbase : base ≤ W.heap.size) (hm : s.size ≤ 9223372036854775807)
    (h : ∀ v1 w1, Kd.V (Kd.int .u8) e w1 base (fun k_ => M ≤ k_) v1 (bytesOf s) → Below base w0 w1 → W.grownBy w1 none → (∃ b, v1.ownBlock = some b ∧ W.heap.size ≤ b) → wpList P ops Q rest (a.put o.dst v1) w1) : wpList P ops Q (o :: rest) a W := by
  have hr := Lib.run_convert_string_bytes (P := P) W src dst e s hs hdst he
  have hb : Below W.heap.size W (Lib.bytesWorld W e s) := ⟨rfl, rfl, rfl, by rw [Lib.bytesWorld_size]; omega, fun k hk => Lib.bytesWorld_at_old W e s k hk⟩
  refine Kd.event_run hgd (v := .slice (some ⟨W.heap.size, 0, none⟩) s.size (grownCap W s.size 0 e)) (w1 := Lib.bytesWorld W e s) (by simp [execOp, ho, hx, hr]) (h _ _ ?_ ?_ (grown_of_below hb none) ⟨W.heap.size, rfl, Nat.le_refl _⟩)
  · have hl : (bytesOf s).length = s.size := bytesOf_length s
    have hc : s.size ≤ grownCap W s.size 0 e := grownCap_ge W s.size 0 e
    refine ⟨some ⟨W.heap.size, 0, none⟩, grownCap W s.size 0 e, by rw [hl], by rw [hl]; exact hc, ?_⟩
    intro W' hW
    have hblk := hW W.heap.size hM (by rw [Lib.bytesWorld_size]; omega)
    refine Kd.C_of_reads (enc := Value.int .u8) (d := (0 : Int)) (h1 := fun _ => rfl) ⟨rfl, by rw [hl]; exact hm, fun _ => ⟨_, rfl, fun j hj => ?_⟩⟩
    rw [hl] at hj
    have hcell := Lib.bytesWorld_cell W e s j hj
    have hsame : W'.cell? ⟨W.heap.size, j, none⟩ = (Lib.bytesWorld W e s).cell? ⟨W.heap.size, j, none⟩ := by simp only [World.cell?, hblk]
    rw [add_plain, hsame, hcell]
    have hj' : j < s.data.toList.length := by rw [data_length]; exact hj
    simp [bytesOf, List.getD, List.getElem?_eq_getElem hj']
  · exact HB.trans ⟨hb.os, hb.tape, hb.output, hb.size, fun k hk => hb.block k (Nat.lt_of_lt_of_le hk hbase)⟩
theorem R_open {α : Type} {d : Kd α} {e : Nat} {w : World} {base : Nat} {ok : Nat → Prop} {v : Value} {xs : List α} (h : Kd.R d e w base ok v xs) (hn : 0 < xs.length) :
    ∃ g c, v = .slice (some ⟨g, 0, none⟩) xs.length c ∧ xs.length ≤ c ∧ c ≤ 9223372036854775807 ∧ base ≤ g := by
  obtain ⟨inner, ho⟩ := Kd.R_own h
  rcases ho.2 with ⟨_, h0⟩ | ⟨g, cap, cur, rfl, hg, _, hc, hm, _⟩
  · omega
  · exact ⟨g, cap, rfl, hc, by simpa [maxLen] using hm, hg⟩
/-! A pointer that is only read: a row of one element. -/
def CellsRest (W : World) (a : Addr) : Nat → List Value → Prop
  | _, [] => True
  | k, u :: us => W.cell? ⟨a.block, a.off + k, none⟩ = some u ∧ CellsRest W a (k + 1) us
def CellsAt (W : World) (a : Addr) : List Value → Prop
  | [] => True
  | u :: us => W.cell? a = some u ∧ CellsRest W a 1 us
theorem CellsRest.get {W : World} {a : Addr} : ∀ {us : List Value} {k : Nat}, CellsRest W a k us → ∀ i u, us[i]? = some u → W.cell? ⟨a.block, a.off + (k + i), none⟩ = some u
  | [], _, _, i, u, h => by simp at h
  | x :: us, k, h, 0, u, hu => by
    have e : x = u := by simpa using hu
    rw [← e]; exact h.1
  | x :: us, k, h, i + 1, u, hu => by
    have := CellsRest.get h.2 i u (by simpa using hu)
    rw [show k + (i + 1) = k + 1 + i from by omega]; exact this
theorem CellsAt.get {W : World} {a : Addr} {cs : List Value} (h : CellsAt W a cs) (i : Nat) (u : Value) (hu : cs[i]? = some u) : W.cell? (a.add i) = some u := by
  cases cs with
  | nil => simp at hu
  | cons x us =>
    cases i with
    | zero =>
      have e : x = u := by simpa using hu
      have ha : a.add 0 = a := by unfold Addr.add; rw [if_pos rfl]
      rw [ha, ← e]; exact h.1
    | succ i =>
      have ha : a.add (i + 1) = ⟨a.block, a.off + (i + 1), none⟩ := by unfold Addr.add; rw [if_neg (by omega)]
      rw [ha, show i + 1 = 1 + i from by omega]
      exact CellsRest.get h.2 i u (by simpa using hu)
theorem Kd.C_lone {α : Type} {d : Kd α} {W : World} {a : Addr} {x : α} {cs : List Value} (hK : d.K W x cs) (hc : CellsAt W a cs) : Kd.C d W (some a) [x].length [x] := by
  refine ⟨rfl, by simp, fun _ => ⟨a, rfl, fun j p hj => ?_⟩⟩
  cases j with
  | zero =>
    have e : x = p := by simpa using hj
    subst e
    exact ⟨cs, d.K_len hK, hK, fun i u hu => by rw [Nat.zero_mul, Nat.zero_add]; exact CellsAt.get hc i u hu⟩
  | succ j => simp at hj
theorem Kd.C_lone_blk {α : Type} {d : Kd α} {W : World} {g T : Nat} {cells : Array Value} {x : α} {cs : List Value} (hb : W.heap[g]? = some (.cells cells T (0, 0))) (off : Nat) (he : (cells.toList.drop off).take cs.length = cs) (hK : d.K W x cs) : Kd.C d W (some ⟨g, off, none⟩) [x].length [x] := by
  have hcell : ∀ i u, cs[i]? = some u → W.cell? ⟨g, off + i, none⟩ = some u := by
    intro i u hu
    have hi : i < cs.length := (List.getElem?_eq_some_iff.1 hu).1
    rw [← he, List.getElem?_take_of_lt hi, List.getElem?_drop] at hu
    simp only [World.cell?, hb]
    simpa using hu
  refine ⟨rfl, by simp, fun _ => ⟨_, rfl, fun j p hj => ?_⟩⟩
  cases j with
  | zero =>
    have e : x = p := by simpa using hj
    subst e
    refine ⟨cs, d.K_len hK, hK, fun i u hu => ?_⟩
    rw [Nat.zero_mul, Nat.zero_add]
    have ha : (⟨g, off, none⟩ : Addr).add i = ⟨g, off + i, none⟩ := by
      unfold Addr.add
      split
      · rename_i h; subst h; rfl
      · rfl
    rw [ha]; exact hcell i u hu
  | succ j => simp at hj
/-- An operation whose result is a string gets a name for it. -/
theorem str_event {P : Program} {ops : Array Oper} {rest : List Oper} {o : Oper} {a : Act} {Q : Exit → Act → World → Prop} {W : World} {s s' : ByteArray} (hgd : o.guard = none) (hrun : (execOp a.eval o).run P W = .ok (.value (.string s)) W) (he : s' = s)
    (h : wpList P ops Q rest (a.put o.dst (.string s')) W) : wpList P ops Q (o :: rest) a W := Kd.event_run hgd hrun (he ▸ h)
end Go.Proofs.YtiopkeepldmlkaaGreatDoor.QLB
