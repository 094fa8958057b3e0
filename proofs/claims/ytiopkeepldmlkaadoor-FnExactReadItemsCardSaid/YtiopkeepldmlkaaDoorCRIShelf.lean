/- The library's contracts that the proofs of this seat use, laid at its translation by the shelf's command (plain form), cut down to those. -/
import Derived.Shelf.Strings.Builder1
import Derived.Shelf.Strings.Builder2
import Derived.Shelf.Strings.OnBuilder
import Derived.Shelf.Strings.BuilderF
import Derived.Shelf.Utf8.RuneCount
import Derived.Shelf.Strconv.Itoa0
import Derived.Shelf.Strconv.Itoa1
import Derived.Shelf.LaysM
import Derived.Shelf.Strconv.Itoa2
import Derived.Shelf.Strconv.Itoa3
import Derived.Shelf.Strconv.Itoa4
import Derived.Shelf.Strconv.ParseIntEmpty
import Derived.Shelf.Strconv.Clone
import Derived.Shelf.Strconv.SyntaxError
import Derived.Shelf.LaysC
import Derived.Shelf.Strconv.ToError
import Derived.Shelf.Strconv.Lower
import Derived.Shelf.Strconv.ParseUint10
import Derived.Shelf.Strconv.ParseUint10Empty
import Derived.Shelf.Strconv.ParseUint10Any
import Derived.Shelf.Strconv.ParseInt10
import Derived.Shelf.Strconv.RangeError
import Derived.Shelf.Strconv.ToErrorRange
import Derived.Shelf.Strconv.ParseUintEmpty
import Derived.Shelf.Strconv.ParseUint10b64
import Derived.Shelf.Strconv.ParseUint10b32
import Derived.Shelf.Strconv.ParseUint10b16
import Derived.Shelf.Strconv.ParseUint10b8
import Derived.Shelf.Strconv.ParseUint10At
import Derived.Shelf.Strconv.ParseInt10At64
import Derived.Shelf.Strconv.ParseInt10At32
import Derived.Shelf.Strconv.ParseInt10At16
import Derived.Shelf.Strconv.ParseInt10At8
import Derived.Shelf.Strconv.ParseInt10All
import Derived.Shelf.Strconv.ParseIntPublic10
import Derived.Shelf.Strconv.ErrVarParseInt
import Derived.Shelf.Strings.Search1
import Derived.Shelf.Strings.Search2
import Derived.Shelf.Strings.Search3
import Derived.Shelf.Strings.Cut
import Derived.Shelf.Strings.Count
import Derived.Shelf.Strings.Shaped
import Derived.Shelf.Strings.Prefix
import Derived.Shelf.Strings.Split
import Derived.Shelf.Strings.SplitShaped
import Derived.Shelf.Unicode.Decode
import Derived.Shelf.Strings.RuneCount
import Derived.Shelf.Strings.Explode
import Derived.Shelf.Bits.Mul64
import Derived.Shelf.Strings.Repeat
import Derived.Shelf.Unicode.DecodeSlow
import Derived.Shelf.Unicode.DecodeAny
import Derived.Shelf.Slices.Turned
import Derived.Ground.Names2Prog
import Derived.Shelf.Slices.Clone
import Derived.Ground.SlgnProg
import Derived.Shelf.SlicesE.Clone
import Derived.Test.YtiopkeepldmlkaaDoorProg
namespace Go.Proofs
open Go.Shelf
def Tryd.lays156_ren : Go.Shelf.Ren := ⟨fun | 156 => 56 | 165 => 64 | 166 => 65 | 169 => 67 | 240 => 94 | 241 => 95 | 276 => 119 | 277 => 120 | n => n, fun | 31 => 32 | 9 => 9 | 3 => 3 | 4 => 4 | 0 => 0 | 20 => 20 | 72 => 89 | 76 => 91 | 70 => 87 | 37 => 68 | 75 => 72 | 127 => 116 | 164 => 138 | 5 => 5 | 80 => 94 | n => n, fun | n => n⟩
theorem Tryd.lays156 : Go.Proofs.Lays.n156 Tryd.prog Tryd.lays156_ren := {
 mixed := by kernel_rfl
 f156 := Tryd.func56.trans (congrArg some (by kernel_rfl))
 f165 := Tryd.func64.trans (congrArg some (by kernel_rfl))
 f166 := Tryd.func65.trans (congrArg some (by kernel_rfl))
 f169 := Tryd.func67.trans (congrArg some (by kernel_rfl))
 f240 := Tryd.func94.trans (congrArg some (by kernel_rfl))
 f241 := Tryd.func95.trans (congrArg some (by kernel_rfl))
 f276 := Tryd.func119.trans (congrArg some (by kernel_rfl))
 f277 := Tryd.func120.trans (congrArg some (by kernel_rfl))
 t0 := Tryd.underlying0
 a0 := Tryd.isAgg0
 z0 := Tryd.sizeOf0
 v0 := Tryd.zeroValue0
 t3 := Tryd.underlying3
 a3 := Tryd.isAgg3
 z3 := Tryd.sizeOf3
 v3 := Tryd.zeroValue3
 t4 := Tryd.underlying4
 a4 := Tryd.isAgg4
 z4 := Tryd.sizeOf4
 v4 := Tryd.zeroValue4
 t9 := Tryd.underlying9
 a9 := Tryd.isAgg9
 z9 := Tryd.sizeOf9
 v9 := Tryd.zeroValue9
 t20 := Tryd.underlying20
 a20 := Tryd.isAgg20
 z20 := Tryd.sizeOf20
 v20 := Tryd.zeroValue20
 t31 := Tryd.underlying32
 a31 := Tryd.isAgg32
 z31 := Tryd.sizeOf32
 v31 := Tryd.zeroValue32
 t37 := Tryd.underlying68
 a37 := Tryd.isAgg68
 z37 := Tryd.sizeOf68
 v37 := Tryd.zeroValue68
 t70 := Tryd.underlying87
 a70 := Tryd.isAgg87
 z70 := Tryd.sizeOf87
 v70 := Tryd.zeroValue87
 t72 := Tryd.underlying89
 a72 := Tryd.isAgg89
 z72 := Tryd.sizeOf89
 v72 := Tryd.zeroValue89
 t75 := Tryd.underlying72
 a75 := Tryd.isAgg72
 z75 := Tryd.sizeOf72
 v75 := Tryd.zeroValue72
 t76 := Tryd.underlying91
 a76 := Tryd.isAgg91
 z76 := Tryd.sizeOf91
 v76 := Tryd.zeroValue91
 t127 := Tryd.underlying116
 a127 := Tryd.isAgg116
 z127 := Tryd.sizeOf116
 v127 := Tryd.zeroValue116
 t164 := Tryd.underlying138
 a164 := Tryd.isAgg138
 z164 := Tryd.sizeOf138
 v164 := Tryd.zeroValue138 }
theorem Tryd.Builder_Extra_156 : Builder.Extra Tryd.prog Tryd.lays156_ren := {
 sizeBuilder := by kernel_rfl
 liesBuilder := by kernel_rfl
 t5 := Tryd.underlying5
 a5 := Tryd.isAgg5
 z5 := Tryd.sizeOf5
 v5 := Tryd.zeroValue5
 infoByte := by kernel_rfl
 cellsByte := by kernel_rfl
 sizeByte := by kernel_rfl
 neB5 := by decide }
open Go.RowKit in
theorem Tryd.strings_Join_none (a : Option Addr) (c : Nat) (sep : ByteArray) (w : World) :
  Calls Tryd.prog 56 #[.slice a 0 c, .string sep] w fun e w' => e = .returned (.string ⟨#[]⟩) ∧ w' = w := Any.strings_Join_none Tryd.lays156 Tryd.Builder_Extra_156 a c sep w
open Go.RowKit in
theorem Tryd.strings_Join (bk o c : Nat) (xs : List ByteArray) (sep : ByteArray) (w : World) (hcells : ∀ (j : Nat) x, xs[j]? = some x → w.cell? ⟨bk, o + j, none⟩ = some (.string x)) (hbk : bk < w.heap.size) (hN : xs.length ≤ 140737488355328) (hcap : xs.length ≤ c) (hlen : (Lib.join (xs.map (·.data.toList)) sep.data.toList).length ≤ 140737488355328) :
  Calls Tryd.prog 56 #[.slice (some ⟨bk, o, none⟩) xs.length c, .string sep] w fun e w' => e = .returned (.string ⟨(Lib.join (xs.map (·.data.toList)) sep.data.toList).toArray⟩) ∧ Below w.heap.size w w' := Any.strings_Join Tryd.lays156 Tryd.Builder_Extra_156 bk o c xs sep w hcells hbk hN hcap hlen
def Tryd.laysM173_ren : Go.Shelf.Ren := ⟨fun | 173 => 61 | 246 => 90 | 283 => 115 | 284 => 116 | 285 => 117 | 286 => 118 | 129 => 132 | 317 => 131 | 318 => 133 | 319 => 134 | 320 => 135 | 337 => 138 | 338 => 139 | n => n, fun | 2 => 2 | 3 => 3 | 9 => 9 | 4 => 4 | 171 => 133 | 0 => 0 | 53 => 113 | 37 => 68 | 5 => 5 | 173 => 136 | 212 => 148 | 51 => 110 | 20 => 20 | 213 => 149 | 46 => 82 | 232 => 161 | 233 => 162 | n => n, fun | 17 => 3 | 18 => 6 | 19 => 7 | n => n⟩
theorem Tryd.laysM173 : Go.Proofs.LaysM.n173 Tryd.prog Tryd.laysM173_ren := {
 mixed := by kernel_rfl
 f129 := Tryd.func132.trans (congrArg some (by kernel_rfl))
 f173 := Tryd.func61.trans (congrArg some (by kernel_rfl))
 f246 := Tryd.func90.trans (congrArg some (by kernel_rfl))
 f283 := Tryd.func115.trans (congrArg some (by kernel_rfl))
 f284 := Tryd.func116.trans (congrArg some (by kernel_rfl))
 f285 := Tryd.func117.trans (congrArg some (by kernel_rfl))
 f286 := Tryd.func118.trans (congrArg some (by kernel_rfl))
 f317 := Tryd.func131.trans (congrArg some (by kernel_rfl))
 f318 := Tryd.func133.trans (congrArg some (by kernel_rfl))
 f319 := Tryd.func134.trans (congrArg some (by kernel_rfl))
 f320 := Tryd.func135.trans (congrArg some (by kernel_rfl))
 f337 := Tryd.func138.trans (congrArg some (by kernel_rfl))
 f338 := Tryd.func139.trans (congrArg some (by kernel_rfl))
 t0 := Tryd.underlying0
 a0 := Tryd.isAgg0
 z0 := Tryd.sizeOf0
 v0 := Tryd.zeroValue0
 t2 := Tryd.underlying2
 a2 := Tryd.isAgg2
 z2 := Tryd.sizeOf2
 v2 := Tryd.zeroValue2
 t3 := Tryd.underlying3
 a3 := Tryd.isAgg3
 z3 := Tryd.sizeOf3
 v3 := Tryd.zeroValue3
 t4 := Tryd.underlying4
 a4 := Tryd.isAgg4
 z4 := Tryd.sizeOf4
 v4 := Tryd.zeroValue4
 t5 := Tryd.underlying5
 a5 := Tryd.isAgg5
 z5 := Tryd.sizeOf5
 v5 := Tryd.zeroValue5
 t9 := Tryd.underlying9
 a9 := Tryd.isAgg9
 z9 := Tryd.sizeOf9
 v9 := Tryd.zeroValue9
 t20 := Tryd.underlying20
 a20 := Tryd.isAgg20
 z20 := Tryd.sizeOf20
 v20 := Tryd.zeroValue20
 t37 := Tryd.underlying68
 a37 := Tryd.isAgg68
 z37 := Tryd.sizeOf68
 v37 := Tryd.zeroValue68
 t46 := Tryd.underlying82
 a46 := Tryd.isAgg82
 z46 := Tryd.sizeOf82
 v46 := Tryd.zeroValue82
 t51 := Tryd.underlying110
 a51 := Tryd.isAgg110
 z51 := Tryd.sizeOf110
 v51 := Tryd.zeroValue110
 t53 := Tryd.underlying113
 a53 := Tryd.isAgg113
 z53 := Tryd.sizeOf113
 v53 := Tryd.zeroValue113
 t171 := Tryd.underlying133
 a171 := Tryd.isAgg133
 z171 := Tryd.sizeOf133
 v171 := Tryd.zeroValue133
 t173 := Tryd.underlying136
 a173 := Tryd.isAgg136
 z173 := Tryd.sizeOf136
 v173 := Tryd.zeroValue136
 t212 := Tryd.underlying148
 a212 := Tryd.isAgg148
 z212 := Tryd.sizeOf148
 v212 := Tryd.zeroValue148
 t213 := Tryd.underlying149
 a213 := Tryd.isAgg149
 z213 := Tryd.sizeOf149
 t232 := Tryd.underlying161
 a232 := Tryd.isAgg161
 z232 := Tryd.sizeOf161
 v232 := Tryd.zeroValue161
 t233 := Tryd.underlying162
 a233 := Tryd.isAgg162
 z233 := Tryd.sizeOf162
 v233 := Tryd.zeroValue162
 g17 := by kernel_rfl
 g18 := by kernel_rfl
 g19 := by kernel_rfl
 i0 := by kernel_rfl
 i2 := by kernel_rfl
 i3 := by kernel_rfl
 i4 := by kernel_rfl
 i5 := by kernel_rfl
 i9 := by kernel_rfl
 i20 := by kernel_rfl
 i37 := by kernel_rfl
 i46 := by kernel_rfl
 i51 := by kernel_rfl
 i53 := by kernel_rfl
 i171 := by kernel_rfl
 i173 := by kernel_rfl
 i212 := by kernel_rfl
 i232 := by kernel_rfl
 i233 := by kernel_rfl
 m17 := by kernel_rfl
 m18 := by kernel_rfl
 m19 := by kernel_rfl }
open Go.RowKit Go.Sort Go.Lib in
theorem Tryd.strconv_FormatInt_10 (n : Int) (h0 : -9223372036854775808 ≤ n) (h1 : n ≤ 9223372036854775807) (w : World) (htab : Lib.TabIs Tryd.prog w "internal/strconv.uint64pow10" .u64 Lib.pow10Tab) :
  Calls Tryd.prog 61 #[.int .i64 n, .int .i64 10] w fun e w' => e = .returned (.string ⟨(Lib.itoa n).toArray⟩) ∧ ∃ k os, w' = grow (w.drewN k) os := Any.strconv_FormatInt_10 Tryd.laysM173 n h0 h1 w htab
def Tryd.laysC174_ren : Go.Shelf.Ren := ⟨fun | 174 => 49 | 247 => 81 | 245 => 82 | 287 => 106 | 279 => 107 | 280 => 108 | 281 => 109 | 282 => 110 | 321 => 124 | 322 => 125 | 316 => 126 | 171 => 128 | 205 => 127 | 243 => 137 | 246 => 90 | 283 => 115 | 284 => 116 | 285 => 117 | 286 => 118 | 129 => 132 | 317 => 131 | 318 => 133 | 319 => 134 | 320 => 135 | 337 => 138 | 338 => 139 | n => n, fun | 9 => 9 | 3 => 3 | 2 => 2 | 75 => 72 | 85 => 73 | 4 => 4 | 167 => 126 | 5 => 5 | 53 => 113 | 175 => 127 | 46 => 82 | 168 => 129 | 37 => 68 | 0 => 0 | 210 => 144 | 21 => 21 | 127 => 116 | 145 => 159 | 143 => 157 | 171 => 133 | 173 => 136 | 212 => 148 | 51 => 110 | 20 => 20 | 213 => 149 | 232 => 161 | 233 => 162 | 80 => 94 | n => n, fun | 15 => 1 | 16 => 2 | 17 => 3 | 18 => 6 | 19 => 7 | n => n⟩
theorem Tryd.laysC174 : Go.Proofs.LaysC.n174 Tryd.prog Tryd.laysC174_ren := {
 mixed := by kernel_rfl
 f129 := Tryd.func132.trans (congrArg some (by kernel_rfl))
 f171 := Tryd.func128.trans (congrArg some (by kernel_rfl))
 f174 := Tryd.func49.trans (congrArg some (by kernel_rfl))
 f205 := Tryd.func127.trans (congrArg some (by kernel_rfl))
 f243 := Tryd.func137.trans (congrArg some (by kernel_rfl))
 f245 := Tryd.func82.trans (congrArg some (by kernel_rfl))
 f246 := Tryd.func90.trans (congrArg some (by kernel_rfl))
 f247 := Tryd.func81.trans (congrArg some (by kernel_rfl))
 f279 := Tryd.func107.trans (congrArg some (by kernel_rfl))
 f280 := Tryd.func108.trans (congrArg some (by kernel_rfl))
 f281 := Tryd.func109.trans (congrArg some (by kernel_rfl))
 f282 := Tryd.func110.trans (congrArg some (by kernel_rfl))
 f283 := Tryd.func115.trans (congrArg some (by kernel_rfl))
 f284 := Tryd.func116.trans (congrArg some (by kernel_rfl))
 f285 := Tryd.func117.trans (congrArg some (by kernel_rfl))
 f286 := Tryd.func118.trans (congrArg some (by kernel_rfl))
 f287 := Tryd.func106.trans (congrArg some (by kernel_rfl))
 f316 := Tryd.func126.trans (congrArg some (by kernel_rfl))
 f317 := Tryd.func131.trans (congrArg some (by kernel_rfl))
 f318 := Tryd.func133.trans (congrArg some (by kernel_rfl))
 f319 := Tryd.func134.trans (congrArg some (by kernel_rfl))
 f320 := Tryd.func135.trans (congrArg some (by kernel_rfl))
 f321 := Tryd.func124.trans (congrArg some (by kernel_rfl))
 f322 := Tryd.func125.trans (congrArg some (by kernel_rfl))
 f337 := Tryd.func138.trans (congrArg some (by kernel_rfl))
 f338 := Tryd.func139.trans (congrArg some (by kernel_rfl))
 t0 := Tryd.underlying0
 a0 := Tryd.isAgg0
 z0 := Tryd.sizeOf0
 v0 := Tryd.zeroValue0
 t2 := Tryd.underlying2
 a2 := Tryd.isAgg2
 z2 := Tryd.sizeOf2
 v2 := Tryd.zeroValue2
 t3 := Tryd.underlying3
 a3 := Tryd.isAgg3
 z3 := Tryd.sizeOf3
 v3 := Tryd.zeroValue3
 t4 := Tryd.underlying4
 a4 := Tryd.isAgg4
 z4 := Tryd.sizeOf4
 v4 := Tryd.zeroValue4
 t5 := Tryd.underlying5
 a5 := Tryd.isAgg5
 z5 := Tryd.sizeOf5
 v5 := Tryd.zeroValue5
 t9 := Tryd.underlying9
 a9 := Tryd.isAgg9
 z9 := Tryd.sizeOf9
 v9 := Tryd.zeroValue9
 t20 := Tryd.underlying20
 a20 := Tryd.isAgg20
 z20 := Tryd.sizeOf20
 v20 := Tryd.zeroValue20
 t21 := Tryd.underlying21
 a21 := Tryd.isAgg21
 z21 := Tryd.sizeOf21
 v21 := Tryd.zeroValue21
 t37 := Tryd.underlying68
 a37 := Tryd.isAgg68
 z37 := Tryd.sizeOf68
 v37 := Tryd.zeroValue68
 t46 := Tryd.underlying82
 a46 := Tryd.isAgg82
 z46 := Tryd.sizeOf82
 v46 := Tryd.zeroValue82
 t51 := Tryd.underlying110
 a51 := Tryd.isAgg110
 z51 := Tryd.sizeOf110
 v51 := Tryd.zeroValue110
 t53 := Tryd.underlying113
 a53 := Tryd.isAgg113
 z53 := Tryd.sizeOf113
 v53 := Tryd.zeroValue113
 t75 := Tryd.underlying72
 a75 := Tryd.isAgg72
 z75 := Tryd.sizeOf72
 v75 := Tryd.zeroValue72
 t85 := Tryd.underlying73
 a85 := Tryd.isAgg73
 z85 := Tryd.sizeOf73
 v85 := Tryd.zeroValue73
 t127 := Tryd.underlying116
 a127 := Tryd.isAgg116
 z127 := Tryd.sizeOf116
 v127 := Tryd.zeroValue116
 t143 := Tryd.underlying157
 a143 := Tryd.isAgg157
 z143 := Tryd.sizeOf157
 v143 := Tryd.zeroValue157
 t145 := Tryd.underlying159
 a145 := Tryd.isAgg159
 z145 := Tryd.sizeOf159
 v145 := Tryd.zeroValue159
 t167 := Tryd.underlying126
 a167 := Tryd.isAgg126
 z167 := Tryd.sizeOf126
 v167 := Tryd.zeroValue126
 t168 := Tryd.underlying129
 a168 := Tryd.isAgg129
 z168 := Tryd.sizeOf129
 v168 := Tryd.zeroValue129
 t171 := Tryd.underlying133
 a171 := Tryd.isAgg133
 z171 := Tryd.sizeOf133
 v171 := Tryd.zeroValue133
 t173 := Tryd.underlying136
 a173 := Tryd.isAgg136
 z173 := Tryd.sizeOf136
 v173 := Tryd.zeroValue136
 t175 := Tryd.underlying127
 a175 := Tryd.isAgg127
 z175 := Tryd.sizeOf127
 v175 := Tryd.zeroValue127
 t210 := Tryd.underlying144
 a210 := Tryd.isAgg144
 z210 := Tryd.sizeOf144
 v210 := Tryd.zeroValue144
 t212 := Tryd.underlying148
 a212 := Tryd.isAgg148
 z212 := Tryd.sizeOf148
 v212 := Tryd.zeroValue148
 t213 := Tryd.underlying149
 a213 := Tryd.isAgg149
 z213 := Tryd.sizeOf149
 t232 := Tryd.underlying161
 a232 := Tryd.isAgg161
 z232 := Tryd.sizeOf161
 v232 := Tryd.zeroValue161
 t233 := Tryd.underlying162
 a233 := Tryd.isAgg162
 z233 := Tryd.sizeOf162
 v233 := Tryd.zeroValue162
 g15 := by kernel_rfl
 g16 := by kernel_rfl
 g17 := by kernel_rfl
 g18 := by kernel_rfl
 g19 := by kernel_rfl
 t80 := Tryd.underlying94
 a80 := Tryd.isAgg94
 z80 := Tryd.sizeOf94
 v80 := Tryd.zeroValue94
 i0 := by kernel_rfl
 i2 := by kernel_rfl
 i3 := by kernel_rfl
 i4 := by kernel_rfl
 i5 := by kernel_rfl
 i9 := by kernel_rfl
 i20 := by kernel_rfl
 i21 := by kernel_rfl
 i37 := by kernel_rfl
 i46 := by kernel_rfl
 i51 := by kernel_rfl
 i53 := by kernel_rfl
 i75 := by kernel_rfl
 i80 := by kernel_rfl
 i85 := by kernel_rfl
 i127 := by kernel_rfl
 i143 := by kernel_rfl
 i145 := by kernel_rfl
 i167 := by kernel_rfl
 i168 := by kernel_rfl
 i171 := by kernel_rfl
 i173 := by kernel_rfl
 i175 := by kernel_rfl
 i210 := by kernel_rfl
 i212 := by kernel_rfl
 i232 := by kernel_rfl
 i233 := by kernel_rfl
 m15 := by kernel_rfl
 m16 := by kernel_rfl
 m17 := by kernel_rfl
 m18 := by kernel_rfl
 m19 := by kernel_rfl
 c0 := by kernel_rfl
 c2 := by kernel_rfl
 c3 := by kernel_rfl
 c4 := by kernel_rfl
 c5 := by kernel_rfl
 c9 := by kernel_rfl
 c20 := by kernel_rfl
 c21 := by kernel_rfl
 c37 := by kernel_rfl
 c46 := by kernel_rfl
 c51 := by kernel_rfl
 c53 := by kernel_rfl
 c75 := by kernel_rfl
 c80 := by kernel_rfl
 c85 := by kernel_rfl
 c127 := by kernel_rfl
 c143 := by kernel_rfl
 c145 := by kernel_rfl
 c167 := by kernel_rfl
 c168 := by kernel_rfl
 c171 := by kernel_rfl
 c173 := by kernel_rfl
 c175 := by kernel_rfl
 c210 := by kernel_rfl
 c212 := by kernel_rfl
 c213 := by kernel_rfl
 c232 := by kernel_rfl
 c233 := by kernel_rfl }
open Go.RowKit in
theorem Tryd.strconv_ParseInt_10_at64_ok (s : ByteArray) (hmax : s.size ≤ 9223372036854775806) (v : Int) (h : Lib.parseIntB 64 s.data.toList = .ok v) (w : World) :
  Calls Tryd.prog 49 #[.string s, .int .i64 10, .int .i64 64] w fun e w' => e = .returned (.tuple #[.int .i64 v, .nilIface]) ∧ (w' = w ∨ ∃ t, w' = Lib.bytesWorld w 5 t) := Any.strconv_ParseInt_10_at64_ok Tryd.laysC174 s hmax v h w
open Go.RowKit in
theorem Tryd.strconv_ParseInt_10_at64_syntax_var (s : ByteArray) (hlim : s.size ≤ 281474976710656) (h : Lib.parseIntB 64 s.data.toList = Lib.NumEnd.syntax) (tp : TypeId) (p : Value) (w : World) (hvar : w.var? Tryd.prog "strconv.ErrSyntax" = some #[.iface tp p]) :
  Calls Tryd.prog 49 #[.string s, .int .i64 10, .int .i64 64] w fun e w' => ∃ N, e = .returned (.tuple #[.int .i64 (0), .iface 129 (.pointer (some ⟨N, 0, none⟩))]) ∧ w.heap.size ≤ N ∧ w'.heap[N]? = some (.cells #[.string ⟨#[80, 97, 114, 115, 101, 73, 110, 116]⟩, .string s, .iface tp p] 144 (0, 0)) ∧ Below w.heap.size w w' := Any.strconv_ParseInt_10_at64_syntax_var Tryd.laysC174 s hlim h tp p w hvar
open Go.RowKit in
theorem Tryd.strconv_ParseInt_10_at64_range_var (s : ByteArray) (hlim : s.size ≤ 281474976710656) (h : Lib.parseIntB 64 s.data.toList = .range) (tp : TypeId) (p : Value) (w : World) (hvar : w.var? Tryd.prog "strconv.ErrRange" = some #[.iface tp p]) :
  Calls Tryd.prog 49 #[.string s, .int .i64 10, .int .i64 64] w fun e w' => ∃ N, e = .returned (.tuple #[.int .i64 (Lib.intSat 64 s.data.toList), .iface 129 (.pointer (some ⟨N, 0, none⟩))]) ∧ w.heap.size ≤ N ∧ w'.heap[N]? = some (.cells #[.string ⟨#[80, 97, 114, 115, 101, 73, 110, 116]⟩, .string s, .iface tp p] 144 (0, 0)) ∧ Below w.heap.size w w' := Any.strconv_ParseInt_10_at64_range_var Tryd.laysC174 s hlim h tp p w hvar
def Tryd.lays101_ren : Go.Shelf.Ren := ⟨fun | 101 => 48 | 208 => 80 | 206 => 93 | n => n, fun | 9 => 9 | 4 => 4 | 3 => 3 | n => n, fun | n => n⟩
theorem Tryd.lays101 : Go.Proofs.Lays.n101 Tryd.prog Tryd.lays101_ren := {
 mixed := by kernel_rfl
 f101 := Tryd.func48.trans (congrArg some (by kernel_rfl))
 f206 := Tryd.func93.trans (congrArg some (by kernel_rfl))
 f208 := Tryd.func80.trans (congrArg some (by kernel_rfl))
 t3 := Tryd.underlying3
 a3 := Tryd.isAgg3
 z3 := Tryd.sizeOf3
 v3 := Tryd.zeroValue3
 t4 := Tryd.underlying4
 a4 := Tryd.isAgg4
 z4 := Tryd.sizeOf4
 v4 := Tryd.zeroValue4
 t9 := Tryd.underlying9
 a9 := Tryd.isAgg9
 z9 := Tryd.sizeOf9
 v9 := Tryd.zeroValue9 }
open Go.RowKit Go.Lib in
theorem Tryd.strings_TrimPrefix (s p : ByteArray) (w : World) :
  Calls Tryd.prog 48 #[.string s, .string p] w fun e w' => e = .returned (.string ⟨(Lib.trimPrefix s.data.toList p.data.toList).toArray⟩) ∧ w' = w := Any.strings_TrimPrefix Tryd.lays101 s p w
def Tryd.lays146_ren : Go.Shelf.Ren := ⟨fun | 146 => 24 | 221 => 47 | 268 => 77 | 138 => 78 | 143 => 79 | 195 => 103 | 197 => 104 | 218 => 105 | 219 => 89 | 260 => 123 | 217 => 111 | 225 => 112 | 224 => 113 | 267 => 114 | 266 => 129 | 314 => 130 | n => n, fun | 9 => 9 | 31 => 32 | 3 => 3 | 4 => 4 | 0 => 0 | 105 => 123 | 21 => 21 | 5 => 5 | 46 => 82 | 119 => 153 | 139 => 156 | 138 => 155 | 146 => 111 | 51 => 110 | n => n, fun | 1 => 0 | 3 => 4 | 4 => 5 | n => n⟩
theorem Tryd.lays146 : Go.Proofs.Lays.n146 Tryd.prog Tryd.lays146_ren := {
 mixed := by kernel_rfl
 f138 := Tryd.func78.trans (congrArg some (by kernel_rfl))
 f143 := Tryd.func79.trans (congrArg some (by kernel_rfl))
 f146 := Tryd.func24.trans (congrArg some (by kernel_rfl))
 f195 := Tryd.func103.trans (congrArg some (by kernel_rfl))
 f197 := Tryd.func104.trans (congrArg some (by kernel_rfl))
 f217 := Tryd.func111.trans (congrArg some (by kernel_rfl))
 f218 := Tryd.func105.trans (congrArg some (by kernel_rfl))
 f219 := Tryd.func89.trans (congrArg some (by kernel_rfl))
 f221 := Tryd.func47.trans (congrArg some (by kernel_rfl))
 f224 := Tryd.func113.trans (congrArg some (by kernel_rfl))
 f225 := Tryd.func112.trans (congrArg some (by kernel_rfl))
 f260 := Tryd.func123.trans (congrArg some (by kernel_rfl))
 f266 := Tryd.func129.trans (congrArg some (by kernel_rfl))
 f267 := Tryd.func114.trans (congrArg some (by kernel_rfl))
 f268 := Tryd.func77.trans (congrArg some (by kernel_rfl))
 f314 := Tryd.func130.trans (congrArg some (by kernel_rfl))
 t0 := Tryd.underlying0
 a0 := Tryd.isAgg0
 z0 := Tryd.sizeOf0
 v0 := Tryd.zeroValue0
 t3 := Tryd.underlying3
 a3 := Tryd.isAgg3
 z3 := Tryd.sizeOf3
 v3 := Tryd.zeroValue3
 t4 := Tryd.underlying4
 a4 := Tryd.isAgg4
 z4 := Tryd.sizeOf4
 v4 := Tryd.zeroValue4
 t5 := Tryd.underlying5
 a5 := Tryd.isAgg5
 z5 := Tryd.sizeOf5
 v5 := Tryd.zeroValue5
 t9 := Tryd.underlying9
 a9 := Tryd.isAgg9
 z9 := Tryd.sizeOf9
 v9 := Tryd.zeroValue9
 t21 := Tryd.underlying21
 a21 := Tryd.isAgg21
 z21 := Tryd.sizeOf21
 v21 := Tryd.zeroValue21
 t31 := Tryd.underlying32
 a31 := Tryd.isAgg32
 z31 := Tryd.sizeOf32
 v31 := Tryd.zeroValue32
 t46 := Tryd.underlying82
 a46 := Tryd.isAgg82
 z46 := Tryd.sizeOf82
 v46 := Tryd.zeroValue82
 t51 := Tryd.underlying110
 a51 := Tryd.isAgg110
 z51 := Tryd.sizeOf110
 v51 := Tryd.zeroValue110
 t105 := Tryd.underlying123
 a105 := Tryd.isAgg123
 z105 := Tryd.sizeOf123
 v105 := Tryd.zeroValue123
 t119 := Tryd.underlying153
 a119 := Tryd.isAgg153
 z119 := Tryd.sizeOf153
 t138 := Tryd.underlying155
 a138 := Tryd.isAgg155
 z138 := Tryd.sizeOf155
 v138 := Tryd.zeroValue155
 t139 := Tryd.underlying156
 a139 := Tryd.isAgg156
 z139 := Tryd.sizeOf156
 v139 := Tryd.zeroValue156
 t146 := Tryd.underlying111
 a146 := Tryd.isAgg111
 z146 := Tryd.sizeOf111
 v146 := Tryd.zeroValue111
 g1 := by kernel_rfl
 g3 := by kernel_rfl
 g4 := by kernel_rfl }
open Go.RowKit Go.Lib in
theorem Tryd.strings_Split (s sep : ByteArray) (m : Int) (w : World) (hs : s.size < 4294967281) (hm : w.cell? ⟨0, 0, none⟩ = some (.int .i64 m)) (h1 : 1 ≤ sep.size) :
  Calls Tryd.prog 24 #[.string s, .string sep] w fun e w' =>
   e = .returned (.slice (some ⟨w.heap.size, 0, none⟩) (Lib.countB s sep + 1) (Lib.countB s sep + 1)) ∧ w' = w.alloc (.cells ((Lib.splitB sep 0 (Lib.countB s sep) s).map Value.string).toArray 9) := Any.strings_Split Tryd.lays146 (by kernel_rfl) s sep m w hs hm h1
end Go.Proofs
