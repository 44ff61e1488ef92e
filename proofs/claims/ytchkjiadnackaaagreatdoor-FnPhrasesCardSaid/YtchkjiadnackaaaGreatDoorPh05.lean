/- Ph05: the texts Itoab Itoa ShortI ShortText Joinb JoinInts List ListI NumF SplitP, joined into one file. -/
import Derived.Shelf.LaysM
import Derived.Shelf.LaysC
import Derived.Shelf.Strconv.Itoa3
import Derived.Shelf.Strconv.AtoiAll
import Derived.Shelf.Strings.Search3
import Derived.Shelf.Strings.Prefix
import Derived.Shelf.Strings.Split
import Derived.Shelf.Slices.Turned
import Derived.Test.YtchkjiadnackaaaGreatDoorProg
import Derived.WalkSmall
import Derived.Lib.AppendIntMem
import Derived.Shelf.Strings.OnBuilder
import Derived.Lib.ItoaNum
import Derived.Lib.ItoaLen
import Derived.Lib.AtoiTie
import Derived.Test.YtchkjiadnackaaaGreatDoorPh01
import Derived.Test.YtchkjiadnackaaaGreatDoorPh04

set_option linter.unusedVariables false

/- Contracts of the library at this dump, as the kit's own tool lays them (plain), the few that are wanted here. -/
namespace Go.Proofs
open Go.Shelf
def Tryz.laysM171_ren : Go.Shelf.Ren := ⟨fun | 171 => 39 | 243 => 62 | 246 => 74 | 283 => 84 | 284 => 85 | 285 => 86 | 286 => 87 | 129 => 99 | 317 => 98 | 318 => 100 | 319 => 101 | 320 => 102 | 337 => 108 | 338 => 109 | n => n, fun | 3 => 3 | 9 => 9 | 2 => 2 | 4 => 4 | 171 => 99 | 0 => 0 | 53 => 44 | 37 => 22 | 5 => 5 | 173 => 102 | 212 => 111 | 51 => 112 | 20 => 20 | 213 => 113 | 46 => 91 | 232 => 133 | 233 => 134 | n => n, fun | 17 => 1 | 18 => 6 | 19 => 7 | n => n⟩
theorem Tryz.laysM171 : Go.Proofs.LaysM.n171 Tryz.prog Tryz.laysM171_ren := {
  mixed := by kernel_rfl
  f129 := Tryz.func99.trans (congrArg some (by kernel_rfl))
  f171 := Tryz.func39.trans (congrArg some (by kernel_rfl))
  f243 := Tryz.func62.trans (congrArg some (by kernel_rfl))
  f246 := Tryz.func74.trans (congrArg some (by kernel_rfl))
  f283 := Tryz.func84.trans (congrArg some (by kernel_rfl))
  f284 := Tryz.func85.trans (congrArg some (by kernel_rfl))
  f285 := Tryz.func86.trans (congrArg some (by kernel_rfl))
  f286 := Tryz.func87.trans (congrArg some (by kernel_rfl))
  f317 := Tryz.func98.trans (congrArg some (by kernel_rfl))
  f318 := Tryz.func100.trans (congrArg some (by kernel_rfl))
  f319 := Tryz.func101.trans (congrArg some (by kernel_rfl))
  f320 := Tryz.func102.trans (congrArg some (by kernel_rfl))
  f337 := Tryz.func108.trans (congrArg some (by kernel_rfl))
  f338 := Tryz.func109.trans (congrArg some (by kernel_rfl))
  t0 := Tryz.underlying0
  a0 := Tryz.isAgg0
  z0 := Tryz.sizeOf0
  v0 := Tryz.zeroValue0
  t2 := Tryz.underlying2
  a2 := Tryz.isAgg2
  z2 := Tryz.sizeOf2
  v2 := Tryz.zeroValue2
  t3 := Tryz.underlying3
  a3 := Tryz.isAgg3
  z3 := Tryz.sizeOf3
  v3 := Tryz.zeroValue3
  t4 := Tryz.underlying4
  a4 := Tryz.isAgg4
  z4 := Tryz.sizeOf4
  v4 := Tryz.zeroValue4
  t5 := Tryz.underlying5
  a5 := Tryz.isAgg5
  z5 := Tryz.sizeOf5
  v5 := Tryz.zeroValue5
  t9 := Tryz.underlying9
  a9 := Tryz.isAgg9
  z9 := Tryz.sizeOf9
  v9 := Tryz.zeroValue9
  t20 := Tryz.underlying20
  a20 := Tryz.isAgg20
  z20 := Tryz.sizeOf20
  v20 := Tryz.zeroValue20
  t37 := Tryz.underlying22
  a37 := Tryz.isAgg22
  z37 := Tryz.sizeOf22
  v37 := Tryz.zeroValue22
  t46 := Tryz.underlying91
  a46 := Tryz.isAgg91
  z46 := Tryz.sizeOf91
  v46 := Tryz.zeroValue91
  t51 := Tryz.underlying112
  a51 := Tryz.isAgg112
  z51 := Tryz.sizeOf112
  v51 := Tryz.zeroValue112
  t53 := Tryz.underlying44
  a53 := Tryz.isAgg44
  z53 := Tryz.sizeOf44
  v53 := Tryz.zeroValue44
  t171 := Tryz.underlying99
  a171 := Tryz.isAgg99
  z171 := Tryz.sizeOf99
  v171 := Tryz.zeroValue99
  t173 := Tryz.underlying102
  a173 := Tryz.isAgg102
  z173 := Tryz.sizeOf102
  v173 := Tryz.zeroValue102
  t212 := Tryz.underlying111
  a212 := Tryz.isAgg111
  z212 := Tryz.sizeOf111
  v212 := Tryz.zeroValue111
  t213 := Tryz.underlying113
  a213 := Tryz.isAgg113
  z213 := Tryz.sizeOf113
  t232 := Tryz.underlying133
  a232 := Tryz.isAgg133
  z232 := Tryz.sizeOf133
  v232 := Tryz.zeroValue133
  t233 := Tryz.underlying134
  a233 := Tryz.isAgg134
  z233 := Tryz.sizeOf134
  v233 := Tryz.zeroValue134
  g17 := by kernel_rfl
  g18 := by kernel_rfl
  g19 := by kernel_rfl
  i0 := by kernel_rfl
  i2 := by kernel_rfl
  i3 := by kernel_rfl
  i4 := by kernel_rfl
  i5 := by kernel_rfl
  i9 := by kernel_rfl
  i20 := by kernel_rfl
  i37 := by kernel_rfl
  i46 := by kernel_rfl
  i51 := by kernel_rfl
  i53 := by kernel_rfl
  i171 := by kernel_rfl
  i173 := by kernel_rfl
  i212 := by kernel_rfl
  i232 := by kernel_rfl
  i233 := by kernel_rfl
  m17 := by kernel_rfl
  m18 := by kernel_rfl
  m19 := by kernel_rfl }
open Go.RowKit Go.Sort Go.Lib in
theorem Tryz.strconv_Itoa (n : Int) (h0 : -9223372036854775808 ≤ n) (h1 : n ≤ 9223372036854775807) (w : World) (htab : Lib.TabIs Tryz.prog w "internal/strconv.uint64pow10" .u64 Lib.pow10Tab) :
    Calls Tryz.prog 39 #[.int .i64 n] w fun e w' => e = .returned (.string ⟨(Lib.itoa n).toArray⟩) ∧ ∃ k os, w' = grow (w.drewN k) os := Any.strconv_Itoa Tryz.laysM171 n h0 h1 w htab
def Tryz.laysC172_ren : Go.Shelf.Ren := ⟨fun | 172 => 65 | 244 => 76 | 245 => 77 | 247 => 92 | 279 => 93 | 280 => 94 | 281 => 95 | 282 => 96 | 287 => 105 | 316 => 106 | 171 => 39 | 205 => 107 | 321 => 110 | 322 => 111 | 243 => 62 | 246 => 74 | 283 => 84 | 284 => 85 | 285 => 86 | 286 => 87 | 129 => 99 | 317 => 98 | 318 => 100 | 319 => 101 | 320 => 102 | 337 => 108 | 338 => 109 | n => n, fun | 9 => 9 | 3 => 3 | 75 => 77 | 76 => 78 | 4 => 4 | 5 => 5 | 167 => 104 | 37 => 22 | 0 => 0 | 85 => 105 | 2 => 2 | 168 => 107 | 53 => 44 | 175 => 117 | 46 => 91 | 210 => 121 | 127 => 85 | 145 => 132 | 143 => 130 | 21 => 21 | 171 => 99 | 173 => 102 | 212 => 111 | 51 => 112 | 20 => 20 | 213 => 113 | 232 => 133 | 233 => 134 | 80 => 80 | n => n, fun | 15 => 2 | 16 => 3 | 17 => 1 | 18 => 6 | 19 => 7 | n => n⟩
theorem Tryz.laysC172 : Go.Proofs.LaysC.n172 Tryz.prog Tryz.laysC172_ren := {
  mixed := by kernel_rfl
  f129 := Tryz.func99.trans (congrArg some (by kernel_rfl))
  f171 := Tryz.func39.trans (congrArg some (by kernel_rfl))
  f172 := Tryz.func65.trans (congrArg some (by kernel_rfl))
  f205 := Tryz.func107.trans (congrArg some (by kernel_rfl))
  f243 := Tryz.func62.trans (congrArg some (by kernel_rfl))
  f244 := Tryz.func76.trans (congrArg some (by kernel_rfl))
  f245 := Tryz.func77.trans (congrArg some (by kernel_rfl))
  f246 := Tryz.func74.trans (congrArg some (by kernel_rfl))
  f247 := Tryz.func92.trans (congrArg some (by kernel_rfl))
  f279 := Tryz.func93.trans (congrArg some (by kernel_rfl))
  f280 := Tryz.func94.trans (congrArg some (by kernel_rfl))
  f281 := Tryz.func95.trans (congrArg some (by kernel_rfl))
  f282 := Tryz.func96.trans (congrArg some (by kernel_rfl))
  f283 := Tryz.func84.trans (congrArg some (by kernel_rfl))
  f284 := Tryz.func85.trans (congrArg some (by kernel_rfl))
  f285 := Tryz.func86.trans (congrArg some (by kernel_rfl))
  f286 := Tryz.func87.trans (congrArg some (by kernel_rfl))
  f287 := Tryz.func105.trans (congrArg some (by kernel_rfl))
  f316 := Tryz.func106.trans (congrArg some (by kernel_rfl))
  f317 := Tryz.func98.trans (congrArg some (by kernel_rfl))
  f318 := Tryz.func100.trans (congrArg some (by kernel_rfl))
  f319 := Tryz.func101.trans (congrArg some (by kernel_rfl))
  f320 := Tryz.func102.trans (congrArg some (by kernel_rfl))
  f321 := Tryz.func110.trans (congrArg some (by kernel_rfl))
  f322 := Tryz.func111.trans (congrArg some (by kernel_rfl))
  f337 := Tryz.func108.trans (congrArg some (by kernel_rfl))
  f338 := Tryz.func109.trans (congrArg some (by kernel_rfl))
  t0 := Tryz.underlying0
  a0 := Tryz.isAgg0
  z0 := Tryz.sizeOf0
  v0 := Tryz.zeroValue0
  t2 := Tryz.underlying2
  a2 := Tryz.isAgg2
  z2 := Tryz.sizeOf2
  v2 := Tryz.zeroValue2
  t3 := Tryz.underlying3
  a3 := Tryz.isAgg3
  z3 := Tryz.sizeOf3
  v3 := Tryz.zeroValue3
  t4 := Tryz.underlying4
  a4 := Tryz.isAgg4
  z4 := Tryz.sizeOf4
  v4 := Tryz.zeroValue4
  t5 := Tryz.underlying5
  a5 := Tryz.isAgg5
  z5 := Tryz.sizeOf5
  v5 := Tryz.zeroValue5
  t9 := Tryz.underlying9
  a9 := Tryz.isAgg9
  z9 := Tryz.sizeOf9
  v9 := Tryz.zeroValue9
  t20 := Tryz.underlying20
  a20 := Tryz.isAgg20
  z20 := Tryz.sizeOf20
  v20 := Tryz.zeroValue20
  t21 := Tryz.underlying21
  a21 := Tryz.isAgg21
  z21 := Tryz.sizeOf21
  v21 := Tryz.zeroValue21
  t37 := Tryz.underlying22
  a37 := Tryz.isAgg22
  z37 := Tryz.sizeOf22
  v37 := Tryz.zeroValue22
  t46 := Tryz.underlying91
  a46 := Tryz.isAgg91
  z46 := Tryz.sizeOf91
  v46 := Tryz.zeroValue91
  t51 := Tryz.underlying112
  a51 := Tryz.isAgg112
  z51 := Tryz.sizeOf112
  v51 := Tryz.zeroValue112
  t53 := Tryz.underlying44
  a53 := Tryz.isAgg44
  z53 := Tryz.sizeOf44
  v53 := Tryz.zeroValue44
  t75 := Tryz.underlying77
  a75 := Tryz.isAgg77
  z75 := Tryz.sizeOf77
  v75 := Tryz.zeroValue77
  t76 := Tryz.underlying78
  a76 := Tryz.isAgg78
  z76 := Tryz.sizeOf78
  v76 := Tryz.zeroValue78
  t85 := Tryz.underlying105
  a85 := Tryz.isAgg105
  z85 := Tryz.sizeOf105
  v85 := Tryz.zeroValue105
  t127 := Tryz.underlying85
  a127 := Tryz.isAgg85
  z127 := Tryz.sizeOf85
  v127 := Tryz.zeroValue85
  t143 := Tryz.underlying130
  a143 := Tryz.isAgg130
  z143 := Tryz.sizeOf130
  v143 := Tryz.zeroValue130
  t145 := Tryz.underlying132
  a145 := Tryz.isAgg132
  z145 := Tryz.sizeOf132
  v145 := Tryz.zeroValue132
  t167 := Tryz.underlying104
  a167 := Tryz.isAgg104
  z167 := Tryz.sizeOf104
  v167 := Tryz.zeroValue104
  t168 := Tryz.underlying107
  a168 := Tryz.isAgg107
  z168 := Tryz.sizeOf107
  v168 := Tryz.zeroValue107
  t171 := Tryz.underlying99
  a171 := Tryz.isAgg99
  z171 := Tryz.sizeOf99
  v171 := Tryz.zeroValue99
  t173 := Tryz.underlying102
  a173 := Tryz.isAgg102
  z173 := Tryz.sizeOf102
  v173 := Tryz.zeroValue102
  t175 := Tryz.underlying117
  a175 := Tryz.isAgg117
  z175 := Tryz.sizeOf117
  v175 := Tryz.zeroValue117
  t210 := Tryz.underlying121
  a210 := Tryz.isAgg121
  z210 := Tryz.sizeOf121
  v210 := Tryz.zeroValue121
  t212 := Tryz.underlying111
  a212 := Tryz.isAgg111
  z212 := Tryz.sizeOf111
  v212 := Tryz.zeroValue111
  t213 := Tryz.underlying113
  a213 := Tryz.isAgg113
  z213 := Tryz.sizeOf113
  t232 := Tryz.underlying133
  a232 := Tryz.isAgg133
  z232 := Tryz.sizeOf133
  v232 := Tryz.zeroValue133
  t233 := Tryz.underlying134
  a233 := Tryz.isAgg134
  z233 := Tryz.sizeOf134
  v233 := Tryz.zeroValue134
  g15 := by kernel_rfl
  g16 := by kernel_rfl
  g17 := by kernel_rfl
  g18 := by kernel_rfl
  g19 := by kernel_rfl
  t80 := Tryz.underlying80
  a80 := Tryz.isAgg80
  z80 := Tryz.sizeOf80
  v80 := Tryz.zeroValue80
  i0 := by kernel_rfl
  i2 := by kernel_rfl
  i3 := by kernel_rfl
  i4 := by kernel_rfl
  i5 := by kernel_rfl
  i9 := by kernel_rfl
  i20 := by kernel_rfl
  i21 := by kernel_rfl
  i37 := by kernel_rfl
  i46 := by kernel_rfl
  i51 := by kernel_rfl
  i53 := by kernel_rfl
  i75 := by kernel_rfl
  i76 := by kernel_rfl
  i80 := by kernel_rfl
  i85 := by kernel_rfl
  i127 := by kernel_rfl
  i143 := by kernel_rfl
  i145 := by kernel_rfl
  i167 := by kernel_rfl
  i168 := by kernel_rfl
  i171 := by kernel_rfl
  i173 := by kernel_rfl
  i175 := by kernel_rfl
  i210 := by kernel_rfl
  i212 := by kernel_rfl
  i232 := by kernel_rfl
  i233 := by kernel_rfl
  m15 := by kernel_rfl
  m16 := by kernel_rfl
  m17 := by kernel_rfl
  m18 := by kernel_rfl
  m19 := by kernel_rfl
  c0 := by kernel_rfl
  c2 := by kernel_rfl
  c3 := by kernel_rfl
  c4 := by kernel_rfl
  c5 := by kernel_rfl
  c9 := by kernel_rfl
  c20 := by kernel_rfl
  c21 := by kernel_rfl
  c37 := by kernel_rfl
  c46 := by kernel_rfl
  c51 := by kernel_rfl
  c53 := by kernel_rfl
  c75 := by kernel_rfl
  c76 := by kernel_rfl
  c80 := by kernel_rfl
  c85 := by kernel_rfl
  c127 := by kernel_rfl
  c143 := by kernel_rfl
  c145 := by kernel_rfl
  c167 := by kernel_rfl
  c168 := by kernel_rfl
  c171 := by kernel_rfl
  c173 := by kernel_rfl
  c175 := by kernel_rfl
  c210 := by kernel_rfl
  c212 := by kernel_rfl
  c213 := by kernel_rfl
  c232 := by kernel_rfl
  c233 := by kernel_rfl }
open Go.RowKit in
theorem Tryz.strconv_Atoi_ok (s : ByteArray) (hmax : s.size ≤ 9223372036854775806) (v : Int) (h : Lib.atoiAll s.data.toList = .ok v) (w : World) :
    Calls Tryz.prog 65 #[.string s] w fun e w' => e = .returned (.tuple #[.int .i64 v, .nilIface]) ∧ (w' = w ∨ ∃ t, w' = Lib.bytesWorld w 5 t) := Any.strconv_Atoi_ok Tryz.laysC172 s hmax v h w
open Go.RowKit in
theorem Tryz.strconv_Atoi_syntax (s : ByteArray) (hlim : s.size ≤ 281474976710656) (h : Lib.atoiAll s.data.toList = Lib.atoiAll []) (ev : Value) (w : World) (hv : w.cell? ⟨2, 0, none⟩ = some ev) (hev : ev = .nilIface ∨ ∃ te pe, ev = .iface te pe) :
    Calls Tryz.prog 65 #[.string s] w fun e w' => ∃ N, e = .returned (.tuple #[.int .i64 (0), .iface 107 (.pointer (some ⟨N, 0, none⟩))]) ∧ w.heap.size ≤ N ∧ w'.heap[N]? = some (.cells #[.string ⟨#[65, 116, 111, 105]⟩, .string s, ev] 121 (0, 0)) ∧ Below w.heap.size w w' := Any.strconv_Atoi_syntax Tryz.laysC172 s hlim (h.trans rfl) ev w hv hev
open Go.RowKit in
theorem Tryz.strconv_Atoi_range (s : ByteArray) (hlim : s.size ≤ 281474976710656) (h : Lib.atoiAll s.data.toList = .range) (ev : Value) (w : World) (hv : w.cell? ⟨3, 0, none⟩ = some ev) (hev : ev = .nilIface ∨ ∃ te pe, ev = .iface te pe) :
    Calls Tryz.prog 65 #[.string s] w fun e w' => ∃ N, e = .returned (.tuple #[.int .i64 (Lib.atoiSat s.data.toList), .iface 107 (.pointer (some ⟨N, 0, none⟩))]) ∧ w.heap.size ≤ N ∧ w'.heap[N]? = some (.cells #[.string ⟨#[65, 116, 111, 105]⟩, .string s, ev] 121 (0, 0)) ∧ Below w.heap.size w w' := Any.strconv_Atoi_range Tryz.laysC172 s hlim h ev w hv hev
def Tryz.lays219_ren : Go.Shelf.Ren := ⟨fun | 219 => 75 | 217 => 88 | 225 => 89 | 224 => 90 | 267 => 91 | 266 => 103 | 314 => 104 | n => n, fun | 9 => 9 | 3 => 3 | 4 => 4 | 5 => 5 | 46 => 91 | 146 => 115 | 51 => 112 | n => n, fun | 1 => 0 | n => n⟩
theorem Tryz.lays219 : Go.Proofs.Lays.n219 Tryz.prog Tryz.lays219_ren := {
  mixed := by kernel_rfl
  f217 := Tryz.func88.trans (congrArg some (by kernel_rfl))
  f219 := Tryz.func75.trans (congrArg some (by kernel_rfl))
  f224 := Tryz.func90.trans (congrArg some (by kernel_rfl))
  f225 := Tryz.func89.trans (congrArg some (by kernel_rfl))
  f266 := Tryz.func103.trans (congrArg some (by kernel_rfl))
  f267 := Tryz.func91.trans (congrArg some (by kernel_rfl))
  f314 := Tryz.func104.trans (congrArg some (by kernel_rfl))
  t3 := Tryz.underlying3
  a3 := Tryz.isAgg3
  z3 := Tryz.sizeOf3
  v3 := Tryz.zeroValue3
  t4 := Tryz.underlying4
  a4 := Tryz.isAgg4
  z4 := Tryz.sizeOf4
  v4 := Tryz.zeroValue4
  t5 := Tryz.underlying5
  a5 := Tryz.isAgg5
  z5 := Tryz.sizeOf5
  v5 := Tryz.zeroValue5
  t9 := Tryz.underlying9
  a9 := Tryz.isAgg9
  z9 := Tryz.sizeOf9
  v9 := Tryz.zeroValue9
  t46 := Tryz.underlying91
  a46 := Tryz.isAgg91
  z46 := Tryz.sizeOf91
  v46 := Tryz.zeroValue91
  t51 := Tryz.underlying112
  a51 := Tryz.isAgg112
  z51 := Tryz.sizeOf112
  v51 := Tryz.zeroValue112
  t146 := Tryz.underlying115
  a146 := Tryz.isAgg115
  z146 := Tryz.sizeOf115
  v146 := Tryz.zeroValue115
  g1 := by kernel_rfl }
open Go.RowKit Go.Lib in
theorem Tryz.stringslite_Index_one (s : ByteArray) (c : UInt8) (w : World) :
    Calls Tryz.prog 75 #[.string s, .string ⟨#[c]⟩] w fun e w' => e = .returned (.int .i64 (Lib.indexByte s.data.toList c)) ∧ w' = w := Any.stringslite_Index_one Tryz.lays219 s c w
def Tryz.lays102_ren : Go.Shelf.Ren := ⟨fun | 102 => 50 | 209 => 66 | 207 => 78 | n => n, fun | 9 => 9 | 4 => 4 | 3 => 3 | n => n, fun | n => n⟩
theorem Tryz.lays102 : Go.Proofs.Lays.n102 Tryz.prog Tryz.lays102_ren := {
  mixed := by kernel_rfl
  f102 := Tryz.func50.trans (congrArg some (by kernel_rfl))
  f207 := Tryz.func78.trans (congrArg some (by kernel_rfl))
  f209 := Tryz.func66.trans (congrArg some (by kernel_rfl))
  t3 := Tryz.underlying3
  a3 := Tryz.isAgg3
  z3 := Tryz.sizeOf3
  v3 := Tryz.zeroValue3
  t4 := Tryz.underlying4
  a4 := Tryz.isAgg4
  z4 := Tryz.sizeOf4
  v4 := Tryz.zeroValue4
  t9 := Tryz.underlying9
  a9 := Tryz.isAgg9
  z9 := Tryz.sizeOf9
  v9 := Tryz.zeroValue9 }
open Go.RowKit Go.Lib in
theorem Tryz.strings_TrimSuffix (s p : ByteArray) (w : World) (hs : s.size ≤ 9223372036854775807) :
    Calls Tryz.prog 50 #[.string s, .string p] w fun e w' => e = .returned (.string ⟨(Lib.trimSuffix s.data.toList p.data.toList).toArray⟩) ∧ w' = w := Any.strings_TrimSuffix Tryz.lays102 s p w hs
def Tryz.lays146_ren : Go.Shelf.Ren := ⟨fun | 146 => 37 | 221 => 61 | 268 => 71 | 138 => 72 | 143 => 73 | 195 => 81 | 197 => 82 | 218 => 83 | 219 => 75 | 260 => 97 | 217 => 88 | 225 => 89 | 224 => 90 | 267 => 91 | 266 => 103 | 314 => 104 | n => n, fun | 9 => 9 | 31 => 52 | 3 => 3 | 4 => 4 | 0 => 0 | 105 => 96 | 21 => 21 | 5 => 5 | 46 => 91 | 119 => 123 | 139 => 126 | 138 => 125 | 146 => 115 | 51 => 112 | n => n, fun | 1 => 0 | 3 => 4 | 4 => 5 | n => n⟩
theorem Tryz.lays146 : Go.Proofs.Lays.n146 Tryz.prog Tryz.lays146_ren := {
  mixed := by kernel_rfl
  f138 := Tryz.func72.trans (congrArg some (by kernel_rfl))
  f143 := Tryz.func73.trans (congrArg some (by kernel_rfl))
  f146 := Tryz.func37.trans (congrArg some (by kernel_rfl))
  f195 := Tryz.func81.trans (congrArg some (by kernel_rfl))
  f197 := Tryz.func82.trans (congrArg some (by kernel_rfl))
  f217 := Tryz.func88.trans (congrArg some (by kernel_rfl))
  f218 := Tryz.func83.trans (congrArg some (by kernel_rfl))
  f219 := Tryz.func75.trans (congrArg some (by kernel_rfl))
  f221 := Tryz.func61.trans (congrArg some (by kernel_rfl))
  f224 := Tryz.func90.trans (congrArg some (by kernel_rfl))
  f225 := Tryz.func89.trans (congrArg some (by kernel_rfl))
  f260 := Tryz.func97.trans (congrArg some (by kernel_rfl))
  f266 := Tryz.func103.trans (congrArg some (by kernel_rfl))
  f267 := Tryz.func91.trans (congrArg some (by kernel_rfl))
  f268 := Tryz.func71.trans (congrArg some (by kernel_rfl))
  f314 := Tryz.func104.trans (congrArg some (by kernel_rfl))
  t0 := Tryz.underlying0
  a0 := Tryz.isAgg0
  z0 := Tryz.sizeOf0
  v0 := Tryz.zeroValue0
  t3 := Tryz.underlying3
  a3 := Tryz.isAgg3
  z3 := Tryz.sizeOf3
  v3 := Tryz.zeroValue3
  t4 := Tryz.underlying4
  a4 := Tryz.isAgg4
  z4 := Tryz.sizeOf4
  v4 := Tryz.zeroValue4
  t5 := Tryz.underlying5
  a5 := Tryz.isAgg5
  z5 := Tryz.sizeOf5
  v5 := Tryz.zeroValue5
  t9 := Tryz.underlying9
  a9 := Tryz.isAgg9
  z9 := Tryz.sizeOf9
  v9 := Tryz.zeroValue9
  t21 := Tryz.underlying21
  a21 := Tryz.isAgg21
  z21 := Tryz.sizeOf21
  v21 := Tryz.zeroValue21
  t31 := Tryz.underlying52
  a31 := Tryz.isAgg52
  z31 := Tryz.sizeOf52
  v31 := Tryz.zeroValue52
  t46 := Tryz.underlying91
  a46 := Tryz.isAgg91
  z46 := Tryz.sizeOf91
  v46 := Tryz.zeroValue91
  t51 := Tryz.underlying112
  a51 := Tryz.isAgg112
  z51 := Tryz.sizeOf112
  v51 := Tryz.zeroValue112
  t105 := Tryz.underlying96
  a105 := Tryz.isAgg96
  z105 := Tryz.sizeOf96
  v105 := Tryz.zeroValue96
  t119 := Tryz.underlying123
  a119 := Tryz.isAgg123
  z119 := Tryz.sizeOf123
  t138 := Tryz.underlying125
  a138 := Tryz.isAgg125
  z138 := Tryz.sizeOf125
  v138 := Tryz.zeroValue125
  t139 := Tryz.underlying126
  a139 := Tryz.isAgg126
  z139 := Tryz.sizeOf126
  v139 := Tryz.zeroValue126
  t146 := Tryz.underlying115
  a146 := Tryz.isAgg115
  z146 := Tryz.sizeOf115
  v146 := Tryz.zeroValue115
  g1 := by kernel_rfl
  g3 := by kernel_rfl
  g4 := by kernel_rfl }
open Go.RowKit Go.Lib in
theorem Tryz.strings_Split (s sep : ByteArray) (m : Int) (w : World) (hs : s.size < 4294967281) (hm : w.cell? ⟨0, 0, none⟩ = some (.int .i64 m)) (h1 : 1 ≤ sep.size) :
    Calls Tryz.prog 37 #[.string s, .string sep] w fun e w' =>
      e = .returned (.slice (some ⟨w.heap.size, 0, none⟩) (Lib.countB s sep + 1) (Lib.countB s sep + 1)) ∧ w' = w.alloc (.cells ((Lib.splitB sep 0 (Lib.countB s sep) s).map Value.string).toArray 9) := Any.strings_Split Tryz.lays146 (by kernel_rfl) s sep m w hs hm h1
def Tryz.lays109_ren : Go.Shelf.Ren := ⟨fun | 109 => 51 | n => n, fun | 31 => 52 | 9 => 9 | 3 => 3 | 0 => 0 | 4 => 4 | n => n, fun | n => n⟩
theorem Tryz.lays109 : Go.Proofs.Lays.n109 Tryz.prog Tryz.lays109_ren := {
  mixed := by kernel_rfl
  f109 := Tryz.func51.trans (congrArg some (by kernel_rfl))
  t0 := Tryz.underlying0
  a0 := Tryz.isAgg0
  z0 := Tryz.sizeOf0
  v0 := Tryz.zeroValue0
  t3 := Tryz.underlying3
  a3 := Tryz.isAgg3
  z3 := Tryz.sizeOf3
  v3 := Tryz.zeroValue3
  t4 := Tryz.underlying4
  a4 := Tryz.isAgg4
  z4 := Tryz.sizeOf4
  v4 := Tryz.zeroValue4
  t9 := Tryz.underlying9
  a9 := Tryz.isAgg9
  z9 := Tryz.sizeOf9
  v9 := Tryz.zeroValue9
  t31 := Tryz.underlying52
  a31 := Tryz.isAgg52
  z31 := Tryz.sizeOf52
  v31 := Tryz.zeroValue52 }
open Go.Lib in
theorem Tryz.slices_Index_string (b off n c : Nat) (zs : List ByteArray) (x : ByteArray) (w : World) (hz : n ≤ zs.length) (hbig : n ≤ 9223372036854775807) (hc : ∀ j, j < zs.length → w.cell? ⟨b, off + j, none⟩ = some (.string (zs.getD j ByteArray.empty))) :
    Calls Tryz.prog 51 #[.slice (some ⟨b, off, none⟩) n c, .string x] w fun e w' => e = .returned (.int .i64 (Lib.idxOfS (zs.take n) x)) ∧ w' = w := Any.slices_Index_string Tryz.lays109 b off n c zs x w hz hbig hc
end Go.Proofs

/- The text of a number, in the program (strconv.Itoa), and what its table asks of the world. -/
namespace Go.Proofs.YtchkjiadnackaaaGreatDoor
open Go.RowKit

theorem below_grow (w : World) (k : Nat) (os : Array Obj) : Below w.heap.size w (Sort.grow (w.drewN k) os) := by
  have h1 : Below w.heap.size w (w.drewN k) := below_drewN (Below.refl _ _) k
  refine h1.trans ⟨rfl, rfl, rfl, by simp [Sort.grow], fun i hi => ?_⟩
  have hs : (w.drewN k).heap = w.heap := by simp
  simp only [Sort.grow]
  rw [Array.getElem?_append_left (by rw [hs]; exact hi)]
/-- The table of the powers of ten lies, now and in every world since. -/
abbrev Tab (w : World) : Prop := Lib.TabBelow Tryz.prog w.heap.size w "internal/strconv.uint64pow10" .u64 Lib.pow10Tab
theorem Tab.is {w : World} (h : Tab w) : Lib.TabIs Tryz.prog w "internal/strconv.uint64pow10" .u64 Lib.pow10Tab := h w (Below.refl _ _)
theorem Tab.then {w w' : World} (h : Tab w) (hb : Below w.heap.size w w') : Tab w' := fun w'' h'' => h w'' (hb.trans (h''.mono hb.size))
theorem Tab.at {w : World} (h : Tab w) (q : Since w.heap.size w) : Tab q.val := h.then q.below

theorem itoa_any (n : Int) (w : World) (h0 : -9223372036854775808 ≤ n) (h1 : n ≤ 9223372036854775807) (ht : Tab w) :
    Calls Tryz.prog 39 #[.int .i64 n] w fun e w' => e = .returned (.string ⟨(Lib.itoa n).toArray⟩) ∧ Below w.heap.size w w' :=
  (Tryz.strconv_Itoa n h0 h1 w ht.is).mono fun e w' ⟨he, k, os, hw⟩ => ⟨he, by rw [hw]; exact below_grow w k os⟩
end Go.Proofs.YtchkjiadnackaaaGreatDoor

/- The short text of a phrase, in the program. -/
namespace Go.Proofs.YtchkjiadnackaaaGreatDoor
open Go.RowKit

set_option maxRecDepth 100000 in
theorem und53 : Tryz.prog.underlying 57 = some (.array 3 9) := by rfl
set_option maxRecDepth 100000 in
theorem siz9 : (Tryz.prog.info? 9).map (·.size) = some 1 := by rfl
theorem idx3_0 (a b c : ByteArray) (w : World) : (Instr.index 57 (.agg #[.string a, .string b, .string c]) (.int .i64 0)).run Tryz.prog w = .ok (.string a) w := by
  obtain ⟨i, hi, hs⟩ := Option.map_eq_some_iff.1 siz9
  simp [Instr.index, asIntOf, run_underlying und53, part, sizeOf, typeInfo, hi, hs]
theorem idx3_1 (a b c : ByteArray) (w : World) : (Instr.index 57 (.agg #[.string a, .string b, .string c]) (.int .i64 1)).run Tryz.prog w = .ok (.string b) w := by
  obtain ⟨i, hi, hs⟩ := Option.map_eq_some_iff.1 siz9
  simp [Instr.index, asIntOf, run_underlying und53, part, sizeOf, typeInfo, hi, hs]
theorem idx3_2 (a b c : ByteArray) (w : World) : (Instr.index 57 (.agg #[.string a, .string b, .string c]) (.int .i64 2)).run Tryz.prog w = .ok (.string c) w := by
  obtain ⟨i, hi, hs⟩ := Option.map_eq_some_iff.1 siz9
  simp [Instr.index, asIntOf, run_underlying und53, part, sizeOf, typeInfo, hi, hs]

set_option maxRecDepth 100000 in
set_option maxHeartbeats 2000000 in
theorem shortText_any (x : Ph) (w : World) (h : IntsR w w.heap.size x.A x.f) (hok : x.ok = true) (ht : Tab w) :
    Calls Tryz.prog 24 #[x.val] w fun e w' => e = .returned (.string ⟨(shortT x).toArray⟩) ∧ Below w.heap.size w w' := by
  obtain ⟨⟨s1, s2⟩, ⟨c1, c2⟩, hr, p1, p2⟩ := Ph.bounds hok
  have hnine := faults_nine hr
  have HRI : Hid (∀ i (hi : i < x.f.length), 1 ≤ x.f[i] ∧ x.f[i] ≤ 9) := fun i hi => by
    rw [rises_eq, Bool.and_eq_true, List.all_eq_true] at hr
    exact inR_iff.1 (hr.2 _ (List.getElem_mem hi))
  clear hr hok
  have hb1 := ((Below.refl w.heap.size w).alloc (Nat.le_refl _) (.cells #[.int .i64 x.s, .int .i64 x.c, .slice x.A x.f.length x.cap, .int .i64 x.p] 26))
  have hS := PhS.of (x := x) (Lies.new w 26 #[.int .i64 x.s, .int .i64 x.c, .slice x.A x.f.length x.cap, .int .i64 x.p])
  have hR := SlcR.up h hb1 (Nat.le_refl _)
  have k2 := hS.c2
  have k3 := hS.c3
  clear hS
  have hs : x.s = 1 ∨ x.s = 2 ∨ x.s = 3 := by omega
  by_cases hc1 : 1 < x.c
  · have HC : Hid (copT x.c = 40 :: Lib.itoa x.c ++ [41]) := by unfold copT Hid; rw [if_pos hc1]
    obtain ⟨cv, hcv⟩ : ∃ s : ByteArray, s = ⟨(Lib.itoa x.c).toArray⟩ := ⟨_, rfl⟩
    have hcs : cv.size ≤ 100 := by rw [hcv]; exact itoa_len (by omega) (by omega)
    have NUMC : ∀ W : World, Tab W → Calls Tryz.prog 39 #[.int .i64 x.c] W fun e w' => e = .returned (.string cv) ∧ Below W.heap.size W w' := by
      intro W hW; rw [hcv]; exact itoa_any _ _ (by omega) (by omega) hW
    replace NUMC := Lib.hid NUMC
    have HCV : Hid (bl cv = Lib.itoa x.c) := by rw [hcv, Hid, bl_mk]
    clear hcv
    rcases hs with hs | hs | hs
    · have HM : Hid (markT x.s = [42, 42]) := by rw [hs]; rfl
      rw [hs] at hb1 hR k2 k3
      clear s1 s2
      go_enter Tryz.func24, Tryz.ntmps24
      go_wp2_with fail
      rw [idx3_0]
      go_wp2_with (go_at_call 39; refine (NUMC.out _ (ht.then hb1)).mono ?_; rintro e w1 ⟨rfl, hb2⟩; have k2q : w1.cell? ⟨w.heap.size, 2, none⟩ = some (.slice x.A x.f.length x.cap) := k2 ⟨_, hb2⟩)
      generalize (w.alloc (.cells #[.int .i64 1, .int .i64 x.c, .slice x.A x.f.length x.cap, .int .i64 x.p] 26)) = W at k2 k3 hb1 hR hb2 ⊢
      go_loopw [3, 24] (fun s i wr => ∃ (k : Nat) (T : ByteArray), k ≤ x.f.length ∧ i = .int .i64 k ∧ s = .string T ∧ T.size ≤ 300 + 101 * k ∧ (∃ q : Since W.heap.size W, wr = q.val) ∧ Hid (bl T ++ fauT (x.f.drop k) = markT x.s ++ copT x.c ++ fauT x.f)) (fun _ i _ => x.f.length - (intOf i).toNat)
      case atStart => exact ⟨0, _, Nat.zero_le _, rfl, rfl, by simp only [size_app]; (have e1 : (⟨#[40]⟩ : ByteArray).size = 1 := rfl); (have e2 : (⟨#[41]⟩ : ByteArray).size = 1 := rfl); (have e3 : (⟨#[42, 42]⟩ : ByteArray).size ≤ 2 := by decide); omega, ⟨⟨_, hb2⟩, rfl⟩, by rw [Hid, HM.out, HC.out, List.drop_zero]; simp [bl_app, bl_lit, HCV.out]⟩
      case round =>
        obtain ⟨k, T, hk, rfl, rfl, hT, ⟨q, rfl⟩, HR⟩ := hrel
        have HQ := (ht.then hb1).at q
        by_cases hlt : k < x.f.length
        · obtain ⟨b, off, hA, hb, hcell⟩ := IntsR.ints hR (by omega)
          have c0 := hcell k hlt
          obtain ⟨f1, f2⟩ := HRI.out k hlt
          have HS := Lib.hid (fau_step hlt (bl T))
          obtain ⟨f, hfe⟩ : ∃ f, f = x.f[k] := ⟨_, rfl⟩
          rw [← hfe] at c0 f1 f2 HS
          simp only [hA] at k2 ⊢
          clear hfe hcell hA
          obtain ⟨fv, hfv⟩ : ∃ s : ByteArray, s = ⟨(Lib.itoa f).toArray⟩ := ⟨_, rfl⟩
          have hfs : fv.size ≤ 100 := by rw [hfv]; exact itoa_len (by omega) (by omega)
          have NUMF : ∀ W : World, Tab W → Calls Tryz.prog 39 #[.int .i64 f] W fun e w' => e = .returned (.string fv) ∧ Below W.heap.size W w' := by
            intro W hW; rw [hfv]; exact itoa_any _ _ (by omega) (by omega) hW
          replace NUMF := Lib.hid NUMF
          have HFV : Hid (bl fv = Lib.itoa f) := by rw [hfv, Hid, bl_mk]
          clear hfv
          go_wp2_with (go_at_call 39; refine (NUMF.out _ HQ).mono ?_; rintro e w4 ⟨rfl, hb4⟩)
          go_roundw
          case rel => exact ⟨k + 1, _, by omega, by go_num, rfl, by simp only [size_app]; (have e1 : (⟨#[33]⟩ : ByteArray).size = 1 := rfl); omega, ⟨q.go (Nat.le_refl _) hb4, rfl⟩, by have h1 := HR.out; rw [HS.out] at h1; rw [Hid, ← h1]; simp [bl_app, bl_lit, HFV.out]⟩
          case measure => simp [intOf]; omega
        · have HE : Hid (bl T = markT x.s ++ copT x.c ++ fauT x.f) := by
            have h1 := HR.out; rw [List.drop_eq_nil_of_le (by omega), fauT, List.append_nil] at h1; exact h1
          by_cases hp : 0 < x.p
          · have HP : Hid (priT x.p = 61 :: Lib.itoa x.p) := by unfold priT Hid; rw [if_pos hp]
            obtain ⟨pv, hpv⟩ : ∃ s : ByteArray, s = ⟨(Lib.itoa x.p).toArray⟩ := ⟨_, rfl⟩
            have hps : pv.size ≤ 100 := by rw [hpv]; exact itoa_len (by omega) (by omega)
            have NUMP : ∀ W : World, Tab W → Calls Tryz.prog 39 #[.int .i64 x.p] W fun e w' => e = .returned (.string pv) ∧ Below W.heap.size W w' := by
              intro W hW; rw [hpv]; exact itoa_any _ _ (by omega) (by omega) hW
            replace NUMP := Lib.hid NUMP
            have HPV : Hid (bl pv = Lib.itoa x.p) := by rw [hpv, Hid, bl_mk]
            clear hpv
            go_wp2_with (go_at_call 39; refine (NUMP.out _ HQ).mono ?_; rintro e w3 ⟨rfl, hb3⟩)
            go_ret
            exact ⟨congrArg (fun s => Ending.returned (Value.string s)) (bl_ext (by unfold shortT; simp [bl_app, bl_lit, HE.out, HP.out, HPV.out])), hb1.trans ((q.below.trans (hb3.mono q.size)).mono hb1.size)⟩
          · have HP : Hid (priT x.p = []) := by unfold priT Hid; rw [if_neg hp]
            go_wp2
            go_ret
            exact ⟨congrArg (fun s => Ending.returned (Value.string s)) (bl_ext (by unfold shortT; simp [HE.out, HP.out])), hb1.trans (q.below.mono hb1.size)⟩
    · have HM : Hid (markT x.s = [42]) := by rw [hs]; rfl
      rw [hs] at hb1 hR k2 k3
      clear s1 s2
      go_enter Tryz.func24, Tryz.ntmps24
      go_wp2_with fail
      rw [idx3_1]
      go_wp2_with (go_at_call 39; refine (NUMC.out _ (ht.then hb1)).mono ?_; rintro e w1 ⟨rfl, hb2⟩; have k2q : w1.cell? ⟨w.heap.size, 2, none⟩ = some (.slice x.A x.f.length x.cap) := k2 ⟨_, hb2⟩)
      generalize (w.alloc (.cells #[.int .i64 2, .int .i64 x.c, .slice x.A x.f.length x.cap, .int .i64 x.p] 26)) = W at k2 k3 hb1 hR hb2 ⊢
      go_loopw [3, 24] (fun s i wr => ∃ (k : Nat) (T : ByteArray), k ≤ x.f.length ∧ i = .int .i64 k ∧ s = .string T ∧ T.size ≤ 300 + 101 * k ∧ (∃ q : Since W.heap.size W, wr = q.val) ∧ Hid (bl T ++ fauT (x.f.drop k) = markT x.s ++ copT x.c ++ fauT x.f)) (fun _ i _ => x.f.length - (intOf i).toNat)
      case atStart => exact ⟨0, _, Nat.zero_le _, rfl, rfl, by simp only [size_app]; (have e1 : (⟨#[40]⟩ : ByteArray).size = 1 := rfl); (have e2 : (⟨#[41]⟩ : ByteArray).size = 1 := rfl); (have e3 : (⟨#[42]⟩ : ByteArray).size ≤ 2 := by decide); omega, ⟨⟨_, hb2⟩, rfl⟩, by rw [Hid, HM.out, HC.out, List.drop_zero]; simp [bl_app, bl_lit, HCV.out]⟩
      case round =>
        obtain ⟨k, T, hk, rfl, rfl, hT, ⟨q, rfl⟩, HR⟩ := hrel
        have HQ := (ht.then hb1).at q
        by_cases hlt : k < x.f.length
        · obtain ⟨b, off, hA, hb, hcell⟩ := IntsR.ints hR (by omega)
          have c0 := hcell k hlt
          obtain ⟨f1, f2⟩ := HRI.out k hlt
          have HS := Lib.hid (fau_step hlt (bl T))
          obtain ⟨f, hfe⟩ : ∃ f, f = x.f[k] := ⟨_, rfl⟩
          rw [← hfe] at c0 f1 f2 HS
          simp only [hA] at k2 ⊢
          clear hfe hcell hA
          obtain ⟨fv, hfv⟩ : ∃ s : ByteArray, s = ⟨(Lib.itoa f).toArray⟩ := ⟨_, rfl⟩
          have hfs : fv.size ≤ 100 := by rw [hfv]; exact itoa_len (by omega) (by omega)
          have NUMF : ∀ W : World, Tab W → Calls Tryz.prog 39 #[.int .i64 f] W fun e w' => e = .returned (.string fv) ∧ Below W.heap.size W w' := by
            intro W hW; rw [hfv]; exact itoa_any _ _ (by omega) (by omega) hW
          replace NUMF := Lib.hid NUMF
          have HFV : Hid (bl fv = Lib.itoa f) := by rw [hfv, Hid, bl_mk]
          clear hfv
          go_wp2_with (go_at_call 39; refine (NUMF.out _ HQ).mono ?_; rintro e w4 ⟨rfl, hb4⟩)
          go_roundw
          case rel => exact ⟨k + 1, _, by omega, by go_num, rfl, by simp only [size_app]; (have e1 : (⟨#[33]⟩ : ByteArray).size = 1 := rfl); omega, ⟨q.go (Nat.le_refl _) hb4, rfl⟩, by have h1 := HR.out; rw [HS.out] at h1; rw [Hid, ← h1]; simp [bl_app, bl_lit, HFV.out]⟩
          case measure => simp [intOf]; omega
        · have HE : Hid (bl T = markT x.s ++ copT x.c ++ fauT x.f) := by
            have h1 := HR.out; rw [List.drop_eq_nil_of_le (by omega), fauT, List.append_nil] at h1; exact h1
          by_cases hp : 0 < x.p
          · have HP : Hid (priT x.p = 61 :: Lib.itoa x.p) := by unfold priT Hid; rw [if_pos hp]
            obtain ⟨pv, hpv⟩ : ∃ s : ByteArray, s = ⟨(Lib.itoa x.p).toArray⟩ := ⟨_, rfl⟩
            have hps : pv.size ≤ 100 := by rw [hpv]; exact itoa_len (by omega) (by omega)
            have NUMP : ∀ W : World, Tab W → Calls Tryz.prog 39 #[.int .i64 x.p] W fun e w' => e = .returned (.string pv) ∧ Below W.heap.size W w' := by
              intro W hW; rw [hpv]; exact itoa_any _ _ (by omega) (by omega) hW
            replace NUMP := Lib.hid NUMP
            have HPV : Hid (bl pv = Lib.itoa x.p) := by rw [hpv, Hid, bl_mk]
            clear hpv
            go_wp2_with (go_at_call 39; refine (NUMP.out _ HQ).mono ?_; rintro e w3 ⟨rfl, hb3⟩)
            go_ret
            exact ⟨congrArg (fun s => Ending.returned (Value.string s)) (bl_ext (by unfold shortT; simp [bl_app, bl_lit, HE.out, HP.out, HPV.out])), hb1.trans ((q.below.trans (hb3.mono q.size)).mono hb1.size)⟩
          · have HP : Hid (priT x.p = []) := by unfold priT Hid; rw [if_neg hp]
            go_wp2
            go_ret
            exact ⟨congrArg (fun s => Ending.returned (Value.string s)) (bl_ext (by unfold shortT; simp [HE.out, HP.out])), hb1.trans (q.below.mono hb1.size)⟩
    · have HM : Hid (markT x.s = [111]) := by rw [hs]; rfl
      rw [hs] at hb1 hR k2 k3
      clear s1 s2
      go_enter Tryz.func24, Tryz.ntmps24
      go_wp2_with fail
      rw [idx3_2]
      go_wp2_with (go_at_call 39; refine (NUMC.out _ (ht.then hb1)).mono ?_; rintro e w1 ⟨rfl, hb2⟩; have k2q : w1.cell? ⟨w.heap.size, 2, none⟩ = some (.slice x.A x.f.length x.cap) := k2 ⟨_, hb2⟩)
      generalize (w.alloc (.cells #[.int .i64 3, .int .i64 x.c, .slice x.A x.f.length x.cap, .int .i64 x.p] 26)) = W at k2 k3 hb1 hR hb2 ⊢
      go_loopw [3, 24] (fun s i wr => ∃ (k : Nat) (T : ByteArray), k ≤ x.f.length ∧ i = .int .i64 k ∧ s = .string T ∧ T.size ≤ 300 + 101 * k ∧ (∃ q : Since W.heap.size W, wr = q.val) ∧ Hid (bl T ++ fauT (x.f.drop k) = markT x.s ++ copT x.c ++ fauT x.f)) (fun _ i _ => x.f.length - (intOf i).toNat)
      case atStart => exact ⟨0, _, Nat.zero_le _, rfl, rfl, by simp only [size_app]; (have e1 : (⟨#[40]⟩ : ByteArray).size = 1 := rfl); (have e2 : (⟨#[41]⟩ : ByteArray).size = 1 := rfl); (have e3 : (⟨#[111]⟩ : ByteArray).size ≤ 2 := by decide); omega, ⟨⟨_, hb2⟩, rfl⟩, by rw [Hid, HM.out, HC.out, List.drop_zero]; simp [bl_app, bl_lit, HCV.out]⟩
      case round =>
        obtain ⟨k, T, hk, rfl, rfl, hT, ⟨q, rfl⟩, HR⟩ := hrel
        have HQ := (ht.then hb1).at q
        by_cases hlt : k < x.f.length
        · obtain ⟨b, off, hA, hb, hcell⟩ := IntsR.ints hR (by omega)
          have c0 := hcell k hlt
          obtain ⟨f1, f2⟩ := HRI.out k hlt
          have HS := Lib.hid (fau_step hlt (bl T))
          obtain ⟨f, hfe⟩ : ∃ f, f = x.f[k] := ⟨_, rfl⟩
          rw [← hfe] at c0 f1 f2 HS
          simp only [hA] at k2 ⊢
          clear hfe hcell hA
          obtain ⟨fv, hfv⟩ : ∃ s : ByteArray, s = ⟨(Lib.itoa f).toArray⟩ := ⟨_, rfl⟩
          have hfs : fv.size ≤ 100 := by rw [hfv]; exact itoa_len (by omega) (by omega)
          have NUMF : ∀ W : World, Tab W → Calls Tryz.prog 39 #[.int .i64 f] W fun e w' => e = .returned (.string fv) ∧ Below W.heap.size W w' := by
            intro W hW; rw [hfv]; exact itoa_any _ _ (by omega) (by omega) hW
          replace NUMF := Lib.hid NUMF
          have HFV : Hid (bl fv = Lib.itoa f) := by rw [hfv, Hid, bl_mk]
          clear hfv
          go_wp2_with (go_at_call 39; refine (NUMF.out _ HQ).mono ?_; rintro e w4 ⟨rfl, hb4⟩)
          go_roundw
          case rel => exact ⟨k + 1, _, by omega, by go_num, rfl, by simp only [size_app]; (have e1 : (⟨#[33]⟩ : ByteArray).size = 1 := rfl); omega, ⟨q.go (Nat.le_refl _) hb4, rfl⟩, by have h1 := HR.out; rw [HS.out] at h1; rw [Hid, ← h1]; simp [bl_app, bl_lit, HFV.out]⟩
          case measure => simp [intOf]; omega
        · have HE : Hid (bl T = markT x.s ++ copT x.c ++ fauT x.f) := by
            have h1 := HR.out; rw [List.drop_eq_nil_of_le (by omega), fauT, List.append_nil] at h1; exact h1
          by_cases hp : 0 < x.p
          · have HP : Hid (priT x.p = 61 :: Lib.itoa x.p) := by unfold priT Hid; rw [if_pos hp]
            obtain ⟨pv, hpv⟩ : ∃ s : ByteArray, s = ⟨(Lib.itoa x.p).toArray⟩ := ⟨_, rfl⟩
            have hps : pv.size ≤ 100 := by rw [hpv]; exact itoa_len (by omega) (by omega)
            have NUMP : ∀ W : World, Tab W → Calls Tryz.prog 39 #[.int .i64 x.p] W fun e w' => e = .returned (.string pv) ∧ Below W.heap.size W w' := by
              intro W hW; rw [hpv]; exact itoa_any _ _ (by omega) (by omega) hW
            replace NUMP := Lib.hid NUMP
            have HPV : Hid (bl pv = Lib.itoa x.p) := by rw [hpv, Hid, bl_mk]
            clear hpv
            go_wp2_with (go_at_call 39; refine (NUMP.out _ HQ).mono ?_; rintro e w3 ⟨rfl, hb3⟩)
            go_ret
            exact ⟨congrArg (fun s => Ending.returned (Value.string s)) (bl_ext (by unfold shortT; simp [bl_app, bl_lit, HE.out, HP.out, HPV.out])), hb1.trans ((q.below.trans (hb3.mono q.size)).mono hb1.size)⟩
          · have HP : Hid (priT x.p = []) := by unfold priT Hid; rw [if_neg hp]
            go_wp2
            go_ret
            exact ⟨congrArg (fun s => Ending.returned (Value.string s)) (bl_ext (by unfold shortT; simp [HE.out, HP.out])), hb1.trans (q.below.mono hb1.size)⟩
  · have HC : Hid (copT x.c = []) := by unfold copT Hid; rw [if_neg hc1]
    rcases hs with hs | hs | hs
    · have HM : Hid (markT x.s = [42, 42]) := by rw [hs]; rfl
      rw [hs] at hb1 hR k2 k3
      clear s1 s2
      go_enter Tryz.func24, Tryz.ntmps24
      go_wp2_with fail
      rw [idx3_0]
      go_wp2_with fail
      generalize (w.alloc (.cells #[.int .i64 1, .int .i64 x.c, .slice x.A x.f.length x.cap, .int .i64 x.p] 26)) = W at k2 k3 hb1 hR ⊢
      go_loopw [3, 24] (fun s i wr => ∃ (k : Nat) (T : ByteArray), k ≤ x.f.length ∧ i = .int .i64 k ∧ s = .string T ∧ T.size ≤ 300 + 101 * k ∧ (∃ q : Since W.heap.size W, wr = q.val) ∧ Hid (bl T ++ fauT (x.f.drop k) = markT x.s ++ copT x.c ++ fauT x.f)) (fun _ i _ => x.f.length - (intOf i).toNat)
      case atStart => exact ⟨0, _, Nat.zero_le _, rfl, rfl, by (have e3 : (⟨#[42, 42]⟩ : ByteArray).size ≤ 2 := by decide); omega, ⟨Since.start _ _, rfl⟩, by rw [Hid, HM.out, HC.out, List.drop_zero]; simp [bl_lit]⟩
      case round =>
        obtain ⟨k, T, hk, rfl, rfl, hT, ⟨q, rfl⟩, HR⟩ := hrel
        have HQ := (ht.then hb1).at q
        by_cases hlt : k < x.f.length
        · obtain ⟨b, off, hA, hb, hcell⟩ := IntsR.ints hR (by omega)
          have c0 := hcell k hlt
          obtain ⟨f1, f2⟩ := HRI.out k hlt
          have HS := Lib.hid (fau_step hlt (bl T))
          obtain ⟨f, hfe⟩ : ∃ f, f = x.f[k] := ⟨_, rfl⟩
          rw [← hfe] at c0 f1 f2 HS
          simp only [hA] at k2 ⊢
          clear hfe hcell hA
          obtain ⟨fv, hfv⟩ : ∃ s : ByteArray, s = ⟨(Lib.itoa f).toArray⟩ := ⟨_, rfl⟩
          have hfs : fv.size ≤ 100 := by rw [hfv]; exact itoa_len (by omega) (by omega)
          have NUMF : ∀ W : World, Tab W → Calls Tryz.prog 39 #[.int .i64 f] W fun e w' => e = .returned (.string fv) ∧ Below W.heap.size W w' := by
            intro W hW; rw [hfv]; exact itoa_any _ _ (by omega) (by omega) hW
          replace NUMF := Lib.hid NUMF
          have HFV : Hid (bl fv = Lib.itoa f) := by rw [hfv, Hid, bl_mk]
          clear hfv
          go_wp2_with (go_at_call 39; refine (NUMF.out _ HQ).mono ?_; rintro e w4 ⟨rfl, hb4⟩)
          go_roundw
          case rel => exact ⟨k + 1, _, by omega, by go_num, rfl, by simp only [size_app]; (have e1 : (⟨#[33]⟩ : ByteArray).size = 1 := rfl); omega, ⟨q.go (Nat.le_refl _) hb4, rfl⟩, by have h1 := HR.out; rw [HS.out] at h1; rw [Hid, ← h1]; simp [bl_app, bl_lit, HFV.out]⟩
          case measure => simp [intOf]; omega
        · have HE : Hid (bl T = markT x.s ++ copT x.c ++ fauT x.f) := by
            have h1 := HR.out; rw [List.drop_eq_nil_of_le (by omega), fauT, List.append_nil] at h1; exact h1
          by_cases hp : 0 < x.p
          · have HP : Hid (priT x.p = 61 :: Lib.itoa x.p) := by unfold priT Hid; rw [if_pos hp]
            obtain ⟨pv, hpv⟩ : ∃ s : ByteArray, s = ⟨(Lib.itoa x.p).toArray⟩ := ⟨_, rfl⟩
            have hps : pv.size ≤ 100 := by rw [hpv]; exact itoa_len (by omega) (by omega)
            have NUMP : ∀ W : World, Tab W → Calls Tryz.prog 39 #[.int .i64 x.p] W fun e w' => e = .returned (.string pv) ∧ Below W.heap.size W w' := by
              intro W hW; rw [hpv]; exact itoa_any _ _ (by omega) (by omega) hW
            replace NUMP := Lib.hid NUMP
            have HPV : Hid (bl pv = Lib.itoa x.p) := by rw [hpv, Hid, bl_mk]
            clear hpv
            go_wp2_with (go_at_call 39; refine (NUMP.out _ HQ).mono ?_; rintro e w3 ⟨rfl, hb3⟩)
            go_ret
            exact ⟨congrArg (fun s => Ending.returned (Value.string s)) (bl_ext (by unfold shortT; simp [bl_app, bl_lit, HE.out, HP.out, HPV.out])), hb1.trans ((q.below.trans (hb3.mono q.size)).mono hb1.size)⟩
          · have HP : Hid (priT x.p = []) := by unfold priT Hid; rw [if_neg hp]
            go_wp2
            go_ret
            exact ⟨congrArg (fun s => Ending.returned (Value.string s)) (bl_ext (by unfold shortT; simp [HE.out, HP.out])), hb1.trans (q.below.mono hb1.size)⟩
    · have HM : Hid (markT x.s = [42]) := by rw [hs]; rfl
      rw [hs] at hb1 hR k2 k3
      clear s1 s2
      go_enter Tryz.func24, Tryz.ntmps24
      go_wp2_with fail
      rw [idx3_1]
      go_wp2_with fail
      generalize (w.alloc (.cells #[.int .i64 2, .int .i64 x.c, .slice x.A x.f.length x.cap, .int .i64 x.p] 26)) = W at k2 k3 hb1 hR ⊢
      go_loopw [3, 24] (fun s i wr => ∃ (k : Nat) (T : ByteArray), k ≤ x.f.length ∧ i = .int .i64 k ∧ s = .string T ∧ T.size ≤ 300 + 101 * k ∧ (∃ q : Since W.heap.size W, wr = q.val) ∧ Hid (bl T ++ fauT (x.f.drop k) = markT x.s ++ copT x.c ++ fauT x.f)) (fun _ i _ => x.f.length - (intOf i).toNat)
      case atStart => exact ⟨0, _, Nat.zero_le _, rfl, rfl, by (have e3 : (⟨#[42]⟩ : ByteArray).size ≤ 2 := by decide); omega, ⟨Since.start _ _, rfl⟩, by rw [Hid, HM.out, HC.out, List.drop_zero]; simp [bl_lit]⟩
      case round =>
        obtain ⟨k, T, hk, rfl, rfl, hT, ⟨q, rfl⟩, HR⟩ := hrel
        have HQ := (ht.then hb1).at q
        by_cases hlt : k < x.f.length
        · obtain ⟨b, off, hA, hb, hcell⟩ := IntsR.ints hR (by omega)
          have c0 := hcell k hlt
          obtain ⟨f1, f2⟩ := HRI.out k hlt
          have HS := Lib.hid (fau_step hlt (bl T))
          obtain ⟨f, hfe⟩ : ∃ f, f = x.f[k] := ⟨_, rfl⟩
          rw [← hfe] at c0 f1 f2 HS
          simp only [hA] at k2 ⊢
          clear hfe hcell hA
          obtain ⟨fv, hfv⟩ : ∃ s : ByteArray, s = ⟨(Lib.itoa f).toArray⟩ := ⟨_, rfl⟩
          have hfs : fv.size ≤ 100 := by rw [hfv]; exact itoa_len (by omega) (by omega)
          have NUMF : ∀ W : World, Tab W → Calls Tryz.prog 39 #[.int .i64 f] W fun e w' => e = .returned (.string fv) ∧ Below W.heap.size W w' := by
            intro W hW; rw [hfv]; exact itoa_any _ _ (by omega) (by omega) hW
          replace NUMF := Lib.hid NUMF
          have HFV : Hid (bl fv = Lib.itoa f) := by rw [hfv, Hid, bl_mk]
          clear hfv
          go_wp2_with (go_at_call 39; refine (NUMF.out _ HQ).mono ?_; rintro e w4 ⟨rfl, hb4⟩)
          go_roundw
          case rel => exact ⟨k + 1, _, by omega, by go_num, rfl, by simp only [size_app]; (have e1 : (⟨#[33]⟩ : ByteArray).size = 1 := rfl); omega, ⟨q.go (Nat.le_refl _) hb4, rfl⟩, by have h1 := HR.out; rw [HS.out] at h1; rw [Hid, ← h1]; simp [bl_app, bl_lit, HFV.out]⟩
          case measure => simp [intOf]; omega
        · have HE : Hid (bl T = markT x.s ++ copT x.c ++ fauT x.f) := by
            have h1 := HR.out; rw [List.drop_eq_nil_of_le (by omega), fauT, List.append_nil] at h1; exact h1
          by_cases hp : 0 < x.p
          · have HP : Hid (priT x.p = 61 :: Lib.itoa x.p) := by unfold priT Hid; rw [if_pos hp]
            obtain ⟨pv, hpv⟩ : ∃ s : ByteArray, s = ⟨(Lib.itoa x.p).toArray⟩ := ⟨_, rfl⟩
            have hps : pv.size ≤ 100 := by rw [hpv]; exact itoa_len (by omega) (by omega)
            have NUMP : ∀ W : World, Tab W → Calls Tryz.prog 39 #[.int .i64 x.p] W fun e w' => e = .returned (.string pv) ∧ Below W.heap.size W w' := by
              intro W hW; rw [hpv]; exact itoa_any _ _ (by omega) (by omega) hW
            replace NUMP := Lib.hid NUMP
            have HPV : Hid (bl pv = Lib.itoa x.p) := by rw [hpv, Hid, bl_mk]
            clear hpv
            go_wp2_with (go_at_call 39; refine (NUMP.out _ HQ).mono ?_; rintro e w3 ⟨rfl, hb3⟩)
            go_ret
            exact ⟨congrArg (fun s => Ending.returned (Value.string s)) (bl_ext (by unfold shortT; simp [bl_app, bl_lit, HE.out, HP.out, HPV.out])), hb1.trans ((q.below.trans (hb3.mono q.size)).mono hb1.size)⟩
          · have HP : Hid (priT x.p = []) := by unfold priT Hid; rw [if_neg hp]
            go_wp2
            go_ret
            exact ⟨congrArg (fun s => Ending.returned (Value.string s)) (bl_ext (by unfold shortT; simp [HE.out, HP.out])), hb1.trans (q.below.mono hb1.size)⟩
    · have HM : Hid (markT x.s = [111]) := by rw [hs]; rfl
      rw [hs] at hb1 hR k2 k3
      clear s1 s2
      go_enter Tryz.func24, Tryz.ntmps24
      go_wp2_with fail
      rw [idx3_2]
      go_wp2_with fail
      generalize (w.alloc (.cells #[.int .i64 3, .int .i64 x.c, .slice x.A x.f.length x.cap, .int .i64 x.p] 26)) = W at k2 k3 hb1 hR ⊢
      go_loopw [3, 24] (fun s i wr => ∃ (k : Nat) (T : ByteArray), k ≤ x.f.length ∧ i = .int .i64 k ∧ s = .string T ∧ T.size ≤ 300 + 101 * k ∧ (∃ q : Since W.heap.size W, wr = q.val) ∧ Hid (bl T ++ fauT (x.f.drop k) = markT x.s ++ copT x.c ++ fauT x.f)) (fun _ i _ => x.f.length - (intOf i).toNat)
      case atStart => exact ⟨0, _, Nat.zero_le _, rfl, rfl, by (have e3 : (⟨#[111]⟩ : ByteArray).size ≤ 2 := by decide); omega, ⟨Since.start _ _, rfl⟩, by rw [Hid, HM.out, HC.out, List.drop_zero]; simp [bl_lit]⟩
      case round =>
        obtain ⟨k, T, hk, rfl, rfl, hT, ⟨q, rfl⟩, HR⟩ := hrel
        have HQ := (ht.then hb1).at q
        by_cases hlt : k < x.f.length
        · obtain ⟨b, off, hA, hb, hcell⟩ := IntsR.ints hR (by omega)
          have c0 := hcell k hlt
          obtain ⟨f1, f2⟩ := HRI.out k hlt
          have HS := Lib.hid (fau_step hlt (bl T))
          obtain ⟨f, hfe⟩ : ∃ f, f = x.f[k] := ⟨_, rfl⟩
          rw [← hfe] at c0 f1 f2 HS
          simp only [hA] at k2 ⊢
          clear hfe hcell hA
          obtain ⟨fv, hfv⟩ : ∃ s : ByteArray, s = ⟨(Lib.itoa f).toArray⟩ := ⟨_, rfl⟩
          have hfs : fv.size ≤ 100 := by rw [hfv]; exact itoa_len (by omega) (by omega)
          have NUMF : ∀ W : World, Tab W → Calls Tryz.prog 39 #[.int .i64 f] W fun e w' => e = .returned (.string fv) ∧ Below W.heap.size W w' := by
            intro W hW; rw [hfv]; exact itoa_any _ _ (by omega) (by omega) hW
          replace NUMF := Lib.hid NUMF
          have HFV : Hid (bl fv = Lib.itoa f) := by rw [hfv, Hid, bl_mk]
          clear hfv
          go_wp2_with (go_at_call 39; refine (NUMF.out _ HQ).mono ?_; rintro e w4 ⟨rfl, hb4⟩)
          go_roundw
          case rel => exact ⟨k + 1, _, by omega, by go_num, rfl, by simp only [size_app]; (have e1 : (⟨#[33]⟩ : ByteArray).size = 1 := rfl); omega, ⟨q.go (Nat.le_refl _) hb4, rfl⟩, by have h1 := HR.out; rw [HS.out] at h1; rw [Hid, ← h1]; simp [bl_app, bl_lit, HFV.out]⟩
          case measure => simp [intOf]; omega
        · have HE : Hid (bl T = markT x.s ++ copT x.c ++ fauT x.f) := by
            have h1 := HR.out; rw [List.drop_eq_nil_of_le (by omega), fauT, List.append_nil] at h1; exact h1
          by_cases hp : 0 < x.p
          · have HP : Hid (priT x.p = 61 :: Lib.itoa x.p) := by unfold priT Hid; rw [if_pos hp]
            obtain ⟨pv, hpv⟩ : ∃ s : ByteArray, s = ⟨(Lib.itoa x.p).toArray⟩ := ⟨_, rfl⟩
            have hps : pv.size ≤ 100 := by rw [hpv]; exact itoa_len (by omega) (by omega)
            have NUMP : ∀ W : World, Tab W → Calls Tryz.prog 39 #[.int .i64 x.p] W fun e w' => e = .returned (.string pv) ∧ Below W.heap.size W w' := by
              intro W hW; rw [hpv]; exact itoa_any _ _ (by omega) (by omega) hW
            replace NUMP := Lib.hid NUMP
            have HPV : Hid (bl pv = Lib.itoa x.p) := by rw [hpv, Hid, bl_mk]
            clear hpv
            go_wp2_with (go_at_call 39; refine (NUMP.out _ HQ).mono ?_; rintro e w3 ⟨rfl, hb3⟩)
            go_ret
            exact ⟨congrArg (fun s => Ending.returned (Value.string s)) (bl_ext (by unfold shortT; simp [bl_app, bl_lit, HE.out, HP.out, HPV.out])), hb1.trans ((q.below.trans (hb3.mono q.size)).mono hb1.size)⟩
          · have HP : Hid (priT x.p = []) := by unfold priT Hid; rw [if_neg hp]
            go_wp2
            go_ret
            exact ⟨congrArg (fun s => Ending.returned (Value.string s)) (bl_ext (by unfold shortT; simp [HE.out, HP.out])), hb1.trans (q.below.mono hb1.size)⟩
end Go.Proofs.YtchkjiadnackaaaGreatDoor

/- ShortText, in the reference and in the program. -/
namespace Go.Proofs.YtchkjiadnackaaaGreatDoor
open Go.RowKit

def okT (g : Bool) (t : List UInt8) : ByteArray := if g then ⟨t.toArray⟩ else ⟨#[]⟩

set_option maxHeartbeats 1000000 in
theorem specShortText_any (x : Ph) (w : World) (h : IntsR w w.heap.size x.A x.f) :
    Calls Tryz.prog 7 #[x.val] w fun e w' => e = .returned (.tuple #[.string (okT x.ok (shortT x)), .bool x.ok]) ∧ Below w.heap.size w w' := by
  have b1 := (Below.refl w.heap.size w).alloc (Nat.le_refl _) (.cells #[.int .i64 x.s, .int .i64 x.c, .slice x.A x.f.length x.cap, .int .i64 x.p] 26)
  have L0 := Lies.new w 26 #[.int .i64 x.s, .int .i64 x.c, .slice x.A x.f.length x.cap, .int .i64 x.p]
  have hR := SlcR.up h b1 (Nat.le_refl _)
  cases hok : x.ok
  all_goals
    have HOK := Lib.hid hok; clear hok
    go_enter Tryz.func7, Tryz.ntmps7
    go_wp2_with fail
    generalize w.alloc (.cells #[.int .i64 x.s, .int .i64 x.c, .slice x.A x.f.length x.cap, .int .i64 x.p] 26) = W at b1 L0 hR ⊢
    refine (l30One_any x _ hR).mono ?_
    rw [HOK.out]
    rintro e w1 ⟨rfl, hb1⟩
    have k0 := (L0.below hb1 L0.lt).cell 0
    have k1 := (L0.below hb1 L0.lt).cell 1
    have k2 := (L0.below hb1 L0.lt).cell 2
    have k3 := (L0.below hb1 L0.lt).cell 3
    simp only [List.getElem?_cons_zero, List.getElem?_cons_succ] at k0 k1 k2 k3
  · go_wp2
    go_ret2
    exact ⟨rfl, bthen b1 hb1⟩
  · go_wp2_with (go_at_call 26; refine (l30Short_any x _ (SlcR.then hR hb1) HOK.out).mono ?_; rintro e w2 ⟨rfl, hb2⟩)
    go_ret2
    exact ⟨rfl, bthen b1 (bthen hb1 hb2)⟩
set_option maxHeartbeats 1000000 in
theorem implShortText_any (x : Ph) (w : World) (h : IntsR w w.heap.size x.A x.f) (ht : Tab w) :
    Calls Tryz.prog 6 #[x.val] w fun e w' => e = .returned (.tuple #[.string (okT x.ok (shortT x)), .bool x.ok]) ∧ Below w.heap.size w w' := by
  have b1 := (Below.refl w.heap.size w).alloc (Nat.le_refl _) (.cells #[.int .i64 x.s, .int .i64 x.c, .slice x.A x.f.length x.cap, .int .i64 x.p] 26)
  have L0 := Lies.new w 26 #[.int .i64 x.s, .int .i64 x.c, .slice x.A x.f.length x.cap, .int .i64 x.p]
  have hR := SlcR.up h b1 (Nat.le_refl _)
  have ht1 := ht.then b1
  cases hok : x.ok
  all_goals
    have HOK := Lib.hid hok; clear hok
    go_enter Tryz.func6, Tryz.ntmps6
    go_wp2_with fail
    generalize w.alloc (.cells #[.int .i64 x.s, .int .i64 x.c, .slice x.A x.f.length x.cap, .int .i64 x.p] 26) = W at b1 L0 hR ht1 ⊢
    refine (isPhrase_any x _ hR).mono ?_
    rw [HOK.out]
    rintro e w1 ⟨rfl, hb1⟩
    have k0 := (L0.below hb1 L0.lt).cell 0
    have k1 := (L0.below hb1 L0.lt).cell 1
    have k2 := (L0.below hb1 L0.lt).cell 2
    have k3 := (L0.below hb1 L0.lt).cell 3
    simp only [List.getElem?_cons_zero, List.getElem?_cons_succ] at k0 k1 k2 k3
  · go_wp2
    go_ret2
    exact ⟨rfl, bthen b1 hb1⟩
  · go_wp2_with (go_at_call 24; refine (shortText_any x _ (SlcR.then hR hb1) HOK.out (ht1.then hb1)).mono ?_; rintro e w2 ⟨rfl, hb2⟩)
    go_ret2
    exact ⟨rfl, bthen b1 (bthen hb1 hb2)⟩
end Go.Proofs.YtchkjiadnackaaaGreatDoor

/- Contracts of the library at this dump, as the kit's own tool lays them (plain), the few that are wanted here. -/
namespace Go.Proofs
open Go.Shelf
def Tryz.lays156_ren : Go.Shelf.Ren := ⟨fun | 156 => 35 | 165 => 58 | 166 => 59 | 169 => 60 | 240 => 69 | 241 => 70 | 276 => 79 | 277 => 80 | n => n, fun | 31 => 52 | 9 => 9 | 3 => 3 | 4 => 4 | 0 => 0 | 20 => 20 | 72 => 74 | 76 => 78 | 70 => 72 | 37 => 22 | 75 => 77 | 127 => 85 | 164 => 92 | 5 => 5 | 80 => 80 | n => n, fun | n => n⟩
theorem Tryz.lays156 : Go.Proofs.Lays.n156 Tryz.prog Tryz.lays156_ren := {
  mixed := by kernel_rfl
  f156 := Tryz.func35.trans (congrArg some (by kernel_rfl))
  f165 := Tryz.func58.trans (congrArg some (by kernel_rfl))
  f166 := Tryz.func59.trans (congrArg some (by kernel_rfl))
  f169 := Tryz.func60.trans (congrArg some (by kernel_rfl))
  f240 := Tryz.func69.trans (congrArg some (by kernel_rfl))
  f241 := Tryz.func70.trans (congrArg some (by kernel_rfl))
  f276 := Tryz.func79.trans (congrArg some (by kernel_rfl))
  f277 := Tryz.func80.trans (congrArg some (by kernel_rfl))
  t0 := Tryz.underlying0
  a0 := Tryz.isAgg0
  z0 := Tryz.sizeOf0
  v0 := Tryz.zeroValue0
  t3 := Tryz.underlying3
  a3 := Tryz.isAgg3
  z3 := Tryz.sizeOf3
  v3 := Tryz.zeroValue3
  t4 := Tryz.underlying4
  a4 := Tryz.isAgg4
  z4 := Tryz.sizeOf4
  v4 := Tryz.zeroValue4
  t9 := Tryz.underlying9
  a9 := Tryz.isAgg9
  z9 := Tryz.sizeOf9
  v9 := Tryz.zeroValue9
  t20 := Tryz.underlying20
  a20 := Tryz.isAgg20
  z20 := Tryz.sizeOf20
  v20 := Tryz.zeroValue20
  t31 := Tryz.underlying52
  a31 := Tryz.isAgg52
  z31 := Tryz.sizeOf52
  v31 := Tryz.zeroValue52
  t37 := Tryz.underlying22
  a37 := Tryz.isAgg22
  z37 := Tryz.sizeOf22
  v37 := Tryz.zeroValue22
  t70 := Tryz.underlying72
  a70 := Tryz.isAgg72
  z70 := Tryz.sizeOf72
  v70 := Tryz.zeroValue72
  t72 := Tryz.underlying74
  a72 := Tryz.isAgg74
  z72 := Tryz.sizeOf74
  v72 := Tryz.zeroValue74
  t75 := Tryz.underlying77
  a75 := Tryz.isAgg77
  z75 := Tryz.sizeOf77
  v75 := Tryz.zeroValue77
  t76 := Tryz.underlying78
  a76 := Tryz.isAgg78
  z76 := Tryz.sizeOf78
  v76 := Tryz.zeroValue78
  t127 := Tryz.underlying85
  a127 := Tryz.isAgg85
  z127 := Tryz.sizeOf85
  v127 := Tryz.zeroValue85
  t164 := Tryz.underlying92
  a164 := Tryz.isAgg92
  z164 := Tryz.sizeOf92
  v164 := Tryz.zeroValue92 }
theorem Tryz.Builder_Extra_156 : Builder.Extra Tryz.prog Tryz.lays156_ren := {
  sizeBuilder := by kernel_rfl
  liesBuilder := by kernel_rfl
  t5 := Tryz.underlying5
  a5 := Tryz.isAgg5
  z5 := Tryz.sizeOf5
  v5 := Tryz.zeroValue5
  infoByte := by kernel_rfl
  cellsByte := by kernel_rfl
  sizeByte := by kernel_rfl
  neB5 := by decide }
open Go.RowKit in
theorem Tryz.strings_Join_none (a : Option Addr) (c : Nat) (sep : ByteArray) (w : World) :
    Calls Tryz.prog 35 #[.slice a 0 c, .string sep] w fun e w' => e = .returned (.string ⟨#[]⟩) ∧ w' = w := Any.strings_Join_none Tryz.lays156 Tryz.Builder_Extra_156 a c sep w
open Go.RowKit in
theorem Tryz.strings_Join (bk o c : Nat) (xs : List ByteArray) (sep : ByteArray) (w : World) (hcells : ∀ (j : Nat) x, xs[j]? = some x → w.cell? ⟨bk, o + j, none⟩ = some (.string x)) (hbk : bk < w.heap.size) (hN : xs.length ≤ 140737488355328) (hcap : xs.length ≤ c) (hlen : (Lib.join (xs.map (·.data.toList)) sep.data.toList).length ≤ 140737488355328) :
    Calls Tryz.prog 35 #[.slice (some ⟨bk, o, none⟩) xs.length c, .string sep] w fun e w' => e = .returned (.string ⟨(Lib.join (xs.map (·.data.toList)) sep.data.toList).toArray⟩) ∧ Below w.heap.size w w' := Any.strings_Join Tryz.lays156 Tryz.Builder_Extra_156 bk o c xs sep w hcells hbk hN hcap hlen
end Go.Proofs

/- The numbers of a list as words, joined (the program's joinInts). -/
namespace Go.Proofs.YtchkjiadnackaaaGreatDoor
open Go.RowKit

def strs (l : List (List UInt8)) : List Value := l.map fun b => .string ⟨b.toArray⟩
theorem strs_push (l : List (List UInt8)) (b : List UInt8) : strs (l ++ [b]) = strs l ++ [.string ⟨b.toArray⟩] := by simp [strs]
theorem strs_len (l : List (List UInt8)) : (strs l).length = l.length := by simp [strs]
theorem infoString : (Tryz.prog.info? 9).map (fun i => (i.zero, i.size, i.bytes)) = some (some (.string ⟨#[]⟩), 1, 16) := by kernel_rfl
theorem take_push {α : Type} {l : List α} {k : Nat} (h : k < l.length) : l.take (k + 1) = l.take k ++ [l[k]] := by simp

theorem ownsRow_then {w w' : World} {B : Nat} {e : TypeId} {k : Nat} {v : Value} {n : Nat} {xs : List Value} (h : w.ownsRow B e k v n xs) (hb : Below w.heap.size w w') : w'.ownsRow B e k v n xs := by
  unfold World.ownsRow at *
  obtain ⟨hl, h | ⟨g, cap, cells, hv, hB, hg, r⟩⟩ := h
  · exact ⟨hl, Or.inl h⟩
  · exact ⟨hl, Or.inr ⟨g, cap, cells, hv, hB, (hb.block g (Lies.lt (cs := cells.toList) hg)).trans hg, r⟩⟩
/-- strings.Join of an own slice of words. -/
theorem join_any (l : List (List UInt8)) (A : Option Addr) (c B : Nat) (sep : ByteArray) (w : World) (h : w.ownsRow B 9 1 (.slice A l.length c) l.length (strs l))
    (hn : l.length ≤ 1000000) (hlen : (Lib.join l (bl sep)).length ≤ 1000000000) :
    Calls Tryz.prog 35 #[.slice A l.length c, .string sep] w fun e w' => e = .returned (.string ⟨(Lib.join l (bl sep)).toArray⟩) ∧ Below w.heap.size w w' := by
  obtain ⟨hl, ⟨h0, h1⟩ | ⟨g, cap, cells, hv, hB, hg, h5, h6, h7, h8⟩⟩ := h
  · have hl0 : l = [] := List.eq_nil_of_length_eq_zero (by omega)
    subst hl0
    exact (Tryz.strings_Join_none A c sep w).mono fun e w' ⟨he, hw⟩ => ⟨he, hw ▸ Below.refl _ _⟩
  · injection hv with hA hn' hc
    subst hA; subst hc
    have hx : (l.map fun b => (⟨b.toArray⟩ : ByteArray)).length = l.length := by simp
    have hm : (l.map fun b => (⟨b.toArray⟩ : ByteArray)).map (·.data.toList) = l := by simp [List.map_map, Function.comp_def]
    have hJ := Tryz.strings_Join g 0 c (l.map fun b => (⟨b.toArray⟩ : ByteArray)) sep w (fun j x hj => by
      have hjl : j < l.length := by have := (List.getElem?_eq_some_iff.1 hj).1; simpa using this
      have hq : (strs l)[j]? = some (.string x) := by
        rw [strs, List.getElem?_map]; rw [List.getElem?_map] at hj
        rw [List.getElem?_eq_getElem hjl] at hj ⊢
        simpa using hj
      rw [← h8, List.getElem?_take_of_lt (by omega)] at hq
      rw [Nat.zero_add, (Lies.cell (cs := cells.toList) hg j)]
      exact hq) (Lies.lt (cs := cells.toList) hg) (by rw [hx]; omega) (by rw [hx]; exact h5) (by rw [hm]; have := hlen; unfold bl at this; omega)
    rw [hm, hx] at hJ
    exact hJ
theorem joinTail_le (sep : List UInt8) (m : Nat) : ∀ l : List (List UInt8), (∀ x ∈ l, x.length ≤ m) → (Lib.joinTail sep l).length ≤ l.length * (sep.length + m)
  | [], _ => by simp [Lib.joinTail]
  | x :: l, h => by
    have h1 := joinTail_le sep m l fun y hy => h y (List.mem_cons_of_mem _ hy)
    have h2 := h x List.mem_cons_self
    have e : Lib.joinTail sep (x :: l) = sep ++ x ++ Lib.joinTail sep l := by simp [Lib.joinTail]
    rw [e, List.length_append, List.length_append, List.length_cons, Nat.succ_mul]; omega
theorem join_le (sep : List UInt8) (m : Nat) (l : List (List UInt8)) (h : ∀ x ∈ l, x.length ≤ m) : (Lib.join l sep).length ≤ l.length * (sep.length + m) := by
  cases l with
  | nil => simp [Lib.join_nil]
  | cons x l =>
    have h1 := joinTail_le sep m l fun y hy => h y (List.mem_cons_of_mem _ hy)
    have h2 := h x List.mem_cons_self
    rw [Lib.join_cons, List.length_append, List.length_cons, Nat.succ_mul]; omega

set_option maxHeartbeats 2000000 in
theorem joinInts_any (A : Option Addr) (c : Nat) (l : List Int) (sep : ByteArray) (w : World) (h : IntsR w w.heap.size A l) (hl9 : l.length ≤ 9)
    (hr : ∀ i (hi : i < l.length), 1 ≤ l[i] ∧ l[i] ≤ 9) (hs : sep.size ≤ 10) (ht : Tab w) :
    Calls Tryz.prog 40 #[.slice A l.length c, .string sep] w fun e w' => e = .returned (.string ⟨(Lib.join (l.map Lib.itoa) (bl sep)).toArray⟩) ∧ Below w.heap.size w w' := by
  have hl := h.big
  have hrd := IntsR.ints h
  have hjl : (Lib.join (l.map Lib.itoa) (bl sep)).length ≤ 1000000000 := by
    have h1 := join_le (bl sep) 100 (l.map Lib.itoa) fun x hx => by
      obtain ⟨n, hn, rfl⟩ := List.mem_map.1 hx
      obtain ⟨i, hi, rfl⟩ := List.getElem_of_mem hn
      exact itoa_len' (by have := hr i hi; omega) (by have := hr i hi; omega)
    rw [bl_size, List.length_map] at h1
    have h2 : l.length * (sep.size + 100) ≤ 9 * 110 := Nat.mul_le_mul hl9 (by omega)
    omega
  replace hr := Lib.hid hr
  go_enter Tryz.func40, Tryz.ntmps40
  go_wp2_with fail
  go_loopw [5, 10] (fun out i wr => ∃ (k : Nat), k ≤ l.length ∧ i = .int .i64 k ∧ Hid (wr.ownsRow w.heap.size 9 1 out k (strs ((l.take k).map Lib.itoa))) ∧ (Below w.heap.size w wr)) (fun _ i _ => l.length - (intOf i).toNat)
  case atStart => exact ⟨0, Nat.zero_le _, rfl, (World.ownsRow_nil _ _ _ _), Below.refl _ _⟩
  case round =>
    obtain ⟨k, hk, rfl, HO, hbr⟩ := hrel
    obtain ⟨q, rfl⟩ : ∃ q : Since w.heap.size w, wr = q.val := ⟨⟨wr, hbr⟩, rfl⟩
    by_cases hlt : k < l.length
    · obtain ⟨b, off, rfl, hb, hcell⟩ := hrd (by omega)
      have c0 := hcell k hlt
      obtain ⟨f1, f2⟩ := hr.out k hlt
      have HT := Lib.hid (take_push hlt)
      obtain ⟨f, hfe⟩ : ∃ f, f = l[k] := ⟨_, rfl⟩
      rw [← hfe] at c0 f1 f2 HT
      clear hfe hcell hrd
      obtain ⟨fv, hfv⟩ : ∃ s : ByteArray, s = ⟨(Lib.itoa f).toArray⟩ := ⟨_, rfl⟩
      have HQ := ht.at q
      have NUMF : ∀ W : World, Tab W → Calls Tryz.prog 39 #[.int .i64 f] W fun e w' => e = .returned (.string fv) ∧ Below W.heap.size W w' := by
        intro W hW; rw [hfv]; exact itoa_any _ _ (by omega) (by omega) hW
      replace NUMF := Lib.hid NUMF
      have HFV := Lib.hid hfv; clear hfv
      go_wp2_with (first
        | (go_at_call 39; refine (NUMF.out _ HQ).mono ?_; rintro e w4 ⟨rfl, hb4⟩; have hb5 : Below w.heap.size w w4 := hbr.trans (hb4.mono hbr.size); have HO4 := Lib.hid (ownsRow_then HO.out hb4); have hs4 := hb5.size)
        | (at_builtin; refine wpList_push (w0 := w4) rfl _ _ 52 rfl 9 (.string ⟨#[]⟩) 1 16 Tryz.underlying52 infoString rfl (by decide) (by omega) w.heap.size _ _ _ rfl HO4 #[.string fv] 1 _ rfl (by first | rfl | exact Array.size_push _) rfl (by simp [Value.oneCell']) (by omega) hs4 rfl rfl rfl rfl ?_; intro v' w6 HO6 hg6 hb6))
      obtain ⟨A3, c3, rfl⟩ := ownsRow_slice HO6.out
      go_wp2
      go_roundw
      case rel => exact ⟨k + 1, by omega, by go_num, by rw [HT.out, List.map_append, List.map_cons, List.map_nil, strs_push, ← HFV.out]; exact HO6, hb5.trans hb6⟩
      case measure => simp [intOf]; omega
    · have ek : k = l.length := by omega
      subst ek
      rw [List.take_length] at HO
      obtain ⟨A3, c3, rfl⟩ := ownsRow_slice HO.out
      clear hrd
      have HJ := Lib.hid (join_any (l.map Lib.itoa) A3 c3 w.heap.size sep)
      rw [List.length_map] at HJ
      go_wp2_with (go_at_call 35; refine (HJ.out _ HO.out (by omega) hjl).mono ?_; rintro e w7 ⟨rfl, hb7⟩)
      go_ret
      exact ⟨rfl, hbr.trans (hb7.mono hbr.size)⟩
end Go.Proofs.YtchkjiadnackaaaGreatDoor

/- The text of a list of phrases, in the reference and in the program. -/
namespace Go.Proofs.YtchkjiadnackaaaGreatDoor
open Go.RowKit

theorem fauT_len : ∀ l : List Int, (∀ f ∈ l, 1 ≤ f ∧ f ≤ 9) → (fauT l).length ≤ 101 * l.length
  | [], _ => by simp [fauT]
  | f :: l, h => by
    have h1 := fauT_len l fun y hy => h y (List.mem_cons_of_mem _ hy)
    have h2 := h f List.mem_cons_self
    have h3 := itoa_len' (n := f) (by omega) (by omega)
    simp only [fauT, List.length_cons, List.length_append]; omega
theorem shortT_len {x : Ph} (hok : x.ok = true) : (shortT x).length ≤ 1500 := by
  obtain ⟨⟨s1, s2⟩, ⟨c1, c2⟩, hr, p1, p2⟩ := Ph.bounds hok
  have hnine := faults_nine hr
  have hf := fauT_len x.f fun f hf => by
    rw [rises_eq, Bool.and_eq_true, List.all_eq_true] at hr
    exact inR_iff.1 (hr.2 _ hf)
  have h1 : (markT x.s).length ≤ 2 := by unfold markT; split; · simp
                                         · split <;> simp
  have h2 : (copT x.c).length ≤ 102 := by
    unfold copT; split
    · have := itoa_len' (n := x.c) (by omega) (by omega)
      simp only [List.length_cons, List.length_append, List.length_nil]; omega
    · simp
  have h3 : (priT x.p).length ≤ 101 := by
    unfold priT; split
    · have := itoa_len' (n := x.p) (by omega) (by omega)
      simp only [List.length_cons]; omega
    · simp
  unfold shortT
  simp only [List.length_append]; omega
def listFrom : Nat → List Ph → List UInt8
  | _, [] => []
  | k, x :: l => (if k = 0 then [] else [32]) ++ shortT x ++ listFrom (k + 1) l
def listT (l : List Ph) : List UInt8 := Lib.join (l.map shortT) [32]
theorem listFrom_step {l : List Ph} {k : Nat} (h : k < l.length) : listFrom k (l.drop k) = (if k = 0 then [] else [32]) ++ shortT l[k] ++ listFrom (k + 1) (l.drop (k + 1)) := by
  rw [List.drop_eq_getElem_cons h, listFrom]
theorem listFrom_tail : ∀ (l : List Ph) (k : Nat), listFrom (k + 1) l = Lib.joinTail [32] (l.map shortT)
  | [], _ => rfl
  | x :: l, k => by rw [listFrom, listFrom_tail l]; simp [Lib.joinTail]
theorem listFrom_join (l : List Ph) : listFrom 0 l = listT l := by
  cases l with
  | nil => rfl
  | cons x l => rw [listFrom, listFrom_tail, listT, List.map_cons, Lib.join_cons]; simp

set_option maxRecDepth 100000 in
set_option maxHeartbeats 2000000 in
theorem specListText_any (A : Option Addr) (c : Nat) (l : List Ph) (w : World) (h : PhsR w w.heap.size A l) :
    Calls Tryz.prog 15 #[.slice A l.length c] w fun e w' => e = .returned (.tuple #[.string (okT (goodPhs l) (listT l)), .bool (goodPhs l)]) ∧ Below w.heap.size w w' := by
  have hl := h.slc.big
  have hrd := h.ph
  have hf : Hid (∀ i (hi : i < l.length), IntsR w w.heap.size l[i].A l[i].f) := fun i hi => h.f hi
  cases hg : goodPhs l
  · have HG := Lib.hid hg; clear hg hrd
    go_enter Tryz.func15, Tryz.ntmps15
    go_wp2_with (go_at_call 36; refine (l30Good_any A c l _ h).mono ?_; rw [HG.out]; rintro e w1 ⟨rfl, hb1⟩)
    go_ret2
    exact ⟨rfl, hb1⟩
  · skip
    have h10 := good_len hg
    have HA : Hid (∀ i (hi : i < l.length), l[i].ok = true) := fun i hi => good_at hg hi
    have HG := Lib.hid hg; clear hg
    go_enter Tryz.func15, Tryz.ntmps15
    go_wp2_with (go_at_call 36; refine (l30Good_any A c l _ h).mono ?_; rw [HG.out]; rintro e w1 ⟨rfl, hb1⟩)
    go_loopw [4, 5] (fun s i wr => ∃ (k : Nat) (T : ByteArray), k ≤ l.length ∧ i = .int .i64 k ∧ s = .string T ∧ T.size ≤ 1600 * k ∧ (∃ q : Since w.heap.size w, wr = q.val) ∧ Hid (bl T ++ listFrom k (l.drop k) = listFrom 0 l)) (fun _ i _ => l.length - (intOf i).toNat)
    case atStart => exact ⟨0, _, Nat.zero_le _, rfl, rfl, Nat.zero_le _, ⟨⟨_, hb1⟩, rfl⟩, by rw [Hid, List.drop_zero, bl_lit]; rfl⟩
    case round =>
      clear hb1
      obtain ⟨k, T, hk, rfl, rfl, hT, ⟨q, rfl⟩, HR⟩ := hrel
      by_cases hlt : k < l.length
      · obtain ⟨b, off, rfl, hb, hcell⟩ := hrd (by omega)
        obtain ⟨c0, c1, c2, c3⟩ := hcell k hlt
        have hx : ∀ p : Since w.heap.size w, IntsR p.val p.val.heap.size l[k].A l[k].f := fun p => SlcR.up (hf.out k hlt) p.below (Nat.le_refl _)
        have HOK := Lib.hid (HA.out k hlt)
        have HS := Lib.hid (listFrom_step hlt)
        obtain ⟨x, hxe⟩ : ∃ x, x = l[k] := ⟨_, rfl⟩
        rw [← hxe] at c0 c1 c2 c3 hx HOK HS
        clear hxe hcell hrd
        have hsl := shortT_len HOK.out
        obtain ⟨sv, hsv⟩ : ∃ s : ByteArray, s = ⟨(shortT x).toArray⟩ := ⟨_, rfl⟩
        have hss : sv.size ≤ 1500 := by rw [← bl_size, hsv, bl_mk]; exact hsl
        have SH : ∀ W : World, IntsR W W.heap.size x.A x.f → Calls Tryz.prog 26 #[x.val] W fun e w' => e = .returned (.string sv) ∧ Below W.heap.size W w' := by
          intro W hW; rw [hsv]; exact l30Short_any x W hW HOK.out
        replace SH := Lib.hid SH
        have HSV : Hid (bl sv = shortT x) := by rw [hsv, Hid, bl_mk]
        clear hsv hsl
        rcases Nat.eq_zero_or_pos k with h0 | h0
        · have hd : decide (0 < k) = false := decide_eq_false (by omega)
          have H0 := Lib.hid h0; clear h0
          go_wp2_with (go_at_call 26; refine (SH.out _ (hx q)).mono ?_; rintro e w4 ⟨rfl, hb4⟩)
          go_roundw
          case rel => exact ⟨k + 1, _, by omega, by go_num, rfl, by simp only [size_app]; omega, ⟨q.go (Nat.le_refl _) hb4, rfl⟩, by have h1 := HR.out; rw [HS.out, if_pos H0.out] at h1; rw [Hid, ← h1]; simp [bl_app, HSV.out]⟩
          case measure => simp [intOf]; omega
        · have hd : decide (0 < k) = true := decide_eq_true h0
          have h0' : ¬ k = 0 := by omega
          have H0 := Lib.hid h0'; clear h0'
          go_wp2_with (go_at_call 26; refine (SH.out _ (hx q)).mono ?_; rintro e w4 ⟨rfl, hb4⟩)
          go_roundw
          case rel => exact ⟨k + 1, _, by omega, by go_num, rfl, by simp only [size_app]; (have e1 : (⟨#[32]⟩ : ByteArray).size = 1 := rfl); omega, ⟨q.go (Nat.le_refl _) hb4, rfl⟩, by have h1 := HR.out; rw [HS.out, if_neg H0.out] at h1; rw [Hid, ← h1]; simp [bl_app, bl_lit, HSV.out]⟩
          case measure => simp [intOf]; omega
      · have HF : okT true (listT l) = T := by
          have h1 := HR.out; rw [List.drop_eq_nil_of_le (by omega), listFrom, List.append_nil, listFrom_join] at h1
          exact (bl_ext h1).symm
        replace HF := Lib.hid HF
        clear hrd
        go_wp2
        go_ret2
        rw [HF.out]
        exact ⟨rfl, q.below⟩
end Go.Proofs.YtchkjiadnackaaaGreatDoor

/- The text of a list of phrases, in the program. -/
namespace Go.Proofs.YtchkjiadnackaaaGreatDoor
open Go.RowKit

set_option maxRecDepth 100000 in
set_option maxHeartbeats 2000000 in
theorem implListText_any (A : Option Addr) (c : Nat) (l : List Ph) (w : World) (h : PhsR w w.heap.size A l) (ht : Tab w) :
    Calls Tryz.prog 14 #[.slice A l.length c] w fun e w' => e = .returned (.tuple #[.string (okT (goodPhs l) (listT l)), .bool (goodPhs l)]) ∧ Below w.heap.size w w' := by
  have hl := h.slc.big
  have hrd := h.ph
  have hf : Hid (∀ i (hi : i < l.length), IntsR w w.heap.size l[i].A l[i].f) := fun i hi => h.f hi
  cases hg : goodPhs l
  · have HG := Lib.hid hg; clear hg hrd
    go_enter Tryz.func14, Tryz.ntmps14
    go_wp2_with (go_at_call 34; refine (arePhrases_any A c l _ h).mono ?_; rw [HG.out]; rintro e w1 ⟨rfl, hb1⟩)
    go_ret2
    exact ⟨rfl, hb1⟩
  · skip
    have h10 := good_len hg
    have HA : Hid (∀ i (hi : i < l.length), l[i].ok = true) := fun i hi => good_at hg hi
    have hjl : (Lib.join (l.map shortT) (bl ⟨#[32]⟩)).length ≤ 1000000000 := by
      have h1 := join_le (bl ⟨#[32]⟩) 1500 (l.map shortT) fun y hy => by
        obtain ⟨x, hx, rfl⟩ := List.mem_map.1 hy
        obtain ⟨i, hi, rfl⟩ := List.getElem_of_mem hx
        exact shortT_len (HA.out i hi)
      rw [bl_size, List.length_map] at h1
      have h2 : l.length * ((⟨#[32]⟩ : ByteArray).size + 1500) ≤ 10 * 1501 := Nat.mul_le_mul h10 (by decide)
      omega
    have HG := Lib.hid hg; clear hg
    go_enter Tryz.func14, Tryz.ntmps14
    go_wp2_with (go_at_call 34; refine (arePhrases_any A c l _ h).mono ?_; rw [HG.out]; rintro e w1 ⟨rfl, hb1⟩)
    go_loopw [4, 6, 12] (fun out bx i wr => ∃ (k : Nat), k ≤ l.length ∧ i = .int .i64 k ∧ Hid (wr.ownsRow w.heap.size 9 1 out k (strs ((l.take k).map shortT))) ∧ (Below w.heap.size w wr)) (fun _ _ i _ => l.length - (intOf i).toNat)
    case atStart => exact ⟨0, Nat.zero_le _, rfl, (World.ownsRow_nil _ _ _ _), hb1⟩
    case round =>
      clear hb1
      obtain ⟨k, hk, rfl, HO, hbr⟩ := hrel
      obtain ⟨q, rfl⟩ : ∃ q : Since w.heap.size w, wr = q.val := ⟨⟨wr, hbr⟩, rfl⟩
      by_cases hlt : k < l.length
      · obtain ⟨b, off, rfl, hb, hcell⟩ := hrd (by omega)
        obtain ⟨c0, c1, c2, c3⟩ := hcell k hlt
        have hx : ∀ p : Since w.heap.size w, IntsR p.val p.val.heap.size l[k].A l[k].f := fun p => SlcR.up (hf.out k hlt) p.below (Nat.le_refl _)
        have HOK := Lib.hid (HA.out k hlt)
        have HTK := Lib.hid (take_push hlt)
        obtain ⟨x, hxe⟩ : ∃ x, x = l[k] := ⟨_, rfl⟩
        rw [← hxe] at c0 c1 c2 c3 hx HOK HTK
        clear hxe hcell hrd
        obtain ⟨sv, hsv⟩ : ∃ s : ByteArray, s = ⟨(shortT x).toArray⟩ := ⟨_, rfl⟩
        have hbV := q.below.alloc q.size (.cells #[.int .i64 x.s, .int .i64 x.c, .slice x.A x.f.length x.cap, .int .i64 x.p] 26)
        have HOW := Lib.hid (HO.out.alloc (.cells #[.int .i64 x.s, .int .i64 x.c, .slice x.A x.f.length x.cap, .int .i64 x.p] 26))
        have SH : ∀ p : Since w.heap.size w, Calls Tryz.prog 24 #[x.val] p.val fun e w' => e = .returned (.string sv) ∧ Below p.val.heap.size p.val w' := by
          intro p; rw [hsv]; exact shortText_any x p.val (hx p) HOK.out (ht.at p)
        have HSC := Lib.hid (SH ⟨_, hbV⟩)
        have HSV := Lib.hid hsv; clear hsv SH HO
        go_wp2_with (first
          | (go_at_call 24; refine HSC.out.mono ?_; rintro e w4 ⟨rfl, hb4⟩; have hb5 : Below w.heap.size w w4 := hbV.trans (hb4.mono hbV.size); have HO4 := Lib.hid (ownsRow_then HOW.out hb4); have hs4 := hb5.size)
          | (at_builtin; refine wpList_push (w0 := w4) rfl _ _ 52 rfl 9 (.string ⟨#[]⟩) 1 16 Tryz.underlying52 infoString rfl (by decide) (by omega) w.heap.size _ _ _ rfl HO4 #[.string sv] 1 _ rfl (by first | rfl | exact Array.size_push _) rfl (by simp [Value.oneCell']) (by omega) hs4 rfl rfl rfl rfl ?_; intro v' w6 HO6 hg6 hb6))
        obtain ⟨A3, c3', rfl⟩ := ownsRow_slice HO6.out
        go_wp2
        go_roundw
        case rel => exact ⟨k + 1, by omega, by go_num, by rw [HTK.out, List.map_append, List.map_cons, List.map_nil, strs_push, ← HSV.out]; exact HO6, hb5.trans hb6⟩
        case measure => simp [intOf]; omega
      · have ek : k = l.length := by omega
        subst ek
        rw [List.take_length] at HO
        obtain ⟨A3, c3, rfl⟩ := ownsRow_slice HO.out
        clear hrd
        have HJ := Lib.hid (join_any (l.map shortT) A3 c3 w.heap.size ⟨#[32]⟩)
        rw [List.length_map] at HJ
        go_wp2_with (go_at_call 35; refine (HJ.out _ HO.out (by omega) hjl).mono ?_; rintro e w7 ⟨rfl, hb7⟩)
        go_ret2
        exact ⟨rfl, hbr.trans (hb7.mono hbr.size)⟩
end Go.Proofs.YtchkjiadnackaaaGreatDoor

/- Texts of numbers of at most six digits (plain). -/
namespace Go.Proofs.YtchkjiadnackaaaGreatDoor

def Six (n : Int) : Prop := -999999 ≤ n ∧ n ≤ 999999
theorem digitVal_digit {d : Nat} (h : d < 10) : Lib.digitVal (UInt8.ofNat (48 + d)) = some d := by
  have : (UInt8.ofNat (48 + d)).toNat = 48 + d := by simp [UInt8.toNat_ofNat']; omega
  unfold Lib.digitVal
  rw [this, if_pos (by omega)]
  congr 1; omega
theorem decFrom_app : ∀ (l r : List UInt8) (acc m : Nat), Lib.decFrom acc l = some m → Lib.decFrom acc (l ++ r) = Lib.decFrom m r
  | [], r, acc, m, h => by simp only [Lib.decFrom, Option.some.injEq] at h; subst h; rfl
  | b :: l, r, acc, m, h => by
    simp only [List.cons_append, Lib.decFrom] at h ⊢
    cases hb : Lib.digitVal b with
    | none => rw [hb] at h; cases h
    | some d => rw [hb] at h; exact decFrom_app l r _ _ h
theorem decFrom_dec (n : Nat) : Lib.decFrom 0 (Lib.decDigits n) = some n := by
  induction n using Nat.strongRecOn with
  | _ n ih =>
    rw [Lib.decDigits]
    by_cases h : n < 10
    · rw [dif_pos h]
      simp only [Lib.decFrom, digitVal_digit h]
      congr 1; omega
    · rw [dif_neg h, decFrom_app _ _ _ _ (ih (n / 10) (by omega))]
      simp only [Lib.decFrom, digitVal_digit (Nat.mod_lt n (by omega : 0 < 10))]
      congr 1; omega
theorem dec_ne (n : Nat) : Lib.decDigits n ≠ [] := by
  intro h
  have h1 := Lib.decDigits_length n
  have h2 := Lib.nDigits_pos n
  rw [h] at h1; simp at h1; omega
theorem dec_digit (n : Nat) : ∀ b ∈ Lib.decDigits n, 48 ≤ b.toNat ∧ b.toNat ≤ 57 := by
  intro b hb
  obtain ⟨k, hk, e⟩ := List.getElem_of_mem hb
  obtain ⟨d, hd⟩ := Lib.digit_of_decFrom _ _ _ (decFrom_dec n) k b (by rw [List.getElem?_eq_getElem hk, e])
  have := Lib.digitVal_eq hd
  omega
theorem decNat_dec (n : Nat) : Lib.decNat (Lib.decDigits n) = some n := by
  unfold Lib.decNat
  rw [if_neg (by simp [dec_ne])]
  exact decFrom_dec n
theorem atoi_itoa (n : Int) : Lib.atoi (Lib.itoa n) = some n := by
  unfold Lib.itoa
  by_cases h : n < 0
  · rw [if_pos h]
    simp only [Lib.atoi, beq_self_eq_true, if_true, decNat_dec, Option.map_some, Option.some.injEq]
    omega
  · rw [if_neg h]
    obtain ⟨m, rfl⟩ := Int.eq_ofNat_of_zero_le (by omega : 0 ≤ n)
    rw [Int.toNat_natCast]
    cases hd : Lib.decDigits m with
    | nil => exact absurd hd (dec_ne m)
    | cons b r =>
      have hb := dec_digit m b (by rw [hd]; simp)
      have h1 : (b == 45) = false := by
        rw [beq_eq_false_iff_ne]; intro e; subst e; have : (45 : UInt8).toNat = 45 := rfl; omega
      have h2 : (b == 43) = false := by
        rw [beq_eq_false_iff_ne]; intro e; subst e; have : (43 : UInt8).toNat = 43 := rfl; omega
      simp only [Lib.atoi, h1, h2, Bool.false_eq_true, if_false]
      rw [← hd, decNat_dec]
      rfl
theorem itoa_inj {n m : Int} (h : Lib.itoa n = Lib.itoa m) : n = m := by
  have := atoi_itoa n
  rw [h, atoi_itoa m] at this
  exact (Option.some.inj this).symm
theorem nDigits_six {n : Nat} (h : n ≤ 999999) : Lib.nDigits n ≤ 6 := by
  by_cases h0 : n = 0
  · subst h0; rw [Lib.nDigits_small (by omega)]; omega
  · have h1 := Lib.nDigits_pos n
    by_cases h2 : Lib.nDigits n ≤ 6
    · exact h2
    · exfalso
      have key : ∀ (k n : Nat), n < 10 ^ (k + 1) → Lib.nDigits n ≤ k + 1 := by
        intro k
        induction k with
        | zero => intro n hn; rw [Lib.nDigits_small (by simpa using hn)]; omega
        | succ k ih =>
          intro n hn
          by_cases hs : n < 10
          · rw [Lib.nDigits_small hs]; omega
          · rw [Lib.nDigits_big hs]
            have := ih (n / 10) (Nat.div_lt_of_lt_mul (by rw [Nat.mul_comm, ← Nat.pow_succ]; exact hn))
            omega
      exact h2 (key 5 n (by omega))
theorem itoa_six {n : Int} (h : Six n) : 1 ≤ (Lib.itoa n).length ∧ (Lib.itoa n).length ≤ 7 := by
  unfold Lib.itoa
  obtain ⟨h1, h2⟩ := h
  split
  · have := nDigits_six (n := n.natAbs) (by omega)
    rw [List.length_cons, Lib.decDigits_length]; omega
  · have := nDigits_six (n := n.toNat) (by omega)
    have h3 := Lib.nDigits_pos n.toNat
    rw [Lib.decDigits_length]; omega
open Classical in
/-- The number of at most six digits of which this is the text. -/
noncomputable def numF (s : List UInt8) : Option Int := if h : ∃ n, Six n ∧ Lib.itoa n = s then some h.choose else none
theorem numF_some {n : Int} (h : Six n) : numF (Lib.itoa n) = some n := by
  have hex : ∃ m, Six m ∧ Lib.itoa m = Lib.itoa n := ⟨n, h, rfl⟩
  unfold numF
  rw [dif_pos hex]
  exact congrArg some (itoa_inj hex.choose_spec.2)
theorem numF_eq {n : Int} {s : List UInt8} (h : Six n) (e : Lib.itoa n = s) : numF s = some n := e ▸ numF_some h
theorem numF_is {n : Int} {s : List UInt8} (h : numF s = some n) : Six n ∧ Lib.itoa n = s := by
  by_cases hex : ∃ m, Six m ∧ Lib.itoa m = s
  · unfold numF at h
    rw [dif_pos hex] at h
    have := hex.choose_spec
    rw [Option.some.inj h] at this
    exact this
  · unfold numF at h
    rw [dif_neg hex] at h; cases h
theorem numF_none {s : List UInt8} (h : ∀ n, Six n → Lib.itoa n ≠ s) : numF s = none := by
  unfold numF; rw [dif_neg (fun ⟨n, h1, h2⟩ => h n h1 h2)]
/-- Atoi of the text of such a number. -/
theorem atoiAll_six {n : Int} (h : Six n) : Lib.atoiAll (Lib.itoa n) = .ok n := by
  rw [Lib.atoiAll_short _ (by have := itoa_six h; omega), atoi_itoa]; rfl
/-- What l1Read asks of the digits. -/
theorem num_read {s : List UInt8} {n : Int} (h : Six n) (e : Lib.itoa n = s) :
    (n < 0 ∧ ∃ t, s = 45 :: t ∧ 1 ≤ t.length ∧ t.length ≤ 6 ∧ Lib.decFrom 0 t = some n.natAbs) ∨ (0 ≤ n ∧ s.head? ≠ some 45 ∧ 1 ≤ s.length ∧ s.length ≤ 6 ∧ Lib.decFrom 0 s = some n.natAbs) := by
  obtain ⟨h1, h2⟩ := h
  unfold Lib.itoa at e
  by_cases hn : n < 0
  · left
    rw [if_pos hn] at e
    have h3 := nDigits_six (n := n.natAbs) (by omega)
    have h4 := Lib.nDigits_pos n.natAbs
    exact ⟨hn, _, e.symm, by rw [Lib.decDigits_length]; omega, by rw [Lib.decDigits_length]; omega, decFrom_dec _⟩
  · right
    rw [if_neg hn] at e
    have h3 := nDigits_six (n := n.toNat) (by omega)
    have h4 := Lib.nDigits_pos n.toNat
    have h5 : n.natAbs = n.toNat := by omega
    subst e
    refine ⟨by omega, ?_, by rw [Lib.decDigits_length]; omega, by rw [Lib.decDigits_length]; omega, by rw [h5]; exact decFrom_dec _⟩
    intro hh
    have hm : (45 : UInt8) ∈ Lib.decDigits n.toNat := List.mem_of_mem_head? hh
    have := dec_digit _ _ hm
    have h6 : (45 : UInt8).toNat = 45 := rfl
    omega
end Go.Proofs.YtchkjiadnackaaaGreatDoor

/- The parts of a text between bytes (plain). -/
namespace Go.Proofs.YtchkjiadnackaaaGreatDoor

def partsL (b : UInt8) : List UInt8 → List UInt8 → List (List UInt8)
  | cur, [] => [cur]
  | cur, x :: l => if x = b then cur :: partsL b [] l else partsL b (cur ++ [x]) l
def splitL (b : UInt8) (s : List UInt8) : List (List UInt8) := partsL b [] s
theorem parts_free {b : UInt8} : ∀ {l cur : List UInt8}, b ∉ l → partsL b cur l = [cur ++ l]
  | [], _, _ => by simp [partsL]
  | x :: l, cur, h => by
    simp only [List.mem_cons, not_or] at h
    rw [partsL, if_neg (Ne.symm h.1), parts_free h.2]; simp
theorem parts_mid {b : UInt8} {r : List UInt8} : ∀ {t cur : List UInt8}, b ∉ t → partsL b cur (t ++ b :: r) = (cur ++ t) :: partsL b [] r
  | [], _, _ => by simp [partsL]
  | x :: t, cur, h => by
    simp only [List.mem_cons, not_or] at h
    rw [List.cons_append, partsL, if_neg (Ne.symm h.1), parts_mid h.2]; simp
theorem split_free {b : UInt8} {l : List UInt8} (h : b ∉ l) : splitL b l = [l] := by unfold splitL; rw [parts_free h]; rfl
theorem split_mid {b : UInt8} {t r : List UInt8} (h : b ∉ t) : splitL b (t ++ b :: r) = t :: splitL b r := by unfold splitL; rw [parts_mid h]; rfl
theorem parts_ne (b : UInt8) : ∀ (l cur : List UInt8), partsL b cur l ≠ []
  | [], _ => by simp [partsL]
  | x :: l, cur => by
    unfold partsL; split
    · simp
    · exact parts_ne b l _
theorem parts_len (b : UInt8) : ∀ (l cur : List UInt8), (partsL b cur l).length ≤ l.length + 1
  | [], _ => by simp [partsL]
  | x :: l, cur => by
    unfold partsL; split
    · have := parts_len b l []; simp; omega
    · have := parts_len b l (cur ++ [x]); simp; omega
theorem parts_mem {b : UInt8} {t : List UInt8} : ∀ (l cur : List UInt8), t ∈ partsL b cur l → t.length ≤ cur.length + l.length
  | [], cur, h => by simp only [partsL, List.mem_singleton] at h; subst h; simp
  | x :: l, cur, h => by
    unfold partsL at h; split at h
    · rcases List.mem_cons.1 h with h | h
      · subst h; omega
      · have := parts_mem l [] h; simp at this ⊢; omega
    · have := parts_mem l _ h; simp at this ⊢; omega
theorem split_head (b : UInt8) (s : List UInt8) : ∃ ps, splitL b s = bef b s :: ps ∧ (ps = [] ↔ b ∉ s) := by
  rcases bef_or b s with ⟨h1, h2⟩ | ⟨r, h⟩
  · exact ⟨[], by rw [split_free h1, h2], by simp [h1]⟩
  · refine ⟨splitL b r, ?_, ?_⟩
    · have h1 := split_mid (r := r) (bef_not b s)
      rw [← h] at h1; exact h1
    · constructor
      · intro e; exact absurd e (parts_ne b r [])
      · intro hn; exact absurd (by rw [h]; simp) hn
end Go.Proofs.YtchkjiadnackaaaGreatDoor
