/- Contracts of library functions at this seat: written by the kit's tools lay-shelf.mjs and lay-plain.mjs; a part of what they wrote. -/
import Derived.Shelf.Strings.Builder1
import Derived.Shelf.Strings.Builder2
import Derived.Shelf.Strings.OnBuilder
import Derived.Shelf.Small.Strs
import Derived.Shelf.Strings.BuilderF
import Derived.Shelf.Strings.BuilderK
import Derived.Shelf.Strconv.Atoi
import Derived.Shelf.Strconv.Itoa0
import Derived.Shelf.Strconv.Itoa1
import Derived.Shelf.LaysM
import Derived.Shelf.Strconv.Itoa2
import Derived.Shelf.Strconv.Itoa3
import Derived.Shelf.Strconv.Itoa4
import Derived.Shelf.Strconv.AtoiErrFast
import Derived.Shelf.Strconv.ParseIntEmpty
import Derived.Shelf.Strconv.AtoiFail
import Derived.Shelf.Strconv.Clone
import Derived.Shelf.Strconv.SyntaxError
import Derived.Shelf.LaysC
import Derived.Shelf.Strconv.ToError
import Derived.Shelf.Strconv.Lower
import Derived.Shelf.Strconv.ParseUint10
import Derived.Shelf.Strconv.ParseUint10Empty
import Derived.Shelf.Strconv.ParseUint10Any
import Derived.Shelf.Strconv.ParseInt10
import Derived.Shelf.Strconv.AtoiLong
import Derived.Shelf.Strconv.AtoiInnerAll
import Derived.Shelf.Strconv.RangeError
import Derived.Shelf.Strconv.ToErrorRange
import Derived.Shelf.Strconv.AtoiAll
import Derived.Shelf.Strconv.ErrVarAll
import Derived.Shelf.Strconv.ParseUintEmpty
import Derived.Shelf.Strconv.ParseUint10b64
import Derived.Shelf.Strconv.ParseUint10b32
import Derived.Shelf.Strconv.ParseUint10b16
import Derived.Shelf.Strconv.ParseUint10b8
import Derived.Shelf.Strconv.ParseUint10At
import Derived.Shelf.Strconv.ParseInt10At64
import Derived.Shelf.Strconv.ParseInt10At32
import Derived.Shelf.Strconv.ParseInt10At16
import Derived.Shelf.Strconv.ParseInt10At8
import Derived.Shelf.Strconv.ParseInt10All
import Derived.Shelf.Strconv.ParseIntPublic10
import Derived.Shelf.Strconv.ErrVarParseInt
import Derived.Shelf.Strings.Search1
import Derived.Shelf.Strings.Search2
import Derived.Shelf.Strings.Search3
import Derived.Shelf.Strings.Count
import Derived.Shelf.Strings.Shaped
import Derived.Shelf.Strings.Prefix
import Derived.Shelf.Strings.Split
import Derived.Shelf.Bits.Mul64
import Derived.Shelf.Strings.Repeat
import Derived.Shelf.Unicode.DecodeSlow
import Derived.Shelf.Slices.Turned
import Derived.Test.YtilaphojceabkaaDoorSB
namespace Go.Proofs
open Go.Shelf
def Tryd.laysC174_ren : Go.Shelf.Ren := ⟨fun | 174 => 179 | 247 => 173 | 245 => 146 | 287 => 204 | 279 => 174 | 280 => 175 | 281 => 176 | 282 => 177 | 321 => 226 | 322 => 227 | 316 => 205 | 171 => 207 | 205 => 206 | 243 => 228 | 246 => 159 | 283 => 194 | 284 => 195 | 285 => 196 | 286 => 197 | 129 => 193 | 317 => 219 | 318 => 220 | 319 => 221 | 320 => 222 | 337 => 232 | 338 => 233 | n => n, fun | 9 => 9 | 3 => 3 | 2 => 2 | 75 => 106 | 85 => 189 | 4 => 4 | 167 => 188 | 5 => 5 | 53 => 206 | 175 => 216 | 46 => 172 | 168 => 191 | 37 => 87 | 0 => 0 | 210 => 219 | 21 => 21 | 127 => 152 | 145 => 240 | 143 => 238 | 171 => 207 | 173 => 209 | 212 => 231 | 51 => 204 | 20 => 20 | 213 => 232 | 232 => 251 | 233 => 252 | 80 => 109 | n => n, fun | 15 => 1 | 16 => 2 | 17 => 3 | 18 => 6 | 19 => 7 | n => n⟩
theorem Tryd.laysC174 : Go.Proofs.LaysC.n174 Tryd.prog Tryd.laysC174_ren := {
  mixed := by kernel_rfl
  f129 := Tryd.func193.trans (congrArg some (by kernel_rfl))
  f171 := Tryd.func207.trans (congrArg some (by kernel_rfl))
  f174 := Tryd.func179.trans (congrArg some (by kernel_rfl))
  f205 := Tryd.func206.trans (congrArg some (by kernel_rfl))
  f243 := Tryd.func228.trans (congrArg some (by kernel_rfl))
  f245 := Tryd.func146.trans (congrArg some (by kernel_rfl))
  f246 := Tryd.func159.trans (congrArg some (by kernel_rfl))
  f247 := Tryd.func173.trans (congrArg some (by kernel_rfl))
  f279 := Tryd.func174.trans (congrArg some (by kernel_rfl))
  f280 := Tryd.func175.trans (congrArg some (by kernel_rfl))
  f281 := Tryd.func176.trans (congrArg some (by kernel_rfl))
  f282 := Tryd.func177.trans (congrArg some (by kernel_rfl))
  f283 := Tryd.func194.trans (congrArg some (by kernel_rfl))
  f284 := Tryd.func195.trans (congrArg some (by kernel_rfl))
  f285 := Tryd.func196.trans (congrArg some (by kernel_rfl))
  f286 := Tryd.func197.trans (congrArg some (by kernel_rfl))
  f287 := Tryd.func204.trans (congrArg some (by kernel_rfl))
  f316 := Tryd.func205.trans (congrArg some (by kernel_rfl))
  f317 := Tryd.func219.trans (congrArg some (by kernel_rfl))
  f318 := Tryd.func220.trans (congrArg some (by kernel_rfl))
  f319 := Tryd.func221.trans (congrArg some (by kernel_rfl))
  f320 := Tryd.func222.trans (congrArg some (by kernel_rfl))
  f321 := Tryd.func226.trans (congrArg some (by kernel_rfl))
  f322 := Tryd.func227.trans (congrArg some (by kernel_rfl))
  f337 := Tryd.func232.trans (congrArg some (by kernel_rfl))
  f338 := Tryd.func233.trans (congrArg some (by kernel_rfl))
  t0 := Tryd.underlying0
  a0 := Tryd.isAgg0
  z0 := Tryd.sizeOf0
  v0 := Tryd.zeroValue0
  t2 := Tryd.underlying2
  a2 := Tryd.isAgg2
  z2 := Tryd.sizeOf2
  v2 := Tryd.zeroValue2
  t3 := Tryd.underlying3
  a3 := Tryd.isAgg3
  z3 := Tryd.sizeOf3
  v3 := Tryd.zeroValue3
  t4 := Tryd.underlying4
  a4 := Tryd.isAgg4
  z4 := Tryd.sizeOf4
  v4 := Tryd.zeroValue4
  t5 := Tryd.underlying5
  a5 := Tryd.isAgg5
  z5 := Tryd.sizeOf5
  v5 := Tryd.zeroValue5
  t9 := Tryd.underlying9
  a9 := Tryd.isAgg9
  z9 := Tryd.sizeOf9
  v9 := Tryd.zeroValue9
  t20 := Tryd.underlying20
  a20 := Tryd.isAgg20
  z20 := Tryd.sizeOf20
  v20 := Tryd.zeroValue20
  t21 := Tryd.underlying21
  a21 := Tryd.isAgg21
  z21 := Tryd.sizeOf21
  v21 := Tryd.zeroValue21
  t37 := Tryd.underlying87
  a37 := Tryd.isAgg87
  z37 := Tryd.sizeOf87
  v37 := Tryd.zeroValue87
  t46 := Tryd.underlying172
  a46 := Tryd.isAgg172
  z46 := Tryd.sizeOf172
  v46 := Tryd.zeroValue172
  t51 := Tryd.underlying204
  a51 := Tryd.isAgg204
  z51 := Tryd.sizeOf204
  v51 := Tryd.zeroValue204
  t53 := Tryd.underlying206
  a53 := Tryd.isAgg206
  z53 := Tryd.sizeOf206
  v53 := Tryd.zeroValue206
  t75 := Tryd.underlying106
  a75 := Tryd.isAgg106
  z75 := Tryd.sizeOf106
  v75 := Tryd.zeroValue106
  t85 := Tryd.underlying189
  a85 := Tryd.isAgg189
  z85 := Tryd.sizeOf189
  v85 := Tryd.zeroValue189
  t127 := Tryd.underlying152
  a127 := Tryd.isAgg152
  z127 := Tryd.sizeOf152
  v127 := Tryd.zeroValue152
  t143 := Tryd.underlying238
  a143 := Tryd.isAgg238
  z143 := Tryd.sizeOf238
  v143 := Tryd.zeroValue238
  t145 := Tryd.underlying240
  a145 := Tryd.isAgg240
  z145 := Tryd.sizeOf240
  v145 := Tryd.zeroValue240
  t167 := Tryd.underlying188
  a167 := Tryd.isAgg188
  z167 := Tryd.sizeOf188
  v167 := Tryd.zeroValue188
  t168 := Tryd.underlying191
  a168 := Tryd.isAgg191
  z168 := Tryd.sizeOf191
  v168 := Tryd.zeroValue191
  t171 := Tryd.underlying207
  a171 := Tryd.isAgg207
  z171 := Tryd.sizeOf207
  v171 := Tryd.zeroValue207
  t173 := Tryd.underlying209
  a173 := Tryd.isAgg209
  z173 := Tryd.sizeOf209
  v173 := Tryd.zeroValue209
  t175 := Tryd.underlying216
  a175 := Tryd.isAgg216
  z175 := Tryd.sizeOf216
  v175 := Tryd.zeroValue216
  t210 := Tryd.underlying219
  a210 := Tryd.isAgg219
  z210 := Tryd.sizeOf219
  v210 := Tryd.zeroValue219
  t212 := Tryd.underlying231
  a212 := Tryd.isAgg231
  z212 := Tryd.sizeOf231
  v212 := Tryd.zeroValue231
  t213 := Tryd.underlying232
  a213 := Tryd.isAgg232
  z213 := Tryd.sizeOf232
  t232 := Tryd.underlying251
  a232 := Tryd.isAgg251
  z232 := Tryd.sizeOf251
  v232 := Tryd.zeroValue251
  t233 := Tryd.underlying252
  a233 := Tryd.isAgg252
  z233 := Tryd.sizeOf252
  v233 := Tryd.zeroValue252
  g15 := by kernel_rfl
  g16 := by kernel_rfl
  g17 := by kernel_rfl
  g18 := by kernel_rfl
  g19 := by kernel_rfl
  t80 := Tryd.underlying109
  a80 := Tryd.isAgg109
  z80 := Tryd.sizeOf109
  v80 := Tryd.zeroValue109
  i0 := by kernel_rfl
  i2 := by kernel_rfl
  i3 := by kernel_rfl
  i4 := by kernel_rfl
  i5 := by kernel_rfl
  i9 := by kernel_rfl
  i20 := by kernel_rfl
  i21 := by kernel_rfl
  i37 := by kernel_rfl
  i46 := by kernel_rfl
  i51 := by kernel_rfl
  i53 := by kernel_rfl
  i75 := by kernel_rfl
  i80 := by kernel_rfl
  i85 := by kernel_rfl
  i127 := by kernel_rfl
  i143 := by kernel_rfl
  i145 := by kernel_rfl
  i167 := by kernel_rfl
  i168 := by kernel_rfl
  i171 := by kernel_rfl
  i173 := by kernel_rfl
  i175 := by kernel_rfl
  i210 := by kernel_rfl
  i212 := by kernel_rfl
  i232 := by kernel_rfl
  i233 := by kernel_rfl
  m15 := by kernel_rfl
  m16 := by kernel_rfl
  m17 := by kernel_rfl
  m18 := by kernel_rfl
  m19 := by kernel_rfl
  c0 := by kernel_rfl
  c2 := by kernel_rfl
  c3 := by kernel_rfl
  c4 := by kernel_rfl
  c5 := by kernel_rfl
  c9 := by kernel_rfl
  c20 := by kernel_rfl
  c21 := by kernel_rfl
  c37 := by kernel_rfl
  c46 := by kernel_rfl
  c51 := by kernel_rfl
  c53 := by kernel_rfl
  c75 := by kernel_rfl
  c80 := by kernel_rfl
  c85 := by kernel_rfl
  c127 := by kernel_rfl
  c143 := by kernel_rfl
  c145 := by kernel_rfl
  c167 := by kernel_rfl
  c168 := by kernel_rfl
  c171 := by kernel_rfl
  c173 := by kernel_rfl
  c175 := by kernel_rfl
  c210 := by kernel_rfl
  c212 := by kernel_rfl
  c213 := by kernel_rfl
  c232 := by kernel_rfl
  c233 := by kernel_rfl }
open Go.RowKit in
theorem Tryd.strconv_ParseInt_10_at64_ok (s : ByteArray) (hmax : s.size ≤ 9223372036854775806) (v : Int) (h : Lib.parseIntB 64 s.data.toList = .ok v) (w : World) :
    Calls Tryd.prog 179 #[.string s, .int .i64 10, .int .i64 64] w fun e w' => e = .returned (.tuple #[.int .i64 v, .nilIface]) ∧ (w' = w ∨ ∃ t, w' = Lib.bytesWorld w 5 t) := Any.strconv_ParseInt_10_at64_ok Tryd.laysC174 s hmax v h w
open Go.RowKit in
theorem Tryd.strconv_ParseInt_10_at64_syntax_var (s : ByteArray) (hlim : s.size ≤ 281474976710656) (h : Lib.parseIntB 64 s.data.toList = .«syntax») (tp : TypeId) (p : Value) (w : World) (hvar : w.var? Tryd.prog "strconv.ErrSyntax" = some #[.iface tp p]) :
    Calls Tryd.prog 179 #[.string s, .int .i64 10, .int .i64 64] w fun e w' => ∃ N, e = .returned (.tuple #[.int .i64 (0), .iface 191 (.pointer (some ⟨N, 0, none⟩))]) ∧ w.heap.size ≤ N ∧ w'.heap[N]? = some (.cells #[.string ⟨#[80, 97, 114, 115, 101, 73, 110, 116]⟩, .string s, .iface tp p] 219 (0, 0)) ∧ Below w.heap.size w w' := Any.strconv_ParseInt_10_at64_syntax_var Tryd.laysC174 s hlim h tp p w hvar
open Go.RowKit in
theorem Tryd.strconv_ParseInt_10_at64_range_var (s : ByteArray) (hlim : s.size ≤ 281474976710656) (h : Lib.parseIntB 64 s.data.toList = .range) (tp : TypeId) (p : Value) (w : World) (hvar : w.var? Tryd.prog "strconv.ErrRange" = some #[.iface tp p]) :
    Calls Tryd.prog 179 #[.string s, .int .i64 10, .int .i64 64] w fun e w' => ∃ N, e = .returned (.tuple #[.int .i64 (Lib.intSat 64 s.data.toList), .iface 191 (.pointer (some ⟨N, 0, none⟩))]) ∧ w.heap.size ≤ N ∧ w'.heap[N]? = some (.cells #[.string ⟨#[80, 97, 114, 115, 101, 73, 110, 116]⟩, .string s, .iface tp p] 219 (0, 0)) ∧ Below w.heap.size w w' := Any.strconv_ParseInt_10_at64_range_var Tryd.laysC174 s hlim h tp p w hvar
def Tryd.lays146_ren : Go.Shelf.Ren := ⟨fun | 146 => 115 | 221 => 147 | 268 => 178 | 138 => 119 | 143 => 152 | 195 => 150 | 197 => 208 | 218 => 151 | 219 => 181 | 260 => 229 | 217 => 182 | 225 => 209 | 224 => 210 | 267 => 211 | 266 => 212 | 314 => 230 | n => n, fun | 9 => 9 | 31 => 64 | 3 => 3 | 4 => 4 | 0 => 0 | 105 => 221 | 21 => 21 | 5 => 5 | 46 => 172 | 119 => 247 | 139 => 250 | 138 => 249 | 146 => 211 | 51 => 204 | n => n, fun | 1 => 0 | 3 => 4 | 4 => 5 | n => n⟩
theorem Tryd.lays146 : Go.Proofs.Lays.n146 Tryd.prog Tryd.lays146_ren := {
  mixed := by kernel_rfl
  f138 := Tryd.func119.trans (congrArg some (by kernel_rfl))
  f143 := Tryd.func152.trans (congrArg some (by kernel_rfl))
  f146 := Tryd.func115.trans (congrArg some (by kernel_rfl))
  f195 := Tryd.func150.trans (congrArg some (by kernel_rfl))
  f197 := Tryd.func208.trans (congrArg some (by kernel_rfl))
  f217 := Tryd.func182.trans (congrArg some (by kernel_rfl))
  f218 := Tryd.func151.trans (congrArg some (by kernel_rfl))
  f219 := Tryd.func181.trans (congrArg some (by kernel_rfl))
  f221 := Tryd.func147.trans (congrArg some (by kernel_rfl))
  f224 := Tryd.func210.trans (congrArg some (by kernel_rfl))
  f225 := Tryd.func209.trans (congrArg some (by kernel_rfl))
  f260 := Tryd.func229.trans (congrArg some (by kernel_rfl))
  f266 := Tryd.func212.trans (congrArg some (by kernel_rfl))
  f267 := Tryd.func211.trans (congrArg some (by kernel_rfl))
  f268 := Tryd.func178.trans (congrArg some (by kernel_rfl))
  f314 := Tryd.func230.trans (congrArg some (by kernel_rfl))
  t0 := Tryd.underlying0
  a0 := Tryd.isAgg0
  z0 := Tryd.sizeOf0
  v0 := Tryd.zeroValue0
  t3 := Tryd.underlying3
  a3 := Tryd.isAgg3
  z3 := Tryd.sizeOf3
  v3 := Tryd.zeroValue3
  t4 := Tryd.underlying4
  a4 := Tryd.isAgg4
  z4 := Tryd.sizeOf4
  v4 := Tryd.zeroValue4
  t5 := Tryd.underlying5
  a5 := Tryd.isAgg5
  z5 := Tryd.sizeOf5
  v5 := Tryd.zeroValue5
  t9 := Tryd.underlying9
  a9 := Tryd.isAgg9
  z9 := Tryd.sizeOf9
  v9 := Tryd.zeroValue9
  t21 := Tryd.underlying21
  a21 := Tryd.isAgg21
  z21 := Tryd.sizeOf21
  v21 := Tryd.zeroValue21
  t31 := Tryd.underlying64
  a31 := Tryd.isAgg64
  z31 := Tryd.sizeOf64
  v31 := Tryd.zeroValue64
  t46 := Tryd.underlying172
  a46 := Tryd.isAgg172
  z46 := Tryd.sizeOf172
  v46 := Tryd.zeroValue172
  t51 := Tryd.underlying204
  a51 := Tryd.isAgg204
  z51 := Tryd.sizeOf204
  v51 := Tryd.zeroValue204
  t105 := Tryd.underlying221
  a105 := Tryd.isAgg221
  z105 := Tryd.sizeOf221
  v105 := Tryd.zeroValue221
  t119 := Tryd.underlying247
  a119 := Tryd.isAgg247
  z119 := Tryd.sizeOf247
  t138 := Tryd.underlying249
  a138 := Tryd.isAgg249
  z138 := Tryd.sizeOf249
  v138 := Tryd.zeroValue249
  t139 := Tryd.underlying250
  a139 := Tryd.isAgg250
  z139 := Tryd.sizeOf250
  v139 := Tryd.zeroValue250
  t146 := Tryd.underlying211
  a146 := Tryd.isAgg211
  z146 := Tryd.sizeOf211
  v146 := Tryd.zeroValue211
  g1 := by kernel_rfl
  g3 := by kernel_rfl
  g4 := by kernel_rfl }
open Go.RowKit Go.Lib in
theorem Tryd.strings_Split (s sep : ByteArray) (m : Int) (w : World) (hs : s.size < 4294967281) (hm : w.cell? ⟨0, 0, none⟩ = some (.int .i64 m)) (h1 : 1 ≤ sep.size) :
    Calls Tryd.prog 115 #[.string s, .string sep] w fun e w' =>
      e = .returned (.slice (some ⟨w.heap.size, 0, none⟩) (Lib.countB s sep + 1) (Lib.countB s sep + 1)) ∧ w' = w.alloc (.cells ((Lib.splitB sep 0 (Lib.countB s sep) s).map Value.string).toArray 9) := Any.strings_Split Tryd.lays146 (by kernel_rfl) s sep m w hs hm h1
end Go.Proofs
