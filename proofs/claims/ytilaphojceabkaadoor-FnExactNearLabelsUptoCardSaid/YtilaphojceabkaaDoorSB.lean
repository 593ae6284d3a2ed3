/- Contracts of library functions at this seat: written by the kit's tools lay-shelf.mjs and lay-plain.mjs; a part of what they wrote. -/
import Derived.Shelf.Strings.Builder1
import Derived.Shelf.Strings.Builder2
import Derived.Shelf.Strings.OnBuilder
import Derived.Shelf.Small.Strs
import Derived.Shelf.Strings.BuilderF
import Derived.Shelf.Strings.BuilderK
import Derived.Shelf.Strconv.Atoi
import Derived.Shelf.Strconv.Itoa0
import Derived.Shelf.Strconv.Itoa1
import Derived.Shelf.LaysM
import Derived.Shelf.Strconv.Itoa2
import Derived.Shelf.Strconv.Itoa3
import Derived.Shelf.Strconv.Itoa4
import Derived.Shelf.Strconv.AtoiErrFast
import Derived.Shelf.Strconv.ParseIntEmpty
import Derived.Shelf.Strconv.AtoiFail
import Derived.Shelf.Strconv.Clone
import Derived.Shelf.Strconv.SyntaxError
import Derived.Shelf.LaysC
import Derived.Shelf.Strconv.ToError
import Derived.Shelf.Strconv.Lower
import Derived.Shelf.Strconv.ParseUint10
import Derived.Shelf.Strconv.ParseUint10Empty
import Derived.Shelf.Strconv.ParseUint10Any
import Derived.Shelf.Strconv.ParseInt10
import Derived.Shelf.Strconv.AtoiLong
import Derived.Shelf.Strconv.AtoiInnerAll
import Derived.Shelf.Strconv.RangeError
import Derived.Shelf.Strconv.ToErrorRange
import Derived.Shelf.Strconv.AtoiAll
import Derived.Shelf.Strconv.ErrVarAll
import Derived.Shelf.Strconv.ParseUintEmpty
import Derived.Shelf.Strconv.ParseUint10b64
import Derived.Shelf.Strconv.ParseUint10b32
import Derived.Shelf.Strconv.ParseUint10b16
import Derived.Shelf.Strconv.ParseUint10b8
import Derived.Shelf.Strconv.ParseUint10At
import Derived.Shelf.Strconv.ParseInt10At64
import Derived.Shelf.Strconv.ParseInt10At32
import Derived.Shelf.Strconv.ParseInt10At16
import Derived.Shelf.Strconv.ParseInt10At8
import Derived.Shelf.Strconv.ParseInt10All
import Derived.Shelf.Strconv.ParseIntPublic10
import Derived.Shelf.Strconv.ErrVarParseInt
import Derived.Shelf.Strings.Search1
import Derived.Shelf.Strings.Search2
import Derived.Shelf.Strings.Search3
import Derived.Shelf.Strings.Count
import Derived.Shelf.Strings.Shaped
import Derived.Shelf.Strings.Prefix
import Derived.Shelf.Strings.Split
import Derived.Shelf.Bits.Mul64
import Derived.Shelf.Strings.Repeat
import Derived.Shelf.Unicode.DecodeSlow
import Derived.Shelf.Slices.Turned
import Derived.Test.YtilaphojceabkaaDoorSA
namespace Go.Proofs
open Go.Shelf
def Tryd.lays172_ren : Go.Shelf.Ren := ⟨fun | 172 => 113 | 244 => 145 | 245 => 146 | 247 => 173 | 279 => 174 | 280 => 175 | 281 => 176 | 282 => 177 | 287 => 204 | 316 => 205 | 171 => 207 | 205 => 206 | 321 => 226 | 322 => 227 | 243 => 228 | 246 => 159 | 283 => 194 | 284 => 195 | 285 => 196 | 286 => 197 | 129 => 193 | 317 => 219 | 318 => 220 | 319 => 221 | 320 => 222 | 337 => 232 | 338 => 233 | n => n, fun | 9 => 9 | 3 => 3 | 75 => 106 | 76 => 107 | 4 => 4 | 5 => 5 | 167 => 188 | 37 => 87 | 0 => 0 | 85 => 189 | 2 => 2 | 168 => 191 | 53 => 206 | 175 => 216 | 46 => 172 | 210 => 219 | 127 => 152 | 145 => 240 | 143 => 238 | 21 => 21 | 171 => 207 | 173 => 209 | 212 => 231 | 51 => 204 | 20 => 20 | 213 => 232 | 232 => 251 | 233 => 252 | 80 => 109 | n => n, fun | 15 => 1 | 16 => 2 | 17 => 3 | 18 => 6 | 19 => 7 | n => n⟩
theorem Tryd.lays172 : Go.Proofs.Lays.n172 Tryd.prog Tryd.lays172_ren := {
  mixed := by kernel_rfl
  f129 := Tryd.func193.trans (congrArg some (by kernel_rfl))
  f171 := Tryd.func207.trans (congrArg some (by kernel_rfl))
  f172 := Tryd.func113.trans (congrArg some (by kernel_rfl))
  f205 := Tryd.func206.trans (congrArg some (by kernel_rfl))
  f243 := Tryd.func228.trans (congrArg some (by kernel_rfl))
  f244 := Tryd.func145.trans (congrArg some (by kernel_rfl))
  f245 := Tryd.func146.trans (congrArg some (by kernel_rfl))
  f246 := Tryd.func159.trans (congrArg some (by kernel_rfl))
  f247 := Tryd.func173.trans (congrArg some (by kernel_rfl))
  f279 := Tryd.func174.trans (congrArg some (by kernel_rfl))
  f280 := Tryd.func175.trans (congrArg some (by kernel_rfl))
  f281 := Tryd.func176.trans (congrArg some (by kernel_rfl))
  f282 := Tryd.func177.trans (congrArg some (by kernel_rfl))
  f283 := Tryd.func194.trans (congrArg some (by kernel_rfl))
  f284 := Tryd.func195.trans (congrArg some (by kernel_rfl))
  f285 := Tryd.func196.trans (congrArg some (by kernel_rfl))
  f286 := Tryd.func197.trans (congrArg some (by kernel_rfl))
  f287 := Tryd.func204.trans (congrArg some (by kernel_rfl))
  f316 := Tryd.func205.trans (congrArg some (by kernel_rfl))
  f317 := Tryd.func219.trans (congrArg some (by kernel_rfl))
  f318 := Tryd.func220.trans (congrArg some (by kernel_rfl))
  f319 := Tryd.func221.trans (congrArg some (by kernel_rfl))
  f320 := Tryd.func222.trans (congrArg some (by kernel_rfl))
  f321 := Tryd.func226.trans (congrArg some (by kernel_rfl))
  f322 := Tryd.func227.trans (congrArg some (by kernel_rfl))
  f337 := Tryd.func232.trans (congrArg some (by kernel_rfl))
  f338 := Tryd.func233.trans (congrArg some (by kernel_rfl))
  t0 := Tryd.underlying0
  a0 := Tryd.isAgg0
  z0 := Tryd.sizeOf0
  v0 := Tryd.zeroValue0
  t2 := Tryd.underlying2
  a2 := Tryd.isAgg2
  z2 := Tryd.sizeOf2
  v2 := Tryd.zeroValue2
  t3 := Tryd.underlying3
  a3 := Tryd.isAgg3
  z3 := Tryd.sizeOf3
  v3 := Tryd.zeroValue3
  t4 := Tryd.underlying4
  a4 := Tryd.isAgg4
  z4 := Tryd.sizeOf4
  v4 := Tryd.zeroValue4
  t5 := Tryd.underlying5
  a5 := Tryd.isAgg5
  z5 := Tryd.sizeOf5
  v5 := Tryd.zeroValue5
  t9 := Tryd.underlying9
  a9 := Tryd.isAgg9
  z9 := Tryd.sizeOf9
  v9 := Tryd.zeroValue9
  t20 := Tryd.underlying20
  a20 := Tryd.isAgg20
  z20 := Tryd.sizeOf20
  v20 := Tryd.zeroValue20
  t21 := Tryd.underlying21
  a21 := Tryd.isAgg21
  z21 := Tryd.sizeOf21
  v21 := Tryd.zeroValue21
  t37 := Tryd.underlying87
  a37 := Tryd.isAgg87
  z37 := Tryd.sizeOf87
  v37 := Tryd.zeroValue87
  t46 := Tryd.underlying172
  a46 := Tryd.isAgg172
  z46 := Tryd.sizeOf172
  v46 := Tryd.zeroValue172
  t51 := Tryd.underlying204
  a51 := Tryd.isAgg204
  z51 := Tryd.sizeOf204
  v51 := Tryd.zeroValue204
  t53 := Tryd.underlying206
  a53 := Tryd.isAgg206
  z53 := Tryd.sizeOf206
  v53 := Tryd.zeroValue206
  t75 := Tryd.underlying106
  a75 := Tryd.isAgg106
  z75 := Tryd.sizeOf106
  v75 := Tryd.zeroValue106
  t76 := Tryd.underlying107
  a76 := Tryd.isAgg107
  z76 := Tryd.sizeOf107
  v76 := Tryd.zeroValue107
  t85 := Tryd.underlying189
  a85 := Tryd.isAgg189
  z85 := Tryd.sizeOf189
  v85 := Tryd.zeroValue189
  t127 := Tryd.underlying152
  a127 := Tryd.isAgg152
  z127 := Tryd.sizeOf152
  v127 := Tryd.zeroValue152
  t143 := Tryd.underlying238
  a143 := Tryd.isAgg238
  z143 := Tryd.sizeOf238
  v143 := Tryd.zeroValue238
  t145 := Tryd.underlying240
  a145 := Tryd.isAgg240
  z145 := Tryd.sizeOf240
  v145 := Tryd.zeroValue240
  t167 := Tryd.underlying188
  a167 := Tryd.isAgg188
  z167 := Tryd.sizeOf188
  v167 := Tryd.zeroValue188
  t168 := Tryd.underlying191
  a168 := Tryd.isAgg191
  z168 := Tryd.sizeOf191
  v168 := Tryd.zeroValue191
  t171 := Tryd.underlying207
  a171 := Tryd.isAgg207
  z171 := Tryd.sizeOf207
  v171 := Tryd.zeroValue207
  t173 := Tryd.underlying209
  a173 := Tryd.isAgg209
  z173 := Tryd.sizeOf209
  v173 := Tryd.zeroValue209
  t175 := Tryd.underlying216
  a175 := Tryd.isAgg216
  z175 := Tryd.sizeOf216
  v175 := Tryd.zeroValue216
  t210 := Tryd.underlying219
  a210 := Tryd.isAgg219
  z210 := Tryd.sizeOf219
  v210 := Tryd.zeroValue219
  t212 := Tryd.underlying231
  a212 := Tryd.isAgg231
  z212 := Tryd.sizeOf231
  v212 := Tryd.zeroValue231
  t213 := Tryd.underlying232
  a213 := Tryd.isAgg232
  z213 := Tryd.sizeOf232
  t232 := Tryd.underlying251
  a232 := Tryd.isAgg251
  z232 := Tryd.sizeOf251
  v232 := Tryd.zeroValue251
  t233 := Tryd.underlying252
  a233 := Tryd.isAgg252
  z233 := Tryd.sizeOf252
  v233 := Tryd.zeroValue252
  g15 := by kernel_rfl
  g16 := by kernel_rfl
  g17 := by kernel_rfl
  g18 := by kernel_rfl
  g19 := by kernel_rfl }
open Go.RowKit in
theorem Tryd.strconv_Atoi (s : ByteArray) (n : Int) (hl : s.size ≤ 18) (h : Lib.atoi s.data.toList = some n) (w : World) :
    Calls Tryd.prog 113 #[.string s] w fun e w' => e = .returned (.tuple #[.int .i64 n, .nilIface]) ∧ ∃ t, w' = Lib.bytesWorld w 5 t := Any.strconv_Atoi Tryd.lays172 s n hl h w
def Tryd.laysC172_ren : Go.Shelf.Ren := ⟨fun | 172 => 113 | 244 => 145 | 245 => 146 | 247 => 173 | 279 => 174 | 280 => 175 | 281 => 176 | 282 => 177 | 287 => 204 | 316 => 205 | 171 => 207 | 205 => 206 | 321 => 226 | 322 => 227 | 243 => 228 | 246 => 159 | 283 => 194 | 284 => 195 | 285 => 196 | 286 => 197 | 129 => 193 | 317 => 219 | 318 => 220 | 319 => 221 | 320 => 222 | 337 => 232 | 338 => 233 | n => n, fun | 9 => 9 | 3 => 3 | 75 => 106 | 76 => 107 | 4 => 4 | 5 => 5 | 167 => 188 | 37 => 87 | 0 => 0 | 85 => 189 | 2 => 2 | 168 => 191 | 53 => 206 | 175 => 216 | 46 => 172 | 210 => 219 | 127 => 152 | 145 => 240 | 143 => 238 | 21 => 21 | 171 => 207 | 173 => 209 | 212 => 231 | 51 => 204 | 20 => 20 | 213 => 232 | 232 => 251 | 233 => 252 | 80 => 109 | n => n, fun | 15 => 1 | 16 => 2 | 17 => 3 | 18 => 6 | 19 => 7 | n => n⟩
theorem Tryd.laysC172 : Go.Proofs.LaysC.n172 Tryd.prog Tryd.laysC172_ren := {
  mixed := by kernel_rfl
  f129 := Tryd.func193.trans (congrArg some (by kernel_rfl))
  f171 := Tryd.func207.trans (congrArg some (by kernel_rfl))
  f172 := Tryd.func113.trans (congrArg some (by kernel_rfl))
  f205 := Tryd.func206.trans (congrArg some (by kernel_rfl))
  f243 := Tryd.func228.trans (congrArg some (by kernel_rfl))
  f244 := Tryd.func145.trans (congrArg some (by kernel_rfl))
  f245 := Tryd.func146.trans (congrArg some (by kernel_rfl))
  f246 := Tryd.func159.trans (congrArg some (by kernel_rfl))
  f247 := Tryd.func173.trans (congrArg some (by kernel_rfl))
  f279 := Tryd.func174.trans (congrArg some (by kernel_rfl))
  f280 := Tryd.func175.trans (congrArg some (by kernel_rfl))
  f281 := Tryd.func176.trans (congrArg some (by kernel_rfl))
  f282 := Tryd.func177.trans (congrArg some (by kernel_rfl))
  f283 := Tryd.func194.trans (congrArg some (by kernel_rfl))
  f284 := Tryd.func195.trans (congrArg some (by kernel_rfl))
  f285 := Tryd.func196.trans (congrArg some (by kernel_rfl))
  f286 := Tryd.func197.trans (congrArg some (by kernel_rfl))
  f287 := Tryd.func204.trans (congrArg some (by kernel_rfl))
  f316 := Tryd.func205.trans (congrArg some (by kernel_rfl))
  f317 := Tryd.func219.trans (congrArg some (by kernel_rfl))
  f318 := Tryd.func220.trans (congrArg some (by kernel_rfl))
  f319 := Tryd.func221.trans (congrArg some (by kernel_rfl))
  f320 := Tryd.func222.trans (congrArg some (by kernel_rfl))
  f321 := Tryd.func226.trans (congrArg some (by kernel_rfl))
  f322 := Tryd.func227.trans (congrArg some (by kernel_rfl))
  f337 := Tryd.func232.trans (congrArg some (by kernel_rfl))
  f338 := Tryd.func233.trans (congrArg some (by kernel_rfl))
  t0 := Tryd.underlying0
  a0 := Tryd.isAgg0
  z0 := Tryd.sizeOf0
  v0 := Tryd.zeroValue0
  t2 := Tryd.underlying2
  a2 := Tryd.isAgg2
  z2 := Tryd.sizeOf2
  v2 := Tryd.zeroValue2
  t3 := Tryd.underlying3
  a3 := Tryd.isAgg3
  z3 := Tryd.sizeOf3
  v3 := Tryd.zeroValue3
  t4 := Tryd.underlying4
  a4 := Tryd.isAgg4
  z4 := Tryd.sizeOf4
  v4 := Tryd.zeroValue4
  t5 := Tryd.underlying5
  a5 := Tryd.isAgg5
  z5 := Tryd.sizeOf5
  v5 := Tryd.zeroValue5
  t9 := Tryd.underlying9
  a9 := Tryd.isAgg9
  z9 := Tryd.sizeOf9
  v9 := Tryd.zeroValue9
  t20 := Tryd.underlying20
  a20 := Tryd.isAgg20
  z20 := Tryd.sizeOf20
  v20 := Tryd.zeroValue20
  t21 := Tryd.underlying21
  a21 := Tryd.isAgg21
  z21 := Tryd.sizeOf21
  v21 := Tryd.zeroValue21
  t37 := Tryd.underlying87
  a37 := Tryd.isAgg87
  z37 := Tryd.sizeOf87
  v37 := Tryd.zeroValue87
  t46 := Tryd.underlying172
  a46 := Tryd.isAgg172
  z46 := Tryd.sizeOf172
  v46 := Tryd.zeroValue172
  t51 := Tryd.underlying204
  a51 := Tryd.isAgg204
  z51 := Tryd.sizeOf204
  v51 := Tryd.zeroValue204
  t53 := Tryd.underlying206
  a53 := Tryd.isAgg206
  z53 := Tryd.sizeOf206
  v53 := Tryd.zeroValue206
  t75 := Tryd.underlying106
  a75 := Tryd.isAgg106
  z75 := Tryd.sizeOf106
  v75 := Tryd.zeroValue106
  t76 := Tryd.underlying107
  a76 := Tryd.isAgg107
  z76 := Tryd.sizeOf107
  v76 := Tryd.zeroValue107
  t85 := Tryd.underlying189
  a85 := Tryd.isAgg189
  z85 := Tryd.sizeOf189
  v85 := Tryd.zeroValue189
  t127 := Tryd.underlying152
  a127 := Tryd.isAgg152
  z127 := Tryd.sizeOf152
  v127 := Tryd.zeroValue152
  t143 := Tryd.underlying238
  a143 := Tryd.isAgg238
  z143 := Tryd.sizeOf238
  v143 := Tryd.zeroValue238
  t145 := Tryd.underlying240
  a145 := Tryd.isAgg240
  z145 := Tryd.sizeOf240
  v145 := Tryd.zeroValue240
  t167 := Tryd.underlying188
  a167 := Tryd.isAgg188
  z167 := Tryd.sizeOf188
  v167 := Tryd.zeroValue188
  t168 := Tryd.underlying191
  a168 := Tryd.isAgg191
  z168 := Tryd.sizeOf191
  v168 := Tryd.zeroValue191
  t171 := Tryd.underlying207
  a171 := Tryd.isAgg207
  z171 := Tryd.sizeOf207
  v171 := Tryd.zeroValue207
  t173 := Tryd.underlying209
  a173 := Tryd.isAgg209
  z173 := Tryd.sizeOf209
  v173 := Tryd.zeroValue209
  t175 := Tryd.underlying216
  a175 := Tryd.isAgg216
  z175 := Tryd.sizeOf216
  v175 := Tryd.zeroValue216
  t210 := Tryd.underlying219
  a210 := Tryd.isAgg219
  z210 := Tryd.sizeOf219
  v210 := Tryd.zeroValue219
  t212 := Tryd.underlying231
  a212 := Tryd.isAgg231
  z212 := Tryd.sizeOf231
  v212 := Tryd.zeroValue231
  t213 := Tryd.underlying232
  a213 := Tryd.isAgg232
  z213 := Tryd.sizeOf232
  t232 := Tryd.underlying251
  a232 := Tryd.isAgg251
  z232 := Tryd.sizeOf251
  v232 := Tryd.zeroValue251
  t233 := Tryd.underlying252
  a233 := Tryd.isAgg252
  z233 := Tryd.sizeOf252
  v233 := Tryd.zeroValue252
  g15 := by kernel_rfl
  g16 := by kernel_rfl
  g17 := by kernel_rfl
  g18 := by kernel_rfl
  g19 := by kernel_rfl
  t80 := Tryd.underlying109
  a80 := Tryd.isAgg109
  z80 := Tryd.sizeOf109
  v80 := Tryd.zeroValue109
  i0 := by kernel_rfl
  i2 := by kernel_rfl
  i3 := by kernel_rfl
  i4 := by kernel_rfl
  i5 := by kernel_rfl
  i9 := by kernel_rfl
  i20 := by kernel_rfl
  i21 := by kernel_rfl
  i37 := by kernel_rfl
  i46 := by kernel_rfl
  i51 := by kernel_rfl
  i53 := by kernel_rfl
  i75 := by kernel_rfl
  i76 := by kernel_rfl
  i80 := by kernel_rfl
  i85 := by kernel_rfl
  i127 := by kernel_rfl
  i143 := by kernel_rfl
  i145 := by kernel_rfl
  i167 := by kernel_rfl
  i168 := by kernel_rfl
  i171 := by kernel_rfl
  i173 := by kernel_rfl
  i175 := by kernel_rfl
  i210 := by kernel_rfl
  i212 := by kernel_rfl
  i232 := by kernel_rfl
  i233 := by kernel_rfl
  m15 := by kernel_rfl
  m16 := by kernel_rfl
  m17 := by kernel_rfl
  m18 := by kernel_rfl
  m19 := by kernel_rfl
  c0 := by kernel_rfl
  c2 := by kernel_rfl
  c3 := by kernel_rfl
  c4 := by kernel_rfl
  c5 := by kernel_rfl
  c9 := by kernel_rfl
  c20 := by kernel_rfl
  c21 := by kernel_rfl
  c37 := by kernel_rfl
  c46 := by kernel_rfl
  c51 := by kernel_rfl
  c53 := by kernel_rfl
  c75 := by kernel_rfl
  c76 := by kernel_rfl
  c80 := by kernel_rfl
  c85 := by kernel_rfl
  c127 := by kernel_rfl
  c143 := by kernel_rfl
  c145 := by kernel_rfl
  c167 := by kernel_rfl
  c168 := by kernel_rfl
  c171 := by kernel_rfl
  c173 := by kernel_rfl
  c175 := by kernel_rfl
  c210 := by kernel_rfl
  c212 := by kernel_rfl
  c213 := by kernel_rfl
  c232 := by kernel_rfl
  c233 := by kernel_rfl }
open Go.RowKit in
theorem Tryd.strconv_Atoi_syntax_var (s : ByteArray) (hlim : s.size ≤ 281474976710656) (h : Lib.atoiAll s.data.toList = .«syntax») (tp : TypeId) (p : Value) (w : World) (hvar : w.var? Tryd.prog "strconv.ErrSyntax" = some #[.iface tp p]) :
    Calls Tryd.prog 113 #[.string s] w fun e w' => ∃ N, e = .returned (.tuple #[.int .i64 0, .iface 191 (.pointer (some ⟨N, 0, none⟩))]) ∧ w.heap.size ≤ N ∧ w'.heap[N]? = some (.cells #[.string ⟨#[65, 116, 111, 105]⟩, .string s, .iface tp p] 219 (0, 0)) ∧ Below w.heap.size w w' := Any.strconv_Atoi_syntax_var Tryd.laysC172 s hlim h tp p w hvar
end Go.Proofs
