import Derived.Shelf.Strings.Builder1
import Derived.Shelf.Strings.Builder2
import Derived.Shelf.Strings.Trim
import Derived.Shelf.Small.Utf8
import Derived.Shelf.Small.Bits
import Derived.Shelf.Small.Strs
import Derived.Shelf.Small.Wraps
import Derived.Shelf.Strings.BuilderF
import Derived.Shelf.Strings.BuilderK
import Derived.Shelf.Strings.Builder2Cap
import Derived.Shelf.Strconv.Atoi
import Derived.Shelf.Strconv.Itoa0
import Derived.Shelf.Strconv.Itoa1
import Derived.Shelf.LaysM
import Derived.Shelf.Strconv.Itoa2
import Derived.Shelf.Strconv.Itoa3
import Derived.Shelf.Strconv.AtoiErrFast
import Derived.Shelf.Strconv.ParseIntEmpty
import Derived.Shelf.Strconv.AtoiFail
import Derived.Shelf.Strconv.Clone
import Derived.Shelf.Strconv.SyntaxError
import Derived.Shelf.LaysC
import Derived.Shelf.Strconv.ToError
import Derived.Shelf.Strconv.AtoiErr
import Derived.Shelf.Strconv.ErrVar
import Derived.Shelf.Strconv.Lower
import Derived.Shelf.Strconv.ParseUint10
import Derived.Shelf.Strconv.ParseUint10Empty
import Derived.Shelf.Strconv.ParseUint10Any
import Derived.Shelf.Strconv.ParseInt10
import Derived.Shelf.Strconv.AtoiLong
import Derived.Shelf.Strconv.AtoiInnerAll
import Derived.Shelf.Strconv.RangeError
import Derived.Shelf.Strconv.ToErrorRange
import Derived.Shelf.Strconv.AtoiAll
import Derived.Shelf.Strconv.ErrVarAll
import Derived.Shelf.Strconv.ParseUintEmpty
import Derived.Shelf.Strconv.ParseUint10b64
import Derived.Shelf.Strconv.ParseUint10b32
import Derived.Shelf.Strconv.ParseUint10b16
import Derived.Shelf.Strconv.ParseUint10b8
import Derived.Shelf.Strconv.ParseUint10At
import Derived.Shelf.Strconv.ParseInt10At64
import Derived.Shelf.Strconv.ParseInt10At32
import Derived.Shelf.Strconv.ParseInt10At16
import Derived.Shelf.Strconv.ParseInt10At8
import Derived.Shelf.Strconv.ParseInt10All
import Derived.Shelf.Strings.Search1
import Derived.Shelf.Strings.Search2
import Derived.Shelf.Strings.Search3
import Derived.Shelf.Strings.Cut
import Derived.Shelf.Strings.Count
import Derived.Shelf.Strings.Shaped
import Derived.Shelf.Strings.LastIndex
import Derived.Shelf.Strings.Prefix
import Derived.Shelf.Strings.Split
import Derived.Shelf.Strings.Replace
import Derived.Shelf.Strings.SplitShaped
import Derived.Shelf.Strings.Runes
import Derived.Shelf.Strings.IndexAny
import Derived.Shelf.Strings.AsciiSet
import Derived.Shelf.Strings.IndexAnyAll
import Derived.Shelf.Bits.Mul64
import Derived.Shelf.Strings.Repeat
import Derived.Shelf.Unicode.DecodeSlow
import Derived.Shelf.Strings.BuilderCap
import Derived.Ground.PaProg
import Derived.Shelf.Path.Small
import Derived.Test.YtphmhmdcaafmdaaGreatDoorProg
namespace Go.Proofs
open Go.Shelf
def Tryz.lays162_ren : Go.Shelf.Ren:=⟨fun | 162 => 145 | 232 => 162 | 227 => 163 | 234 => 165 | 236 => 167 | 228 => 210 | 271 => 212 | 151 => 211 | 120 => 237 | 197 => 172 | 152 => 236 | 260 => 216 | 137 => 89 | 119 => 253 | 224 => 239 | 225 => 238 | 217 => 143 | 266 => 199 | n => n,fun | 9 => 9 | 4 => 4 | 3 => 3 | 5 => 5 | 117 => 261 | 116 => 260 | 0 => 0 | 124 => 264 | 21 => 21 | 105 => 268 | 46 => 123 | 119 => 327 | 139 => 330 | 138 => 329 | n => n,fun | 3 => 3 | 4 => 4 | n => n⟩
theorem Tryz.lays162 : Go.Proofs.Lays.n162 Tryz.prog Tryz.lays162_ren:={
  mixed:=by kernel_rfl
  f119:=Tryz.func253.trans (congrArg some (by kernel_rfl))
  f120:=Tryz.func237.trans (congrArg some (by kernel_rfl))
  f137:=Tryz.func89.trans (congrArg some (by kernel_rfl))
  f151:=Tryz.func211.trans (congrArg some (by kernel_rfl))
  f152:=Tryz.func236.trans (congrArg some (by kernel_rfl))
  f162:=Tryz.func145.trans (congrArg some (by kernel_rfl))
  f197:=Tryz.func172.trans (congrArg some (by kernel_rfl))
  f217:=Tryz.func143.trans (congrArg some (by kernel_rfl))
  f224:=Tryz.func239.trans (congrArg some (by kernel_rfl))
  f225:=Tryz.func238.trans (congrArg some (by kernel_rfl))
  f227:=Tryz.func163.trans (congrArg some (by kernel_rfl))
  f228:=Tryz.func210.trans (congrArg some (by kernel_rfl))
  f232:=Tryz.func162.trans (congrArg some (by kernel_rfl))
  f234:=Tryz.func165.trans (congrArg some (by kernel_rfl))
  f236:=Tryz.func167.trans (congrArg some (by kernel_rfl))
  f260:=Tryz.func216.trans (congrArg some (by kernel_rfl))
  f266:=Tryz.func199.trans (congrArg some (by kernel_rfl))
  f271:=Tryz.func212.trans (congrArg some (by kernel_rfl))
  t0:=Tryz.underlying0
  a0:=Tryz.isAgg0
  z0:=Tryz.sizeOf0
  v0:=Tryz.zeroValue0
  t3:=Tryz.underlying3
  a3:=Tryz.isAgg3
  z3:=Tryz.sizeOf3
  v3:=Tryz.zeroValue3
  t4:=Tryz.underlying4
  a4:=Tryz.isAgg4
  z4:=Tryz.sizeOf4
  v4:=Tryz.zeroValue4
  t5:=Tryz.underlying5
  a5:=Tryz.isAgg5
  z5:=Tryz.sizeOf5
  v5:=Tryz.zeroValue5
  t9:=Tryz.underlying9
  a9:=Tryz.isAgg9
  z9:=Tryz.sizeOf9
  v9:=Tryz.zeroValue9
  t21:=Tryz.underlying21
  a21:=Tryz.isAgg21
  z21:=Tryz.sizeOf21
  v21:=Tryz.zeroValue21
  t46:=Tryz.underlying123
  a46:=Tryz.isAgg123
  z46:=Tryz.sizeOf123
  v46:=Tryz.zeroValue123
  t105:=Tryz.underlying268
  a105:=Tryz.isAgg268
  z105:=Tryz.sizeOf268
  v105:=Tryz.zeroValue268
  t116:=Tryz.underlying260
  a116:=Tryz.isAgg260
  z116:=Tryz.sizeOf260
  t117:=Tryz.underlying261
  a117:=Tryz.isAgg261
  z117:=Tryz.sizeOf261
  v117:=Tryz.zeroValue261
  t119:=Tryz.underlying327
  a119:=Tryz.isAgg327
  z119:=Tryz.sizeOf327
  t124:=Tryz.underlying264
  a124:=Tryz.isAgg264
  z124:=Tryz.sizeOf264
  v124:=Tryz.zeroValue264
  t138:=Tryz.underlying329
  a138:=Tryz.isAgg329
  z138:=Tryz.sizeOf329
  v138:=Tryz.zeroValue329
  t139:=Tryz.underlying330
  a139:=Tryz.isAgg330
  z139:=Tryz.sizeOf330
  v139:=Tryz.zeroValue330
  g3:=by kernel_rfl
  g4:=by kernel_rfl }
open Go.RowKit in
theorem Tryz.strings_TrimRight_one (s : ByteArray) (c : UInt8) (hc : c.toNat < 128) (w : World) (hs : s.size≤9223372036854775807) :
    Calls Tryz.prog 145 #[.string s,.string ⟨#[c]⟩] w fun e w' => e=.returned (.string ⟨(Lib.trimRightB s.data.toList c).toArray⟩)∧w'=w:=Any.strings_TrimRight_one Tryz.lays162 s c hc w hs
def Tryz.lays160_ren : Go.Shelf.Ren:=⟨fun | 160 => 113 | 232 => 162 | 231 => 161 | 227 => 163 | 234 => 165 | 233 => 164 | 236 => 167 | 235 => 166 | 228 => 210 | 271 => 212 | 151 => 211 | 197 => 172 | 120 => 237 | 152 => 236 | 260 => 216 | 137 => 89 | 119 => 253 | 224 => 239 | 225 => 238 | 217 => 143 | 266 => 199 | n => n,fun | 9 => 9 | 4 => 4 | 3 => 3 | 5 => 5 | 117 => 261 | 116 => 260 | 0 => 0 | 124 => 264 | 21 => 21 | 105 => 268 | 46 => 123 | 119 => 327 | 139 => 330 | 138 => 329 | n => n,fun | 3 => 3 | 4 => 4 | n => n⟩
theorem Tryz.lays160 : Go.Proofs.Lays.n160 Tryz.prog Tryz.lays160_ren:={
  mixed:=by kernel_rfl
  f119:=Tryz.func253.trans (congrArg some (by kernel_rfl))
  f120:=Tryz.func237.trans (congrArg some (by kernel_rfl))
  f137:=Tryz.func89.trans (congrArg some (by kernel_rfl))
  f151:=Tryz.func211.trans (congrArg some (by kernel_rfl))
  f152:=Tryz.func236.trans (congrArg some (by kernel_rfl))
  f160:=Tryz.func113.trans (congrArg some (by kernel_rfl))
  f197:=Tryz.func172.trans (congrArg some (by kernel_rfl))
  f217:=Tryz.func143.trans (congrArg some (by kernel_rfl))
  f224:=Tryz.func239.trans (congrArg some (by kernel_rfl))
  f225:=Tryz.func238.trans (congrArg some (by kernel_rfl))
  f227:=Tryz.func163.trans (congrArg some (by kernel_rfl))
  f228:=Tryz.func210.trans (congrArg some (by kernel_rfl))
  f231:=Tryz.func161.trans (congrArg some (by kernel_rfl))
  f232:=Tryz.func162.trans (congrArg some (by kernel_rfl))
  f233:=Tryz.func164.trans (congrArg some (by kernel_rfl))
  f234:=Tryz.func165.trans (congrArg some (by kernel_rfl))
  f235:=Tryz.func166.trans (congrArg some (by kernel_rfl))
  f236:=Tryz.func167.trans (congrArg some (by kernel_rfl))
  f260:=Tryz.func216.trans (congrArg some (by kernel_rfl))
  f266:=Tryz.func199.trans (congrArg some (by kernel_rfl))
  f271:=Tryz.func212.trans (congrArg some (by kernel_rfl))
  t0:=Tryz.underlying0
  a0:=Tryz.isAgg0
  z0:=Tryz.sizeOf0
  v0:=Tryz.zeroValue0
  t3:=Tryz.underlying3
  a3:=Tryz.isAgg3
  z3:=Tryz.sizeOf3
  v3:=Tryz.zeroValue3
  t4:=Tryz.underlying4
  a4:=Tryz.isAgg4
  z4:=Tryz.sizeOf4
  v4:=Tryz.zeroValue4
  t5:=Tryz.underlying5
  a5:=Tryz.isAgg5
  z5:=Tryz.sizeOf5
  v5:=Tryz.zeroValue5
  t9:=Tryz.underlying9
  a9:=Tryz.isAgg9
  z9:=Tryz.sizeOf9
  v9:=Tryz.zeroValue9
  t21:=Tryz.underlying21
  a21:=Tryz.isAgg21
  z21:=Tryz.sizeOf21
  v21:=Tryz.zeroValue21
  t46:=Tryz.underlying123
  a46:=Tryz.isAgg123
  z46:=Tryz.sizeOf123
  v46:=Tryz.zeroValue123
  t105:=Tryz.underlying268
  a105:=Tryz.isAgg268
  z105:=Tryz.sizeOf268
  v105:=Tryz.zeroValue268
  t116:=Tryz.underlying260
  a116:=Tryz.isAgg260
  z116:=Tryz.sizeOf260
  t117:=Tryz.underlying261
  a117:=Tryz.isAgg261
  z117:=Tryz.sizeOf261
  v117:=Tryz.zeroValue261
  t119:=Tryz.underlying327
  a119:=Tryz.isAgg327
  z119:=Tryz.sizeOf327
  t124:=Tryz.underlying264
  a124:=Tryz.isAgg264
  z124:=Tryz.sizeOf264
  v124:=Tryz.zeroValue264
  t138:=Tryz.underlying329
  a138:=Tryz.isAgg329
  z138:=Tryz.sizeOf329
  v138:=Tryz.zeroValue329
  t139:=Tryz.underlying330
  a139:=Tryz.isAgg330
  z139:=Tryz.sizeOf330
  v139:=Tryz.zeroValue330
  g3:=by kernel_rfl
  g4:=by kernel_rfl }
open Go.RowKit in
theorem Tryz.strings_Trim_one (s : ByteArray) (c : UInt8) (hc : c.toNat < 128) (w : World) (hs : s.size≤9223372036854775807) :
    Calls Tryz.prog 113 #[.string s,.string ⟨#[c]⟩] w fun e w' => e=.returned (.string ⟨(Lib.trimB s.data.toList c).toArray⟩)∧(w'=w∨w'=w.drew):=Any.strings_Trim_one Tryz.lays160 s c hc w hs
def Tryz.lays119_ren : Go.Shelf.Ren:=⟨fun | 119 => 253 | n => n,fun | 21 => 21 | 4 => 4 | n => n,fun | n => n⟩
theorem Tryz.lays119 : Go.Proofs.Lays.n119 Tryz.prog Tryz.lays119_ren:={
  mixed:=by kernel_rfl
  f119:=Tryz.func253.trans (congrArg some (by kernel_rfl))
  t4:=Tryz.underlying4
  a4:=Tryz.isAgg4
  z4:=Tryz.sizeOf4
  v4:=Tryz.zeroValue4
  t21:=Tryz.underlying21
  a21:=Tryz.isAgg21
  z21:=Tryz.sizeOf21
  v21:=Tryz.zeroValue21 }
theorem Tryz.utf8_ValidRune (r : Int) (w : World) :
    Calls Tryz.prog 253 #[.int .i32 r] w fun e w' => e=.returned (.bool (Lib.validRune r))∧w'=w:=Any.utf8_ValidRune Tryz.lays119 r w
def Tryz.lays137_ren : Go.Shelf.Ren:=⟨fun | 137 => 89 | 217 => 143 | 266 => 199 | n => n,fun | 9 => 9 | 5 => 5 | 3 => 3 | n => n,fun | n => n⟩
theorem Tryz.lays137 : Go.Proofs.Lays.n137 Tryz.prog Tryz.lays137_ren:={
  mixed:=by kernel_rfl
  f137:=Tryz.func89.trans (congrArg some (by kernel_rfl))
  f217:=Tryz.func143.trans (congrArg some (by kernel_rfl))
  f266:=Tryz.func199.trans (congrArg some (by kernel_rfl))
  t3:=Tryz.underlying3
  a3:=Tryz.isAgg3
  z3:=Tryz.sizeOf3
  v3:=Tryz.zeroValue3
  t5:=Tryz.underlying5
  a5:=Tryz.isAgg5
  z5:=Tryz.sizeOf5
  v5:=Tryz.zeroValue5
  t9:=Tryz.underlying9
  a9:=Tryz.isAgg9
  z9:=Tryz.sizeOf9
  v9:=Tryz.zeroValue9 }
open Go.RowKit in
theorem Tryz.strings_IndexByte (s : ByteArray) (c : Int) (w : World) :
    Calls Tryz.prog 89 #[.string s,.int .u8 c] w fun e w' => e=.returned (.int .i64 (Lib.indexByte s.data.toList c.toNat.toUInt8))∧w'=w:=Any.strings_IndexByte Tryz.lays137 s c w
def Tryz.lays103_ren : Go.Shelf.Ren:=⟨fun | 103 => 159 | 210 => 209 | 206 => 116 | n => n,fun | 9 => 9 | 4 => 4 | 24 => 190 | 3 => 3 | n => n,fun | n => n⟩
theorem Tryz.lays103 : Go.Proofs.Lays.n103 Tryz.prog Tryz.lays103_ren:={
  mixed:=by kernel_rfl
  f103:=Tryz.func159.trans (congrArg some (by kernel_rfl))
  f206:=Tryz.func116.trans (congrArg some (by kernel_rfl))
  f210:=Tryz.func209.trans (congrArg some (by kernel_rfl))
  t3:=Tryz.underlying3
  a3:=Tryz.isAgg3
  z3:=Tryz.sizeOf3
  v3:=Tryz.zeroValue3
  t4:=Tryz.underlying4
  a4:=Tryz.isAgg4
  z4:=Tryz.sizeOf4
  v4:=Tryz.zeroValue4
  t9:=Tryz.underlying9
  a9:=Tryz.isAgg9
  z9:=Tryz.sizeOf9
  v9:=Tryz.zeroValue9
  t24:=Tryz.underlying190
  a24:=Tryz.isAgg190
  z24:=Tryz.sizeOf190
  v24:=Tryz.zeroValue190 }
open Go.RowKit in
theorem Tryz.strings_CutPrefix (s p : ByteArray) (w : World) :
    Calls Tryz.prog 159 #[.string s,.string p] w fun e w' => e=.returned (.tuple #[.string ⟨(Lib.trimPrefix s.data.toList p.data.toList).toArray⟩,.bool (Lib.hasPrefix s.data.toList p.data.toList)])∧w'=w:=Any.strings_CutPrefix Tryz.lays103 s p w
def Tryz.lays172_ren : Go.Shelf.Ren:=⟨fun | 172 => 109 | 244 => 157 | 245 => 158 | 247 => 204 | 279 => 205 | 280 => 206 | 281 => 207 | 282 => 208 | 287 => 233 | 316 => 234 | 171 => 144 | 205 => 235 | 321 => 251 | 322 => 252 | 243 => 200 | 246 => 231 | 283 => 246 | 284 => 247 | 285 => 248 | 286 => 249 | 129 => 129 | 317 => 259 | 318 => 260 | 319 => 261 | 320 => 262 | 337 => 264 | 338 => 265 | n => n,fun | 9 => 9 | 3 => 3 | 75 => 132 | 76 => 133 | 4 => 4 | 5 => 5 | 167 => 298 | 37 => 27 | 0 => 0 | 85 => 299 | 2 => 2 | 168 => 301 | 53 => 200 | 175 => 321 | 46 => 123 | 210 => 324 | 127 => 203 | 145 => 342 | 143 => 340 | 21 => 21 | 171 => 335 | 173 => 337 | 212 => 347 | 51 => 197 | 20 => 20 | 213 => 348 | 232 => 351 | 233 => 352 | 80 => 136 | n => n,fun | 15 => 1 | 16 => 2 | 17 => 5 | 18 => 6 | 19 => 7 | n => n⟩
theorem Tryz.lays172 : Go.Proofs.Lays.n172 Tryz.prog Tryz.lays172_ren:={
  mixed:=by kernel_rfl
  f129:=Tryz.func129.trans (congrArg some (by kernel_rfl))
  f171:=Tryz.func144.trans (congrArg some (by kernel_rfl))
  f172:=Tryz.func109.trans (congrArg some (by kernel_rfl))
  f205:=Tryz.func235.trans (congrArg some (by kernel_rfl))
  f243:=Tryz.func200.trans (congrArg some (by kernel_rfl))
  f244:=Tryz.func157.trans (congrArg some (by kernel_rfl))
  f245:=Tryz.func158.trans (congrArg some (by kernel_rfl))
  f246:=Tryz.func231.trans (congrArg some (by kernel_rfl))
  f247:=Tryz.func204.trans (congrArg some (by kernel_rfl))
  f279:=Tryz.func205.trans (congrArg some (by kernel_rfl))
  f280:=Tryz.func206.trans (congrArg some (by kernel_rfl))
  f281:=Tryz.func207.trans (congrArg some (by kernel_rfl))
  f282:=Tryz.func208.trans (congrArg some (by kernel_rfl))
  f283:=Tryz.func246.trans (congrArg some (by kernel_rfl))
  f284:=Tryz.func247.trans (congrArg some (by kernel_rfl))
  f285:=Tryz.func248.trans (congrArg some (by kernel_rfl))
  f286:=Tryz.func249.trans (congrArg some (by kernel_rfl))
  f287:=Tryz.func233.trans (congrArg some (by kernel_rfl))
  f316:=Tryz.func234.trans (congrArg some (by kernel_rfl))
  f317:=Tryz.func259.trans (congrArg some (by kernel_rfl))
  f318:=Tryz.func260.trans (congrArg some (by kernel_rfl))
  f319:=Tryz.func261.trans (congrArg some (by kernel_rfl))
  f320:=Tryz.func262.trans (congrArg some (by kernel_rfl))
  f321:=Tryz.func251.trans (congrArg some (by kernel_rfl))
  f322:=Tryz.func252.trans (congrArg some (by kernel_rfl))
  f337:=Tryz.func264.trans (congrArg some (by kernel_rfl))
  f338:=Tryz.func265.trans (congrArg some (by kernel_rfl))
  t0:=Tryz.underlying0
  a0:=Tryz.isAgg0
  z0:=Tryz.sizeOf0
  v0:=Tryz.zeroValue0
  t2:=Tryz.underlying2
  a2:=Tryz.isAgg2
  z2:=Tryz.sizeOf2
  v2:=Tryz.zeroValue2
  t3:=Tryz.underlying3
  a3:=Tryz.isAgg3
  z3:=Tryz.sizeOf3
  v3:=Tryz.zeroValue3
  t4:=Tryz.underlying4
  a4:=Tryz.isAgg4
  z4:=Tryz.sizeOf4
  v4:=Tryz.zeroValue4
  t5:=Tryz.underlying5
  a5:=Tryz.isAgg5
  z5:=Tryz.sizeOf5
  v5:=Tryz.zeroValue5
  t9:=Tryz.underlying9
  a9:=Tryz.isAgg9
  z9:=Tryz.sizeOf9
  v9:=Tryz.zeroValue9
  t20:=Tryz.underlying20
  a20:=Tryz.isAgg20
  z20:=Tryz.sizeOf20
  v20:=Tryz.zeroValue20
  t21:=Tryz.underlying21
  a21:=Tryz.isAgg21
  z21:=Tryz.sizeOf21
  v21:=Tryz.zeroValue21
  t37:=Tryz.underlying27
  a37:=Tryz.isAgg27
  z37:=Tryz.sizeOf27
  v37:=Tryz.zeroValue27
  t46:=Tryz.underlying123
  a46:=Tryz.isAgg123
  z46:=Tryz.sizeOf123
  v46:=Tryz.zeroValue123
  t51:=Tryz.underlying197
  a51:=Tryz.isAgg197
  z51:=Tryz.sizeOf197
  v51:=Tryz.zeroValue197
  t53:=Tryz.underlying200
  a53:=Tryz.isAgg200
  z53:=Tryz.sizeOf200
  v53:=Tryz.zeroValue200
  t75:=Tryz.underlying132
  a75:=Tryz.isAgg132
  z75:=Tryz.sizeOf132
  v75:=Tryz.zeroValue132
  t76:=Tryz.underlying133
  a76:=Tryz.isAgg133
  z76:=Tryz.sizeOf133
  v76:=Tryz.zeroValue133
  t85:=Tryz.underlying299
  a85:=Tryz.isAgg299
  z85:=Tryz.sizeOf299
  v85:=Tryz.zeroValue299
  t127:=Tryz.underlying203
  a127:=Tryz.isAgg203
  z127:=Tryz.sizeOf203
  v127:=Tryz.zeroValue203
  t143:=Tryz.underlying340
  a143:=Tryz.isAgg340
  z143:=Tryz.sizeOf340
  v143:=Tryz.zeroValue340
  t145:=Tryz.underlying342
  a145:=Tryz.isAgg342
  z145:=Tryz.sizeOf342
  v145:=Tryz.zeroValue342
  t167:=Tryz.underlying298
  a167:=Tryz.isAgg298
  z167:=Tryz.sizeOf298
  v167:=Tryz.zeroValue298
  t168:=Tryz.underlying301
  a168:=Tryz.isAgg301
  z168:=Tryz.sizeOf301
  v168:=Tryz.zeroValue301
  t171:=Tryz.underlying335
  a171:=Tryz.isAgg335
  z171:=Tryz.sizeOf335
  v171:=Tryz.zeroValue335
  t173:=Tryz.underlying337
  a173:=Tryz.isAgg337
  z173:=Tryz.sizeOf337
  v173:=Tryz.zeroValue337
  t175:=Tryz.underlying321
  a175:=Tryz.isAgg321
  z175:=Tryz.sizeOf321
  v175:=Tryz.zeroValue321
  t210:=Tryz.underlying324
  a210:=Tryz.isAgg324
  z210:=Tryz.sizeOf324
  v210:=Tryz.zeroValue324
  t212:=Tryz.underlying347
  a212:=Tryz.isAgg347
  z212:=Tryz.sizeOf347
  v212:=Tryz.zeroValue347
  t213:=Tryz.underlying348
  a213:=Tryz.isAgg348
  z213:=Tryz.sizeOf348
  t232:=Tryz.underlying351
  a232:=Tryz.isAgg351
  z232:=Tryz.sizeOf351
  v232:=Tryz.zeroValue351
  t233:=Tryz.underlying352
  a233:=Tryz.isAgg352
  z233:=Tryz.sizeOf352
  v233:=Tryz.zeroValue352
  g15:=by kernel_rfl
  g16:=by kernel_rfl
  g17:=by kernel_rfl
  g18:=by kernel_rfl
  g19:=by kernel_rfl }
open Go.RowKit in
theorem Tryz.strconv_Atoi (s : ByteArray) (n : Int) (hl : s.size≤18) (h : Lib.atoi s.data.toList=some n) (w : World) :
    Calls Tryz.prog 109 #[.string s] w fun e w' => e=.returned (.tuple #[.int .i64 n,.nilIface])∧∃ t,w'=Lib.bytesWorld w 5 t:=Any.strconv_Atoi Tryz.lays172 s n hl h w
def Tryz.laysM171_ren : Go.Shelf.Ren:=⟨fun | 171 => 144 | 243 => 200 | 246 => 231 | 283 => 246 | 284 => 247 | 285 => 248 | 286 => 249 | 129 => 129 | 317 => 259 | 318 => 260 | 319 => 261 | 320 => 262 | 337 => 264 | 338 => 265 | n => n,fun | 3 => 3 | 9 => 9 | 2 => 2 | 4 => 4 | 171 => 335 | 0 => 0 | 53 => 200 | 37 => 27 | 5 => 5 | 173 => 337 | 212 => 347 | 51 => 197 | 20 => 20 | 213 => 348 | 46 => 123 | 232 => 351 | 233 => 352 | n => n,fun | 17 => 5 | 18 => 6 | 19 => 7 | n => n⟩
theorem Tryz.laysM171 : Go.Proofs.LaysM.n171 Tryz.prog Tryz.laysM171_ren:={
  mixed:=by kernel_rfl
  f129:=Tryz.func129.trans (congrArg some (by kernel_rfl))
  f171:=Tryz.func144.trans (congrArg some (by kernel_rfl))
  f243:=Tryz.func200.trans (congrArg some (by kernel_rfl))
  f246:=Tryz.func231.trans (congrArg some (by kernel_rfl))
  f283:=Tryz.func246.trans (congrArg some (by kernel_rfl))
  f284:=Tryz.func247.trans (congrArg some (by kernel_rfl))
  f285:=Tryz.func248.trans (congrArg some (by kernel_rfl))
  f286:=Tryz.func249.trans (congrArg some (by kernel_rfl))
  f317:=Tryz.func259.trans (congrArg some (by kernel_rfl))
  f318:=Tryz.func260.trans (congrArg some (by kernel_rfl))
  f319:=Tryz.func261.trans (congrArg some (by kernel_rfl))
  f320:=Tryz.func262.trans (congrArg some (by kernel_rfl))
  f337:=Tryz.func264.trans (congrArg some (by kernel_rfl))
  f338:=Tryz.func265.trans (congrArg some (by kernel_rfl))
  t0:=Tryz.underlying0
  a0:=Tryz.isAgg0
  z0:=Tryz.sizeOf0
  v0:=Tryz.zeroValue0
  t2:=Tryz.underlying2
  a2:=Tryz.isAgg2
  z2:=Tryz.sizeOf2
  v2:=Tryz.zeroValue2
  t3:=Tryz.underlying3
  a3:=Tryz.isAgg3
  z3:=Tryz.sizeOf3
  v3:=Tryz.zeroValue3
  t4:=Tryz.underlying4
  a4:=Tryz.isAgg4
  z4:=Tryz.sizeOf4
  v4:=Tryz.zeroValue4
  t5:=Tryz.underlying5
  a5:=Tryz.isAgg5
  z5:=Tryz.sizeOf5
  v5:=Tryz.zeroValue5
  t9:=Tryz.underlying9
  a9:=Tryz.isAgg9
  z9:=Tryz.sizeOf9
  v9:=Tryz.zeroValue9
  t20:=Tryz.underlying20
  a20:=Tryz.isAgg20
  z20:=Tryz.sizeOf20
  v20:=Tryz.zeroValue20
  t37:=Tryz.underlying27
  a37:=Tryz.isAgg27
  z37:=Tryz.sizeOf27
  v37:=Tryz.zeroValue27
  t46:=Tryz.underlying123
  a46:=Tryz.isAgg123
  z46:=Tryz.sizeOf123
  v46:=Tryz.zeroValue123
  t51:=Tryz.underlying197
  a51:=Tryz.isAgg197
  z51:=Tryz.sizeOf197
  v51:=Tryz.zeroValue197
  t53:=Tryz.underlying200
  a53:=Tryz.isAgg200
  z53:=Tryz.sizeOf200
  v53:=Tryz.zeroValue200
  t171:=Tryz.underlying335
  a171:=Tryz.isAgg335
  z171:=Tryz.sizeOf335
  v171:=Tryz.zeroValue335
  t173:=Tryz.underlying337
  a173:=Tryz.isAgg337
  z173:=Tryz.sizeOf337
  v173:=Tryz.zeroValue337
  t212:=Tryz.underlying347
  a212:=Tryz.isAgg347
  z212:=Tryz.sizeOf347
  v212:=Tryz.zeroValue347
  t213:=Tryz.underlying348
  a213:=Tryz.isAgg348
  z213:=Tryz.sizeOf348
  t232:=Tryz.underlying351
  a232:=Tryz.isAgg351
  z232:=Tryz.sizeOf351
  v232:=Tryz.zeroValue351
  t233:=Tryz.underlying352
  a233:=Tryz.isAgg352
  z233:=Tryz.sizeOf352
  v233:=Tryz.zeroValue352
  g17:=by kernel_rfl
  g18:=by kernel_rfl
  g19:=by kernel_rfl
  i0:=by kernel_rfl
  i2:=by kernel_rfl
  i3:=by kernel_rfl
  i4:=by kernel_rfl
  i5:=by kernel_rfl
  i9:=by kernel_rfl
  i20:=by kernel_rfl
  i37:=by kernel_rfl
  i46:=by kernel_rfl
  i51:=by kernel_rfl
  i53:=by kernel_rfl
  i171:=by kernel_rfl
  i173:=by kernel_rfl
  i212:=by kernel_rfl
  i232:=by kernel_rfl
  i233:=by kernel_rfl
  m17:=by kernel_rfl
  m18:=by kernel_rfl
  m19:=by kernel_rfl }
open Go.RowKit Go.Sort Go.Lib in
theorem Tryz.strconv_Itoa (n : Int) (h0 : -9223372036854775808 ≤ n) (h1 : n ≤ 9223372036854775807) (w : World) (htab : Lib.TabIs Tryz.prog w "internal/strconv.uint64pow10" .u64 Lib.pow10Tab) :
    Calls Tryz.prog 144 #[.int .i64 n] w fun e w' => e=.returned (.string ⟨(Lib.itoa n).toArray⟩)∧∃ k os,w'=grow (w.drewN k) os:=Any.strconv_Itoa Tryz.laysM171 n h0 h1 w htab
def Tryz.laysC172_ren : Go.Shelf.Ren:=⟨fun | 172 => 109 | 244 => 157 | 245 => 158 | 247 => 204 | 279 => 205 | 280 => 206 | 281 => 207 | 282 => 208 | 287 => 233 | 316 => 234 | 171 => 144 | 205 => 235 | 321 => 251 | 322 => 252 | 243 => 200 | 246 => 231 | 283 => 246 | 284 => 247 | 285 => 248 | 286 => 249 | 129 => 129 | 317 => 259 | 318 => 260 | 319 => 261 | 320 => 262 | 337 => 264 | 338 => 265 | n => n,fun | 9 => 9 | 3 => 3 | 75 => 132 | 76 => 133 | 4 => 4 | 5 => 5 | 167 => 298 | 37 => 27 | 0 => 0 | 85 => 299 | 2 => 2 | 168 => 301 | 53 => 200 | 175 => 321 | 46 => 123 | 210 => 324 | 127 => 203 | 145 => 342 | 143 => 340 | 21 => 21 | 171 => 335 | 173 => 337 | 212 => 347 | 51 => 197 | 20 => 20 | 213 => 348 | 232 => 351 | 233 => 352 | 80 => 136 | n => n,fun | 15 => 1 | 16 => 2 | 17 => 5 | 18 => 6 | 19 => 7 | n => n⟩
theorem Tryz.laysC172 : Go.Proofs.LaysC.n172 Tryz.prog Tryz.laysC172_ren:={
  mixed:=by kernel_rfl
  f129:=Tryz.func129.trans (congrArg some (by kernel_rfl))
  f171:=Tryz.func144.trans (congrArg some (by kernel_rfl))
  f172:=Tryz.func109.trans (congrArg some (by kernel_rfl))
  f205:=Tryz.func235.trans (congrArg some (by kernel_rfl))
  f243:=Tryz.func200.trans (congrArg some (by kernel_rfl))
  f244:=Tryz.func157.trans (congrArg some (by kernel_rfl))
  f245:=Tryz.func158.trans (congrArg some (by kernel_rfl))
  f246:=Tryz.func231.trans (congrArg some (by kernel_rfl))
  f247:=Tryz.func204.trans (congrArg some (by kernel_rfl))
  f279:=Tryz.func205.trans (congrArg some (by kernel_rfl))
  f280:=Tryz.func206.trans (congrArg some (by kernel_rfl))
  f281:=Tryz.func207.trans (congrArg some (by kernel_rfl))
  f282:=Tryz.func208.trans (congrArg some (by kernel_rfl))
  f283:=Tryz.func246.trans (congrArg some (by kernel_rfl))
  f284:=Tryz.func247.trans (congrArg some (by kernel_rfl))
  f285:=Tryz.func248.trans (congrArg some (by kernel_rfl))
  f286:=Tryz.func249.trans (congrArg some (by kernel_rfl))
  f287:=Tryz.func233.trans (congrArg some (by kernel_rfl))
  f316:=Tryz.func234.trans (congrArg some (by kernel_rfl))
  f317:=Tryz.func259.trans (congrArg some (by kernel_rfl))
  f318:=Tryz.func260.trans (congrArg some (by kernel_rfl))
  f319:=Tryz.func261.trans (congrArg some (by kernel_rfl))
  f320:=Tryz.func262.trans (congrArg some (by kernel_rfl))
  f321:=Tryz.func251.trans (congrArg some (by kernel_rfl))
  f322:=Tryz.func252.trans (congrArg some (by kernel_rfl))
  f337:=Tryz.func264.trans (congrArg some (by kernel_rfl))
  f338:=Tryz.func265.trans (congrArg some (by kernel_rfl))
  t0:=Tryz.underlying0
  a0:=Tryz.isAgg0
  z0:=Tryz.sizeOf0
  v0:=Tryz.zeroValue0
  t2:=Tryz.underlying2
  a2:=Tryz.isAgg2
  z2:=Tryz.sizeOf2
  v2:=Tryz.zeroValue2
  t3:=Tryz.underlying3
  a3:=Tryz.isAgg3
  z3:=Tryz.sizeOf3
  v3:=Tryz.zeroValue3
  t4:=Tryz.underlying4
  a4:=Tryz.isAgg4
  z4:=Tryz.sizeOf4
  v4:=Tryz.zeroValue4
  t5:=Tryz.underlying5
  a5:=Tryz.isAgg5
  z5:=Tryz.sizeOf5
  v5:=Tryz.zeroValue5
  t9:=Tryz.underlying9
  a9:=Tryz.isAgg9
  z9:=Tryz.sizeOf9
  v9:=Tryz.zeroValue9
  t20:=Tryz.underlying20
  a20:=Tryz.isAgg20
  z20:=Tryz.sizeOf20
  v20:=Tryz.zeroValue20
  t21:=Tryz.underlying21
  a21:=Tryz.isAgg21
  z21:=Tryz.sizeOf21
  v21:=Tryz.zeroValue21
  t37:=Tryz.underlying27
  a37:=Tryz.isAgg27
  z37:=Tryz.sizeOf27
  v37:=Tryz.zeroValue27
  t46:=Tryz.underlying123
  a46:=Tryz.isAgg123
  z46:=Tryz.sizeOf123
  v46:=Tryz.zeroValue123
  t51:=Tryz.underlying197
  a51:=Tryz.isAgg197
  z51:=Tryz.sizeOf197
  v51:=Tryz.zeroValue197
  t53:=Tryz.underlying200
  a53:=Tryz.isAgg200
  z53:=Tryz.sizeOf200
  v53:=Tryz.zeroValue200
  t75:=Tryz.underlying132
  a75:=Tryz.isAgg132
  z75:=Tryz.sizeOf132
  v75:=Tryz.zeroValue132
  t76:=Tryz.underlying133
  a76:=Tryz.isAgg133
  z76:=Tryz.sizeOf133
  v76:=Tryz.zeroValue133
  t85:=Tryz.underlying299
  a85:=Tryz.isAgg299
  z85:=Tryz.sizeOf299
  v85:=Tryz.zeroValue299
  t127:=Tryz.underlying203
  a127:=Tryz.isAgg203
  z127:=Tryz.sizeOf203
  v127:=Tryz.zeroValue203
  t143:=Tryz.underlying340
  a143:=Tryz.isAgg340
  z143:=Tryz.sizeOf340
  v143:=Tryz.zeroValue340
  t145:=Tryz.underlying342
  a145:=Tryz.isAgg342
  z145:=Tryz.sizeOf342
  v145:=Tryz.zeroValue342
  t167:=Tryz.underlying298
  a167:=Tryz.isAgg298
  z167:=Tryz.sizeOf298
  v167:=Tryz.zeroValue298
  t168:=Tryz.underlying301
  a168:=Tryz.isAgg301
  z168:=Tryz.sizeOf301
  v168:=Tryz.zeroValue301
  t171:=Tryz.underlying335
  a171:=Tryz.isAgg335
  z171:=Tryz.sizeOf335
  v171:=Tryz.zeroValue335
  t173:=Tryz.underlying337
  a173:=Tryz.isAgg337
  z173:=Tryz.sizeOf337
  v173:=Tryz.zeroValue337
  t175:=Tryz.underlying321
  a175:=Tryz.isAgg321
  z175:=Tryz.sizeOf321
  v175:=Tryz.zeroValue321
  t210:=Tryz.underlying324
  a210:=Tryz.isAgg324
  z210:=Tryz.sizeOf324
  v210:=Tryz.zeroValue324
  t212:=Tryz.underlying347
  a212:=Tryz.isAgg347
  z212:=Tryz.sizeOf347
  v212:=Tryz.zeroValue347
  t213:=Tryz.underlying348
  a213:=Tryz.isAgg348
  z213:=Tryz.sizeOf348
  t232:=Tryz.underlying351
  a232:=Tryz.isAgg351
  z232:=Tryz.sizeOf351
  v232:=Tryz.zeroValue351
  t233:=Tryz.underlying352
  a233:=Tryz.isAgg352
  z233:=Tryz.sizeOf352
  v233:=Tryz.zeroValue352
  g15:=by kernel_rfl
  g16:=by kernel_rfl
  g17:=by kernel_rfl
  g18:=by kernel_rfl
  g19:=by kernel_rfl
  t80:=Tryz.underlying136
  a80:=Tryz.isAgg136
  z80:=Tryz.sizeOf136
  v80:=Tryz.zeroValue136
  i0:=by kernel_rfl
  i2:=by kernel_rfl
  i3:=by kernel_rfl
  i4:=by kernel_rfl
  i5:=by kernel_rfl
  i9:=by kernel_rfl
  i20:=by kernel_rfl
  i21:=by kernel_rfl
  i37:=by kernel_rfl
  i46:=by kernel_rfl
  i51:=by kernel_rfl
  i53:=by kernel_rfl
  i75:=by kernel_rfl
  i76:=by kernel_rfl
  i80:=by kernel_rfl
  i85:=by kernel_rfl
  i127:=by kernel_rfl
  i143:=by kernel_rfl
  i145:=by kernel_rfl
  i167:=by kernel_rfl
  i168:=by kernel_rfl
  i171:=by kernel_rfl
  i173:=by kernel_rfl
  i175:=by kernel_rfl
  i210:=by kernel_rfl
  i212:=by kernel_rfl
  i232:=by kernel_rfl
  i233:=by kernel_rfl
  m15:=by kernel_rfl
  m16:=by kernel_rfl
  m17:=by kernel_rfl
  m18:=by kernel_rfl
  m19:=by kernel_rfl
  c0:=by kernel_rfl
  c2:=by kernel_rfl
  c3:=by kernel_rfl
  c4:=by kernel_rfl
  c5:=by kernel_rfl
  c9:=by kernel_rfl
  c20:=by kernel_rfl
  c21:=by kernel_rfl
  c37:=by kernel_rfl
  c46:=by kernel_rfl
  c51:=by kernel_rfl
  c53:=by kernel_rfl
  c75:=by kernel_rfl
  c76:=by kernel_rfl
  c80:=by kernel_rfl
  c85:=by kernel_rfl
  c127:=by kernel_rfl
  c143:=by kernel_rfl
  c145:=by kernel_rfl
  c167:=by kernel_rfl
  c168:=by kernel_rfl
  c171:=by kernel_rfl
  c173:=by kernel_rfl
  c175:=by kernel_rfl
  c210:=by kernel_rfl
  c212:=by kernel_rfl
  c213:=by kernel_rfl
  c232:=by kernel_rfl
  c233:=by kernel_rfl }
open Go.RowKit in
theorem Tryz.strconv_Atoi_ok (s : ByteArray) (hmax : s.size≤9223372036854775806) (v : Int) (h : Lib.atoiAll s.data.toList=.ok v) (w : World) :
    Calls Tryz.prog 109 #[.string s] w fun e w' => e=.returned (.tuple #[.int .i64 v,.nilIface])∧(w'=w∨∃ t,w'=Lib.bytesWorld w 5 t):=Any.strconv_Atoi_ok Tryz.laysC172 s hmax v h w
open Go.RowKit in
theorem Tryz.strconv_Atoi_syntax (s : ByteArray) (hlim : s.size≤281474976710656) (h : Lib.atoiAll s.data.toList=.«syntax») (ev : Value) (w : World) (hv : w.cell? ⟨1,0,none⟩=some ev) (hev : ev=.nilIface∨∃ te pe,ev=.iface te pe) :
    Calls Tryz.prog 109 #[.string s] w fun e w' => ∃ N,e=.returned (.tuple #[.int .i64 (0),.iface 301 (.pointer (some ⟨N,0,none⟩))])∧w.heap.size≤N∧w'.heap[N]?=some (.cells #[.string ⟨#[65,116,111,105]⟩,.string s,ev] 324 (0,0))∧Below w.heap.size w w':=Any.strconv_Atoi_syntax Tryz.laysC172 s hlim h ev w hv hev
open Go.RowKit in
theorem Tryz.strconv_Atoi_range (s : ByteArray) (hlim : s.size≤281474976710656) (h : Lib.atoiAll s.data.toList=.range) (ev : Value) (w : World) (hv : w.cell? ⟨2,0,none⟩=some ev) (hev : ev=.nilIface∨∃ te pe,ev=.iface te pe) :
    Calls Tryz.prog 109 #[.string s] w fun e w' => ∃ N,e=.returned (.tuple #[.int .i64 (Lib.atoiSat s.data.toList),.iface 301 (.pointer (some ⟨N,0,none⟩))])∧w.heap.size≤N∧w'.heap[N]?=some (.cells #[.string ⟨#[65,116,111,105]⟩,.string s,ev] 324 (0,0))∧Below w.heap.size w w':=Any.strconv_Atoi_range Tryz.laysC172 s hlim h ev w hv hev
def Tryz.lays145_ren : Go.Shelf.Ren:=⟨fun | 145 => 156 | 220 => 203 | 219 => 215 | 217 => 143 | 225 => 238 | 224 => 239 | 267 => 240 | 266 => 199 | 314 => 254 | n => n,fun | 9 => 9 | 4 => 4 | 59 => 253 | 3 => 3 | 5 => 5 | 46 => 123 | 146 => 198 | 51 => 197 | n => n,fun | 1 => 0 | n => n⟩
theorem Tryz.lays145 : Go.Proofs.Lays.n145 Tryz.prog Tryz.lays145_ren:={
  mixed:=by kernel_rfl
  f145:=Tryz.func156.trans (congrArg some (by kernel_rfl))
  f217:=Tryz.func143.trans (congrArg some (by kernel_rfl))
  f219:=Tryz.func215.trans (congrArg some (by kernel_rfl))
  f220:=Tryz.func203.trans (congrArg some (by kernel_rfl))
  f224:=Tryz.func239.trans (congrArg some (by kernel_rfl))
  f225:=Tryz.func238.trans (congrArg some (by kernel_rfl))
  f266:=Tryz.func199.trans (congrArg some (by kernel_rfl))
  f267:=Tryz.func240.trans (congrArg some (by kernel_rfl))
  f314:=Tryz.func254.trans (congrArg some (by kernel_rfl))
  t3:=Tryz.underlying3
  a3:=Tryz.isAgg3
  z3:=Tryz.sizeOf3
  v3:=Tryz.zeroValue3
  t4:=Tryz.underlying4
  a4:=Tryz.isAgg4
  z4:=Tryz.sizeOf4
  v4:=Tryz.zeroValue4
  t5:=Tryz.underlying5
  a5:=Tryz.isAgg5
  z5:=Tryz.sizeOf5
  v5:=Tryz.zeroValue5
  t9:=Tryz.underlying9
  a9:=Tryz.isAgg9
  z9:=Tryz.sizeOf9
  v9:=Tryz.zeroValue9
  t46:=Tryz.underlying123
  a46:=Tryz.isAgg123
  z46:=Tryz.sizeOf123
  v46:=Tryz.zeroValue123
  t51:=Tryz.underlying197
  a51:=Tryz.isAgg197
  z51:=Tryz.sizeOf197
  v51:=Tryz.zeroValue197
  t59:=Tryz.underlying253
  a59:=Tryz.isAgg253
  z59:=Tryz.sizeOf253
  v59:=Tryz.zeroValue253
  t146:=Tryz.underlying198
  a146:=Tryz.isAgg198
  z146:=Tryz.sizeOf198
  v146:=Tryz.zeroValue198
  g1:=by kernel_rfl }
open Go.RowKit Go.Lib in
theorem Tryz.strings_Cut (s sep : ByteArray) (m : Int) (w : World) (hs : s.size < 4294967281) (hm : w.cell? ⟨0,0,none⟩=some (.int .i64 m)) :
    Calls Tryz.prog 156 #[.string s,.string sep] w fun e w' => e=.returned (.tuple #[.string ⟨(Lib.cut s.data.toList sep.data.toList).1.toArray⟩,.string ⟨(Lib.cut s.data.toList sep.data.toList).2.1.toArray⟩,.bool (Lib.cut s.data.toList sep.data.toList).2.2])∧∃ n,w'=w.drewN n:=Any.strings_Cut Tryz.lays145 s sep m w hs hm
def Tryz.lays149_ren : Go.Shelf.Ren:=⟨fun | 149 => 136 | 222 => 182 | n => n,fun | 9 => 9 | 5 => 5 | 3 => 3 | 4 => 4 | n => n,fun | n => n⟩
theorem Tryz.lays149 : Go.Proofs.Lays.n149 Tryz.prog Tryz.lays149_ren:={
  mixed:=by kernel_rfl
  f149:=Tryz.func136.trans (congrArg some (by kernel_rfl))
  f222:=Tryz.func182.trans (congrArg some (by kernel_rfl))
  t3:=Tryz.underlying3
  a3:=Tryz.isAgg3
  z3:=Tryz.sizeOf3
  v3:=Tryz.zeroValue3
  t4:=Tryz.underlying4
  a4:=Tryz.isAgg4
  z4:=Tryz.sizeOf4
  v4:=Tryz.zeroValue4
  t5:=Tryz.underlying5
  a5:=Tryz.isAgg5
  z5:=Tryz.sizeOf5
  v5:=Tryz.zeroValue5
  t9:=Tryz.underlying9
  a9:=Tryz.isAgg9
  z9:=Tryz.sizeOf9
  v9:=Tryz.zeroValue9 }
open Go.RowKit Go.Lib in
theorem Tryz.strings_LastIndexByte (s : ByteArray) (c : Int) (hs : s.size < 4611686018427387904) (w : World) :
    Calls Tryz.prog 136 #[.string s,.int .u8 c] w fun e w' => e=.returned (.int .i64 (Lib.lastIndexByte s c))∧w'=w:=Any.strings_LastIndexByte Tryz.lays149 s c hs w
def Tryz.lays99_ren : Go.Shelf.Ren:=⟨fun | 99 => 58 | 206 => 116 | n => n,fun | 9 => 9 | 4 => 4 | 3 => 3 | n => n,fun | n => n⟩
theorem Tryz.lays99 : Go.Proofs.Lays.n99 Tryz.prog Tryz.lays99_ren:={
  mixed:=by kernel_rfl
  f99:=Tryz.func58.trans (congrArg some (by kernel_rfl))
  f206:=Tryz.func116.trans (congrArg some (by kernel_rfl))
  t3:=Tryz.underlying3
  a3:=Tryz.isAgg3
  z3:=Tryz.sizeOf3
  v3:=Tryz.zeroValue3
  t4:=Tryz.underlying4
  a4:=Tryz.isAgg4
  z4:=Tryz.sizeOf4
  v4:=Tryz.zeroValue4
  t9:=Tryz.underlying9
  a9:=Tryz.isAgg9
  z9:=Tryz.sizeOf9
  v9:=Tryz.zeroValue9 }
open Go.RowKit Go.Lib in
theorem Tryz.strings_HasPrefix (s p : ByteArray) (w : World) :
    Calls Tryz.prog 58 #[.string s,.string p] w fun e w' => e=.returned (.bool (Lib.hasPrefix s.data.toList p.data.toList))∧w'=w:=Any.strings_HasPrefix Tryz.lays99 s p w
def Tryz.lays146_ren : Go.Shelf.Ren:=⟨fun | 146 => 67 | 221 => 131 | 268 => 179 | 138 => 170 | 143 => 171 | 195 => 213 | 197 => 172 | 218 => 214 | 219 => 215 | 260 => 216 | 217 => 143 | 225 => 238 | 224 => 239 | 267 => 240 | 266 => 199 | 314 => 254 | n => n,fun | 9 => 9 | 31 => 70 | 3 => 3 | 4 => 4 | 0 => 0 | 105 => 268 | 21 => 21 | 5 => 5 | 46 => 123 | 119 => 327 | 139 => 330 | 138 => 329 | 146 => 198 | 51 => 197 | n => n,fun | 1 => 0 | 3 => 3 | 4 => 4 | n => n⟩
theorem Tryz.lays146 : Go.Proofs.Lays.n146 Tryz.prog Tryz.lays146_ren:={
  mixed:=by kernel_rfl
  f138:=Tryz.func170.trans (congrArg some (by kernel_rfl))
  f143:=Tryz.func171.trans (congrArg some (by kernel_rfl))
  f146:=Tryz.func67.trans (congrArg some (by kernel_rfl))
  f195:=Tryz.func213.trans (congrArg some (by kernel_rfl))
  f197:=Tryz.func172.trans (congrArg some (by kernel_rfl))
  f217:=Tryz.func143.trans (congrArg some (by kernel_rfl))
  f218:=Tryz.func214.trans (congrArg some (by kernel_rfl))
  f219:=Tryz.func215.trans (congrArg some (by kernel_rfl))
  f221:=Tryz.func131.trans (congrArg some (by kernel_rfl))
  f224:=Tryz.func239.trans (congrArg some (by kernel_rfl))
  f225:=Tryz.func238.trans (congrArg some (by kernel_rfl))
  f260:=Tryz.func216.trans (congrArg some (by kernel_rfl))
  f266:=Tryz.func199.trans (congrArg some (by kernel_rfl))
  f267:=Tryz.func240.trans (congrArg some (by kernel_rfl))
  f268:=Tryz.func179.trans (congrArg some (by kernel_rfl))
  f314:=Tryz.func254.trans (congrArg some (by kernel_rfl))
  t0:=Tryz.underlying0
  a0:=Tryz.isAgg0
  z0:=Tryz.sizeOf0
  v0:=Tryz.zeroValue0
  t3:=Tryz.underlying3
  a3:=Tryz.isAgg3
  z3:=Tryz.sizeOf3
  v3:=Tryz.zeroValue3
  t4:=Tryz.underlying4
  a4:=Tryz.isAgg4
  z4:=Tryz.sizeOf4
  v4:=Tryz.zeroValue4
  t5:=Tryz.underlying5
  a5:=Tryz.isAgg5
  z5:=Tryz.sizeOf5
  v5:=Tryz.zeroValue5
  t9:=Tryz.underlying9
  a9:=Tryz.isAgg9
  z9:=Tryz.sizeOf9
  v9:=Tryz.zeroValue9
  t21:=Tryz.underlying21
  a21:=Tryz.isAgg21
  z21:=Tryz.sizeOf21
  v21:=Tryz.zeroValue21
  t31:=Tryz.underlying70
  a31:=Tryz.isAgg70
  z31:=Tryz.sizeOf70
  v31:=Tryz.zeroValue70
  t46:=Tryz.underlying123
  a46:=Tryz.isAgg123
  z46:=Tryz.sizeOf123
  v46:=Tryz.zeroValue123
  t51:=Tryz.underlying197
  a51:=Tryz.isAgg197
  z51:=Tryz.sizeOf197
  v51:=Tryz.zeroValue197
  t105:=Tryz.underlying268
  a105:=Tryz.isAgg268
  z105:=Tryz.sizeOf268
  v105:=Tryz.zeroValue268
  t119:=Tryz.underlying327
  a119:=Tryz.isAgg327
  z119:=Tryz.sizeOf327
  t138:=Tryz.underlying329
  a138:=Tryz.isAgg329
  z138:=Tryz.sizeOf329
  v138:=Tryz.zeroValue329
  t139:=Tryz.underlying330
  a139:=Tryz.isAgg330
  z139:=Tryz.sizeOf330
  v139:=Tryz.zeroValue330
  t146:=Tryz.underlying198
  a146:=Tryz.isAgg198
  z146:=Tryz.sizeOf198
  v146:=Tryz.zeroValue198
  g1:=by kernel_rfl
  g3:=by kernel_rfl
  g4:=by kernel_rfl }
open Go.RowKit Go.Lib in
theorem Tryz.strings_Split (s sep : ByteArray) (m : Int) (w : World) (hs : s.size < 4294967281) (hm : w.cell? ⟨0,0,none⟩=some (.int .i64 m)) (h1 : 1≤sep.size) :
    Calls Tryz.prog 67 #[.string s,.string sep] w fun e w' =>
      e=.returned (.slice (some ⟨w.heap.size,0,none⟩) (Lib.countB s sep + 1) (Lib.countB s sep + 1))∧w'=w.alloc (.cells ((Lib.splitB sep 0 (Lib.countB s sep) s).map Value.string).toArray 9):=Any.strings_Split Tryz.lays146 (by kernel_rfl) s sep m w hs hm h1
def Tryz.lays155_ren : Go.Shelf.Ren:=⟨fun | 155 => 63 | 154 => 119 | 138 => 170 | 165 => 59 | 143 => 171 | 166 => 60 | 197 => 172 | 169 => 62 | 195 => 213 | 218 => 214 | 240 => 117 | 241 => 118 | 219 => 215 | 260 => 216 | 276 => 168 | 277 => 169 | 217 => 143 | 225 => 238 | 224 => 239 | 267 => 240 | 266 => 199 | 314 => 254 | n => n,fun | 9 => 9 | 3 => 3 | 4 => 4 | 72 => 129 | 0 => 0 | 76 => 133 | 105 => 268 | 21 => 21 | 5 => 5 | 70 => 127 | 20 => 20 | 37 => 27 | 75 => 132 | 127 => 203 | 164 => 265 | 46 => 123 | 119 => 327 | 139 => 330 | 138 => 329 | 146 => 198 | 51 => 197 | 80 => 136 | n => n,fun | 1 => 0 | 3 => 3 | 4 => 4 | n => n⟩
theorem Tryz.lays155 : Go.Proofs.Lays.n155 Tryz.prog Tryz.lays155_ren:={
  mixed:=by kernel_rfl
  f138:=Tryz.func170.trans (congrArg some (by kernel_rfl))
  f143:=Tryz.func171.trans (congrArg some (by kernel_rfl))
  f154:=Tryz.func119.trans (congrArg some (by kernel_rfl))
  f155:=Tryz.func63.trans (congrArg some (by kernel_rfl))
  f165:=Tryz.func59.trans (congrArg some (by kernel_rfl))
  f166:=Tryz.func60.trans (congrArg some (by kernel_rfl))
  f169:=Tryz.func62.trans (congrArg some (by kernel_rfl))
  f195:=Tryz.func213.trans (congrArg some (by kernel_rfl))
  f197:=Tryz.func172.trans (congrArg some (by kernel_rfl))
  f217:=Tryz.func143.trans (congrArg some (by kernel_rfl))
  f218:=Tryz.func214.trans (congrArg some (by kernel_rfl))
  f219:=Tryz.func215.trans (congrArg some (by kernel_rfl))
  f224:=Tryz.func239.trans (congrArg some (by kernel_rfl))
  f225:=Tryz.func238.trans (congrArg some (by kernel_rfl))
  f240:=Tryz.func117.trans (congrArg some (by kernel_rfl))
  f241:=Tryz.func118.trans (congrArg some (by kernel_rfl))
  f260:=Tryz.func216.trans (congrArg some (by kernel_rfl))
  f266:=Tryz.func199.trans (congrArg some (by kernel_rfl))
  f267:=Tryz.func240.trans (congrArg some (by kernel_rfl))
  f276:=Tryz.func168.trans (congrArg some (by kernel_rfl))
  f277:=Tryz.func169.trans (congrArg some (by kernel_rfl))
  f314:=Tryz.func254.trans (congrArg some (by kernel_rfl))
  t0:=Tryz.underlying0
  a0:=Tryz.isAgg0
  z0:=Tryz.sizeOf0
  v0:=Tryz.zeroValue0
  t3:=Tryz.underlying3
  a3:=Tryz.isAgg3
  z3:=Tryz.sizeOf3
  v3:=Tryz.zeroValue3
  t4:=Tryz.underlying4
  a4:=Tryz.isAgg4
  z4:=Tryz.sizeOf4
  v4:=Tryz.zeroValue4
  t5:=Tryz.underlying5
  a5:=Tryz.isAgg5
  z5:=Tryz.sizeOf5
  v5:=Tryz.zeroValue5
  t9:=Tryz.underlying9
  a9:=Tryz.isAgg9
  z9:=Tryz.sizeOf9
  v9:=Tryz.zeroValue9
  t20:=Tryz.underlying20
  a20:=Tryz.isAgg20
  z20:=Tryz.sizeOf20
  v20:=Tryz.zeroValue20
  t21:=Tryz.underlying21
  a21:=Tryz.isAgg21
  z21:=Tryz.sizeOf21
  v21:=Tryz.zeroValue21
  t37:=Tryz.underlying27
  a37:=Tryz.isAgg27
  z37:=Tryz.sizeOf27
  v37:=Tryz.zeroValue27
  t46:=Tryz.underlying123
  a46:=Tryz.isAgg123
  z46:=Tryz.sizeOf123
  v46:=Tryz.zeroValue123
  t51:=Tryz.underlying197
  a51:=Tryz.isAgg197
  z51:=Tryz.sizeOf197
  v51:=Tryz.zeroValue197
  t70:=Tryz.underlying127
  a70:=Tryz.isAgg127
  z70:=Tryz.sizeOf127
  v70:=Tryz.zeroValue127
  t72:=Tryz.underlying129
  a72:=Tryz.isAgg129
  z72:=Tryz.sizeOf129
  v72:=Tryz.zeroValue129
  t75:=Tryz.underlying132
  a75:=Tryz.isAgg132
  z75:=Tryz.sizeOf132
  v75:=Tryz.zeroValue132
  t76:=Tryz.underlying133
  a76:=Tryz.isAgg133
  z76:=Tryz.sizeOf133
  v76:=Tryz.zeroValue133
  t105:=Tryz.underlying268
  a105:=Tryz.isAgg268
  z105:=Tryz.sizeOf268
  v105:=Tryz.zeroValue268
  t119:=Tryz.underlying327
  a119:=Tryz.isAgg327
  z119:=Tryz.sizeOf327
  t127:=Tryz.underlying203
  a127:=Tryz.isAgg203
  z127:=Tryz.sizeOf203
  v127:=Tryz.zeroValue203
  t138:=Tryz.underlying329
  a138:=Tryz.isAgg329
  z138:=Tryz.sizeOf329
  v138:=Tryz.zeroValue329
  t139:=Tryz.underlying330
  a139:=Tryz.isAgg330
  z139:=Tryz.sizeOf330
  v139:=Tryz.zeroValue330
  t146:=Tryz.underlying198
  a146:=Tryz.isAgg198
  z146:=Tryz.sizeOf198
  v146:=Tryz.zeroValue198
  t164:=Tryz.underlying265
  a164:=Tryz.isAgg265
  z164:=Tryz.sizeOf265
  v164:=Tryz.zeroValue265
  g1:=by kernel_rfl
  g3:=by kernel_rfl
  g4:=by kernel_rfl }
theorem Tryz.Builder_Extra_155 : Builder.Extra Tryz.prog Tryz.lays155_ren:={
  sizeBuilder:=by kernel_rfl
  liesBuilder:=by kernel_rfl
  t5:=Tryz.underlying5
  a5:=Tryz.isAgg5
  z5:=Tryz.sizeOf5
  v5:=Tryz.zeroValue5
  infoByte:=by kernel_rfl
  cellsByte:=by kernel_rfl
  sizeByte:=by kernel_rfl
  neB5:=by decide }
open Go.RowKit Go.Lib in
theorem Tryz.strings_ReplaceAll (s old new : ByteArray) (m : Int) (w : World) (hs : s.size < 4294967281) (hm : w.cell? ⟨0,0,none⟩=some (.int .i64 m)) (h1 : 1≤old.size) (hlen : s.size + Lib.countB s old * new.size≤140737488355328) :
    Calls Tryz.prog 63 #[.string s,.string old,.string new] w fun e w' =>
      e=.returned (.string ⟨(Lib.replaceAll s.data.toList old.data.toList new.data.toList).toArray⟩)∧Below w.heap.size w w':=Any.strings_ReplaceAll Tryz.lays155 Tryz.Builder_Extra_155 s old new m w hs hm h1 hlen
def Tryz.lays152_ren : Go.Shelf.Ren:=⟨fun | 152 => 236 | 137 => 89 | 119 => 253 | 224 => 239 | 225 => 238 | 217 => 143 | 266 => 199 | n => n,fun | 9 => 9 | 21 => 21 | 3 => 3 | 4 => 4 | 5 => 5 | 0 => 0 | 46 => 123 | n => n,fun | n => n⟩
theorem Tryz.lays152 : Go.Proofs.Lays.n152 Tryz.prog Tryz.lays152_ren:={
  mixed:=by kernel_rfl
  f119:=Tryz.func253.trans (congrArg some (by kernel_rfl))
  f137:=Tryz.func89.trans (congrArg some (by kernel_rfl))
  f152:=Tryz.func236.trans (congrArg some (by kernel_rfl))
  f217:=Tryz.func143.trans (congrArg some (by kernel_rfl))
  f224:=Tryz.func239.trans (congrArg some (by kernel_rfl))
  f225:=Tryz.func238.trans (congrArg some (by kernel_rfl))
  f266:=Tryz.func199.trans (congrArg some (by kernel_rfl))
  t0:=Tryz.underlying0
  a0:=Tryz.isAgg0
  z0:=Tryz.sizeOf0
  v0:=Tryz.zeroValue0
  t3:=Tryz.underlying3
  a3:=Tryz.isAgg3
  z3:=Tryz.sizeOf3
  v3:=Tryz.zeroValue3
  t4:=Tryz.underlying4
  a4:=Tryz.isAgg4
  z4:=Tryz.sizeOf4
  v4:=Tryz.zeroValue4
  t5:=Tryz.underlying5
  a5:=Tryz.isAgg5
  z5:=Tryz.sizeOf5
  v5:=Tryz.zeroValue5
  t9:=Tryz.underlying9
  a9:=Tryz.isAgg9
  z9:=Tryz.sizeOf9
  v9:=Tryz.zeroValue9
  t21:=Tryz.underlying21
  a21:=Tryz.isAgg21
  z21:=Tryz.sizeOf21
  v21:=Tryz.zeroValue21
  t46:=Tryz.underlying123
  a46:=Tryz.isAgg123
  z46:=Tryz.sizeOf123
  v46:=Tryz.zeroValue123 }
open Go.RowKit Go.Lib in
theorem Tryz.strings_IndexRune_ascii (s : ByteArray) (r : Int) (w : World) (h0 : 0≤r) (h1 : r < 128) :
    Calls Tryz.prog 236 #[.string s,.int .i32 r] w fun e w' => e=.returned (.int .i64 (Lib.indexByte s.data.toList r.toNat.toUInt8))∧w'=w:=Any.strings_IndexRune_ascii Tryz.lays152 s r w h0 h1
def Tryz.lays226_ren : Go.Shelf.Ren:=⟨fun | 226 => 250 | n => n,fun | 3 => 3 | 4 => 4 | n => n,fun | n => n⟩
theorem Tryz.lays226 : Go.Proofs.Lays.n226 Tryz.prog Tryz.lays226_ren:={
  mixed:=by kernel_rfl
  f226:=Tryz.func250.trans (congrArg some (by kernel_rfl))
  t3:=Tryz.underlying3
  a3:=Tryz.isAgg3
  z3:=Tryz.sizeOf3
  v3:=Tryz.zeroValue3
  t4:=Tryz.underlying4
  a4:=Tryz.isAgg4
  z4:=Tryz.sizeOf4
  v4:=Tryz.zeroValue4 }
open Go.RowKit Go.Lib in
theorem Tryz.strings_shouldUseASCIISet (n : Int) (w : World) :
    Calls Tryz.prog 250 #[.int .i64 n] w fun e w' => e=.returned (.bool (decide (8 < n)))∧w'=w:=Any.strings_shouldUseASCIISet Tryz.lays226 n w
def Tryz.lays153_ren : Go.Shelf.Ren:=⟨fun | 153 => 232 | 152 => 236 | 226 => 250 | 227 => 163 | 228 => 210 | 137 => 89 | 119 => 253 | 224 => 239 | 225 => 238 | 217 => 143 | 266 => 199 | n => n,fun | 9 => 9 | 3 => 3 | 4 => 4 | 5 => 5 | 21 => 21 | 117 => 261 | 116 => 260 | 0 => 0 | 46 => 123 | 124 => 264 | n => n,fun | n => n⟩
theorem Tryz.lays153 : Go.Proofs.Lays.n153 Tryz.prog Tryz.lays153_ren:={
  mixed:=by kernel_rfl
  f119:=Tryz.func253.trans (congrArg some (by kernel_rfl))
  f137:=Tryz.func89.trans (congrArg some (by kernel_rfl))
  f152:=Tryz.func236.trans (congrArg some (by kernel_rfl))
  f153:=Tryz.func232.trans (congrArg some (by kernel_rfl))
  f217:=Tryz.func143.trans (congrArg some (by kernel_rfl))
  f224:=Tryz.func239.trans (congrArg some (by kernel_rfl))
  f225:=Tryz.func238.trans (congrArg some (by kernel_rfl))
  f226:=Tryz.func250.trans (congrArg some (by kernel_rfl))
  f227:=Tryz.func163.trans (congrArg some (by kernel_rfl))
  f228:=Tryz.func210.trans (congrArg some (by kernel_rfl))
  f266:=Tryz.func199.trans (congrArg some (by kernel_rfl))
  t0:=Tryz.underlying0
  a0:=Tryz.isAgg0
  z0:=Tryz.sizeOf0
  v0:=Tryz.zeroValue0
  t3:=Tryz.underlying3
  a3:=Tryz.isAgg3
  z3:=Tryz.sizeOf3
  v3:=Tryz.zeroValue3
  t4:=Tryz.underlying4
  a4:=Tryz.isAgg4
  z4:=Tryz.sizeOf4
  v4:=Tryz.zeroValue4
  t5:=Tryz.underlying5
  a5:=Tryz.isAgg5
  z5:=Tryz.sizeOf5
  v5:=Tryz.zeroValue5
  t9:=Tryz.underlying9
  a9:=Tryz.isAgg9
  z9:=Tryz.sizeOf9
  v9:=Tryz.zeroValue9
  t21:=Tryz.underlying21
  a21:=Tryz.isAgg21
  z21:=Tryz.sizeOf21
  v21:=Tryz.zeroValue21
  t46:=Tryz.underlying123
  a46:=Tryz.isAgg123
  z46:=Tryz.sizeOf123
  v46:=Tryz.zeroValue123
  t116:=Tryz.underlying260
  a116:=Tryz.isAgg260
  z116:=Tryz.sizeOf260
  t117:=Tryz.underlying261
  a117:=Tryz.isAgg261
  z117:=Tryz.sizeOf261
  v117:=Tryz.zeroValue261
  t124:=Tryz.underlying264
  a124:=Tryz.isAgg264
  z124:=Tryz.sizeOf264
  v124:=Tryz.zeroValue264 }
open Go.RowKit Go.Lib in
theorem Tryz.strings_IndexAny_long (hv116 : ∀ w,(zeroValue 260).run Tryz.prog w=.ok (.agg (Array.replicate 256 (.bool false))) w) (s chars : ByteArray) (w : World) (h2 : 2≤chars.size) (h8 : 8 < s.size) (hs : s.size < 4294967281) (hcs : chars.size < 4294967281) (hascii : ∀ (j : Nat) b,chars.data.toList[j]?=some b→b.toNat < 128) :
    Calls Tryz.prog 232 #[.string s,.string chars] w fun e w' => e=.returned (.int .i64 (Lib.indexAny s.data.toList chars.data.toList))∧w'=((w.alloc (.cells (Lib.setCells chars.data.toList) 260)).alloc (.cells (Lib.setCells chars.data.toList) 260)):=Any.strings_IndexAny_long Tryz.lays153 hv116 (by kernel_rfl) s chars w h2 h8 hs hcs hascii
def Tryz.lays150_ren : Go.Shelf.Ren:=⟨fun | 150 => 201 | 153 => 232 | 152 => 236 | 226 => 250 | 227 => 163 | 228 => 210 | 137 => 89 | 119 => 253 | 224 => 239 | 225 => 238 | 217 => 143 | 266 => 199 | n => n,fun | 9 => 9 | 4 => 4 | 3 => 3 | 5 => 5 | 21 => 21 | 117 => 261 | 116 => 260 | 0 => 0 | 46 => 123 | 124 => 264 | n => n,fun | n => n⟩
theorem Tryz.lays150 : Go.Proofs.Lays.n150 Tryz.prog Tryz.lays150_ren:={
  mixed:=by kernel_rfl
  f119:=Tryz.func253.trans (congrArg some (by kernel_rfl))
  f137:=Tryz.func89.trans (congrArg some (by kernel_rfl))
  f150:=Tryz.func201.trans (congrArg some (by kernel_rfl))
  f152:=Tryz.func236.trans (congrArg some (by kernel_rfl))
  f153:=Tryz.func232.trans (congrArg some (by kernel_rfl))
  f217:=Tryz.func143.trans (congrArg some (by kernel_rfl))
  f224:=Tryz.func239.trans (congrArg some (by kernel_rfl))
  f225:=Tryz.func238.trans (congrArg some (by kernel_rfl))
  f226:=Tryz.func250.trans (congrArg some (by kernel_rfl))
  f227:=Tryz.func163.trans (congrArg some (by kernel_rfl))
  f228:=Tryz.func210.trans (congrArg some (by kernel_rfl))
  f266:=Tryz.func199.trans (congrArg some (by kernel_rfl))
  t0:=Tryz.underlying0
  a0:=Tryz.isAgg0
  z0:=Tryz.sizeOf0
  v0:=Tryz.zeroValue0
  t3:=Tryz.underlying3
  a3:=Tryz.isAgg3
  z3:=Tryz.sizeOf3
  v3:=Tryz.zeroValue3
  t4:=Tryz.underlying4
  a4:=Tryz.isAgg4
  z4:=Tryz.sizeOf4
  v4:=Tryz.zeroValue4
  t5:=Tryz.underlying5
  a5:=Tryz.isAgg5
  z5:=Tryz.sizeOf5
  v5:=Tryz.zeroValue5
  t9:=Tryz.underlying9
  a9:=Tryz.isAgg9
  z9:=Tryz.sizeOf9
  v9:=Tryz.zeroValue9
  t21:=Tryz.underlying21
  a21:=Tryz.isAgg21
  z21:=Tryz.sizeOf21
  v21:=Tryz.zeroValue21
  t46:=Tryz.underlying123
  a46:=Tryz.isAgg123
  z46:=Tryz.sizeOf123
  v46:=Tryz.zeroValue123
  t116:=Tryz.underlying260
  a116:=Tryz.isAgg260
  z116:=Tryz.sizeOf260
  t117:=Tryz.underlying261
  a117:=Tryz.isAgg261
  z117:=Tryz.sizeOf261
  v117:=Tryz.zeroValue261
  t124:=Tryz.underlying264
  a124:=Tryz.isAgg264
  z124:=Tryz.sizeOf264
  v124:=Tryz.zeroValue264 }
open Go.RowKit Go.Lib in
theorem Tryz.strings_ContainsAny_laid (s chars : ByteArray) (w : World) (hs : s.size < 4294967281) (hcs : chars.size < 4294967281) (has : ∀ (j : Nat) b,s.data.toList[j]?=some b→b.toNat < 128) (hac : ∀ (j : Nat) b,chars.data.toList[j]?=some b→b.toNat < 128) :
    Calls Tryz.prog 201 #[.string s,.string chars] w fun e w' => e=.returned (.bool (Lib.containsAny s.data.toList chars.data.toList))∧Below w.heap.size w w':=Any.strings_ContainsAny_laid Tryz.lays150 (by kernel_rfl) s chars w hs hcs has hac
def Tryz.lays105_ren : Go.Shelf.Ren:=⟨fun | 105 => 27 | 212 => 57 | 99 => 58 | 165 => 59 | 166 => 60 | 170 => 61 | 169 => 62 | 263 => 114 | 264 => 115 | 206 => 116 | 240 => 117 | 241 => 118 | 276 => 168 | 277 => 169 | n => n,fun | 9 => 9 | 3 => 3 | 4 => 4 | 20 => 20 | 0 => 0 | 46 => 123 | 109 => 124 | 5 => 5 | 72 => 129 | 76 => 133 | 51 => 197 | 146 => 198 | 53 => 200 | 148 => 201 | 70 => 127 | 37 => 27 | 75 => 132 | 127 => 203 | 164 => 265 | 80 => 136 | n => n,fun | n => n⟩
theorem Tryz.lays105 : Go.Proofs.Lays.n105 Tryz.prog Tryz.lays105_ren:={
  mixed:=by kernel_rfl
  f99:=Tryz.func58.trans (congrArg some (by kernel_rfl))
  f105:=Tryz.func27.trans (congrArg some (by kernel_rfl))
  f165:=Tryz.func59.trans (congrArg some (by kernel_rfl))
  f166:=Tryz.func60.trans (congrArg some (by kernel_rfl))
  f169:=Tryz.func62.trans (congrArg some (by kernel_rfl))
  f170:=Tryz.func61.trans (congrArg some (by kernel_rfl))
  f206:=Tryz.func116.trans (congrArg some (by kernel_rfl))
  f212:=Tryz.func57.trans (congrArg some (by kernel_rfl))
  f240:=Tryz.func117.trans (congrArg some (by kernel_rfl))
  f241:=Tryz.func118.trans (congrArg some (by kernel_rfl))
  f263:=Tryz.func114.trans (congrArg some (by kernel_rfl))
  f264:=Tryz.func115.trans (congrArg some (by kernel_rfl))
  f276:=Tryz.func168.trans (congrArg some (by kernel_rfl))
  f277:=Tryz.func169.trans (congrArg some (by kernel_rfl))
  t0:=Tryz.underlying0
  a0:=Tryz.isAgg0
  z0:=Tryz.sizeOf0
  v0:=Tryz.zeroValue0
  t3:=Tryz.underlying3
  a3:=Tryz.isAgg3
  z3:=Tryz.sizeOf3
  v3:=Tryz.zeroValue3
  t4:=Tryz.underlying4
  a4:=Tryz.isAgg4
  z4:=Tryz.sizeOf4
  v4:=Tryz.zeroValue4
  t5:=Tryz.underlying5
  a5:=Tryz.isAgg5
  z5:=Tryz.sizeOf5
  v5:=Tryz.zeroValue5
  t9:=Tryz.underlying9
  a9:=Tryz.isAgg9
  z9:=Tryz.sizeOf9
  v9:=Tryz.zeroValue9
  t20:=Tryz.underlying20
  a20:=Tryz.isAgg20
  z20:=Tryz.sizeOf20
  v20:=Tryz.zeroValue20
  t37:=Tryz.underlying27
  a37:=Tryz.isAgg27
  z37:=Tryz.sizeOf27
  v37:=Tryz.zeroValue27
  t46:=Tryz.underlying123
  a46:=Tryz.isAgg123
  z46:=Tryz.sizeOf123
  v46:=Tryz.zeroValue123
  t51:=Tryz.underlying197
  a51:=Tryz.isAgg197
  z51:=Tryz.sizeOf197
  v51:=Tryz.zeroValue197
  t53:=Tryz.underlying200
  a53:=Tryz.isAgg200
  z53:=Tryz.sizeOf200
  v53:=Tryz.zeroValue200
  t70:=Tryz.underlying127
  a70:=Tryz.isAgg127
  z70:=Tryz.sizeOf127
  v70:=Tryz.zeroValue127
  t72:=Tryz.underlying129
  a72:=Tryz.isAgg129
  z72:=Tryz.sizeOf129
  v72:=Tryz.zeroValue129
  t75:=Tryz.underlying132
  a75:=Tryz.isAgg132
  z75:=Tryz.sizeOf132
  v75:=Tryz.zeroValue132
  t76:=Tryz.underlying133
  a76:=Tryz.isAgg133
  z76:=Tryz.sizeOf133
  v76:=Tryz.zeroValue133
  t109:=Tryz.underlying124
  a109:=Tryz.isAgg124
  z109:=Tryz.sizeOf124
  v109:=Tryz.zeroValue124
  t127:=Tryz.underlying203
  a127:=Tryz.isAgg203
  z127:=Tryz.sizeOf203
  v127:=Tryz.zeroValue203
  t146:=Tryz.underlying198
  a146:=Tryz.isAgg198
  z146:=Tryz.sizeOf198
  v146:=Tryz.zeroValue198
  t148:=Tryz.underlying201
  a148:=Tryz.isAgg201
  z148:=Tryz.sizeOf201
  v148:=Tryz.zeroValue201
  t164:=Tryz.underlying265
  a164:=Tryz.isAgg265
  z164:=Tryz.sizeOf265
  v164:=Tryz.zeroValue265 }
theorem Tryz.Builder_Extra_105 : Builder.Extra Tryz.prog Tryz.lays105_ren:={
  sizeBuilder:=by kernel_rfl
  liesBuilder:=by kernel_rfl
  t5:=Tryz.underlying5
  a5:=Tryz.isAgg5
  z5:=Tryz.sizeOf5
  v5:=Tryz.zeroValue5
  infoByte:=by kernel_rfl
  cellsByte:=by kernel_rfl
  sizeByte:=by kernel_rfl
  neB5:=by decide }
open Go.RowKit Go.Lib in
theorem Tryz.strings_Repeat (s : ByteArray) (c : Nat) (w : World) (hc : c≤9223372036854775807) (hlen : s.size * c≤140737488355328) :
    Calls Tryz.prog 27 #[.string s,.int .i64 c] w fun e w' => e=.returned (.string ⟨(Lib.repeatL s.data.toList c).toArray⟩)∧Below w.heap.size w w':=Any.strings_Repeat Tryz.lays105 Tryz.Builder_Extra_105 s c w hc hlen
end Go.Proofs
