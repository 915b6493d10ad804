/- Texts Ds Dt in one. -/
import Derived.Shelf.Strings.Builder1
import Derived.Shelf.Strings.Builder2
import Derived.Shelf.Strings.BuilderF
import Derived.Shelf.Strings.BuilderK
import Derived.Shelf.Utf8.RuneCount
import Derived.Shelf.Strings.Builder2Cap
import Derived.Shelf.Strconv.Atoi
import Derived.Shelf.Strconv.Itoa0
import Derived.Shelf.Strconv.Itoa1
import Derived.Shelf.LaysM
import Derived.Shelf.Strconv.Itoa2
import Derived.Shelf.Strconv.Itoa3
import Derived.Shelf.Strconv.AtoiErrFast
import Derived.Shelf.Strconv.ParseIntEmpty
import Derived.Shelf.Strconv.AtoiFail
import Derived.Shelf.Strconv.Clone
import Derived.Shelf.Strconv.SyntaxError
import Derived.Shelf.LaysC
import Derived.Shelf.Strconv.ToError
import Derived.Shelf.Strconv.Lower
import Derived.Shelf.Strconv.ParseUint10
import Derived.Shelf.Strconv.ParseUint10Empty
import Derived.Shelf.Strconv.ParseUint10Any
import Derived.Shelf.Strconv.ParseInt10
import Derived.Shelf.Strconv.AtoiLong
import Derived.Shelf.Strconv.AtoiInnerAll
import Derived.Shelf.Strconv.RangeError
import Derived.Shelf.Strconv.ToErrorRange
import Derived.Shelf.Strconv.AtoiAll
import Derived.Shelf.Strconv.ErrVarAll
import Derived.Shelf.Strconv.ParseUintEmpty
import Derived.Shelf.Strconv.ParseUint10b64
import Derived.Shelf.Strconv.ParseUint10b32
import Derived.Shelf.Strconv.ParseUint10b16
import Derived.Shelf.Strconv.ParseUint10b8
import Derived.Shelf.Strings.Search1
import Derived.Shelf.Strings.Search2
import Derived.Shelf.Strings.Search3
import Derived.Shelf.Strings.Count
import Derived.Shelf.Strings.Shaped
import Derived.Shelf.Strings.Split
import Derived.Shelf.Strings.Fields
import Derived.Shelf.Strings.Replace
import Derived.Shelf.Strings.SplitShaped
import Derived.Shelf.Unicode.Latin
import Derived.Shelf.Unicode.Decode
import Derived.Shelf.Strings.RuneCount
import Derived.Shelf.Unicode.DecodeSlow
import Derived.Shelf.Unicode.DecodeAny
import Derived.Shelf.Unicode.Is16White
import Derived.Shelf.Unicode.IsSpaceAny
import Derived.Shelf.Unicode.Is16WhiteD
import Derived.Shelf.Unicode.IsSpaceAnyD
import Derived.Shelf.Strings.FieldsAny
import Derived.Shelf.Strings.FieldsFuncAny
import Derived.Shelf.Unicode.Is16Any
import Derived.Shelf.Unicode.Is32Any
import Derived.Shelf.Unicode.ExclAny
import Derived.Shelf.Slices.Turned
import Derived.Test.YtobpacebpiabcaaGreatDoorProg
import Derived.Test.YtobpacebpiabcaaGreatDoorPkBs
import Derived.Lib.SmallJoins
import Derived.Lib.AppendIntMem
import Derived.Lib.SplitLaws
import Derived.Lib.LaidU8
namespace Go.Proofs
open Go.Shelf
def Tryz.laysM171_ren:Go.Shelf.Ren:=⟨fun | 171=>82 | 243=>104 | 246=>122 | 283=>143 | 284=>144 | 285=>145 | 286=>146 | 129=>133 | 317=>157 | 318=>158 | 319=>159 | 320=>160 | 337=>162 | 338=>163 | n=>n,fun | 3=>3 | 9=>9 | 2=>2 | 4=>4 | 171=>223 | 0=>0 | 53=>209 | 37=>22 | 5=>5 | 173=>225 | 212=>240 | 51=>169 | 20=>20 | 213=>241 | 46=>152 | 232=>246 | 233=>247 | n=>n,fun | 17=>7 | 18=>8 | 19=>9 | n=>n⟩
theorem Tryz.laysM171:Go.Proofs.LaysM.n171 Tryz.prog Tryz.laysM171_ren := {
 mixed:=by kernel_rfl
 f129:=Tryz.func133.trans (congrArg some (by kernel_rfl))
 f171:=Tryz.func82.trans (congrArg some (by kernel_rfl))
 f243:=Tryz.func104.trans (congrArg some (by kernel_rfl))
 f246:=Tryz.func122.trans (congrArg some (by kernel_rfl))
 f283:=Tryz.func143.trans (congrArg some (by kernel_rfl))
 f284:=Tryz.func144.trans (congrArg some (by kernel_rfl))
 f285:=Tryz.func145.trans (congrArg some (by kernel_rfl))
 f286:=Tryz.func146.trans (congrArg some (by kernel_rfl))
 f317:=Tryz.func157.trans (congrArg some (by kernel_rfl))
 f318:=Tryz.func158.trans (congrArg some (by kernel_rfl))
 f319:=Tryz.func159.trans (congrArg some (by kernel_rfl))
 f320:=Tryz.func160.trans (congrArg some (by kernel_rfl))
 f337:=Tryz.func162.trans (congrArg some (by kernel_rfl))
 f338:=Tryz.func163.trans (congrArg some (by kernel_rfl))
 t0:=Tryz.underlying0
 a0:=Tryz.isAgg0
 z0:=Tryz.sizeOf0
 v0:=Tryz.zeroValue0
 t2:=Tryz.underlying2
 a2:=Tryz.isAgg2
 z2:=Tryz.sizeOf2
 v2:=Tryz.zeroValue2
 t3:=Tryz.underlying3
 a3:=Tryz.isAgg3
 z3:=Tryz.sizeOf3
 v3:=Tryz.zeroValue3
 t4:=Tryz.underlying4
 a4:=Tryz.isAgg4
 z4:=Tryz.sizeOf4
 v4:=Tryz.zeroValue4
 t5:=Tryz.underlying5
 a5:=Tryz.isAgg5
 z5:=Tryz.sizeOf5
 v5:=Tryz.zeroValue5
 t9:=Tryz.underlying9
 a9:=Tryz.isAgg9
 z9:=Tryz.sizeOf9
 v9:=Tryz.zeroValue9
 t20:=Tryz.underlying20
 a20:=Tryz.isAgg20
 z20:=Tryz.sizeOf20
 v20:=Tryz.zeroValue20
 t37:=Tryz.underlying22
 a37:=Tryz.isAgg22
 z37:=Tryz.sizeOf22
 v37:=Tryz.zeroValue22
 t46:=Tryz.underlying152
 a46:=Tryz.isAgg152
 z46:=Tryz.sizeOf152
 v46:=Tryz.zeroValue152
 t51:=Tryz.underlying169
 a51:=Tryz.isAgg169
 z51:=Tryz.sizeOf169
 v51:=Tryz.zeroValue169
 t53:=Tryz.underlying209
 a53:=Tryz.isAgg209
 z53:=Tryz.sizeOf209
 v53:=Tryz.zeroValue209
 t171:=Tryz.underlying223
 a171:=Tryz.isAgg223
 z171:=Tryz.sizeOf223
 v171:=Tryz.zeroValue223
 t173:=Tryz.underlying225
 a173:=Tryz.isAgg225
 z173:=Tryz.sizeOf225
 v173:=Tryz.zeroValue225
 t212:=Tryz.underlying240
 a212:=Tryz.isAgg240
 z212:=Tryz.sizeOf240
 v212:=Tryz.zeroValue240
 t213:=Tryz.underlying241
 a213:=Tryz.isAgg241
 z213:=Tryz.sizeOf241
 t232:=Tryz.underlying246
 a232:=Tryz.isAgg246
 z232:=Tryz.sizeOf246
 v232:=Tryz.zeroValue246
 t233:=Tryz.underlying247
 a233:=Tryz.isAgg247
 z233:=Tryz.sizeOf247
 v233:=Tryz.zeroValue247
 g17:=by kernel_rfl
 g18:=by kernel_rfl
 g19:=by kernel_rfl
 i0:=by kernel_rfl
 i2:=by kernel_rfl
 i3:=by kernel_rfl
 i4:=by kernel_rfl
 i5:=by kernel_rfl
 i9:=by kernel_rfl
 i20:=by kernel_rfl
 i37:=by kernel_rfl
 i46:=by kernel_rfl
 i51:=by kernel_rfl
 i53:=by kernel_rfl
 i171:=by kernel_rfl
 i173:=by kernel_rfl
 i212:=by kernel_rfl
 i232:=by kernel_rfl
 i233:=by kernel_rfl
 m17:=by kernel_rfl
 m18:=by kernel_rfl
 m19:=by kernel_rfl }
open Go.RowKit Go.Sort Go.Lib in
theorem Tryz.strconv_Itoa (n : Int) (h0 : -9223372036854775808 ≤ n) (h1 : n ≤ 9223372036854775807) (w : World) (htab : Lib.TabIs Tryz.prog w "internal/strconv.uint64pow10" .u64 Lib.pow10Tab) :
  Calls Tryz.prog 82 #[.int .i64 n] w fun e w'=>e=.returned (.string ⟨(Lib.itoa n).toArray⟩)∧∃k os,w'=grow (w.drewN k) os:=Any.strconv_Itoa Tryz.laysM171 n h0 h1 w htab
def Tryz.laysC172_ren:Go.Shelf.Ren:=⟨fun | 172=>78 | 244=>101 | 245=>102 | 247=>117 | 279=>118 | 280=>119 | 281=>120 | 282=>121 | 287=>140 | 316=>141 | 171=>82 | 205=>142 | 321=>155 | 322=>156 | 243=>104 | 246=>122 | 283=>143 | 284=>144 | 285=>145 | 286=>146 | 129=>133 | 317=>157 | 318=>158 | 319=>159 | 320=>160 | 337=>162 | 338=>163 | n=>n,fun | 9=>9 | 3=>3 | 75=>130 | 76=>131 | 4=>4 | 5=>5 | 167=>191 | 37=>22 | 0=>0 | 85=>192 | 2=>2 | 168=>194 | 53=>209 | 175=>218 | 46=>152 | 210=>221 | 127=>179 | 145=>238 | 143=>236 | 21=>21 | 171=>223 | 173=>225 | 212=>240 | 51=>169 | 20=>20 | 213=>241 | 232=>246 | 233=>247 | 80=>128 | n=>n,fun | 15=>5 | 16=>6 | 17=>7 | 18=>8 | 19=>9 | n=>n⟩
theorem Tryz.laysC172:Go.Proofs.LaysC.n172 Tryz.prog Tryz.laysC172_ren := {
 mixed:=by kernel_rfl
 f129:=Tryz.func133.trans (congrArg some (by kernel_rfl))
 f171:=Tryz.func82.trans (congrArg some (by kernel_rfl))
 f172:=Tryz.func78.trans (congrArg some (by kernel_rfl))
 f205:=Tryz.func142.trans (congrArg some (by kernel_rfl))
 f243:=Tryz.func104.trans (congrArg some (by kernel_rfl))
 f244:=Tryz.func101.trans (congrArg some (by kernel_rfl))
 f245:=Tryz.func102.trans (congrArg some (by kernel_rfl))
 f246:=Tryz.func122.trans (congrArg some (by kernel_rfl))
 f247:=Tryz.func117.trans (congrArg some (by kernel_rfl))
 f279:=Tryz.func118.trans (congrArg some (by kernel_rfl))
 f280:=Tryz.func119.trans (congrArg some (by kernel_rfl))
 f281:=Tryz.func120.trans (congrArg some (by kernel_rfl))
 f282:=Tryz.func121.trans (congrArg some (by kernel_rfl))
 f283:=Tryz.func143.trans (congrArg some (by kernel_rfl))
 f284:=Tryz.func144.trans (congrArg some (by kernel_rfl))
 f285:=Tryz.func145.trans (congrArg some (by kernel_rfl))
 f286:=Tryz.func146.trans (congrArg some (by kernel_rfl))
 f287:=Tryz.func140.trans (congrArg some (by kernel_rfl))
 f316:=Tryz.func141.trans (congrArg some (by kernel_rfl))
 f317:=Tryz.func157.trans (congrArg some (by kernel_rfl))
 f318:=Tryz.func158.trans (congrArg some (by kernel_rfl))
 f319:=Tryz.func159.trans (congrArg some (by kernel_rfl))
 f320:=Tryz.func160.trans (congrArg some (by kernel_rfl))
 f321:=Tryz.func155.trans (congrArg some (by kernel_rfl))
 f322:=Tryz.func156.trans (congrArg some (by kernel_rfl))
 f337:=Tryz.func162.trans (congrArg some (by kernel_rfl))
 f338:=Tryz.func163.trans (congrArg some (by kernel_rfl))
 t0:=Tryz.underlying0
 a0:=Tryz.isAgg0
 z0:=Tryz.sizeOf0
 v0:=Tryz.zeroValue0
 t2:=Tryz.underlying2
 a2:=Tryz.isAgg2
 z2:=Tryz.sizeOf2
 v2:=Tryz.zeroValue2
 t3:=Tryz.underlying3
 a3:=Tryz.isAgg3
 z3:=Tryz.sizeOf3
 v3:=Tryz.zeroValue3
 t4:=Tryz.underlying4
 a4:=Tryz.isAgg4
 z4:=Tryz.sizeOf4
 v4:=Tryz.zeroValue4
 t5:=Tryz.underlying5
 a5:=Tryz.isAgg5
 z5:=Tryz.sizeOf5
 v5:=Tryz.zeroValue5
 t9:=Tryz.underlying9
 a9:=Tryz.isAgg9
 z9:=Tryz.sizeOf9
 v9:=Tryz.zeroValue9
 t20:=Tryz.underlying20
 a20:=Tryz.isAgg20
 z20:=Tryz.sizeOf20
 v20:=Tryz.zeroValue20
 t21:=Tryz.underlying21
 a21:=Tryz.isAgg21
 z21:=Tryz.sizeOf21
 v21:=Tryz.zeroValue21
 t37:=Tryz.underlying22
 a37:=Tryz.isAgg22
 z37:=Tryz.sizeOf22
 v37:=Tryz.zeroValue22
 t46:=Tryz.underlying152
 a46:=Tryz.isAgg152
 z46:=Tryz.sizeOf152
 v46:=Tryz.zeroValue152
 t51:=Tryz.underlying169
 a51:=Tryz.isAgg169
 z51:=Tryz.sizeOf169
 v51:=Tryz.zeroValue169
 t53:=Tryz.underlying209
 a53:=Tryz.isAgg209
 z53:=Tryz.sizeOf209
 v53:=Tryz.zeroValue209
 t75:=Tryz.underlying130
 a75:=Tryz.isAgg130
 z75:=Tryz.sizeOf130
 v75:=Tryz.zeroValue130
 t76:=Tryz.underlying131
 a76:=Tryz.isAgg131
 z76:=Tryz.sizeOf131
 v76:=Tryz.zeroValue131
 t85:=Tryz.underlying192
 a85:=Tryz.isAgg192
 z85:=Tryz.sizeOf192
 v85:=Tryz.zeroValue192
 t127:=Tryz.underlying179
 a127:=Tryz.isAgg179
 z127:=Tryz.sizeOf179
 v127:=Tryz.zeroValue179
 t143:=Tryz.underlying236
 a143:=Tryz.isAgg236
 z143:=Tryz.sizeOf236
 v143:=Tryz.zeroValue236
 t145:=Tryz.underlying238
 a145:=Tryz.isAgg238
 z145:=Tryz.sizeOf238
 v145:=Tryz.zeroValue238
 t167:=Tryz.underlying191
 a167:=Tryz.isAgg191
 z167:=Tryz.sizeOf191
 v167:=Tryz.zeroValue191
 t168:=Tryz.underlying194
 a168:=Tryz.isAgg194
 z168:=Tryz.sizeOf194
 v168:=Tryz.zeroValue194
 t171:=Tryz.underlying223
 a171:=Tryz.isAgg223
 z171:=Tryz.sizeOf223
 v171:=Tryz.zeroValue223
 t173:=Tryz.underlying225
 a173:=Tryz.isAgg225
 z173:=Tryz.sizeOf225
 v173:=Tryz.zeroValue225
 t175:=Tryz.underlying218
 a175:=Tryz.isAgg218
 z175:=Tryz.sizeOf218
 v175:=Tryz.zeroValue218
 t210:=Tryz.underlying221
 a210:=Tryz.isAgg221
 z210:=Tryz.sizeOf221
 v210:=Tryz.zeroValue221
 t212:=Tryz.underlying240
 a212:=Tryz.isAgg240
 z212:=Tryz.sizeOf240
 v212:=Tryz.zeroValue240
 t213:=Tryz.underlying241
 a213:=Tryz.isAgg241
 z213:=Tryz.sizeOf241
 t232:=Tryz.underlying246
 a232:=Tryz.isAgg246
 z232:=Tryz.sizeOf246
 v232:=Tryz.zeroValue246
 t233:=Tryz.underlying247
 a233:=Tryz.isAgg247
 z233:=Tryz.sizeOf247
 v233:=Tryz.zeroValue247
 g15:=by kernel_rfl
 g16:=by kernel_rfl
 g17:=by kernel_rfl
 g18:=by kernel_rfl
 g19:=by kernel_rfl
 t80:=Tryz.underlying128
 a80:=Tryz.isAgg128
 z80:=Tryz.sizeOf128
 v80:=Tryz.zeroValue128
 i0:=by kernel_rfl
 i2:=by kernel_rfl
 i3:=by kernel_rfl
 i4:=by kernel_rfl
 i5:=by kernel_rfl
 i9:=by kernel_rfl
 i20:=by kernel_rfl
 i21:=by kernel_rfl
 i37:=by kernel_rfl
 i46:=by kernel_rfl
 i51:=by kernel_rfl
 i53:=by kernel_rfl
 i75:=by kernel_rfl
 i76:=by kernel_rfl
 i80:=by kernel_rfl
 i85:=by kernel_rfl
 i127:=by kernel_rfl
 i143:=by kernel_rfl
 i145:=by kernel_rfl
 i167:=by kernel_rfl
 i168:=by kernel_rfl
 i171:=by kernel_rfl
 i173:=by kernel_rfl
 i175:=by kernel_rfl
 i210:=by kernel_rfl
 i212:=by kernel_rfl
 i232:=by kernel_rfl
 i233:=by kernel_rfl
 m15:=by kernel_rfl
 m16:=by kernel_rfl
 m17:=by kernel_rfl
 m18:=by kernel_rfl
 m19:=by kernel_rfl
 c0:=by kernel_rfl
 c2:=by kernel_rfl
 c3:=by kernel_rfl
 c4:=by kernel_rfl
 c5:=by kernel_rfl
 c9:=by kernel_rfl
 c20:=by kernel_rfl
 c21:=by kernel_rfl
 c37:=by kernel_rfl
 c46:=by kernel_rfl
 c51:=by kernel_rfl
 c53:=by kernel_rfl
 c75:=by kernel_rfl
 c76:=by kernel_rfl
 c80:=by kernel_rfl
 c85:=by kernel_rfl
 c127:=by kernel_rfl
 c143:=by kernel_rfl
 c145:=by kernel_rfl
 c167:=by kernel_rfl
 c168:=by kernel_rfl
 c171:=by kernel_rfl
 c173:=by kernel_rfl
 c175:=by kernel_rfl
 c210:=by kernel_rfl
 c212:=by kernel_rfl
 c213:=by kernel_rfl
 c232:=by kernel_rfl
 c233:=by kernel_rfl }
open Go.RowKit in
theorem Tryz.strconv_Atoi_ok (s:ByteArray)(hmax:s.size≤9223372036854775806)(v:Int)(h:Lib.atoiAll s.data.toList=.ok v)(w:World) :
  Calls Tryz.prog 78 #[.string s] w fun e w'=>e=.returned (.tuple #[.int .i64 v,.nilIface])∧(w'=w∨∃t,w'=Lib.bytesWorld w 5 t):=Any.strconv_Atoi_ok Tryz.laysC172 s hmax v h w
open Go.RowKit in
theorem Tryz.strconv_Atoi_bad_var (s : ByteArray) (hlim : s.size ≤ 281474976710656) (h1 : ∀ v, Lib.atoiAll s.data.toList ≠ .ok v) (h2 : Lib.atoiAll s.data.toList ≠ .range) (tp : TypeId) (p : Value) (w : World) (hvar : w.var? Tryz.prog "strconv.ErrSyntax" = some #[.iface tp p]) :
  Calls Tryz.prog 78 #[.string s] w fun e w'=>∃N,e=.returned (.tuple #[.int .i64 0,.iface 194 (.pointer (some ⟨N,0,none⟩))])∧w.heap.size≤N∧w'.heap[N]?=some (.cells #[.string ⟨#[65,116,111,105]⟩,.string s,.iface tp p] 221 (0,0))∧Below w.heap.size w w':=by
 cases hx:Lib.atoiAll s.data.toList with
 | ok v=>exact absurd hx (h1 v)
 | range=>exact absurd hx h2
 | _=>exact Any.strconv_Atoi_syntax_var Tryz.laysC172 s hlim hx tp p w hvar
open Go.RowKit in
theorem Tryz.strconv_Atoi_range_var (s : ByteArray) (hlim : s.size ≤ 281474976710656) (h : Lib.atoiAll s.data.toList = .range) (tp : TypeId) (p : Value) (w : World) (hvar : w.var? Tryz.prog "strconv.ErrRange" = some #[.iface tp p]) :
  Calls Tryz.prog 78 #[.string s] w fun e w'=>∃N,e=.returned (.tuple #[.int .i64 (Lib.atoiSat s.data.toList),.iface 194 (.pointer (some ⟨N,0,none⟩))])∧w.heap.size≤N∧w'.heap[N]?=some (.cells #[.string ⟨#[65,116,111,105]⟩,.string s,.iface tp p] 221 (0,0))∧Below w.heap.size w w':=Any.strconv_Atoi_range_var Tryz.laysC172 s hlim h tp p w hvar
def Tryz.lays157_ren:Go.Shelf.Ren:=⟨fun | 157=>47 | 229=>75 | 199=>76 | 261=>100 | 311=>115 | 312=>116 | n=>n,fun | 9=>9 | 31=>36 | 3=>3 | 5=>5 | 4=>4 | 119=>124 | 0=>0 | 40=>126 | 152=>166 | 21=>21 | 154=>168 | 51=>169 | 141=>171 | 196=>183 | 193=>180 | 198=>186 | 49=>184 | 194=>181 | 201=>189 | 226=>216 | 46=>152 | 227=>217 | n=>n,fun | 0=>0 | 6=>1 | n=>n⟩
theorem Tryz.lays157:Go.Proofs.Lays.n157 Tryz.prog Tryz.lays157_ren := {
 mixed:=by kernel_rfl
 f157:=Tryz.func47.trans (congrArg some (by kernel_rfl))
 f199:=Tryz.func76.trans (congrArg some (by kernel_rfl))
 f229:=Tryz.func75.trans (congrArg some (by kernel_rfl))
 f261:=Tryz.func100.trans (congrArg some (by kernel_rfl))
 f311:=Tryz.func115.trans (congrArg some (by kernel_rfl))
 f312:=Tryz.func116.trans (congrArg some (by kernel_rfl))
 t0:=Tryz.underlying0
 a0:=Tryz.isAgg0
 z0:=Tryz.sizeOf0
 v0:=Tryz.zeroValue0
 t3:=Tryz.underlying3
 a3:=Tryz.isAgg3
 z3:=Tryz.sizeOf3
 v3:=Tryz.zeroValue3
 t4:=Tryz.underlying4
 a4:=Tryz.isAgg4
 z4:=Tryz.sizeOf4
 v4:=Tryz.zeroValue4
 t5:=Tryz.underlying5
 a5:=Tryz.isAgg5
 z5:=Tryz.sizeOf5
 v5:=Tryz.zeroValue5
 t9:=Tryz.underlying9
 a9:=Tryz.isAgg9
 z9:=Tryz.sizeOf9
 v9:=Tryz.zeroValue9
 t21:=Tryz.underlying21
 a21:=Tryz.isAgg21
 z21:=Tryz.sizeOf21
 v21:=Tryz.zeroValue21
 t31:=Tryz.underlying36
 a31:=Tryz.isAgg36
 z31:=Tryz.sizeOf36
 v31:=Tryz.zeroValue36
 t40:=Tryz.underlying126
 a40:=Tryz.isAgg126
 z40:=Tryz.sizeOf126
 v40:=Tryz.zeroValue126
 t46:=Tryz.underlying152
 a46:=Tryz.isAgg152
 z46:=Tryz.sizeOf152
 v46:=Tryz.zeroValue152
 t49:=Tryz.underlying184
 a49:=Tryz.isAgg184
 z49:=Tryz.sizeOf184
 v49:=Tryz.zeroValue184
 t51:=Tryz.underlying169
 a51:=Tryz.isAgg169
 z51:=Tryz.sizeOf169
 v51:=Tryz.zeroValue169
 t119:=Tryz.underlying124
 a119:=Tryz.isAgg124
 z119:=Tryz.sizeOf124
 t141:=Tryz.underlying171
 a141:=Tryz.isAgg171
 z141:=Tryz.sizeOf171
 v141:=Tryz.zeroValue171
 t152:=Tryz.underlying166
 a152:=Tryz.isAgg166
 z152:=Tryz.sizeOf166
 v152:=Tryz.zeroValue166
 t154:=Tryz.underlying168
 a154:=Tryz.isAgg168
 z154:=Tryz.sizeOf168
 v154:=Tryz.zeroValue168
 t193:=Tryz.underlying180
 a193:=Tryz.isAgg180
 z193:=Tryz.sizeOf180
 v193:=Tryz.zeroValue180
 t194:=Tryz.underlying181
 a194:=Tryz.isAgg181
 z194:=Tryz.sizeOf181
 v194:=Tryz.zeroValue181
 t196:=Tryz.underlying183
 a196:=Tryz.isAgg183
 z196:=Tryz.sizeOf183
 v196:=Tryz.zeroValue183
 t198:=Tryz.underlying186
 a198:=Tryz.isAgg186
 z198:=Tryz.sizeOf186
 v198:=Tryz.zeroValue186
 t201:=Tryz.underlying189
 a201:=Tryz.isAgg189
 z201:=Tryz.sizeOf189
 v201:=Tryz.zeroValue189
 t226:=Tryz.underlying216
 a226:=Tryz.isAgg216
 z226:=Tryz.sizeOf216
 v226:=Tryz.zeroValue216
 t227:=Tryz.underlying217
 a227:=Tryz.isAgg217
 z227:=Tryz.sizeOf217
 v227:=Tryz.zeroValue217
 g0:=by kernel_rfl
 g6:=by kernel_rfl }
def Tryz.lays155_ren:Go.Shelf.Ren:=⟨fun | 155=>46 | 154=>74 | 138=>94 | 165=>95 | 143=>96 | 166=>97 | 197=>98 | 169=>99 | 195=>109 | 218=>110 | 240=>111 | 241=>112 | 219=>113 | 260=>114 | 276=>134 | 277=>135 | 217=>136 | 225=>137 | 224=>138 | 267=>139 | 266=>153 | 314=>154 | n=>n,fun | 9=>9 | 3=>3 | 4=>4 | 72=>162 | 0=>0 | 76=>131 | 105=>164 | 21=>21 | 5=>5 | 70=>160 | 20=>20 | 37=>22 | 75=>130 | 127=>179 | 164=>210 | 46=>152 | 119=>124 | 139=>215 | 138=>214 | 146=>233 | 51=>169 | 80=>128 | n=>n,fun | 1=>2 | 3=>3 | 4=>4 | n=>n⟩
theorem Tryz.lays155:Go.Proofs.Lays.n155 Tryz.prog Tryz.lays155_ren := {
 mixed:=by kernel_rfl
 f138:=Tryz.func94.trans (congrArg some (by kernel_rfl))
 f143:=Tryz.func96.trans (congrArg some (by kernel_rfl))
 f154:=Tryz.func74.trans (congrArg some (by kernel_rfl))
 f155:=Tryz.func46.trans (congrArg some (by kernel_rfl))
 f165:=Tryz.func95.trans (congrArg some (by kernel_rfl))
 f166:=Tryz.func97.trans (congrArg some (by kernel_rfl))
 f169:=Tryz.func99.trans (congrArg some (by kernel_rfl))
 f195:=Tryz.func109.trans (congrArg some (by kernel_rfl))
 f197:=Tryz.func98.trans (congrArg some (by kernel_rfl))
 f217:=Tryz.func136.trans (congrArg some (by kernel_rfl))
 f218:=Tryz.func110.trans (congrArg some (by kernel_rfl))
 f219:=Tryz.func113.trans (congrArg some (by kernel_rfl))
 f224:=Tryz.func138.trans (congrArg some (by kernel_rfl))
 f225:=Tryz.func137.trans (congrArg some (by kernel_rfl))
 f240:=Tryz.func111.trans (congrArg some (by kernel_rfl))
 f241:=Tryz.func112.trans (congrArg some (by kernel_rfl))
 f260:=Tryz.func114.trans (congrArg some (by kernel_rfl))
 f266:=Tryz.func153.trans (congrArg some (by kernel_rfl))
 f267:=Tryz.func139.trans (congrArg some (by kernel_rfl))
 f276:=Tryz.func134.trans (congrArg some (by kernel_rfl))
 f277:=Tryz.func135.trans (congrArg some (by kernel_rfl))
 f314:=Tryz.func154.trans (congrArg some (by kernel_rfl))
 t0:=Tryz.underlying0
 a0:=Tryz.isAgg0
 z0:=Tryz.sizeOf0
 v0:=Tryz.zeroValue0
 t3:=Tryz.underlying3
 a3:=Tryz.isAgg3
 z3:=Tryz.sizeOf3
 v3:=Tryz.zeroValue3
 t4:=Tryz.underlying4
 a4:=Tryz.isAgg4
 z4:=Tryz.sizeOf4
 v4:=Tryz.zeroValue4
 t5:=Tryz.underlying5
 a5:=Tryz.isAgg5
 z5:=Tryz.sizeOf5
 v5:=Tryz.zeroValue5
 t9:=Tryz.underlying9
 a9:=Tryz.isAgg9
 z9:=Tryz.sizeOf9
 v9:=Tryz.zeroValue9
 t20:=Tryz.underlying20
 a20:=Tryz.isAgg20
 z20:=Tryz.sizeOf20
 v20:=Tryz.zeroValue20
 t21:=Tryz.underlying21
 a21:=Tryz.isAgg21
 z21:=Tryz.sizeOf21
 v21:=Tryz.zeroValue21
 t37:=Tryz.underlying22
 a37:=Tryz.isAgg22
 z37:=Tryz.sizeOf22
 v37:=Tryz.zeroValue22
 t46:=Tryz.underlying152
 a46:=Tryz.isAgg152
 z46:=Tryz.sizeOf152
 v46:=Tryz.zeroValue152
 t51:=Tryz.underlying169
 a51:=Tryz.isAgg169
 z51:=Tryz.sizeOf169
 v51:=Tryz.zeroValue169
 t70:=Tryz.underlying160
 a70:=Tryz.isAgg160
 z70:=Tryz.sizeOf160
 v70:=Tryz.zeroValue160
 t72:=Tryz.underlying162
 a72:=Tryz.isAgg162
 z72:=Tryz.sizeOf162
 v72:=Tryz.zeroValue162
 t75:=Tryz.underlying130
 a75:=Tryz.isAgg130
 z75:=Tryz.sizeOf130
 v75:=Tryz.zeroValue130
 t76:=Tryz.underlying131
 a76:=Tryz.isAgg131
 z76:=Tryz.sizeOf131
 v76:=Tryz.zeroValue131
 t105:=Tryz.underlying164
 a105:=Tryz.isAgg164
 z105:=Tryz.sizeOf164
 v105:=Tryz.zeroValue164
 t119:=Tryz.underlying124
 a119:=Tryz.isAgg124
 z119:=Tryz.sizeOf124
 t127:=Tryz.underlying179
 a127:=Tryz.isAgg179
 z127:=Tryz.sizeOf179
 v127:=Tryz.zeroValue179
 t138:=Tryz.underlying214
 a138:=Tryz.isAgg214
 z138:=Tryz.sizeOf214
 v138:=Tryz.zeroValue214
 t139:=Tryz.underlying215
 a139:=Tryz.isAgg215
 z139:=Tryz.sizeOf215
 v139:=Tryz.zeroValue215
 t146:=Tryz.underlying233
 a146:=Tryz.isAgg233
 z146:=Tryz.sizeOf233
 v146:=Tryz.zeroValue233
 t164:=Tryz.underlying210
 a164:=Tryz.isAgg210
 z164:=Tryz.sizeOf210
 v164:=Tryz.zeroValue210
 g1:=by kernel_rfl
 g3:=by kernel_rfl
 g4:=by kernel_rfl }
theorem Tryz.Builder_Extra_155:Builder.Extra Tryz.prog Tryz.lays155_ren := {
 sizeBuilder:=by kernel_rfl
 liesBuilder:=by kernel_rfl
 t5:=Tryz.underlying5
 a5:=Tryz.isAgg5
 z5:=Tryz.sizeOf5
 v5:=Tryz.zeroValue5
 infoByte:=by kernel_rfl
 cellsByte:=by kernel_rfl
 sizeByte:=by kernel_rfl
 neB5:=by decide }
open Go.RowKit Go.Lib in
theorem Tryz.strings_ReplaceAll (s old new:ByteArray)(m:Int)(w:World)(hs:s.size < 4294967281)(hm:w.cell? ⟨2,0,none⟩=some (.int .i64 m))(h1:1≤old.size)(hlen:s.size+Lib.countB s old * new.size≤140737488355328) :
  Calls Tryz.prog 46 #[.string s,.string old,.string new] w fun e w' =>
   e=.returned (.string ⟨(Lib.replaceAll s.data.toList old.data.toList new.data.toList).toArray⟩)∧Below w.heap.size w w':=Any.strings_ReplaceAll Tryz.lays155 Tryz.Builder_Extra_155 s old new m w hs hm h1 hlen
def Tryz.laysM157_ren:Go.Shelf.Ren:=⟨fun | 157=>47 | 229=>75 | 199=>76 | 261=>100 | 311=>115 | 312=>116 | n=>n,fun | 9=>9 | 31=>36 | 3=>3 | 5=>5 | 4=>4 | 119=>124 | 0=>0 | 40=>126 | 152=>166 | 21=>21 | 154=>168 | 51=>169 | 141=>171 | 196=>183 | 193=>180 | 198=>186 | 49=>184 | 194=>181 | 201=>189 | 226=>216 | 46=>152 | 227=>217 | n=>n,fun | 0=>0 | 6=>1 | n=>n⟩
theorem Tryz.laysM157:Go.Proofs.LaysM.n157 Tryz.prog Tryz.laysM157_ren := {
 mixed:=by kernel_rfl
 f157:=Tryz.func47.trans (congrArg some (by kernel_rfl))
 f199:=Tryz.func76.trans (congrArg some (by kernel_rfl))
 f229:=Tryz.func75.trans (congrArg some (by kernel_rfl))
 f261:=Tryz.func100.trans (congrArg some (by kernel_rfl))
 f311:=Tryz.func115.trans (congrArg some (by kernel_rfl))
 f312:=Tryz.func116.trans (congrArg some (by kernel_rfl))
 t0:=Tryz.underlying0
 a0:=Tryz.isAgg0
 z0:=Tryz.sizeOf0
 v0:=Tryz.zeroValue0
 t3:=Tryz.underlying3
 a3:=Tryz.isAgg3
 z3:=Tryz.sizeOf3
 v3:=Tryz.zeroValue3
 t4:=Tryz.underlying4
 a4:=Tryz.isAgg4
 z4:=Tryz.sizeOf4
 v4:=Tryz.zeroValue4
 t5:=Tryz.underlying5
 a5:=Tryz.isAgg5
 z5:=Tryz.sizeOf5
 v5:=Tryz.zeroValue5
 t9:=Tryz.underlying9
 a9:=Tryz.isAgg9
 z9:=Tryz.sizeOf9
 v9:=Tryz.zeroValue9
 t21:=Tryz.underlying21
 a21:=Tryz.isAgg21
 z21:=Tryz.sizeOf21
 v21:=Tryz.zeroValue21
 t31:=Tryz.underlying36
 a31:=Tryz.isAgg36
 z31:=Tryz.sizeOf36
 v31:=Tryz.zeroValue36
 t40:=Tryz.underlying126
 a40:=Tryz.isAgg126
 z40:=Tryz.sizeOf126
 v40:=Tryz.zeroValue126
 t46:=Tryz.underlying152
 a46:=Tryz.isAgg152
 z46:=Tryz.sizeOf152
 v46:=Tryz.zeroValue152
 t49:=Tryz.underlying184
 a49:=Tryz.isAgg184
 z49:=Tryz.sizeOf184
 v49:=Tryz.zeroValue184
 t51:=Tryz.underlying169
 a51:=Tryz.isAgg169
 z51:=Tryz.sizeOf169
 v51:=Tryz.zeroValue169
 t119:=Tryz.underlying124
 a119:=Tryz.isAgg124
 z119:=Tryz.sizeOf124
 t141:=Tryz.underlying171
 a141:=Tryz.isAgg171
 z141:=Tryz.sizeOf171
 v141:=Tryz.zeroValue171
 t152:=Tryz.underlying166
 a152:=Tryz.isAgg166
 z152:=Tryz.sizeOf166
 v152:=Tryz.zeroValue166
 t154:=Tryz.underlying168
 a154:=Tryz.isAgg168
 z154:=Tryz.sizeOf168
 v154:=Tryz.zeroValue168
 t193:=Tryz.underlying180
 a193:=Tryz.isAgg180
 z193:=Tryz.sizeOf180
 v193:=Tryz.zeroValue180
 t194:=Tryz.underlying181
 a194:=Tryz.isAgg181
 z194:=Tryz.sizeOf181
 v194:=Tryz.zeroValue181
 t196:=Tryz.underlying183
 a196:=Tryz.isAgg183
 z196:=Tryz.sizeOf183
 v196:=Tryz.zeroValue183
 t198:=Tryz.underlying186
 a198:=Tryz.isAgg186
 z198:=Tryz.sizeOf186
 v198:=Tryz.zeroValue186
 t201:=Tryz.underlying189
 a201:=Tryz.isAgg189
 z201:=Tryz.sizeOf189
 v201:=Tryz.zeroValue189
 t226:=Tryz.underlying216
 a226:=Tryz.isAgg216
 z226:=Tryz.sizeOf216
 v226:=Tryz.zeroValue216
 t227:=Tryz.underlying217
 a227:=Tryz.isAgg217
 z227:=Tryz.sizeOf217
 v227:=Tryz.zeroValue217
 g0:=by kernel_rfl
 g6:=by kernel_rfl
 i0:=by kernel_rfl
 i3:=by kernel_rfl
 i4:=by kernel_rfl
 i5:=by kernel_rfl
 i9:=by kernel_rfl
 i21:=by kernel_rfl
 i31:=by kernel_rfl
 i40:=by kernel_rfl
 i46:=by kernel_rfl
 i49:=by kernel_rfl
 i51:=by kernel_rfl
 i141:=by kernel_rfl
 i152:=by kernel_rfl
 i154:=by kernel_rfl
 i193:=by kernel_rfl
 i194:=by kernel_rfl
 i196:=by kernel_rfl
 i198:=by kernel_rfl
 i201:=by kernel_rfl
 i226:=by kernel_rfl
 i227:=by kernel_rfl
 m0:=by kernel_rfl
 m6:=by kernel_rfl }
open Go.RowKit Go.Lib in
theorem Tryz.strings_Fields_laid (s : ByteArray) (w : World) (hs : s.size < 4294967281) (hascii : ∀ (j : Nat) b, s.data.toList[j]? = some b → b.toNat < 128) (htab : Lib.TabIs Tryz.prog w "strings.asciiSpace" .u8 Lib.asciiSpaceTab) :
  Calls Tryz.prog 47 #[.string s] w fun e w' =>
   e=.returned (.slice (some ⟨w.heap.size,0,none⟩) (Lib.fields s.data.toList).length (Lib.fields s.data.toList).length)∧w'=w.alloc (.cells ((Lib.fields s.data.toList).map fun l=>Value.string ⟨l.toArray⟩).toArray 9):=Any.strings_Fields_laid Tryz.laysM157 s w hs hascii htab
open Go.RowKit Go.Lib in
theorem Tryz.strings_Fields_any (s : ByteArray) (w : World) (hs : s.size < 4294967281) (htab : Lib.TabIs Tryz.prog w "strings.asciiSpace" .u8 Lib.asciiSpaceTab) (hW : Lib.WhiteTab 1 w) :
  Calls Tryz.prog 47 #[.string s] w fun e w'=>∃A,e=.returned (.slice (some ⟨A,0,none⟩) (Lib.fieldsD s.data.toList).length (Lib.fieldsD s.data.toList).length)∧w.heap.size≤A ∧
   w'.ownsRow w.heap.size 9 1 (.slice (some ⟨A,0,none⟩) (Lib.fieldsD s.data.toList).length (Lib.fieldsD s.data.toList).length) (Lib.fieldsD s.data.toList).length ((Lib.fieldsD s.data.toList).map fun x=>Value.string ⟨x.toArray⟩)∧Below w.heap.size w w':=Any.strings_Fields_any Tryz.lays157 (by kernel_rfl) (by kernel_rfl) (by kernel_rfl) s w hs htab hW
end Go.Proofs

namespace Go.Proofs.YtobpacebpiabcaaGreatDoor
open Go.RowKit Go.Lib
def LibTabs (w : World) : Prop := TabIs Tryz.prog w "internal/strconv.uint64pow10" .u64 pow10Tab ∧ TabIs Tryz.prog w "strings.asciiSpace" .u8 asciiSpaceTab ∧ WhiteTab 1 w ∧
 (∃ t p, w.var? Tryz.prog "strconv.ErrSyntax" = some #[.iface t p]) ∧ (∃ t p, w.var? Tryz.prog "strconv.ErrRange" = some #[.iface t p]) ∧ ∃ m, w.cell? ⟨2, 0, none⟩ = some (.int .i64 m)
theorem cell_lt {w:World}{p:Addr}{v:Value}(h:w.cell? p=some v):p.block < w.heap.size:=by
 rcases Nat.lt_or_ge p.block w.heap.size with e | e
 ·
  exact e
 ·
  rw[World.cell?,Array.getElem?_eq_none (by omega)] at h
  cases h
theorem libOk {w:World}(h:LibTabs w):LibOk w.heap.size w:=by
 obtain⟨h1,h2,h3,⟨ts,ps,h4⟩,⟨tr,pr,h5⟩,m,h6⟩:=h
 refine⟨Nat.le_refl _,fun W hb=>⟨fun n hn => ?_,fun l hl => ?_,fun l a b hl ha hb' => ?_,fun l hl => ?_⟩⟩
 ·
  have ht:=Joins.tab_stays (g:=7) (by kernel_rfl) h1 hb (Nat.le_refl _)
  refine (Tryz.strconv_Itoa n hn.1 hn.2 W ht).mono fun e w' ⟨e1,k,os,e2⟩=>⟨e1, ?_⟩
  rw[e2]
  exact below_grow _ W (Nat.le_refl _) k os
 ·
  have g1:=Joins.var_stays (g:=5) (by kernel_rfl) h4 hb (Nat.le_refl _)
  have g2:=Joins.var_stays (g:=6) (by kernel_rfl) h5 hb (Nat.le_refl _)
  have hs:(⟨l.toArray⟩:ByteArray).size=l.length:=by show l.toArray.size=_;simp
  unfold atoiV
  cases ha:atoiAll l with
  | ok v =>
   refine (Tryz.strconv_Atoi_ok ⟨l.toArray⟩ (by omega) v ha W).mono fun e w' ⟨e1,e2⟩=>⟨_,e1, ?_⟩
   rcases e2 with rfl | ⟨t,rfl⟩
   ·
    exact Below.refl _ _
   ·
    exact Joins.below_bytesWorld _ W _ t (Nat.le_refl _)
  | range=>exact (Tryz.strconv_Atoi_range_var ⟨l.toArray⟩ (by omega) ha _ _ W g2).mono fun e w' ⟨N,e1,_,_,e2⟩=>⟨_,e1,e2⟩
  | _=>exact (Tryz.strconv_Atoi_bad_var ⟨l.toArray⟩ (by omega) (fun v h=>by rw[ha] at h;cases h) (fun h=>by rw[ha] at h;cases h) _ _ W g1).mono fun e w' ⟨N,e1,_,_,e2⟩=>⟨_,e1,e2⟩
 ·
  have hm:=(hb.cell (cell_lt h6)).trans h6
  have hs:(⟨l.toArray⟩:ByteArray).size=l.length:=by show l.toArray.size=_;simp
  have hsa:(⟨a.toArray⟩:ByteArray).size=a.length:=by show a.toArray.size=_;simp
  have hsb:(⟨b.toArray⟩:ByteArray).size=b.length:=by show b.toArray.size=_;simp
  have hc:=countB_le ⟨a.toArray⟩ (by omega) _ ⟨l.toArray⟩ (Nat.le_refl _)
  have hmul:countB ⟨l.toArray⟩ ⟨a.toArray⟩ * (⟨b.toArray⟩:ByteArray).size≤10000 * 10:=Nat.mul_le_mul (by omega) (by omega)
  exact (Tryz.strings_ReplaceAll ⟨l.toArray⟩ ⟨a.toArray⟩ ⟨b.toArray⟩ m W (by omega) hm (by omega) (by omega)).mono fun e w' ⟨e1,e2⟩=>⟨e1,e2⟩
 ·
  have hs:(⟨l.toArray⟩:ByteArray).size=l.length:=by show l.toArray.size=_;simp
  have ht:=Joins.tab_stays (g:=0) (by kernel_rfl) h2 hb (Nat.le_refl _)
  unfold fieldsX
  by_cases hasc:ascii l=true
  ·
   rw[if_pos hasc]
   have hlen:(fields l).length≤2+l.length:=by have:=(fieldsX_len l).1;unfold fieldsX at this;rw[if_pos hasc] at this;exact this
   refine (Tryz.strings_Fields_laid ⟨l.toArray⟩ W (by omega) (fun j b hj=>ascii_iff.1 hasc b (List.mem_of_getElem? hj)) ht).mono fun e w' ⟨e1,e2⟩=>⟨_,e1, ?_,by rw[e2];exact (Below.refl _ _).alloc (Nat.le_refl _) _⟩
   refine⟨by simp,.inr ⟨W.heap.size,_,_,rfl,Nat.le_refl _,by rw[e2];exact heap_alloc_new W _,Nat.le_refl _, ?_,by simp,(by
    show List.take _ (List.map (fun l=>Value.string ⟨l.toArray⟩) (fields l))=List.map str (fields l)
    rw[List.take_of_length_le (by simp)]
    rfl)⟩⟩
   show (fields l).length≤maxLen
   unfold maxLen
   omega
  ·
   rw[if_neg hasc]
   exact (Tryz.strings_Fields_any ⟨l.toArray⟩ W (by omega) ht (Go.Proofs.WhiteTab_below h3 hb)).mono fun e w' ⟨A,e1,_,e2,e3⟩=>⟨_,e1,e2,e3⟩
end Go.Proofs.YtobpacebpiabcaaGreatDoor
