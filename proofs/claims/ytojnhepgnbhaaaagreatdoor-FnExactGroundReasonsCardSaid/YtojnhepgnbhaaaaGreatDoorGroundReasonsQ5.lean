/- Texts of this proof, joined: Shelf, SortH, SortZ, LCompare, SortS, LAtoi, LItoa, Ext, Dp0, Dp1, Dp2, Dp4, Dp6, Dp7, Dp8, Dp9. What each holds is said at its theorems. -/
import Derived.Shelf.Small.Strs
import Derived.Shelf.Small.Wraps
import Derived.Shelf.Strconv.Atoi
import Derived.Shelf.Strconv.Itoa0
import Derived.Shelf.Strconv.Itoa1
import Derived.Shelf.LaysM
import Derived.Shelf.Strconv.Itoa2
import Derived.Shelf.Strconv.Itoa3
import Derived.Shelf.Strconv.AtoiErrFast
import Derived.Shelf.Strconv.ParseIntEmpty
import Derived.Shelf.Strconv.AtoiFail
import Derived.Shelf.Strconv.Clone
import Derived.Shelf.Strconv.SyntaxError
import Derived.Shelf.LaysC
import Derived.Shelf.Strconv.ToError
import Derived.Shelf.Strconv.AtoiErr
import Derived.Shelf.Strconv.ErrVar
import Derived.Shelf.Sort.Plain
import Derived.Shelf.Slices.In.SortNone
import Derived.Shelf.Slices.In.SortNone2
import Derived.Test.YtojnhepgnbhaaaaGreatDoorProg
import Derived.Test.YtojnhepgnbhaaaaGreatDoorGroundReasonsQ4
import Derived.Test.YtojnhepgnbhaaaaGreatDoorGroundReasonsQ1
import Derived.Lib.AtoiErrMem
import Derived.Lib.AppendIntMem
import Derived.Lib.ItoaLen
set_option linter.unusedSimpArgs false
set_option linter.unusedVariables false
namespace Go.Proofs
open Go.Shelf
def Tryz.lays106_ren:Go.Shelf.Ren:=⟨fun | 106=>210 | 213=>235 | 265=>253 | n=>n,fun | 9=>9 | 3=>3 | n=>n,fun | n=>n⟩
theorem Tryz.lays106:Go.Proofs.Lays.n106 Tryz.prog Tryz.lays106_ren:={
 mixed:=by kernel_rfl
 f106:=Tryz.func210.trans (congrArg some (by kernel_rfl))
 f213:=Tryz.func235.trans (congrArg some (by kernel_rfl))
 f265:=Tryz.func253.trans (congrArg some (by kernel_rfl))
 t3:=Tryz.underlying3
 a3:=Tryz.isAgg3
 z3:=Tryz.sizeOf3
 v3:=Tryz.zeroValue3
 t9:=Tryz.underlying9
 a9:=Tryz.isAgg9
 z9:=Tryz.sizeOf9
 v9:=Tryz.zeroValue9 }
open Go.RowKit in
theorem Tryz.strings_Compare (a b:ByteArray) (w:World):
  Calls Tryz.prog 210 #[.string a,.string b] w fun e w'=>e=.returned (.int .i64 (Lib.compareBytes a.data.toList b.data.toList))∧w'=w:=Any.strings_Compare Tryz.lays106 a b w
def Tryz.lays172_ren:Go.Shelf.Ren:=⟨fun | 172=>236 | 244=>254 | 245=>255 | 247=>264 | 279=>265 | 280=>266 | 281=>267 | 282=>268 | 287=>280 | 316=>281 | 171=>256 | 205=>282 | 321=>288 | 322=>289 | 243=>269 | 246=>283 | 283=>290 | 284=>291 | 285=>292 | 286=>293 | 129=>248 | 317=>295 | 318=>296 | 319=>297 | 320=>298 | 337=>299 | 338=>300 | n=>n,fun | 9=>9 | 3=>3 | 75=>217 | 76=>218 | 4=>4 | 5=>5 | 167=>241 | 37=>140 | 0=>0 | 85=>242 | 2=>2 | 168=>244 | 53=>231 | 175=>256 | 46=>207 | 210=>260 | 127=>266 | 145=>269 | 143=>267 | 21=>21 | 171=>270 | 173=>272 | 212=>277 | 51=>229 | 20=>20 | 213=>278 | 232=>279 | 233=>280 | 80=>281 | n=>n,fun | 15=>1 | 16=>2 | 17=>3 | 18=>4 | 19=>5 | n=>n⟩
theorem Tryz.lays172:Go.Proofs.Lays.n172 Tryz.prog Tryz.lays172_ren:={
 mixed:=by kernel_rfl
 f129:=Tryz.func248.trans (congrArg some (by kernel_rfl))
 f171:=Tryz.func256.trans (congrArg some (by kernel_rfl))
 f172:=Tryz.func236.trans (congrArg some (by kernel_rfl))
 f205:=Tryz.func282.trans (congrArg some (by kernel_rfl))
 f243:=Tryz.func269.trans (congrArg some (by kernel_rfl))
 f244:=Tryz.func254.trans (congrArg some (by kernel_rfl))
 f245:=Tryz.func255.trans (congrArg some (by kernel_rfl))
 f246:=Tryz.func283.trans (congrArg some (by kernel_rfl))
 f247:=Tryz.func264.trans (congrArg some (by kernel_rfl))
 f279:=Tryz.func265.trans (congrArg some (by kernel_rfl))
 f280:=Tryz.func266.trans (congrArg some (by kernel_rfl))
 f281:=Tryz.func267.trans (congrArg some (by kernel_rfl))
 f282:=Tryz.func268.trans (congrArg some (by kernel_rfl))
 f283:=Tryz.func290.trans (congrArg some (by kernel_rfl))
 f284:=Tryz.func291.trans (congrArg some (by kernel_rfl))
 f285:=Tryz.func292.trans (congrArg some (by kernel_rfl))
 f286:=Tryz.func293.trans (congrArg some (by kernel_rfl))
 f287:=Tryz.func280.trans (congrArg some (by kernel_rfl))
 f316:=Tryz.func281.trans (congrArg some (by kernel_rfl))
 f317:=Tryz.func295.trans (congrArg some (by kernel_rfl))
 f318:=Tryz.func296.trans (congrArg some (by kernel_rfl))
 f319:=Tryz.func297.trans (congrArg some (by kernel_rfl))
 f320:=Tryz.func298.trans (congrArg some (by kernel_rfl))
 f321:=Tryz.func288.trans (congrArg some (by kernel_rfl))
 f322:=Tryz.func289.trans (congrArg some (by kernel_rfl))
 f337:=Tryz.func299.trans (congrArg some (by kernel_rfl))
 f338:=Tryz.func300.trans (congrArg some (by kernel_rfl))
 t0:=Tryz.underlying0
 a0:=Tryz.isAgg0
 z0:=Tryz.sizeOf0
 v0:=Tryz.zeroValue0
 t2:=Tryz.underlying2
 a2:=Tryz.isAgg2
 z2:=Tryz.sizeOf2
 v2:=Tryz.zeroValue2
 t3:=Tryz.underlying3
 a3:=Tryz.isAgg3
 z3:=Tryz.sizeOf3
 v3:=Tryz.zeroValue3
 t4:=Tryz.underlying4
 a4:=Tryz.isAgg4
 z4:=Tryz.sizeOf4
 v4:=Tryz.zeroValue4
 t5:=Tryz.underlying5
 a5:=Tryz.isAgg5
 z5:=Tryz.sizeOf5
 v5:=Tryz.zeroValue5
 t9:=Tryz.underlying9
 a9:=Tryz.isAgg9
 z9:=Tryz.sizeOf9
 v9:=Tryz.zeroValue9
 t20:=Tryz.underlying20
 a20:=Tryz.isAgg20
 z20:=Tryz.sizeOf20
 v20:=Tryz.zeroValue20
 t21:=Tryz.underlying21
 a21:=Tryz.isAgg21
 z21:=Tryz.sizeOf21
 v21:=Tryz.zeroValue21
 t37:=Tryz.underlying140
 a37:=Tryz.isAgg140
 z37:=Tryz.sizeOf140
 v37:=Tryz.zeroValue140
 t46:=Tryz.underlying207
 a46:=Tryz.isAgg207
 z46:=Tryz.sizeOf207
 v46:=Tryz.zeroValue207
 t51:=Tryz.underlying229
 a51:=Tryz.isAgg229
 z51:=Tryz.sizeOf229
 v51:=Tryz.zeroValue229
 t53:=Tryz.underlying231
 a53:=Tryz.isAgg231
 z53:=Tryz.sizeOf231
 v53:=Tryz.zeroValue231
 t75:=Tryz.underlying217
 a75:=Tryz.isAgg217
 z75:=Tryz.sizeOf217
 v75:=Tryz.zeroValue217
 t76:=Tryz.underlying218
 a76:=Tryz.isAgg218
 z76:=Tryz.sizeOf218
 v76:=Tryz.zeroValue218
 t85:=Tryz.underlying242
 a85:=Tryz.isAgg242
 z85:=Tryz.sizeOf242
 v85:=Tryz.zeroValue242
 t127:=Tryz.underlying266
 a127:=Tryz.isAgg266
 z127:=Tryz.sizeOf266
 v127:=Tryz.zeroValue266
 t143:=Tryz.underlying267
 a143:=Tryz.isAgg267
 z143:=Tryz.sizeOf267
 v143:=Tryz.zeroValue267
 t145:=Tryz.underlying269
 a145:=Tryz.isAgg269
 z145:=Tryz.sizeOf269
 v145:=Tryz.zeroValue269
 t167:=Tryz.underlying241
 a167:=Tryz.isAgg241
 z167:=Tryz.sizeOf241
 v167:=Tryz.zeroValue241
 t168:=Tryz.underlying244
 a168:=Tryz.isAgg244
 z168:=Tryz.sizeOf244
 v168:=Tryz.zeroValue244
 t171:=Tryz.underlying270
 a171:=Tryz.isAgg270
 z171:=Tryz.sizeOf270
 v171:=Tryz.zeroValue270
 t173:=Tryz.underlying272
 a173:=Tryz.isAgg272
 z173:=Tryz.sizeOf272
 v173:=Tryz.zeroValue272
 t175:=Tryz.underlying256
 a175:=Tryz.isAgg256
 z175:=Tryz.sizeOf256
 v175:=Tryz.zeroValue256
 t210:=Tryz.underlying260
 a210:=Tryz.isAgg260
 z210:=Tryz.sizeOf260
 v210:=Tryz.zeroValue260
 t212:=Tryz.underlying277
 a212:=Tryz.isAgg277
 z212:=Tryz.sizeOf277
 v212:=Tryz.zeroValue277
 t213:=Tryz.underlying278
 a213:=Tryz.isAgg278
 z213:=Tryz.sizeOf278
 t232:=Tryz.underlying279
 a232:=Tryz.isAgg279
 z232:=Tryz.sizeOf279
 v232:=Tryz.zeroValue279
 t233:=Tryz.underlying280
 a233:=Tryz.isAgg280
 z233:=Tryz.sizeOf280
 v233:=Tryz.zeroValue280
 g15:=by kernel_rfl
 g16:=by kernel_rfl
 g17:=by kernel_rfl
 g18:=by kernel_rfl
 g19:=by kernel_rfl }
open Go.RowKit in
theorem Tryz.strconv_Atoi (s:ByteArray) (n:Int) (hl:s.size≤18) (h:Lib.atoi s.data.toList=some n) (w:World):
  Calls Tryz.prog 236 #[.string s] w fun e w'=>e=.returned (.tuple #[.int .i64 n,.nilIface])∧∃t,w'=Lib.bytesWorld w 5 t:=Any.strconv_Atoi Tryz.lays172 s n hl h w
def Tryz.laysM171_ren:Go.Shelf.Ren:=⟨fun | 171=>256 | 243=>269 | 246=>283 | 283=>290 | 284=>291 | 285=>292 | 286=>293 | 129=>248 | 317=>295 | 318=>296 | 319=>297 | 320=>298 | 337=>299 | 338=>300 | n=>n,fun | 3=>3 | 9=>9 | 2=>2 | 4=>4 | 171=>270 | 0=>0 | 53=>231 | 37=>140 | 5=>5 | 173=>272 | 212=>277 | 51=>229 | 20=>20 | 213=>278 | 46=>207 | 232=>279 | 233=>280 | n=>n,fun | 17=>3 | 18=>4 | 19=>5 | n=>n⟩
theorem Tryz.laysM171:Go.Proofs.LaysM.n171 Tryz.prog Tryz.laysM171_ren:={
 mixed:=by kernel_rfl
 f129:=Tryz.func248.trans (congrArg some (by kernel_rfl))
 f171:=Tryz.func256.trans (congrArg some (by kernel_rfl))
 f243:=Tryz.func269.trans (congrArg some (by kernel_rfl))
 f246:=Tryz.func283.trans (congrArg some (by kernel_rfl))
 f283:=Tryz.func290.trans (congrArg some (by kernel_rfl))
 f284:=Tryz.func291.trans (congrArg some (by kernel_rfl))
 f285:=Tryz.func292.trans (congrArg some (by kernel_rfl))
 f286:=Tryz.func293.trans (congrArg some (by kernel_rfl))
 f317:=Tryz.func295.trans (congrArg some (by kernel_rfl))
 f318:=Tryz.func296.trans (congrArg some (by kernel_rfl))
 f319:=Tryz.func297.trans (congrArg some (by kernel_rfl))
 f320:=Tryz.func298.trans (congrArg some (by kernel_rfl))
 f337:=Tryz.func299.trans (congrArg some (by kernel_rfl))
 f338:=Tryz.func300.trans (congrArg some (by kernel_rfl))
 t0:=Tryz.underlying0
 a0:=Tryz.isAgg0
 z0:=Tryz.sizeOf0
 v0:=Tryz.zeroValue0
 t2:=Tryz.underlying2
 a2:=Tryz.isAgg2
 z2:=Tryz.sizeOf2
 v2:=Tryz.zeroValue2
 t3:=Tryz.underlying3
 a3:=Tryz.isAgg3
 z3:=Tryz.sizeOf3
 v3:=Tryz.zeroValue3
 t4:=Tryz.underlying4
 a4:=Tryz.isAgg4
 z4:=Tryz.sizeOf4
 v4:=Tryz.zeroValue4
 t5:=Tryz.underlying5
 a5:=Tryz.isAgg5
 z5:=Tryz.sizeOf5
 v5:=Tryz.zeroValue5
 t9:=Tryz.underlying9
 a9:=Tryz.isAgg9
 z9:=Tryz.sizeOf9
 v9:=Tryz.zeroValue9
 t20:=Tryz.underlying20
 a20:=Tryz.isAgg20
 z20:=Tryz.sizeOf20
 v20:=Tryz.zeroValue20
 t37:=Tryz.underlying140
 a37:=Tryz.isAgg140
 z37:=Tryz.sizeOf140
 v37:=Tryz.zeroValue140
 t46:=Tryz.underlying207
 a46:=Tryz.isAgg207
 z46:=Tryz.sizeOf207
 v46:=Tryz.zeroValue207
 t51:=Tryz.underlying229
 a51:=Tryz.isAgg229
 z51:=Tryz.sizeOf229
 v51:=Tryz.zeroValue229
 t53:=Tryz.underlying231
 a53:=Tryz.isAgg231
 z53:=Tryz.sizeOf231
 v53:=Tryz.zeroValue231
 t171:=Tryz.underlying270
 a171:=Tryz.isAgg270
 z171:=Tryz.sizeOf270
 v171:=Tryz.zeroValue270
 t173:=Tryz.underlying272
 a173:=Tryz.isAgg272
 z173:=Tryz.sizeOf272
 v173:=Tryz.zeroValue272
 t212:=Tryz.underlying277
 a212:=Tryz.isAgg277
 z212:=Tryz.sizeOf277
 v212:=Tryz.zeroValue277
 t213:=Tryz.underlying278
 a213:=Tryz.isAgg278
 z213:=Tryz.sizeOf278
 t232:=Tryz.underlying279
 a232:=Tryz.isAgg279
 z232:=Tryz.sizeOf279
 v232:=Tryz.zeroValue279
 t233:=Tryz.underlying280
 a233:=Tryz.isAgg280
 z233:=Tryz.sizeOf280
 v233:=Tryz.zeroValue280
 g17:=by kernel_rfl
 g18:=by kernel_rfl
 g19:=by kernel_rfl
 i0:=by kernel_rfl
 i2:=by kernel_rfl
 i3:=by kernel_rfl
 i4:=by kernel_rfl
 i5:=by kernel_rfl
 i9:=by kernel_rfl
 i20:=by kernel_rfl
 i37:=by kernel_rfl
 i46:=by kernel_rfl
 i51:=by kernel_rfl
 i53:=by kernel_rfl
 i171:=by kernel_rfl
 i173:=by kernel_rfl
 i212:=by kernel_rfl
 i232:=by kernel_rfl
 i233:=by kernel_rfl
 m17:=by kernel_rfl
 m18:=by kernel_rfl
 m19:=by kernel_rfl }
open Go.RowKit Go.Sort Go.Lib in
theorem Tryz.strconv_Itoa (n : Int) (h0 : -9223372036854775808 ≤ n) (h1 : n ≤ 9223372036854775807) (w : World) (htab : Lib.TabIs Tryz.prog w "internal/strconv.uint64pow10" .u64 Lib.pow10Tab) :
  Calls Tryz.prog 256 #[.int .i64 n] w fun e w'=>e=.returned (.string ⟨(Lib.itoa n).toArray⟩)∧∃k os,w'=grow (w.drewN k) os:=Any.strconv_Itoa Tryz.laysM171 n h0 h1 w htab
def Tryz.laysC172_ren:Go.Shelf.Ren:=⟨fun | 172=>236 | 244=>254 | 245=>255 | 247=>264 | 279=>265 | 280=>266 | 281=>267 | 282=>268 | 287=>280 | 316=>281 | 171=>256 | 205=>282 | 321=>288 | 322=>289 | 243=>269 | 246=>283 | 283=>290 | 284=>291 | 285=>292 | 286=>293 | 129=>248 | 317=>295 | 318=>296 | 319=>297 | 320=>298 | 337=>299 | 338=>300 | n=>n,fun | 9=>9 | 3=>3 | 75=>217 | 76=>218 | 4=>4 | 5=>5 | 167=>241 | 37=>140 | 0=>0 | 85=>242 | 2=>2 | 168=>244 | 53=>231 | 175=>256 | 46=>207 | 210=>260 | 127=>266 | 145=>269 | 143=>267 | 21=>21 | 171=>270 | 173=>272 | 212=>277 | 51=>229 | 20=>20 | 213=>278 | 232=>279 | 233=>280 | 80=>281 | n=>n,fun | 15=>1 | 16=>2 | 17=>3 | 18=>4 | 19=>5 | n=>n⟩
theorem Tryz.laysC172:Go.Proofs.LaysC.n172 Tryz.prog Tryz.laysC172_ren:={
 mixed:=by kernel_rfl
 f129:=Tryz.func248.trans (congrArg some (by kernel_rfl))
 f171:=Tryz.func256.trans (congrArg some (by kernel_rfl))
 f172:=Tryz.func236.trans (congrArg some (by kernel_rfl))
 f205:=Tryz.func282.trans (congrArg some (by kernel_rfl))
 f243:=Tryz.func269.trans (congrArg some (by kernel_rfl))
 f244:=Tryz.func254.trans (congrArg some (by kernel_rfl))
 f245:=Tryz.func255.trans (congrArg some (by kernel_rfl))
 f246:=Tryz.func283.trans (congrArg some (by kernel_rfl))
 f247:=Tryz.func264.trans (congrArg some (by kernel_rfl))
 f279:=Tryz.func265.trans (congrArg some (by kernel_rfl))
 f280:=Tryz.func266.trans (congrArg some (by kernel_rfl))
 f281:=Tryz.func267.trans (congrArg some (by kernel_rfl))
 f282:=Tryz.func268.trans (congrArg some (by kernel_rfl))
 f283:=Tryz.func290.trans (congrArg some (by kernel_rfl))
 f284:=Tryz.func291.trans (congrArg some (by kernel_rfl))
 f285:=Tryz.func292.trans (congrArg some (by kernel_rfl))
 f286:=Tryz.func293.trans (congrArg some (by kernel_rfl))
 f287:=Tryz.func280.trans (congrArg some (by kernel_rfl))
 f316:=Tryz.func281.trans (congrArg some (by kernel_rfl))
 f317:=Tryz.func295.trans (congrArg some (by kernel_rfl))
 f318:=Tryz.func296.trans (congrArg some (by kernel_rfl))
 f319:=Tryz.func297.trans (congrArg some (by kernel_rfl))
 f320:=Tryz.func298.trans (congrArg some (by kernel_rfl))
 f321:=Tryz.func288.trans (congrArg some (by kernel_rfl))
 f322:=Tryz.func289.trans (congrArg some (by kernel_rfl))
 f337:=Tryz.func299.trans (congrArg some (by kernel_rfl))
 f338:=Tryz.func300.trans (congrArg some (by kernel_rfl))
 t0:=Tryz.underlying0
 a0:=Tryz.isAgg0
 z0:=Tryz.sizeOf0
 v0:=Tryz.zeroValue0
 t2:=Tryz.underlying2
 a2:=Tryz.isAgg2
 z2:=Tryz.sizeOf2
 v2:=Tryz.zeroValue2
 t3:=Tryz.underlying3
 a3:=Tryz.isAgg3
 z3:=Tryz.sizeOf3
 v3:=Tryz.zeroValue3
 t4:=Tryz.underlying4
 a4:=Tryz.isAgg4
 z4:=Tryz.sizeOf4
 v4:=Tryz.zeroValue4
 t5:=Tryz.underlying5
 a5:=Tryz.isAgg5
 z5:=Tryz.sizeOf5
 v5:=Tryz.zeroValue5
 t9:=Tryz.underlying9
 a9:=Tryz.isAgg9
 z9:=Tryz.sizeOf9
 v9:=Tryz.zeroValue9
 t20:=Tryz.underlying20
 a20:=Tryz.isAgg20
 z20:=Tryz.sizeOf20
 v20:=Tryz.zeroValue20
 t21:=Tryz.underlying21
 a21:=Tryz.isAgg21
 z21:=Tryz.sizeOf21
 v21:=Tryz.zeroValue21
 t37:=Tryz.underlying140
 a37:=Tryz.isAgg140
 z37:=Tryz.sizeOf140
 v37:=Tryz.zeroValue140
 t46:=Tryz.underlying207
 a46:=Tryz.isAgg207
 z46:=Tryz.sizeOf207
 v46:=Tryz.zeroValue207
 t51:=Tryz.underlying229
 a51:=Tryz.isAgg229
 z51:=Tryz.sizeOf229
 v51:=Tryz.zeroValue229
 t53:=Tryz.underlying231
 a53:=Tryz.isAgg231
 z53:=Tryz.sizeOf231
 v53:=Tryz.zeroValue231
 t75:=Tryz.underlying217
 a75:=Tryz.isAgg217
 z75:=Tryz.sizeOf217
 v75:=Tryz.zeroValue217
 t76:=Tryz.underlying218
 a76:=Tryz.isAgg218
 z76:=Tryz.sizeOf218
 v76:=Tryz.zeroValue218
 t85:=Tryz.underlying242
 a85:=Tryz.isAgg242
 z85:=Tryz.sizeOf242
 v85:=Tryz.zeroValue242
 t127:=Tryz.underlying266
 a127:=Tryz.isAgg266
 z127:=Tryz.sizeOf266
 v127:=Tryz.zeroValue266
 t143:=Tryz.underlying267
 a143:=Tryz.isAgg267
 z143:=Tryz.sizeOf267
 v143:=Tryz.zeroValue267
 t145:=Tryz.underlying269
 a145:=Tryz.isAgg269
 z145:=Tryz.sizeOf269
 v145:=Tryz.zeroValue269
 t167:=Tryz.underlying241
 a167:=Tryz.isAgg241
 z167:=Tryz.sizeOf241
 v167:=Tryz.zeroValue241
 t168:=Tryz.underlying244
 a168:=Tryz.isAgg244
 z168:=Tryz.sizeOf244
 v168:=Tryz.zeroValue244
 t171:=Tryz.underlying270
 a171:=Tryz.isAgg270
 z171:=Tryz.sizeOf270
 v171:=Tryz.zeroValue270
 t173:=Tryz.underlying272
 a173:=Tryz.isAgg272
 z173:=Tryz.sizeOf272
 v173:=Tryz.zeroValue272
 t175:=Tryz.underlying256
 a175:=Tryz.isAgg256
 z175:=Tryz.sizeOf256
 v175:=Tryz.zeroValue256
 t210:=Tryz.underlying260
 a210:=Tryz.isAgg260
 z210:=Tryz.sizeOf260
 v210:=Tryz.zeroValue260
 t212:=Tryz.underlying277
 a212:=Tryz.isAgg277
 z212:=Tryz.sizeOf277
 v212:=Tryz.zeroValue277
 t213:=Tryz.underlying278
 a213:=Tryz.isAgg278
 z213:=Tryz.sizeOf278
 t232:=Tryz.underlying279
 a232:=Tryz.isAgg279
 z232:=Tryz.sizeOf279
 v232:=Tryz.zeroValue279
 t233:=Tryz.underlying280
 a233:=Tryz.isAgg280
 z233:=Tryz.sizeOf280
 v233:=Tryz.zeroValue280
 g15:=by kernel_rfl
 g16:=by kernel_rfl
 g17:=by kernel_rfl
 g18:=by kernel_rfl
 g19:=by kernel_rfl
 t80:=Tryz.underlying281
 a80:=Tryz.isAgg281
 z80:=Tryz.sizeOf281
 v80:=Tryz.zeroValue281
 i0:=by kernel_rfl
 i2:=by kernel_rfl
 i3:=by kernel_rfl
 i4:=by kernel_rfl
 i5:=by kernel_rfl
 i9:=by kernel_rfl
 i20:=by kernel_rfl
 i21:=by kernel_rfl
 i37:=by kernel_rfl
 i46:=by kernel_rfl
 i51:=by kernel_rfl
 i53:=by kernel_rfl
 i75:=by kernel_rfl
 i76:=by kernel_rfl
 i80:=by kernel_rfl
 i85:=by kernel_rfl
 i127:=by kernel_rfl
 i143:=by kernel_rfl
 i145:=by kernel_rfl
 i167:=by kernel_rfl
 i168:=by kernel_rfl
 i171:=by kernel_rfl
 i173:=by kernel_rfl
 i175:=by kernel_rfl
 i210:=by kernel_rfl
 i212:=by kernel_rfl
 i232:=by kernel_rfl
 i233:=by kernel_rfl
 m15:=by kernel_rfl
 m16:=by kernel_rfl
 m17:=by kernel_rfl
 m18:=by kernel_rfl
 m19:=by kernel_rfl
 c0:=by kernel_rfl
 c2:=by kernel_rfl
 c3:=by kernel_rfl
 c4:=by kernel_rfl
 c5:=by kernel_rfl
 c9:=by kernel_rfl
 c20:=by kernel_rfl
 c21:=by kernel_rfl
 c37:=by kernel_rfl
 c46:=by kernel_rfl
 c51:=by kernel_rfl
 c53:=by kernel_rfl
 c75:=by kernel_rfl
 c76:=by kernel_rfl
 c80:=by kernel_rfl
 c85:=by kernel_rfl
 c127:=by kernel_rfl
 c143:=by kernel_rfl
 c145:=by kernel_rfl
 c167:=by kernel_rfl
 c168:=by kernel_rfl
 c171:=by kernel_rfl
 c173:=by kernel_rfl
 c175:=by kernel_rfl
 c210:=by kernel_rfl
 c212:=by kernel_rfl
 c213:=by kernel_rfl
 c232:=by kernel_rfl
 c233:=by kernel_rfl }
open Go.RowKit in
theorem Tryz.strconv_Atoi_err_var (s : ByteArray) (hl : s.size ≤ 18) (h : Lib.atoi s.data.toList = none) (tp : TypeId) (p : Value) (w : World) (hvar : w.var? Tryz.prog "strconv.ErrSyntax" = some #[.iface tp p]) :
  Calls Tryz.prog 236 #[.string s] w fun e w'=>∃N,e=.returned (.tuple #[.int .i64 0,.iface 244 (.pointer (some ⟨N,0,none⟩))])∧w.heap.size≤N∧w'.heap[N]?=some (.cells #[.string ⟨#[65,116,111,105]⟩,.string s,.iface tp p] 260 (0,0))∧Below w.heap.size w w':=Any.strconv_Atoi_err_var Tryz.laysC172 s hl h tp p w hvar
def Tryz.lays191_ren:Go.Shelf.Ren:=⟨fun | 191=>139 | 189=>183 | 125=>217 | 257=>216 | 128=>247 | 129=>248 | 294=>238 | 295=>239 | 296=>240 | 297=>241 | 298=>242 | 299=>243 | 216=>244 | 300=>245 | 301=>246 | 328=>257 | 329=>258 | 330=>259 | 331=>260 | 332=>261 | 215=>262 | 343=>270 | n=>n,fun | 28=>101 | 0=>0 | 3=>3 | 46=>207 | 51=>229 | 53=>231 | 4=>4 | 183=>222 | 182=>221 | 131=>203 | 5=>5 | 9=>9 | 218=>233 | 222=>237 | 228=>247 | 229=>248 | n=>n,fun | n=>n⟩
theorem Tryz.lays191:Go.Proofs.Lays.n191 Tryz.prog Tryz.lays191_ren:={
 mixed:=by kernel_rfl
 f125:=Tryz.func217.trans (congrArg some (by kernel_rfl))
 f128:=Tryz.func247.trans (congrArg some (by kernel_rfl))
 f129:=Tryz.func248.trans (congrArg some (by kernel_rfl))
 f189:=Tryz.func183.trans (congrArg some (by kernel_rfl))
 f191:=Tryz.func139.trans (congrArg some (by kernel_rfl))
 f215:=Tryz.func262.trans (congrArg some (by kernel_rfl))
 f216:=Tryz.func244.trans (congrArg some (by kernel_rfl))
 f257:=Tryz.func216.trans (congrArg some (by kernel_rfl))
 f294:=Tryz.func238.trans (congrArg some (by kernel_rfl))
 f295:=Tryz.func239.trans (congrArg some (by kernel_rfl))
 f296:=Tryz.func240.trans (congrArg some (by kernel_rfl))
 f297:=Tryz.func241.trans (congrArg some (by kernel_rfl))
 f298:=Tryz.func242.trans (congrArg some (by kernel_rfl))
 f299:=Tryz.func243.trans (congrArg some (by kernel_rfl))
 f300:=Tryz.func245.trans (congrArg some (by kernel_rfl))
 f301:=Tryz.func246.trans (congrArg some (by kernel_rfl))
 f328:=Tryz.func257.trans (congrArg some (by kernel_rfl))
 f329:=Tryz.func258.trans (congrArg some (by kernel_rfl))
 f330:=Tryz.func259.trans (congrArg some (by kernel_rfl))
 f331:=Tryz.func260.trans (congrArg some (by kernel_rfl))
 f332:=Tryz.func261.trans (congrArg some (by kernel_rfl))
 f343:=Tryz.func270.trans (congrArg some (by kernel_rfl))
 t0:=Tryz.underlying0
 a0:=Tryz.isAgg0
 z0:=Tryz.sizeOf0
 v0:=Tryz.zeroValue0
 t3:=Tryz.underlying3
 a3:=Tryz.isAgg3
 z3:=Tryz.sizeOf3
 v3:=Tryz.zeroValue3
 t4:=Tryz.underlying4
 a4:=Tryz.isAgg4
 z4:=Tryz.sizeOf4
 v4:=Tryz.zeroValue4
 t5:=Tryz.underlying5
 a5:=Tryz.isAgg5
 z5:=Tryz.sizeOf5
 v5:=Tryz.zeroValue5
 t9:=Tryz.underlying9
 a9:=Tryz.isAgg9
 z9:=Tryz.sizeOf9
 v9:=Tryz.zeroValue9
 t28:=Tryz.underlying101
 a28:=Tryz.isAgg101
 z28:=Tryz.sizeOf101
 v28:=Tryz.zeroValue101
 t46:=Tryz.underlying207
 a46:=Tryz.isAgg207
 z46:=Tryz.sizeOf207
 v46:=Tryz.zeroValue207
 t51:=Tryz.underlying229
 a51:=Tryz.isAgg229
 z51:=Tryz.sizeOf229
 v51:=Tryz.zeroValue229
 t53:=Tryz.underlying231
 a53:=Tryz.isAgg231
 z53:=Tryz.sizeOf231
 v53:=Tryz.zeroValue231
 t131:=Tryz.underlying203
 a131:=Tryz.isAgg203
 z131:=Tryz.sizeOf203
 v131:=Tryz.zeroValue203
 t182:=Tryz.underlying221
 a182:=Tryz.isAgg221
 z182:=Tryz.sizeOf221
 v182:=Tryz.zeroValue221
 t183:=Tryz.underlying222
 a183:=Tryz.isAgg222
 z183:=Tryz.sizeOf222
 v183:=Tryz.zeroValue222
 t218:=Tryz.underlying233
 a218:=Tryz.isAgg233
 z218:=Tryz.sizeOf233
 v218:=Tryz.zeroValue233
 t222:=Tryz.underlying237
 a222:=Tryz.isAgg237
 z222:=Tryz.sizeOf237
 v222:=Tryz.zeroValue237
 t228:=Tryz.underlying247
 a228:=Tryz.isAgg247
 z228:=Tryz.sizeOf247
 v228:=Tryz.zeroValue247
 t229:=Tryz.underlying248
 a229:=Tryz.isAgg248
 z229:=Tryz.sizeOf248
 v229:=Tryz.zeroValue248 }
open Go.Sort Go.RowKit in
theorem Tryz.sort_Ints (blk off cap:Nat) (zs:List Int) (w:World) (hH:Holds (Value.int .i64) w blk off zs.toArray) (hblk:blk<w.heap.size) (hsz:zs.length<4611686018427387904):
  Calls Tryz.prog 139 #[.slice (some ⟨blk,off,none⟩) zs.length cap] w fun e w'=>
   e=.returned (.tuple #[])∧∃n os,w'=grow (putRow (Value.int .i64) (Sort.ahead w n) blk off (zs.mergeSort fun x y=>decide (x≤y)).toArray) os:=Any.sort_Ints Tryz.lays191 blk off cap zs w hH hblk hsz
def Tryz.lays192_ren:Go.Shelf.Ren:=⟨fun | 192=>234 | 190=>252 | 125=>217 | 258=>263 | 128=>247 | 129=>248 | 302=>271 | 303=>272 | 304=>273 | 305=>274 | 306=>275 | 307=>276 | 308=>277 | 309=>278 | 310=>279 | 333=>284 | 329=>258 | 330=>259 | 334=>285 | 335=>286 | 336=>287 | 344=>294 | n=>n,fun | 31=>44 | 0=>0 | 9=>9 | 3=>3 | 46=>207 | 51=>229 | 53=>231 | 4=>4 | 183=>222 | 182=>221 | 131=>203 | 5=>5 | 218=>233 | 222=>237 | 228=>247 | 229=>248 | n=>n,fun | n=>n⟩
theorem Tryz.lays192:Go.Proofs.Lays.n192 Tryz.prog Tryz.lays192_ren:={
 mixed:=by kernel_rfl
 f125:=Tryz.func217.trans (congrArg some (by kernel_rfl))
 f128:=Tryz.func247.trans (congrArg some (by kernel_rfl))
 f129:=Tryz.func248.trans (congrArg some (by kernel_rfl))
 f190:=Tryz.func252.trans (congrArg some (by kernel_rfl))
 f192:=Tryz.func234.trans (congrArg some (by kernel_rfl))
 f258:=Tryz.func263.trans (congrArg some (by kernel_rfl))
 f302:=Tryz.func271.trans (congrArg some (by kernel_rfl))
 f303:=Tryz.func272.trans (congrArg some (by kernel_rfl))
 f304:=Tryz.func273.trans (congrArg some (by kernel_rfl))
 f305:=Tryz.func274.trans (congrArg some (by kernel_rfl))
 f306:=Tryz.func275.trans (congrArg some (by kernel_rfl))
 f307:=Tryz.func276.trans (congrArg some (by kernel_rfl))
 f308:=Tryz.func277.trans (congrArg some (by kernel_rfl))
 f309:=Tryz.func278.trans (congrArg some (by kernel_rfl))
 f310:=Tryz.func279.trans (congrArg some (by kernel_rfl))
 f329:=Tryz.func258.trans (congrArg some (by kernel_rfl))
 f330:=Tryz.func259.trans (congrArg some (by kernel_rfl))
 f333:=Tryz.func284.trans (congrArg some (by kernel_rfl))
 f334:=Tryz.func285.trans (congrArg some (by kernel_rfl))
 f335:=Tryz.func286.trans (congrArg some (by kernel_rfl))
 f336:=Tryz.func287.trans (congrArg some (by kernel_rfl))
 f344:=Tryz.func294.trans (congrArg some (by kernel_rfl))
 t0:=Tryz.underlying0
 a0:=Tryz.isAgg0
 z0:=Tryz.sizeOf0
 v0:=Tryz.zeroValue0
 t3:=Tryz.underlying3
 a3:=Tryz.isAgg3
 z3:=Tryz.sizeOf3
 v3:=Tryz.zeroValue3
 t4:=Tryz.underlying4
 a4:=Tryz.isAgg4
 z4:=Tryz.sizeOf4
 v4:=Tryz.zeroValue4
 t5:=Tryz.underlying5
 a5:=Tryz.isAgg5
 z5:=Tryz.sizeOf5
 v5:=Tryz.zeroValue5
 t9:=Tryz.underlying9
 a9:=Tryz.isAgg9
 z9:=Tryz.sizeOf9
 v9:=Tryz.zeroValue9
 t31:=Tryz.underlying44
 a31:=Tryz.isAgg44
 z31:=Tryz.sizeOf44
 v31:=Tryz.zeroValue44
 t46:=Tryz.underlying207
 a46:=Tryz.isAgg207
 z46:=Tryz.sizeOf207
 v46:=Tryz.zeroValue207
 t51:=Tryz.underlying229
 a51:=Tryz.isAgg229
 z51:=Tryz.sizeOf229
 v51:=Tryz.zeroValue229
 t53:=Tryz.underlying231
 a53:=Tryz.isAgg231
 z53:=Tryz.sizeOf231
 v53:=Tryz.zeroValue231
 t131:=Tryz.underlying203
 a131:=Tryz.isAgg203
 z131:=Tryz.sizeOf203
 v131:=Tryz.zeroValue203
 t182:=Tryz.underlying221
 a182:=Tryz.isAgg221
 z182:=Tryz.sizeOf221
 v182:=Tryz.zeroValue221
 t183:=Tryz.underlying222
 a183:=Tryz.isAgg222
 z183:=Tryz.sizeOf222
 v183:=Tryz.zeroValue222
 t218:=Tryz.underlying233
 a218:=Tryz.isAgg233
 z218:=Tryz.sizeOf233
 v218:=Tryz.zeroValue233
 t222:=Tryz.underlying237
 a222:=Tryz.isAgg237
 z222:=Tryz.sizeOf237
 v222:=Tryz.zeroValue237
 t228:=Tryz.underlying247
 a228:=Tryz.isAgg247
 z228:=Tryz.sizeOf247
 v228:=Tryz.zeroValue247
 t229:=Tryz.underlying248
 a229:=Tryz.isAgg248
 z229:=Tryz.sizeOf248
 v229:=Tryz.zeroValue248 }
open Go.Sort Go.RowKit in
theorem Tryz.sort_Strings (blk off cap:Nat) (ss:List (List UInt8)) (w:World) (hH:Holds encStr w blk off ss.toArray) (hblk:blk<w.heap.size) (hsz:ss.length<4611686018427387904):
  Calls Tryz.prog 234 #[.slice (some ⟨blk,off,none⟩) ss.length cap] w fun e w'=>
   e=.returned (.tuple #[])∧∃n os,w'=grow (putRow encStr (Sort.ahead w n) blk off (ss.mergeSort fun x y=>decide (x≤y)).toArray) os:=Any.sort_Strings Tryz.lays192 blk off cap ss w hH hblk hsz
open Go.RowKit Go.Sort in
theorem Tryz.sort_Strings_none (p:Option Addr) (cap:Nat) (w:World):
  Calls Tryz.prog 234 #[.slice p 0 cap] w fun e w'=>e=.returned (.tuple #[])∧w'=w:=Any.sort_Strings_none Tryz.lays192 p cap w
open Go.RowKit Go.Sort in
theorem Tryz.sort_Ints_none (p:Option Addr) (cap:Nat) (w:World):
  Calls Tryz.prog 139 #[.slice p 0 cap] w fun e w'=>e=.returned (.tuple #[])∧w'=w:=Any.sort_Ints_none Tryz.lays191 p cap w
end Go.Proofs
namespace Go.Proofs.YtojnhepgnbhaaaaGreatDoor
open Go.RowKit Go.Sort
theorem ZmP {α:Type} [Inhabited α] {P:Program} {J:World→Prop} {JF:Nat→Prop} (enc:α→Value) (el:α→List CT) (hel:∀(w:World) x v L,RCs w (el x) v L→v=[enc x]) (hmv:∀(w w':World) x,RCs w (el x) [enc x] []→RCs w' (el x) [enc x] []) (hflat:∀l:List α,Zaz (l.map el)=true) {f:FuncId} {e:TypeId} {zs d:List α} (hc:Zej P f) (hd:d.length=zs.length) (hsub:∀x∈d,x∈zs)
  (hN:∀p cap w,Calls P f #[.slice p 0 cap] w fun e w'=>e=.returned (.tuple #[])∧w'=w)
  (hC:∀blk off cap w,Holds enc w blk off zs.toArray→blk<w.heap.size→Calls P f #[.slice (some ⟨blk,off,none⟩) zs.length cap] w fun e w'=>e=.returned (.tuple #[])∧∃n os,w'=grow (putRow enc (Sort.ahead w n) blk off d.toArray) os):
  ZiM P J JF f (.row e 1 (zs.map el)) [] [] (.row e 1 (d.map el)):=by
 refine ⟨hc,fun w z q v0 vs hj hqf hz hh ha=>?_⟩
 cases vs with
 | cons _ _=>exact ha.elim
 | nil=>
 obtain ⟨hfl,hm,hq,cs,hown,hre⟩:=hh
 have hcs:∀(l:List α) (cs:List Value) (L:List Nat),REs w 1 (l.map el) cs L→cs=l.map enc∧(L=[]→∀x∈l,RCs w (el x) [enc x] []):=by
  intro l
  induction l with
  | nil=>intro cs L h;exact ⟨h.1,fun _ x mx=>by simp at mx⟩
  | cons x l ih=>
   rintro cs L ⟨c1,c2,L1,L2,rfl,rfl,h3,h4⟩
   obtain ⟨i1,i2⟩:=ih _ _ h4
   have e1:=hel _ _ _ _ h3.1
   refine ⟨by rw [e1,i1];rfl,fun hL y my=>?_⟩
   obtain ⟨l1,l2⟩:=List.append_eq_nil_iff.1 hL
   rcases List.mem_cons.1 my with rfl | my
   ·rw [←e1,←l1];exact h3.1
   ·exact i2 l2 y my
 obtain ⟨e1,e2⟩:=hcs zs cs [] hre
 have e2:=e2 rfl
 subst e1
 have hre':∀(w':World) (l:List α),(∀x∈l,x∈zs)→REs w' 1 (l.map el) (l.map enc) []:=by
  intro w' l
  induction l with
  | nil=>intro _;exact ⟨rfl,rfl⟩
  | cons x l ih=>intro hl;exact ⟨[enc x],l.map enc,[],[],rfl,rfl,⟨hmv w w' x (e2 x (hl x (by simp))),rfl⟩,ih fun y my=>hl y (by simp [my])⟩
 have hzl:(zs.map el).length=zs.length:=by simp
 rw [hzl] at hown
 have done:∀w':World,w'.os=w.os→w'.tape=w.tape→w'.output=w.output→w.heap.size≤w'.heap.size→(∀k,k<w.heap.size→¬q=some k→w'.heap[k]?=w.heap[k]?)→w'.ownsV 0 e 1 v0 d.length (d.map enc)→∃v n,Ending.returned (.tuple #[])=.returned v∧Zma w' w.heap.size n [] v∧(∀b,inQ z q b→n b)∧ZqG w' n q (.row e 1 (d.map el)) v0∧ZyD q w w':=
  fun w' h1 h2 h3 h4 h5 h6=>⟨_,inQ z q,rfl,⟨[],[],⟨rfl,rfl⟩,Own.nil _ _,rfl⟩,fun _ h=>h,⟨hflat d,by omega,hq,d.map enc,by simpa using h6,hre' w' d hsub⟩,⟨h1,h2,h3,h4,h5⟩⟩
 rcases Nat.eq_zero_or_pos zs.length with h0 | h0
 ·have hz0:zs=[]:=List.eq_nil_of_length_eq_zero h0
  have hd0:d=[]:=List.eq_nil_of_length_eq_zero (hd.trans h0)
  obtain ⟨A,cap,hv⟩:=Zct hown
  rw [h0] at hv
  subst hv
  refine (hN A cap w).mono ?_
  rintro e' w' ⟨rfl,rfl⟩
  exact done w' rfl rfl rfl (Nat.le_refl _) (fun _ _ _=>rfl) (by rw [hd0];rw [hz0] at hown;exact hown)
 ·rcases hown.2 with ⟨h',hl0⟩ | ⟨g,o,cap,cur,h',hb,hg,hnc,hcm,hcsz,htake⟩
  ·omega
  ·subst h'
   have hlt:g<w.heap.size:=(Array.getElem?_eq_some_iff.1 hg).1
   have hcur:∀j,j<zs.length→cur[o+j]?=some (enc zs[j]!):=fun j hj=>by
    have:=congrArg (fun l=>l[j]?) htake
    simp only [Nat.mul_one,List.getElem?_take,hj,if_true,List.getElem?_drop,Array.getElem?_toList,List.getElem?_map] at this
    rw [this]
    simp [List.getElem!_eq_getElem?_getD,hj]
   refine (hC g o cap w (fun j hj=>?_) hlt).mono ?_
   ·have hj':j<zs.length:=by simpa using hj
    refine ⟨?_,by simp [World.frozen?,hg]⟩
    simp only [World.cell?,hg,Option.isSome_none,Bool.false_eq_true,if_false]
    rw [hcur j hj']
    simp [hj']
   ·rintro e' w' ⟨rfl,n,os,rfl⟩
    have hh:(putRow enc (Sort.ahead w n) g o d.toArray).heap[g]?=some (.cells (putCells enc o d.toArray cur) e (0,0)):=by
     simp only [putRow,mapBlock,heap_ahead,Array.getElem?_modify,if_true,hg,Option.map_some,onCells]
    refine done _ rfl rfl rfl (by simp) (fun k hk hqk=>?_) ⟨by simp,.inr ⟨g,o,cap,putCells enc o d.toArray cur,by rw [hd],by omega,?_,by omega,hcm,by simpa [putCells] using hcsz,?_⟩⟩
    ·rw [heap_grow_old _ _ (by simpa using hk)]
     simp only [putRow,mapBlock,heap_ahead,Array.getElem?_modify]
     rw [if_neg (fun e=>hqk (by rw [←hq];simp [Value.ownBlock,e]))]
    ·rw [heap_grow_old _ _ (by simpa using hlt)];exact hh
    ·apply List.ext_getElem?
     intro j
     simp only [Nat.mul_one,List.getElem?_take,List.getElem?_drop,List.getElem?_map,Array.getElem?_toList,putCells,Array.getElem?_mapIdx,List.size_toArray]
     by_cases hj:j<d.length
     ·have hjc:o+j<cur.size:=by omega
      simp [hj,hjc]
     ·simp [hj]
end Go.Proofs.YtojnhepgnbhaaaaGreatDoor
namespace Go.Proofs.YtojnhepgnbhaaaaGreatDoor
open Go.RowKit Go.Sort
theorem ZpI {J:World→Prop} {JF:Nat→Prop} {l r:List Int} (h:ZeM l=some r):ZiM Tryz.prog J JF 139 (.row 3 1 (l.map Qv)) [] [] (.row 3 1 (r.map Qv)):=by
 obtain ⟨h1,h2⟩:=Zx h
 obtain rfl:=Option.some.inj h2
 refine ZmP (Value.int .i64) Qv (fun w x v L h=>?_) (fun w w' x h=>h) ZmS ⟨Tryz.f139,Tryz.func139,by kernel_rfl,by kernel_rfl⟩ (by simp [Zi5]) (fun x hx=>by simpa [Zi5] using hx) (fun p cap w=>Tryz.sort_Ints_none p cap w) (fun blk off cap w hH hb=>Tryz.sort_Ints blk off cap l w hH hb (by omega))
 obtain ⟨u,vs,L1,L2,rfl,rfl,q1,rfl,rfl⟩:=h
 rw [q1.1]
end Go.Proofs.YtojnhepgnbhaaaaGreatDoor
namespace Go.Proofs.YtojnhepgnbhaaaaGreatDoor
open Go.RowKit
theorem ZrC {J:World→Prop} {a b:ByteArray} {r:Int} (h:Zeg a b=some r):Zn Tryz.prog J 210 [(false,[.str a]),(false,[.str b])] [(false,[(false,.int .i64 r)])]:=by
 obtain rfl:=Option.some.inj h
 refine ⟨⟨Tryz.f210,Tryz.func210,by kernel_rfl,by kernel_rfl⟩,fun w z vs hj hz hargs=>?_⟩
 obtain ⟨v,u,L,M,rfl,⟨rfl,_⟩,rfl,_⟩:=Zs1 hargs
 refine (Tryz.strings_Compare a b w).mono ?_
 rintro e w' ⟨rfl,rfl⟩
 exact ⟨_,z,rfl,ZnY ⟨⟨rfl,rfl⟩,rfl⟩,fun b h=>h,Below.refl _ _⟩
end Go.Proofs.YtojnhepgnbhaaaaGreatDoor
namespace Go.Proofs.YtojnhepgnbhaaaaGreatDoor
open Go.RowKit Go.Sort
theorem Zlz {J:World→Prop} {JF:Nat→Prop} {l r:List ByteArray} (h:ZbI l=some r):ZiM Tryz.prog J JF 234 (.row 9 1 (l.map Zu)) [] [] (.row 9 1 (r.map Zu)):=by
 obtain ⟨h1,h2⟩:=Zx h
 obtain rfl:=Option.some.inj h2
 have e1:l.map Zu=(l.map toL).map fun x=>Zu (ofL x):=by rw [List.map_map];exact List.map_congr_left fun x _=>by simp [Zid]
 have e2:(Zes l).map Zu=((l.map toL).mergeSort fun x y=>decide (x≤y)).map fun x=>Zu (ofL x):=by simp [Zes,List.map_map,Function.comp_def]
 rw [e1,e2]
 refine ZmP encStr (fun x=>Zu (ofL x)) (fun w x v L h=>?_) (fun w w' x h=>h) (fun l=>ZbB (fun _=>rfl) l) ⟨Tryz.f234,Tryz.func234,by kernel_rfl,by kernel_rfl⟩ (by simp) (fun x hx=>by simpa using hx) (fun p cap w=>Tryz.sort_Strings_none p cap w) (fun blk off cap w hH hb=>Tryz.sort_Strings blk off cap (l.map toL) w hH hb (by simp;omega))
 obtain ⟨u,vs,L1,L2,rfl,rfl,q1,rfl,rfl⟩:=h
 rw [q1.1]
 rfl
end Go.Proofs.YtojnhepgnbhaaaaGreatDoor
namespace Go.Proofs.YtojnhepgnbhaaaaGreatDoor
open Go.RowKit
theorem Zv6 {J : World → Prop} (hJ : ∀ w, J w → ∃ tp p, w.var? Tryz.prog "strconv.ErrSyntax" = some #[.iface tp p]) {s : ByteArray} {r : Int × Bool} (h : ZkL s = some r) : Zn Tryz.prog J 236 [(false, [.str s])] [(false, [(false, .int .i64 r.1)]), (false, [(false, .ifc r.2)])] := by
 obtain ⟨h1,h2⟩:=Zx h
 refine ⟨⟨Tryz.f236,Tryz.func236,by kernel_rfl,by kernel_rfl⟩,fun w z vs hj hz hargs=>?_⟩
 obtain ⟨v,L,rfl,rfl,_⟩:=Zk3 hargs
 cases ha:Lib.atoi (toL s) with
 | some n=>
  rw [ha] at h2
  obtain rfl:=Option.some.inj h2
  refine (Tryz.strconv_Atoi s n h1 ha w).mono ?_
  rintro e w' ⟨rfl,t,rfl⟩
  exact ⟨_,z,rfl,Zps ⟨⟨rfl,rfl⟩,rfl⟩ ⟨⟨rfl,rfl,rfl⟩,rfl⟩,fun b h=>h,Lib.bytesWorld_below _ _ _⟩
 | none=>
  rw [ha] at h2
  obtain rfl:=Option.some.inj h2
  obtain ⟨tp,p,hv⟩:=hJ w hj
  refine (Tryz.strconv_Atoi_err_var s h1 ha tp p w hv).mono ?_
  rintro e w' ⟨N,rfl,_,_,hb⟩
  exact ⟨_,z,rfl,Zps ⟨⟨rfl,rfl⟩,rfl⟩ ⟨⟨rfl,rfl,_,_,rfl⟩,rfl⟩,fun b h=>h,hb⟩
end Go.Proofs.YtojnhepgnbhaaaaGreatDoor
namespace Go.Proofs.YtojnhepgnbhaaaaGreatDoor
open Go.RowKit Go.Sort Go.Lib
theorem Zw4 {J : World → Prop} (hJ : ∀ w, J w → Lib.TabIs Tryz.prog w "internal/strconv.uint64pow10" .u64 Lib.pow10Tab) {n : Int} {r : ByteArray} (h : Zm7 n = some r) : Zn Tryz.prog J 256 [(false, [.int .i64 n])] [(false, [(false, .str r)])] := by
 obtain ⟨h1,h2⟩:=Zx h
 obtain rfl:=Option.some.inj h2
 refine ⟨⟨Tryz.f256,Tryz.func256,by kernel_rfl,by kernel_rfl⟩,fun w z vs hj hz hargs=>?_⟩
 obtain ⟨v,L,rfl,rfl,_⟩:=Zk3 hargs
 refine (Tryz.strconv_Itoa n h1.1 h1.2 w (hJ w hj)).mono ?_
 rintro e w' ⟨rfl,k,os,rfl⟩
 refine ⟨_,z,rfl,ZnY ⟨⟨rfl,rfl,?_⟩,rfl⟩,fun b h=>h,below_grow _ _ (Nat.le_refl _) _ _⟩
 have:=Lib.itoa_length_le n h1.1 h1.2
 show (Lib.itoa n).toArray.size≤_
 rw [List.size_toArray]
 omega
end Go.Proofs.YtojnhepgnbhaaaaGreatDoor
namespace Go.Proofs.YtojnhepgnbhaaaaGreatDoor
theorem Zl1 {l r:List Int} (h:ZeM l=some r):ZiM Tryz.prog J0 JF0 139 (.row 3 1 (l.map Qv)) [] [] (.row 3 1 (r.map Qv)):=ZpI h
theorem Zh6 {a b:ByteArray} {r:Int} (h:Zeg a b=some r):Zn Tryz.prog J0 210 [(false,[.str a]),(false,[.str b])] [(false,[(false,.int .i64 r)])]:=ZrC h
theorem ZiP {l r:List ByteArray} (h:ZbI l=some r):ZiM Tryz.prog J0 JF0 234 (.row 9 1 (l.map Zu)) [] [] (.row 9 1 (r.map Zu)):=Zlz h
theorem Zrz {s:ByteArray} {r:Int × Bool} (h:ZkL s=some r):Zn Tryz.prog J0 236 [(false,[.str s])] [(false,[(false,.int .i64 r.1)]),(false,[(false,.ifc r.2)])]:=Zv6 ZwG h
theorem ZrM {n:Int} {r:ByteArray} (h:Zm7 n=some r):Zn Tryz.prog J0 256 [(false,[.int .i64 n])] [(false,[(false,.str r)])]:=Zw4 Zu5 h
end Go.Proofs.YtojnhepgnbhaaaaGreatDoor
namespace Go.Proofs.YtojnhepgnbhaaaaGreatDoor
open Go.Proofs.Tryz
set_option linter.unusedSimpArgs false
set_option linter.unusedVariables false
set_option maxRecDepth 1000000
set_option maxHeartbeats 4000000
theorem Ziz {a_0:(List ByteArray)} {b_1:(List ByteArray)} {r:Bool} (h:ZdU a_0 b_1=some r):Zn Tryz.prog J0 158 [(false,[.sl 9 1 (List.map Zu a_0)]),(false,[.sl 9 1 (List.map Zu b_1)])] [(false,[(false,.bool r)])]:=by
 refine fnk Tryz.func158 (by kernel_rfl) rfl (by kernel_rfl) (by kernel_rfl) ?_
 unfold ZdU at h
 simp only [fnS,f158,Zo,go_sem,seval]
 refine Ze h (fun _ h=>?_) fun _ h=>?_<;>try simp only [*,go_sem,seval]
 cases h
 try simp only [*,go_sem,seval]
 refine Zg h (fun i _ st=>IV [(0,.p false [.c (.sl 9 1 (List.map Zu a_0))]),(1,.p false [.c (.sl 9 1 (List.map Zu b_1))]),(5,.p false [.c (.int .i64 ((i:Nat):Int))])] [] st) [] [] (by decide) ?_ ?_ ?_
 simp only [*,go_sem,seval]
 rintro m o ⟨⟩ ⟨sl,ob,n⟩ q a b e h f
 simp only [go_sem,seval,Zd] at b
 obtain ⟨⟨g,t,u⟩,hn⟩:=b
 subst hn
 have k:=WF.slotL e g (j:=0) rfl
 have v:=ZF a
 have w:=ZJ a
 have x:=Zi (ZE a) k
 obtain ⟨y,z,A,l,h⟩:=Zgn h
 simp only [Int.toNat_natCast] at l
 try simp only [*,go_sem,seval]
 refine Ze h (fun _ h=>?_) fun _ h=>?_<;>try simp only [*,go_sem,seval]
 refine ⟨_,[],[],(Option.some.inj h).symm,by decide,?_⟩
 try simp only [*,go_sem,seval]
 replace h:=Zs h f
 cases h
 try simp only [*,go_sem,seval]
 rintro ⟨⟩ ⟨sl,ob,n⟩ d B h
 simp only [go_sem,seval,Zd] at d
 obtain ⟨⟨C,D,E⟩,hn⟩:=d
 subst hn
 have F:=ZC (a_0.length)
 cases h
 try simp only [*,go_sem,seval]
theorem ZnL {l_0:(List ByteArray)} {r:(List ByteArray)} (h:Zee l_0=some r):Zn Tryz.prog J0 144 [(false,[.sl 9 1 (List.map Zu l_0)])] [(false,[(false,.sl 9 1 (List.map Zu r))])]:=by
 refine fnk Tryz.func144 (by kernel_rfl) rfl (by kernel_rfl) (by kernel_rfl) ?_
 unfold Zee at h
 simp only [fnS,f144,Zo,go_sem,seval]
 obtain ⟨a,h⟩:=Zx h
 try simp only [Nat.reduceLeDiff] at a
 cases h
 try simp only [*,go_sem,seval]
theorem ZaS {x_0:Int} {least_1:Int} {most_2:Int} {r:Bool} (h:ZaU x_0 least_1 most_2=some r):Zn Tryz.prog J0 114 [(false,[.int .i64 x_0]),(false,[.int .i64 least_1]),(false,[.int .i64 most_2])] [(false,[(false,.bool r)])]:=by
 refine fnk Tryz.func114 (by kernel_rfl) rfl (by kernel_rfl) (by kernel_rfl) ?_
 unfold ZaU at h
 simp only [fnS,f114,Zo,go_sem,seval]
 refine Ze h (fun _ h=>?_) fun _ h=>?_<;>try simp only [*,go_sem,seval]
 iterate 2 (cases h;try simp only [*,go_sem,seval])
theorem Zf4 {b_0:(List Zl)} {r:(List Zl)} (h:ZbX b_0=some r):Zn Tryz.prog J0 151 [(false,[.sl 192 2 (List.map Z6 b_0)])] [(false,[(false,.sl 192 2 (List.map Z6 r))])]:=by
 refine fnk Tryz.func151 (by kernel_rfl) rfl (by kernel_rfl) (by kernel_rfl) ?_
 unfold ZbX at h
 simp only [fnS,f151,Zo,go_sem,seval]
 obtain ⟨a,h⟩:=Zx h
 try simp only [Nat.reduceLeDiff] at a
 cases h
 try simp only [*,go_sem,seval]
theorem Zqk {a:(List Zl)} {b:ByteArray} {d:ByteArray} {r:(List Zl)} (h:ZhY a b d=some r):Zn Tryz.prog J0 190 [(false,[.sl 192 2 (List.map Z6 a)]),(false,[.str b]),(false,[.str d])] [(false,[(false,.sl 192 2 (List.map Z6 r))])]:=by
 refine fnk Tryz.func190 (by kernel_rfl) rfl (by kernel_rfl) (by kernel_rfl) ?_
 unfold ZhY at h
 simp only [fnS,f190,Zo,go_sem,seval]
 refine Zg h (fun i s st=>match s with | (e,f)=>IV [(0,.p false [.c (.sl 192 2 (List.map Z6 a))]),(1,.p false [.c (.str b)]),(2,.p false [.c (.str d)]),(7,.p false [.row 0]),(8,.p false [.c (.bool f)]),(9,.p false [.c (.int .i64 ((i:Nat):Int))])] [.row 192 2 (List.map Z6 e) 2] st) [] [16] (by decide) ?_ ?_ ?_
 simp only [*,go_sem,seval]
 rintro C D ⟨e,f⟩ ⟨sl,ob,n⟩ E g o t h F
 simp only [go_sem,seval,Zd] at o
 obtain ⟨⟨u,G,H,I,J,K⟩,L,hn⟩:=o
 subst hn
 have v:=WF.slotL t u (j:=0) rfl
 have M:=ZF g
 have N:=ZJ g
 have O:=Zi (ZE g) v
 try simp only [*,go_sem,seval]
 refine Ze h (fun k h=>?_) (fun k h=>?_)<;>try simp only [*,go_sem,seval]
 obtain ⟨w,h⟩:=Zx h
 try simp only [Nat.reduceLeDiff] at w
 try simp only [*,go_sem,seval]
 refine ⟨_,[],[337],(Option.some.inj h).symm,by decide,?_⟩
 try simp only [*,go_sem,seval]
 refine Ze h (fun l h=>?_) (fun l h=>?_)
 have m:=l
 try simp only [k,Bool.false_or,Bool.or_false] at m
 obtain ⟨x,h⟩:=Zx h
 try simp only [Nat.reduceLeDiff] at x
 try simp only [*,go_sem,seval]
 refine ⟨_,[],[337],(Option.some.inj h).symm,by decide,?_⟩
 try simp only [*,go_sem,seval]
 have m:=l
 try simp only [k,Bool.false_or,Bool.or_false] at m
 obtain ⟨y,h⟩:=Zx h
 try simp only [Nat.reduceLeDiff] at y
 obtain ⟨z,h⟩:=Zx h
 try simp only [Nat.reduceLeDiff] at z
 try simp only [*,go_sem,seval]
 refine ⟨_,[],[465],(Option.some.inj h).symm,by decide,?_⟩
 try simp only [*,go_sem,seval]
 rintro ⟨e,f⟩ ⟨sl,ob,n⟩ q P h
 simp only [go_sem,seval,Zd] at q
 obtain ⟨⟨Q,R,S,T,U,V⟩,W,hn⟩:=q
 subst hn
 have X:=ZC (a.length)
 try simp only [*,go_sem,seval]
 refine Ze h (fun _ h=>?_) fun _ h=>?_<;>try simp only [*,go_sem,seval]
 cases h
 try simp only [*,go_sem,seval]
 obtain ⟨A,h⟩:=Zx h
 try simp only [Nat.reduceLeDiff] at A
 cases h
 try simp only [*,go_sem,seval]
theorem ZjZ {a_0:ByteArray} {b_1:ByteArray} {r:Int} (h:Zgh a_0 b_1=some r):Zn Tryz.prog J0 200 [(false,[.str a_0]),(false,[.str b_1])] [(false,[(false,.int .i64 r)])]:=by
 refine fnk Tryz.func200 (by kernel_rfl) rfl (by kernel_rfl) (by kernel_rfl) ?_
 unfold Zgh at h
 simp only [fnS,f200,Zo,go_sem,seval]
 refine Ze h (fun a h=>?_) (fun a h=>?_)<;>try simp only [*,go_sem,seval]
 cases h
 try simp only [*,go_sem,seval]
 refine Ze h (fun c2 h=>?_) (fun c2 h=>?_)
 have b:=c2
 try simp only [a,Bool.false_or,Bool.or_false] at b
 cases h
 try simp only [*,go_sem,seval]
 have b:=c2
 try simp only [a,Bool.false_or,Bool.or_false] at b
 cases h
 try simp only [*,go_sem,seval]
theorem Zio {n_0:Int} {r:ByteArray} (h:Zab n_0=some r):Zn Tryz.prog J0 251 [(false,[.int .i64 n_0])] [(false,[(false,.str r)])]:=by
 refine fnk Tryz.func251 (by kernel_rfl) rfl (by kernel_rfl) (by kernel_rfl) ?_
 unfold Zab at h
 have g:Zcf ⟨#[45,57,50,50,51,51,55,50,48,51,54,56,53,52,55,55,53,56,48,56]⟩=true:=by decide
 have i:Zcf ⟨#[]⟩=true:=by decide
 have j:¬((10:Int)=0):=by decide
 simp only [fnS,f251,Zo,go_sem,seval,g,i,j]
 refine Ze h (fun _ h=>?_) fun _ h=>?_<;>try simp only [*,go_sem,seval]
 cases h
 try simp only [*,go_sem,seval]
 refine Ze h (fun _ h=>?_) fun _ h=>?_<;>try simp only [*,go_sem,seval]
 cases h
 refine Zeh h (fun s st=>match s with | (a,b)=>IV [(0,.p false [.c (.int .i64 a)]),(3,.p false [.c (.str b)])] [] st) [] [] (by decide) ?_ ?_
 simp only [*,go_sem,seval]
 rintro ⟨a,b⟩ ⟨sl,ob,n⟩ l d m h k
 simp only [go_sem,seval,Zd] at d
 obtain ⟨⟨o,q⟩,hn⟩:=d
 subst hn
 obtain ⟨e,h⟩:=Zx h
 try simp only [Nat.reduceLeDiff] at e
 try simp only [go_sem] at e
 try simp only [*,go_sem,seval]
 refine Ze h (fun _ h=>?_) fun _ h=>?_<;>try simp only [*,go_sem,seval]
 replace h:=Zs h k
 cases h
 try simp only [*,go_sem,seval]
 refine ⟨_,[],[],(Option.some.inj h).symm,by decide,?_⟩
 try simp only [*,go_sem,seval]
theorem Zku {n_0:Int} {r:ByteArray} (h:ZaQ n_0=some r):Zn Tryz.prog J0 251 [(false,[.int .i64 n_0])] [(false,[(false,.str r)])]:=by
 refine fnk Tryz.func251 (by kernel_rfl) rfl (by kernel_rfl) (by kernel_rfl) ?_
 unfold ZaQ at h
 have i:Zcf ⟨#[45,57,50,50,51,51,55,50,48,51,54,56,53,52,55,55,53,56,48,56]⟩=true:=by decide
 have j:Zcf ⟨#[45]⟩=true:=by decide
 have k:Zcf ⟨#[]⟩=true:=by decide
 have l:¬((10:Int)=0):=by decide
 simp only [fnS,f251,Zo,go_sem,seval,i,j,k,l]
 refine Ze h (fun _ h=>?_) fun _ h=>?_<;>try simp only [*,go_sem,seval]
 cases h
 try simp only [*,go_sem,seval]
 refine Ze h (fun _ h=>?_) fun _ h=>?_<;>try simp only [*,go_sem,seval]
 obtain ⟨q,m,h⟩:=Za h
 refine Zb (Zio m) ?_
 obtain ⟨a,h⟩:=Zx h
 try simp only [Nat.reduceLeDiff] at a
 try simp only [go_sem] at a
 cases h
 try simp only [*,go_sem,seval]
 refine Zeh h (fun s st=>match s with | (b,d)=>IV [(0,.p false [.c (.int .i64 b)]),(3,.p false [.c (.str d)])] [] st) [] [] (by decide) ?_ ?_
 simp only [*,go_sem,seval]
 rintro ⟨b,d⟩ ⟨sl,ob,n⟩ t e u h o
 simp only [go_sem,seval,Zd] at e
 obtain ⟨⟨v,w⟩,hn⟩:=e
 subst hn
 obtain ⟨f,h⟩:=Zx h
 try simp only [Nat.reduceLeDiff] at f
 try simp only [go_sem] at f
 try simp only [*,go_sem,seval]
 refine Ze h (fun _ h=>?_) fun _ h=>?_<;>try simp only [*,go_sem,seval]
 replace h:=Zs h o
 cases h
 try simp only [*,go_sem,seval]
 refine ⟨_,[],[],(Option.some.inj h).symm,by decide,?_⟩
 try simp only [*,go_sem,seval]
theorem Zei {r_0:Zf} {r:(List Zm)} (h:XQ r_0=some r):Zn Tryz.prog J0 81 [(true,ZB r_0)] [(false,[(true,.sl 130 5 (List.map ZM r))])]:=by
 refine fnk Tryz.func81 (by kernel_rfl) rfl (by kernel_rfl) (by kernel_rfl) ?_
 unfold XQ at h
 simp only [fnS,f81,Zo,go_sem,seval]
 refine Zg h (fun i a st=>IV [(1,.bp 0 0),(3,.p false [.row 1]),(4,.p false [.c (.int .i64 ((i:Nat):Int))])] [.box 82 [.c (.str r_0.name),.c (.int .i64 r_0.priority),.c (.sl 130 5 (List.map ZM r_0.cond)),.c (.sl 134 3 (List.map ZA r_0.thn))],.row 130 5 (List.map ZM a) 1] st) [(true,32,1)] [0,32] (by decide) ?_ ?_ ?_
 simp only [*,go_sem,seval]
 rintro m o a ⟨sl,ob,n⟩ q b d f h t
 simp only [go_sem,seval,Zd] at d
 obtain ⟨⟨u,v,w⟩,g,x,hn⟩:=d
 subst hn
 have k:=WF.boxL f g (j:=2) rfl
 have y:=ZF b
 have z:=ZJ b
 have A:=Zi (ZE b) k
 try simp only [*,go_sem,seval]
 refine Ze h (fun _ h=>?_) fun _ h=>?_<;>try simp only [*,go_sem,seval]
 obtain ⟨l,h⟩:=Zx h
 try simp only [Nat.reduceLeDiff] at l
 try simp only [*,go_sem,seval]
 refine ⟨_,[],[0,306],(Option.some.inj h).symm,by decide,?_⟩
 try simp only [*,go_sem,seval]
 refine ⟨_,[],[0,1],(Option.some.inj h).symm,by decide,?_⟩
 try simp only [*,go_sem,seval]
 rintro a ⟨sl,ob,n⟩ e B h
 simp only [go_sem,seval,Zd] at e
 obtain ⟨⟨C,D,E⟩,F,G,hn⟩:=e
 subst hn
 have H:=ZC (r_0.cond.length)
 cases h
 try simp only [*,go_sem,seval]
theorem Xn {a:(List ByteArray)} {b:ByteArray} {r:(List ByteArray)} (h:XW a b=some r):Zn Tryz.prog J0 197 [(false,[.sl 9 1 (List.map Zu a)]),(false,[.str b])] [(false,[(false,.sl 9 1 (List.map Zu r))])]:=by
 refine fnk Tryz.func197 (by kernel_rfl) rfl (by kernel_rfl) (by kernel_rfl) ?_
 unfold XW at h
 simp only [fnS,f197,Zo,go_sem,seval]
 refine Zg h (fun i s st=>match s with | (d,e)=>IV [(0,.p false [.c (.sl 9 1 (List.map Zu a))]),(1,.p false [.c (.str b)]),(5,.p false [.row 0]),(6,.p false [.c (.bool e)]),(7,.p false [.c (.int .i64 ((i:Nat):Int))])] [.row 9 1 (List.map Zu d) 2] st) [] [16] (by decide) ?_ ?_ ?_
 simp only [*,go_sem,seval]
 rintro z A ⟨d,e⟩ ⟨sl,ob,n⟩ B f g l h C
 simp only [go_sem,seval,Zd] at g
 obtain ⟨⟨m,D,E,F,G⟩,H,hn⟩:=g
 subst hn
 have o:=WF.slotL l m (j:=0) rfl
 have I:=ZF f
 have J:=ZJ f
 have K:=Zi (ZE f) o
 try simp only [*,go_sem,seval]
 refine Ze h (fun _ h=>?_) fun _ h=>?_<;>try simp only [*,go_sem,seval]
 obtain ⟨q,h⟩:=Zx h
 try simp only [Nat.reduceLeDiff] at q
 try simp only [*,go_sem,seval]
 refine ⟨_,[],[321],(Option.some.inj h).symm,by decide,?_⟩
 try simp only [*,go_sem,seval]
 refine Ze h (fun _ h=>?_) fun _ h=>?_<;>try simp only [*,go_sem,seval]
 obtain ⟨t,h⟩:=Zx h
 try simp only [Nat.reduceLeDiff] at t
 try simp only [*,go_sem,seval]
 refine ⟨_,[],[321],(Option.some.inj h).symm,by decide,?_⟩
 try simp only [*,go_sem,seval]
 refine Ze h (fun _ h=>?_) fun _ h=>?_<;>try simp only [*,go_sem,seval]
 obtain ⟨u,h⟩:=Zx h
 try simp only [Nat.reduceLeDiff] at u
 try simp only [*,go_sem,seval]
 refine ⟨_,[],[433],(Option.some.inj h).symm,by decide,?_⟩
 try simp only [*,go_sem,seval]
 obtain ⟨v,h⟩:=Zx h
 try simp only [Nat.reduceLeDiff] at v
 obtain ⟨w,h⟩:=Zx h
 try simp only [Nat.reduceLeDiff] at w
 try simp only [*,go_sem,seval]
 refine ⟨_,[],[513],(Option.some.inj h).symm,by decide,?_⟩
 try simp only [*,go_sem,seval]
 rintro ⟨d,e⟩ ⟨sl,ob,n⟩ k L h
 simp only [go_sem,seval,Zd] at k
 obtain ⟨⟨M,N,O,P,Q⟩,R,hn⟩:=k
 subst hn
 have S:=ZC (a.length)
 try simp only [*,go_sem,seval]
 refine Ze h (fun _ h=>?_) fun _ h=>?_<;>try simp only [*,go_sem,seval]
 cases h
 try simp only [*,go_sem,seval]
 obtain ⟨x,h⟩:=Zx h
 try simp only [Nat.reduceLeDiff] at x
 cases h
 try simp only [*,go_sem,seval]
theorem YG {l_0:(List ByteArray)} {s_1:ByteArray} {r:Bool} (h:ZS l_0 s_1=some r):Zn Tryz.prog J0 198 [(false,[.sl 9 1 (List.map Zu l_0)]),(false,[.str s_1])] [(false,[(false,.bool r)])]:=by
 refine fnk Tryz.func198 (by kernel_rfl) rfl (by kernel_rfl) (by kernel_rfl) ?_
 unfold ZS at h
 simp only [fnS,f198,Zo,go_sem,seval]
 refine Zg h (fun i _ st=>IV [(0,.p false [.c (.sl 9 1 (List.map Zu l_0))]),(1,.p false [.c (.str s_1)]),(5,.p false [.c (.int .i64 ((i:Nat):Int))])] [] st) [] [] (by decide) ?_ ?_ ?_
 simp only [*,go_sem,seval]
 rintro l m ⟨⟩ ⟨sl,ob,n⟩ o a b e h f
 simp only [go_sem,seval,Zd] at b
 obtain ⟨⟨g,q,t⟩,hn⟩:=b
 subst hn
 have k:=WF.slotL e g (j:=0) rfl
 have u:=ZF a
 have v:=ZJ a
 have w:=Zi (ZE a) k
 try simp only [*,go_sem,seval]
 refine Ze h (fun _ h=>?_) fun _ h=>?_<;>try simp only [*,go_sem,seval]
 replace h:=Zs h f
 cases h
 try simp only [*,go_sem,seval]
 refine ⟨_,[],[],(Option.some.inj h).symm,by decide,?_⟩
 try simp only [*,go_sem,seval]
 rintro ⟨⟩ ⟨sl,ob,n⟩ d x h
 simp only [go_sem,seval,Zd] at d
 obtain ⟨⟨y,z,A⟩,hn⟩:=d
 subst hn
 have B:=ZC (l_0.length)
 cases h
 try simp only [*,go_sem,seval]
theorem ZlB {l_0:(List Zf)} {name_1:ByteArray} {r:Int} (h:ZeG l_0 name_1=some r):Zn Tryz.prog J0 113 [(false,[.sl 82 4 (List.map ZB l_0)]),(false,[.str name_1])] [(false,[(false,.int .i64 r)])]:=by
 refine fnk Tryz.func113 (by kernel_rfl) rfl (by kernel_rfl) (by kernel_rfl) ?_
 unfold ZeG at h
 simp only [fnS,f113,Zo,go_sem,seval]
 refine Zg h (fun i _ st=>IV [(0,.p false [.c (.sl 82 4 (List.map ZB l_0))]),(1,.p false [.c (.str name_1)]),(5,.p false [.c (.int .i64 ((i:Nat):Int))])] [] st) [] [] (by decide) ?_ ?_ ?_
 simp only [*,go_sem,seval]
 rintro l m ⟨⟩ ⟨sl,ob,n⟩ o a b e h f
 simp only [go_sem,seval,Zd] at b
 obtain ⟨⟨g,q,t⟩,hn⟩:=b
 subst hn
 have k:=WF.slotL e g (j:=0) rfl
 have u:=ZF a
 have v:=ZJ a
 have w:=Zi (ZE a) k
 try simp only [*,go_sem,seval]
 refine Ze h (fun _ h=>?_) fun _ h=>?_<;>try simp only [*,go_sem,seval]
 replace h:=Zs h f
 cases h
 try simp only [*,go_sem,seval]
 refine ⟨_,[],[],(Option.some.inj h).symm,by decide,?_⟩
 try simp only [*,go_sem,seval]
 rintro ⟨⟩ ⟨sl,ob,n⟩ d x h
 simp only [go_sem,seval,Zd] at d
 obtain ⟨⟨y,z,A⟩,hn⟩:=d
 subst hn
 have B:=ZC (l_0.length)
 cases h
 try simp only [*,go_sem,seval]
theorem ZnR {a:(List Int)} {b:Int} {r:(List Int)} (h:ZfJ a b=some r):Zn Tryz.prog J0 175 [(false,[.sl 3 1 (List.map Qv a)]),(false,[.int .i64 b])] [(false,[(false,.sl 3 1 (List.map Qv r))])]:=by
 refine fnk Tryz.func175 (by kernel_rfl) rfl (by kernel_rfl) (by kernel_rfl) ?_
 unfold ZfJ at h
 simp only [fnS,f175,Zo,go_sem,seval]
 refine Zg h (fun i s st=>match s with | (d,e)=>IV [(0,.p false [.c (.sl 3 1 (List.map Qv a))]),(1,.p false [.c (.int .i64 b)]),(5,.p false [.row 0]),(6,.p false [.c (.bool e)]),(7,.p false [.c (.int .i64 ((i:Nat):Int))])] [.row 3 1 (List.map Qv d) 2] st) [] [16] (by decide) ?_ ?_ ?_
 simp only [*,go_sem,seval]
 rintro z A ⟨d,e⟩ ⟨sl,ob,n⟩ B f k m h C
 simp only [go_sem,seval,Zd] at k
 obtain ⟨⟨o,D,E,F,G⟩,H,hn⟩:=k
 subst hn
 have q:=WF.slotL m o (j:=0) rfl
 have I:=ZF f
 have J:=ZJ f
 have K:=Zi (ZE f) q
 try simp only [*,go_sem,seval]
 refine Ze h (fun _ h=>?_) fun _ h=>?_<;>try simp only [*,go_sem,seval]
 obtain ⟨t,h⟩:=Zx h
 try simp only [Nat.reduceLeDiff] at t
 try simp only [*,go_sem,seval]
 refine ⟨_,[],[321],(Option.some.inj h).symm,by decide,?_⟩
 try simp only [*,go_sem,seval]
 iterate 2 refine Ze h (fun _ h=>?_) fun _ h=>?_<;>try simp only [*,go_sem,seval]
 obtain ⟨u,h⟩:=Zx h
 try simp only [Nat.reduceLeDiff] at u
 obtain ⟨v,h⟩:=Zx h
 try simp only [Nat.reduceLeDiff] at v
 try simp only [*,go_sem,seval]
 refine ⟨_,[],[513],(Option.some.inj h).symm,by decide,?_⟩
 try simp only [*,go_sem,seval]
 obtain ⟨w,h⟩:=Zx h
 try simp only [Nat.reduceLeDiff] at w
 try simp only [*,go_sem,seval]
 refine ⟨_,[],[433],(Option.some.inj h).symm,by decide,?_⟩
 try simp only [*,go_sem,seval]
 obtain ⟨x,h⟩:=Zx h
 try simp only [Nat.reduceLeDiff] at x
 try simp only [*,go_sem,seval]
 refine ⟨_,[],[321],(Option.some.inj h).symm,by decide,?_⟩
 try simp only [*,go_sem,seval]
 rintro ⟨d,e⟩ ⟨sl,ob,n⟩ l L h
 simp only [go_sem,seval,Zd] at l
 obtain ⟨⟨M,N,O,P,Q⟩,R,hn⟩:=l
 subst hn
 have S:=ZC (a.length)
 try simp only [*,go_sem,seval]
 refine Ze h (fun _ h=>?_) fun _ h=>?_<;>try simp only [*,go_sem,seval]
 cases h
 try simp only [*,go_sem,seval]
 obtain ⟨y,h⟩:=Zx h
 try simp only [Nat.reduceLeDiff] at y
 cases h
 try simp only [*,go_sem,seval]
theorem Ze3 {a_0:(List Int)} {b_1:(List Int)} {r:Bool} (h:Zbc a_0 b_1=some r):Zn Tryz.prog J0 129 [(false,[.sl 3 1 (List.map Qv a_0)]),(false,[.sl 3 1 (List.map Qv b_1)])] [(false,[(false,.bool r)])]:=by
 refine fnk Tryz.func129 (by kernel_rfl) rfl (by kernel_rfl) (by kernel_rfl) ?_
 unfold Zbc at h
 simp only [fnS,f129,Zo,go_sem,seval]
 refine Ze h (fun _ h=>?_) fun _ h=>?_<;>try simp only [*,go_sem,seval]
 cases h
 try simp only [*,go_sem,seval]
 refine Zg h (fun i _ st=>IV [(0,.p false [.c (.sl 3 1 (List.map Qv a_0))]),(1,.p false [.c (.sl 3 1 (List.map Qv b_1))]),(5,.p false [.c (.int .i64 ((i:Nat):Int))])] [] st) [] [] (by decide) ?_ ?_ ?_
 simp only [*,go_sem,seval]
 rintro m o ⟨⟩ ⟨sl,ob,n⟩ q a b e h f
 simp only [go_sem,seval,Zd] at b
 obtain ⟨⟨g,t,u⟩,hn⟩:=b
 subst hn
 have k:=WF.slotL e g (j:=0) rfl
 have v:=ZF a
 have w:=ZJ a
 have x:=Zi (ZE a) k
 obtain ⟨y,z,A,l,h⟩:=Zgn h
 simp only [Int.toNat_natCast] at l
 try simp only [*,go_sem,seval]
 refine Ze h (fun _ h=>?_) fun _ h=>?_<;>try simp only [*,go_sem,seval]
 replace h:=Zs h f
 cases h
 try simp only [*,go_sem,seval]
 refine ⟨_,[],[],(Option.some.inj h).symm,by decide,?_⟩
 try simp only [*,go_sem,seval]
 rintro ⟨⟩ ⟨sl,ob,n⟩ d B h
 simp only [go_sem,seval,Zd] at d
 obtain ⟨⟨C,D,E⟩,hn⟩:=d
 subst hn
 have F:=ZC (a_0.length)
 cases h
 try simp only [*,go_sem,seval]
theorem ZkC {a_0:(List ByteArray)} {b_1:(List ByteArray)} {r:Bool} (h:Zb0 a_0 b_1=some r):Zn Tryz.prog J0 161 [(false,[.sl 9 1 (List.map Zu a_0)]),(false,[.sl 9 1 (List.map Zu b_1)])] [(false,[(false,.bool r)])]:=by
 refine fnk Tryz.func161 (by kernel_rfl) rfl (by kernel_rfl) (by kernel_rfl) ?_
 unfold Zb0 at h
 simp only [fnS,f161,Zo,go_sem,seval]
 refine Ze h (fun _ h=>?_) fun _ h=>?_<;>try simp only [*,go_sem,seval]
 cases h
 try simp only [*,go_sem,seval]
 refine Zg h (fun i _ st=>IV [(0,.p false [.c (.sl 9 1 (List.map Zu a_0))]),(1,.p false [.c (.sl 9 1 (List.map Zu b_1))]),(12,.p false [.c (.int .i64 ((a_0.length:Nat):Int))]),(13,.p false [.c (.int .i64 ((i:Nat):Int))])] [] st) [] [] (by decide) ?_ ?_ ?_
 simp only [*,go_sem,seval]
 rintro m o ⟨⟩ ⟨sl,ob,n⟩ q a b e h f
 simp only [go_sem,seval,Zd] at b
 obtain ⟨⟨g,t,u,v⟩,hn⟩:=b
 subst hn
 have k:=WF.slotL e g (j:=0) rfl
 have w:=ZF a
 have x:=ZJ a
 have y:=Zi (ZE a) k
 obtain ⟨z,A,B,l,h⟩:=Zgn h
 simp only [Int.toNat_natCast] at l
 try simp only [*,go_sem,seval]
 refine Ze h (fun _ h=>?_) fun _ h=>?_<;>try simp only [*,go_sem,seval]
 refine ⟨_,[],[],(Option.some.inj h).symm,by decide,?_⟩
 try simp only [*,go_sem,seval]
 replace h:=Zs h f
 cases h
 try simp only [*,go_sem,seval]
 rintro ⟨⟩ ⟨sl,ob,n⟩ d C h
 simp only [go_sem,seval,Zd] at d
 obtain ⟨⟨D,E,F,G⟩,hn⟩:=d
 subst hn
 have H:=ZC (a_0.length)
 cases h
 try simp only [*,go_sem,seval]
theorem Zf2 {l_0:(List ByteArray)} {r:(List ByteArray)} (h:ZaI l_0=some r):Zn Tryz.prog J0 146 [(false,[.sl 9 1 (List.map Zu l_0)])] [(false,[(false,.sl 9 1 (List.map Zu r))])]:=by
 refine fnk Tryz.func146 (by kernel_rfl) rfl (by kernel_rfl) (by kernel_rfl) ?_
 unfold ZaI at h
 simp only [fnS,f146,Zo,go_sem,seval]
 obtain ⟨a,h⟩:=Zx h
 try simp only [Nat.reduceLeDiff] at a
 cases h
 try simp only [*,go_sem,seval]
theorem Qg {s_0:ByteArray} {r:Bool} (h:Qr s_0=some r):Zn Tryz.prog J0 153 [(false,[.str s_0])] [(false,[(false,.bool r)])]:=by
 refine fnk Tryz.func153 (by kernel_rfl) rfl (by kernel_rfl) (by kernel_rfl) ?_
 unfold Qr at h
 simp only [fnS,f153,Zo,go_sem,seval]
 refine Ze h (fun _ h=>?_) fun _ h=>?_<;>try simp only [*,go_sem,seval]
 ·cases h
  try simp only [*,go_sem,seval]
 ·refine Ze h (fun _ h=>?_) fun _ h=>?_<;>try simp only [*,go_sem,seval]
  ·cases h
   try simp only [*,go_sem,seval]
  ·refine Zg h (fun i _ st=>IV [(0,.p false [.c (.str s_0)]),(3,.p false [.c (.int .i64 ((i:Nat):Int))])] [] st) [] [] (by decide) ?_ ?_ ?_
   ·simp only [*,go_sem,seval]
   ·rintro i4 x5 ⟨⟩ ⟨sl,ob,n⟩ y3 hx4 hI5 hW6 h hy3
    simp only [go_sem,seval,Zd] at hI5
    obtain ⟨⟨g7_0,g7_3⟩,hn⟩:=hI5
    subst hn
    have hlhx4:=WF.slotS hW6 g7_0 (j:=0) rfl
    have q8:=ZnD hx4
    have q9:=ZsC hx4
    have q10:=Zi (ZqE hx4) hlhx4
    try simp only [*,go_sem,seval]
    refine Ze h (fun _ h=>?_) fun _ h=>?_<;>try simp only [*,go_sem,seval]
    ·refine Ze h (fun _ h=>?_) fun _ h=>?_<;>try simp only [*,go_sem,seval]
     ·replace h:=Zs h hy3
      cases h
      try simp only [*,go_sem,seval]
     ·refine Ze h (fun _ h=>?_) fun _ h=>?_<;>try simp only [*,go_sem,seval]
      ·replace h:=Zs h hy3
       cases h
       try simp only [*,go_sem,seval]
      ·refine ⟨_,[],[],(Option.some.inj h).symm,by decide,?_⟩
       try simp only [*,go_sem,seval]
    ·refine Ze h (fun _ h=>?_) fun _ h=>?_<;>try simp only [*,go_sem,seval]
     ·refine Ze h (fun _ h=>?_) fun _ h=>?_<;>try simp only [*,go_sem,seval]
      ·replace h:=Zs h hy3
       cases h
       try simp only [*,go_sem,seval]
      ·refine Ze h (fun _ h=>?_) fun _ h=>?_<;>try simp only [*,go_sem,seval]
       ·replace h:=Zs h hy3
        cases h
        try simp only [*,go_sem,seval]
       ·refine ⟨_,[],[],(Option.some.inj h).symm,by decide,?_⟩
        try simp only [*,go_sem,seval]
     ·refine ⟨_,[],[],(Option.some.inj h).symm,by decide,?_⟩
      try simp only [*,go_sem,seval]
   ·rintro ⟨⟩ ⟨sl,ob,n⟩ hI17 hW18 h
    simp only [go_sem,seval,Zd] at hI17
    obtain ⟨⟨g19_0,g19_3⟩,hn⟩:=hI17
    subst hn
    have q20:=ZC (s_0.size)
    cases h
    try simp only [*,go_sem,seval]
theorem ZfS {b_0:(List Zl)} {r:(List Zl)} (h:ZaB b_0=some r):Zn Tryz.prog J0 156 [(false,[.sl 192 2 (List.map Z6 b_0)])] [(false,[(false,.sl 192 2 (List.map Z6 r))])]:=by
 refine fnk Tryz.func156 (by kernel_rfl) rfl (by kernel_rfl) (by kernel_rfl) ?_
 unfold ZaB at h
 simp only [fnS,f156,Zo,go_sem,seval]
 obtain ⟨a,h⟩:=Zx h
 try simp only [Nat.reduceLeDiff] at a
 cases h
 try simp only [*,go_sem,seval]
theorem QZ {p_0:Zv} {r:Bool} (h:Xc p_0=some r):Zn Tryz.prog J0 213 [(true,QQ p_0)] [(false,[(false,.bool r)])]:=by
 refine fnk Tryz.func213 (by kernel_rfl) rfl (by kernel_rfl) (by kernel_rfl) ?_
 unfold Xc at h
 have a:Zcf ⟨#[]⟩=true:=by decide
 simp only [fnS,f213,Zo,go_sem,seval,a]
 refine Ze h (fun _ h=>?_) fun _ h=>?_<;>try simp only [*,go_sem,seval]
 iterate 2 (cases h;try simp only [*,go_sem,seval])
theorem Zkn {n_0:Int} {r:ByteArray} (h:ZaJ n_0=some r):Zn Tryz.prog J0 237 [(false,[.int .i64 n_0])] [(false,[(false,.str r)])]:=by
 refine fnk Tryz.func237 (by kernel_rfl) rfl (by kernel_rfl) (by kernel_rfl) ?_
 unfold ZaJ at h
 have a:Zcf ⟨#[]⟩=true:=by decide
 simp only [fnS,f237,Zo,go_sem,seval,a]
 obtain ⟨c,b,h⟩:=Za h
 refine Zb (ZrM b) ?_
 cases h
 try simp only [*,go_sem,seval]
theorem Zep {r_0:Zf} {r:(List Zm)} (h:YU r_0=some r):Zn Tryz.prog J0 88 [(true,ZB r_0)] [(false,[(true,.sl 130 5 (List.map ZM r))])]:=by
 refine fnk Tryz.func88 (by kernel_rfl) rfl (by kernel_rfl) (by kernel_rfl) ?_
 unfold YU at h
 simp only [fnS,f88,Zo,go_sem,seval]
 refine Zg h (fun i a st=>IV [(3,.p false [.row 0]),(7,.p false [.c (.sl 130 5 (List.map ZM r_0.cond))]),(8,.p false [.c (.int .i64 ((r_0.cond.length:Nat):Int))]),(9,.p false [.c (.int .i64 ((i:Nat):Int))])] [.row 130 5 (List.map ZM a) 1] st) [(false,3,0),(true,112,1)] [112] (by decide) ?_ ?_ ?_
 simp only [*,go_sem,seval]
 rintro m o a ⟨sl,ob,n⟩ q b d f h t
 simp only [go_sem,seval,Zd] at d
 obtain ⟨⟨u,g,v,w⟩,x,hn⟩:=d
 subst hn
 have k:=WF.slotL f g (j:=0) rfl
 have y:=ZF b
 have z:=ZJ b
 have A:=Zi (ZE b) k
 try simp only [*,go_sem,seval]
 refine Ze h (fun _ h=>?_) fun _ h=>?_<;>try simp only [*,go_sem,seval]
 obtain ⟨l,h⟩:=Zx h
 try simp only [Nat.reduceLeDiff] at l
 try simp only [*,go_sem,seval]
 refine ⟨_,[],[177],(Option.some.inj h).symm,by decide,?_⟩
 try simp only [*,go_sem,seval]
 refine ⟨_,[],[0],(Option.some.inj h).symm,by decide,?_⟩
 try simp only [*,go_sem,seval]
 rintro a ⟨sl,ob,n⟩ e B h
 simp only [go_sem,seval,Zd] at e
 obtain ⟨⟨C,D,E,F⟩,G,hn⟩:=e
 subst hn
 have H:=ZC (r_0.cond.length)
 cases h
 try simp only [*,go_sem,seval]
theorem ZlM {a:(List Zf)} {b:ByteArray} {r:Int} (h:Zat a b=some r):Zn Tryz.prog J0 118 [(false,[.sl 82 4 (List.map ZB a)]),(false,[.str b])] [(false,[(false,.int .i64 r)])]:=by
 refine fnk Tryz.func118 (by kernel_rfl) rfl (by kernel_rfl) (by kernel_rfl) ?_
 unfold Zat at h
 simp only [fnS,f118,Zo,go_sem,seval]
 refine Zg h (fun i _ st=>IV [(1,.p false [.c (.str b)]),(7,.p false [.c (.sl 82 4 (List.map ZB a))]),(8,.p false [.c (.int .i64 ((a.length:Nat):Int))]),(9,.p false [.c (.int .i64 ((i:Nat):Int))])] [] st) [] [] (by decide) ?_ ?_ ?_
 simp only [*,go_sem,seval]
 rintro o q ⟨⟩ ⟨sl,ob,n⟩ t d e g h k
 simp only [go_sem,seval,Zd] at e
 obtain ⟨⟨u,l,v,w⟩,hn⟩:=e
 subst hn
 have m:=WF.slotL g l (j:=0) rfl
 have x:=ZF d
 have y:=ZJ d
 have z:=Zi (ZE d) m
 try simp only [*,go_sem,seval]
 refine Ze h (fun _ h=>?_) fun _ h=>?_<;>try simp only [*,go_sem,seval]
 replace h:=Zs h k
 cases h
 try simp only [*,go_sem,seval]
 refine ⟨_,[],[],(Option.some.inj h).symm,by decide,?_⟩
 try simp only [*,go_sem,seval]
 rintro ⟨⟩ ⟨sl,ob,n⟩ f A h
 simp only [go_sem,seval,Zd] at f
 obtain ⟨⟨B,C,D,E⟩,hn⟩:=f
 subst hn
 have F:=ZC (a.length)
 cases h
 try simp only [*,go_sem,seval]
theorem X5 {l_0:(List ByteArray)} {r:(List ByteArray)} (h:Yp l_0=some r):Zn Tryz.prog J0 209 [(false,[.sl 9 1 (List.map Zu l_0)])] [(false,[(false,.sl 9 1 (List.map Zu r))])]:=by
 refine fnk Tryz.func209 (by kernel_rfl) rfl (by kernel_rfl) (by kernel_rfl) ?_
 unfold Yp at h
 simp only [fnS,f209,Zo,go_sem,seval]
 obtain ⟨g,h⟩:=Zx h
 try simp only [Nat.reduceLeDiff] at g
 try simp only [*,go_sem,seval]
 obtain ⟨a,j,h⟩:=Za h
 refine ZsX (ZiP j) ?_
 try simp only [*,go_sem,seval]
 refine Zg h (fun i b st=>IV [(3,.p false [.row 0]),(4,.p false [.row 1]),(11,.p false [.row 0]),(12,.p false [.c (.int .i64 ((a.length:Nat):Int))]),(13,.p false [.c (.int .i64 ((i:Nat):Int))])] [.row 9 1 (List.map Zu a) 2,.row 9 1 (List.map Zu b) 2] st) [(false,4,0)] [32,160] (by decide) ?_ ?_ ?_
 simp only [*,go_sem,seval]
 rintro t u b ⟨sl,ob,n⟩ v d e k h w
 simp only [go_sem,seval,Zd] at e
 obtain ⟨⟨x,y,z,A,B⟩,l,C,hn⟩:=e
 subst hn
 have m:=WF.rowL k l
 have D:=ZF d
 have E:=ZJ d
 have F:=Zi (ZE d) m
 try simp only [*,go_sem,seval]
 refine Ze h (fun _ h=>?_) fun _ h=>?_<;>try simp only [*,go_sem,seval]
 obtain ⟨o,h⟩:=Zx h
 try simp only [Nat.reduceLeDiff] at o
 try simp only [*,go_sem,seval]
 refine ⟨_,[],[0,322],(Option.some.inj h).symm,by decide,?_⟩
 try simp only [*,go_sem,seval]
 obtain ⟨G,h⟩:=Zx h
 obtain ⟨H,I,h⟩:=Za h
 try simp only [*,go_sem,seval]
 refine Ze h (fun _ h=>?_) fun _ h=>?_<;>try simp only [*,go_sem,seval]
 refine ⟨_,[],[0,1],(Option.some.inj h).symm,by decide,?_⟩
 try simp only [*,go_sem,seval]
 obtain ⟨q,h⟩:=Zx h
 try simp only [Nat.reduceLeDiff] at q
 try simp only [*,go_sem,seval]
 refine ⟨_,[],[0,322],(Option.some.inj h).symm,by decide,?_⟩
 try simp only [*,go_sem,seval]
 rintro b ⟨sl,ob,n⟩ f J h
 simp only [go_sem,seval,Zd] at f
 obtain ⟨⟨K,L,M,N,O⟩,P,Q,hn⟩:=f
 subst hn
 have R:=ZC (a.length)
 cases h
 try simp only [*,go_sem,seval]
theorem Q5 {l_0:(List ByteArray)} {s_1:ByteArray} {r:Bool} (h:Xh l_0 s_1=some r):Zn Tryz.prog J0 207 [(false,[.sl 9 1 (List.map Zu l_0)]),(false,[.str s_1])] [(false,[(false,.bool r)])]:=by
 refine fnk Tryz.func207 (by kernel_rfl) rfl (by kernel_rfl) (by kernel_rfl) ?_
 unfold Xh at h
 simp only [fnS,f207,Zo,go_sem,seval]
 refine Zg h (fun i _ st=>IV [(1,.p false [.c (.str s_1)]),(7,.p false [.c (.sl 9 1 (List.map Zu l_0))]),(8,.p false [.c (.int .i64 ((l_0.length:Nat):Int))]),(9,.p false [.c (.int .i64 ((i:Nat):Int))])] [] st) [] [] (by decide) ?_ ?_ ?_
 simp only [*,go_sem,seval]
 rintro l m ⟨⟩ ⟨sl,ob,n⟩ o a b e h f
 simp only [go_sem,seval,Zd] at b
 obtain ⟨⟨q,g,t,u⟩,hn⟩:=b
 subst hn
 have k:=WF.slotL e g (j:=0) rfl
 have v:=ZF a
 have w:=ZJ a
 have x:=Zi (ZE a) k
 try simp only [*,go_sem,seval]
 refine Ze h (fun _ h=>?_) fun _ h=>?_<;>try simp only [*,go_sem,seval]
 replace h:=Zs h f
 cases h
 try simp only [*,go_sem,seval]
 refine ⟨_,[],[],(Option.some.inj h).symm,by decide,?_⟩
 try simp only [*,go_sem,seval]
 rintro ⟨⟩ ⟨sl,ob,n⟩ d y h
 simp only [go_sem,seval,Zd] at d
 obtain ⟨⟨z,A,B,C⟩,hn⟩:=d
 subst hn
 have D:=ZC (l_0.length)
 cases h
 try simp only [*,go_sem,seval]
theorem ZlO {r_0:Zf} {r:Bool} (h:Zdh r_0=some r):Zn Tryz.prog J0 204 [(true,ZB r_0)] [(false,[(false,.bool r)])]:=by
 refine fnk Tryz.func204 (by kernel_rfl) rfl (by kernel_rfl) (by kernel_rfl) ?_
 unfold Zdh at h
 simp only [fnS,f204,Zo,go_sem,seval]
 refine Zg h (fun i _ st=>IV [(6,.p false [.c (.sl 134 3 (List.map ZA r_0.thn))]),(7,.p false [.c (.int .i64 ((r_0.thn.length:Nat):Int))]),(8,.p false [.c (.int .i64 ((i:Nat):Int))])] [] st) [] [] (by decide) ?_ ?_ ?_
 simp only [*,go_sem,seval]
 rintro l m ⟨⟩ ⟨sl,ob,n⟩ o a b e h f
 simp only [go_sem,seval,Zd] at b
 obtain ⟨⟨g,q,t⟩,hn⟩:=b
 subst hn
 have k:=WF.slotL e g (j:=0) rfl
 have u:=ZF a
 have v:=ZJ a
 have w:=Zi (ZE a) k
 try simp only [*,go_sem,seval]
 refine Ze h (fun _ h=>?_) fun _ h=>?_<;>try simp only [*,go_sem,seval]
 replace h:=Zs h f
 cases h
 try simp only [*,go_sem,seval]
 refine ⟨_,[],[],(Option.some.inj h).symm,by decide,?_⟩
 try simp only [*,go_sem,seval]
 rintro ⟨⟩ ⟨sl,ob,n⟩ d x h
 simp only [go_sem,seval,Zd] at d
 obtain ⟨⟨y,z,A⟩,hn⟩:=d
 subst hn
 have B:=ZC (r_0.thn.length)
 cases h
 try simp only [*,go_sem,seval]
end Go.Proofs.YtojnhepgnbhaaaaGreatDoor
namespace Go.Proofs.YtojnhepgnbhaaaaGreatDoor
open Go.Proofs.Tryz
set_option linter.unusedSimpArgs false
set_option linter.unusedVariables false
set_option maxRecDepth 1000000
set_option maxHeartbeats 4000000
theorem ZbC {a_0:Int} {b_1:Int} {r:Int} (h:XP a_0 b_1=some r):Zn Tryz.prog J0 212 [(false,[.int .i64 a_0]),(false,[.int .i64 b_1])] [(false,[(false,.int .i64 r)])]:=by
 refine fnk Tryz.func212 (by kernel_rfl) rfl (by kernel_rfl) (by kernel_rfl) ?_
 unfold XP at h
 simp only [fnS,f212,Zo,go_sem,seval]
 refine Ze h (fun _ h=>?_) fun _ h=>?_<;>try simp only [*,go_sem,seval]
 ·cases h
  try simp only [*,go_sem,seval]
 ·refine Ze h (fun _ h=>?_) fun _ h=>?_<;>try simp only [*,go_sem,seval]
  ·cases h
   try simp only [*,go_sem,seval]
  ·cases h
   try simp only [*,go_sem,seval]
theorem ZoY {l_0:(List Int)} {n_1:Int} {r:Bool} (h:ZfY l_0 n_1=some r):Zn Tryz.prog J0 110 [(false,[.sl 3 1 (List.map Qv l_0)]),(false,[.int .i64 n_1])] [(false,[(false,.bool r)])]:=by
 refine fnk Tryz.func110 (by kernel_rfl) rfl (by kernel_rfl) (by kernel_rfl) ?_
 unfold ZfY at h
 simp only [fnS,f110,Zo,go_sem,seval]
 refine Zg h (fun i _ st=>IV [(1,.p false [.c (.int .i64 n_1)]),(7,.p false [.c (.sl 3 1 (List.map Qv l_0))]),(8,.p false [.c (.int .i64 ((l_0.length:Nat):Int))]),(9,.p false [.c (.int .i64 ((i:Nat):Int))])] [] st) [] [] (by decide) ?_ ?_ ?_
 simp only [*,go_sem,seval]
 rintro l m ⟨⟩ ⟨sl,ob,n⟩ o a b e h f
 simp only [go_sem,seval,Zd] at b
 obtain ⟨⟨q,g,t,u⟩,hn⟩:=b
 subst hn
 have k:=WF.slotL e g (j:=0) rfl
 have v:=ZF a
 have w:=ZJ a
 have x:=Zi (ZE a) k
 try simp only [*,go_sem,seval]
 refine Ze h (fun _ h=>?_) fun _ h=>?_<;>try simp only [*,go_sem,seval]
 replace h:=Zs h f
 cases h
 try simp only [*,go_sem,seval]
 refine ⟨_,[],[],(Option.some.inj h).symm,by decide,?_⟩
 try simp only [*,go_sem,seval]
 rintro ⟨⟩ ⟨sl,ob,n⟩ d y h
 simp only [go_sem,seval,Zd] at d
 obtain ⟨⟨z,A,B,C⟩,hn⟩:=d
 subst hn
 have D:=ZC (l_0.length)
 cases h
 try simp only [*,go_sem,seval]
theorem ZgG {a_0:(List Int)} {b_1:(List Int)} {r:Bool} (h:Zbt a_0 b_1=some r):Zn Tryz.prog J0 184 [(false,[.sl 3 1 (List.map Qv a_0)]),(false,[.sl 3 1 (List.map Qv b_1)])] [(false,[(false,.bool r)])]:=by
 refine fnk Tryz.func184 (by kernel_rfl) rfl (by kernel_rfl) (by kernel_rfl) ?_
 unfold Zbt at h
 simp only [fnS,f184,Zo,go_sem,seval]
 refine Ze h (fun _ h=>?_) fun _ h=>?_<;>try simp only [*,go_sem,seval]
 cases h
 try simp only [*,go_sem,seval]
 refine Zg h (fun i _ st=>IV [(0,.p false [.c (.sl 3 1 (List.map Qv a_0))]),(1,.p false [.c (.sl 3 1 (List.map Qv b_1))]),(12,.p false [.c (.int .i64 ((a_0.length:Nat):Int))]),(13,.p false [.c (.int .i64 ((i:Nat):Int))])] [] st) [] [] (by decide) ?_ ?_ ?_
 simp only [*,go_sem,seval]
 rintro m o ⟨⟩ ⟨sl,ob,n⟩ q a b e h f
 simp only [go_sem,seval,Zd] at b
 obtain ⟨⟨g,t,u,v⟩,hn⟩:=b
 subst hn
 have k:=WF.slotL e g (j:=0) rfl
 have w:=ZF a
 have x:=ZJ a
 have y:=Zi (ZE a) k
 obtain ⟨z,A,B,l,h⟩:=Zgn h
 simp only [Int.toNat_natCast] at l
 try simp only [*,go_sem,seval]
 refine Ze h (fun _ h=>?_) fun _ h=>?_<;>try simp only [*,go_sem,seval]
 replace h:=Zs h f
 cases h
 try simp only [*,go_sem,seval]
 refine ⟨_,[],[],(Option.some.inj h).symm,by decide,?_⟩
 try simp only [*,go_sem,seval]
 rintro ⟨⟩ ⟨sl,ob,n⟩ d C h
 simp only [go_sem,seval,Zd] at d
 obtain ⟨⟨D,E,F,G⟩,hn⟩:=d
 subst hn
 have H:=ZC (a_0.length)
 cases h
 try simp only [*,go_sem,seval]
end Go.Proofs.YtojnhepgnbhaaaaGreatDoor
namespace Go.Proofs.YtojnhepgnbhaaaaGreatDoor
open Go.Proofs.Tryz
set_option linter.unusedSimpArgs false
set_option linter.unusedVariables false
set_option maxRecDepth 1000000
set_option maxHeartbeats 4000000
theorem Zo0 {a_0:Zc} {b_1:Zc} {r:Bool} (h:Zk4 a_0 b_1=some r):Zn Tryz.prog J0 107 [(true,Zq a_0),(true,Zq b_1)] [(false,[(false,.bool r)])]:=by
 refine fnk Tryz.func107 (by kernel_rfl) rfl (by kernel_rfl) (by kernel_rfl) ?_
 unfold Zk4 at h
 simp only [fnS,f107,Zo,go_sem,seval]
 refine Ze h (fun _ h=>?_) fun _ h=>?_<;>try simp only [*,go_sem,seval]
 obtain ⟨b,a,h⟩:=Za h
 refine Zb (Ziz a) ?_
 iterate 2 (cases h;try simp only [*,go_sem,seval])
theorem XF {f_0:Zc} {r:Zc} (h:X1 f_0=some r):Zn Tryz.prog J0 98 [(true,Zq f_0)] [(true,[(false,.str r.rel),(false,.sl 9 1 (List.map Zu r.args))])]:=by
 refine fnk Tryz.func98 (by kernel_rfl) rfl (by kernel_rfl) (by kernel_rfl) ?_
 unfold X1 at h
 simp only [fnS,f98,Zo,go_sem,seval]
 obtain ⟨b,a,h⟩:=Za h
 refine Zb (ZnL a) ?_
 cases h
 try simp only [*,go_sem,seval]
theorem Qc {s_0:ByteArray} {r:Bool} (h:Qq s_0=some r):Zn Tryz.prog J0 147 [(false,[.str s_0])] [(false,[(false,.bool r)])]:=by
 refine fnk Tryz.func147 (by kernel_rfl) rfl (by kernel_rfl) (by kernel_rfl) ?_
 unfold Qq at h
 simp only [fnS,f147,Zo,go_sem,seval]
 refine Zg h (fun i _ st=>IV [(0,.p false [.c (.str s_0)]),(3,.p false [.c (.int .i64 ((i:Nat):Int))])] [] st) [] [] (by decide) ?_ ?_ ?_
 simp only [*,go_sem,seval]
 rintro q t ⟨⟩ ⟨sl,ob,n⟩ u a b e h f
 simp only [go_sem,seval,Zd] at b
 obtain ⟨⟨g,v⟩,hn⟩:=b
 subst hn
 have k:=WF.slotS e g (j:=0) rfl
 have w:=ZnD a
 have x:=ZsC a
 have y:=Zi (ZqE a) k
 try simp only [*,go_sem,seval]
 obtain ⟨z,l,h⟩:=Za h
 refine Zb (ZaS l) ?_
 try simp only [*,go_sem,seval]
 refine Ze h (fun _ h=>?_) fun _ h=>?_<;>try simp only [*,go_sem,seval]
 refine ⟨_,[],[],(Option.some.inj h).symm,by decide,?_⟩
 try simp only [*,go_sem,seval]
 obtain ⟨A,m,h⟩:=Za h
 refine Zb (ZaS m) ?_
 try simp only [*,go_sem,seval]
 refine Ze h (fun _ h=>?_) fun _ h=>?_<;>try simp only [*,go_sem,seval]
 refine ⟨_,[],[],(Option.some.inj h).symm,by decide,?_⟩
 try simp only [*,go_sem,seval]
 replace h:=Zs h f
 cases h
 try simp only [*,go_sem,seval]
 rintro ⟨⟩ ⟨sl,ob,n⟩ d B h
 simp only [go_sem,seval,Zd] at d
 obtain ⟨⟨C,D⟩,hn⟩:=d
 subst hn
 have E:=ZC (s_0.size)
 try simp only [*,go_sem,seval]
 obtain ⟨F,o,h⟩:=Za h
 refine Zb (ZaS o) ?_
 cases h
 try simp only [*,go_sem,seval]
theorem Zd0 {s_0:ByteArray} {r:(Int × Bool)} (h:QS s_0=some r):Zn Tryz.prog J0 231 [(false,[.str s_0])] [(false,[(false,.int .i64 r.1)]),(false,[(false,.bool r.2)])]:=by
 refine fnk Tryz.func231 (by kernel_rfl) rfl (by kernel_rfl) (by kernel_rfl) ?_
 unfold QS at h
 simp only [fnS,f231,Zo,go_sem,seval]
 obtain ⟨q,g,h⟩:=Za h
 refine Zb (ZaS g) ?_
 try simp only [*,go_sem,seval]
 refine Ze h (fun _ h=>?_) fun _ h=>?_<;>try simp only [*,go_sem,seval]
 refine Zg h (fun i a st=>IV [(0,.p false [.c (.str s_0)]),(4,.p false [.c (.int .i64 a)]),(5,.p false [.c (.int .i64 ((i:Nat):Int))])] [] st) [] [] (by decide) ?_ ?_ ?_
 simp only [*,go_sem,seval]
 rintro t u a ⟨sl,ob,n⟩ v b d k h e
 simp only [go_sem,seval,Zd] at d
 obtain ⟨⟨l,w,x⟩,hn⟩:=d
 subst hn
 have m:=WF.slotS k l (j:=0) rfl
 have y:=ZnD b
 have z:=ZsC b
 have A:=Zi (ZqE b) m
 try simp only [*,go_sem,seval]
 refine Ze h (fun _ h=>?_) fun _ h=>?_<;>try simp only [*,go_sem,seval]
 replace h:=Zs h e
 cases h
 try simp only [*,go_sem,seval]
 refine Ze h (fun _ h=>?_) fun _ h=>?_<;>try simp only [*,go_sem,seval]
 replace h:=Zs h e
 cases h
 try simp only [*,go_sem,seval]
 refine ⟨_,[],[],(Option.some.inj h).symm,by decide,?_⟩
 try simp only [*,go_sem,seval]
 rintro a ⟨sl,ob,n⟩ f B h
 simp only [go_sem,seval,Zd] at f
 obtain ⟨⟨C,D,E⟩,hn⟩:=f
 subst hn
 have F:=ZC (s_0.size)
 try simp only [*,go_sem,seval]
 obtain ⟨G,o,h⟩:=Za h
 refine Zb (Zku o) ?_
 try simp only [*,go_sem,seval]
 refine Ze h (fun _ h=>?_) fun _ h=>?_<;>try simp only [*,go_sem,seval]
 iterate 3 (cases h;try simp only [*,go_sem,seval])
theorem Zl3 {a_0:(List ByteArray)} {b_1:(List ByteArray)} {r:Bool} (h:Zc8 a_0 b_1=some r):Zn Tryz.prog J0 194 [(false,[.sl 9 1 (List.map Zu a_0)]),(false,[.sl 9 1 (List.map Zu b_1)])] [(false,[(false,.bool r)])]:=by
 refine fnk Tryz.func194 (by kernel_rfl) rfl (by kernel_rfl) (by kernel_rfl) ?_
 unfold Zc8 at h
 simp only [fnS,f194,Zo,go_sem,seval]
 refine Zg h (fun i _ st=>IV [(0,.p false [.c (.sl 9 1 (List.map Zu a_0))]),(1,.p false [.c (.sl 9 1 (List.map Zu b_1))]),(5,.p false [.c (.int .i64 ((i:Nat):Int))])] [] st) [] [] (by decide) ?_ ?_ ?_
 simp only [*,go_sem,seval]
 rintro m o ⟨⟩ ⟨sl,ob,n⟩ q a b e h f
 simp only [go_sem,seval,Zd] at b
 obtain ⟨⟨g,t,u⟩,hn⟩:=b
 subst hn
 have k:=WF.slotL e g (j:=0) rfl
 have v:=ZF a
 have w:=ZJ a
 have x:=Zi (ZE a) k
 try simp only [*,go_sem,seval]
 obtain ⟨y,l,h⟩:=Za h
 refine Zb (YG l) ?_
 try simp only [*,go_sem,seval]
 refine Ze h (fun _ h=>?_) fun _ h=>?_<;>try simp only [*,go_sem,seval]
 refine ⟨_,[],[],(Option.some.inj h).symm,by decide,?_⟩
 try simp only [*,go_sem,seval]
 replace h:=Zs h f
 cases h
 try simp only [*,go_sem,seval]
 rintro ⟨⟩ ⟨sl,ob,n⟩ d z h
 simp only [go_sem,seval,Zd] at d
 obtain ⟨⟨A,B,C⟩,hn⟩:=d
 subst hn
 have D:=ZC (a_0.length)
 cases h
 try simp only [*,go_sem,seval]
theorem ZgD {r_0:Zf} {r:(List ByteArray)} (h:QW r_0=some r):Zn Tryz.prog J0 169 [(true,ZB r_0)] [(false,[(false,.sl 9 1 (List.map Zu r))])]:=by
 refine fnk Tryz.func169 (by kernel_rfl) rfl (by kernel_rfl) (by kernel_rfl) ?_
 unfold QW at h
 simp only [fnS,f169,Zo,go_sem,seval]
 refine Zg h (fun i a st=>IV [(1,.bp 0 0),(3,.p false [.row 1]),(4,.p false [.c (.int .i64 ((i:Nat):Int))])] [.box 82 [.c (.str r_0.name),.c (.int .i64 r_0.priority),.c (.sl 130 5 (List.map ZM r_0.cond)),.c (.sl 134 3 (List.map ZA r_0.thn))],.row 9 1 (List.map Zu a) 2] st) [] [0,32] (by decide) ?_ ?_ ?_
 simp only [*,go_sem,seval]
 rintro o q a ⟨sl,ob,n⟩ t b d f h u
 simp only [go_sem,seval,Zd] at d
 obtain ⟨⟨v,w,x⟩,g,y,hn⟩:=d
 subst hn
 have k:=WF.boxL f g (j:=3) rfl
 have z:=ZF b
 have A:=ZJ b
 have B:=Zi (ZE b) k
 try simp only [*,go_sem,seval]
 refine Ze h (fun _ h=>?_) fun _ h=>?_<;>try simp only [*,go_sem,seval]
 obtain ⟨C,l,h⟩:=Za h
 refine Zb (Xn l) ?_
 try simp only [*,go_sem,seval]
 refine ⟨_,[],[0,466],(Option.some.inj h).symm,by decide,?_⟩
 try simp only [*,go_sem,seval]
 refine Ze h (fun _ h=>?_) fun _ h=>?_<;>try simp only [*,go_sem,seval]
 obtain ⟨D,m,h⟩:=Za h
 refine Zb (Xn m) ?_
 try simp only [*,go_sem,seval]
 refine ⟨_,[],[0,466],(Option.some.inj h).symm,by decide,?_⟩
 try simp only [*,go_sem,seval]
 refine ⟨_,[],[0,1],(Option.some.inj h).symm,by decide,?_⟩
 try simp only [*,go_sem,seval]
 rintro a ⟨sl,ob,n⟩ e E h
 simp only [go_sem,seval,Zd] at e
 obtain ⟨⟨F,G,H⟩,I,J,hn⟩:=e
 subst hn
 have K:=ZC (r_0.thn.length)
 cases h
 try simp only [*,go_sem,seval]
theorem Zny {r_0:Zf} {r:(List ByteArray)} (h:Zbx r_0=some r):Zn Tryz.prog J0 199 [(true,ZB r_0)] [(false,[(false,.sl 9 1 (List.map Zu r))])]:=by
 refine fnk Tryz.func199 (by kernel_rfl) rfl (by kernel_rfl) (by kernel_rfl) ?_
 unfold Zbx at h
 simp only [fnS,f199,Zo,go_sem,seval]
 refine Zg h (fun i a st=>IV [(1,.bp 0 0),(3,.p false [.row 1]),(4,.p false [.c (.int .i64 ((i:Nat):Int))])] [.box 82 [.c (.str r_0.name),.c (.int .i64 r_0.priority),.c (.sl 130 5 (List.map ZM r_0.cond)),.c (.sl 134 3 (List.map ZA r_0.thn))],.row 9 1 (List.map Zu a) 2] st) [] [0,32] (by decide) ?_ ?_ ?_
 simp only [*,go_sem,seval]
 rintro o q a ⟨sl,ob,n⟩ t b d f h u
 simp only [go_sem,seval,Zd] at d
 obtain ⟨⟨v,w,x⟩,g,y,hn⟩:=d
 subst hn
 have k:=WF.boxL f g (j:=2) rfl
 have z:=ZF b
 have A:=ZJ b
 have B:=Zi (ZE b) k
 try simp only [*,go_sem,seval]
 refine Ze h (fun _ h=>?_) fun _ h=>?_<;>try simp only [*,go_sem,seval]
 obtain ⟨C,l,h⟩:=Za h
 refine Zb (Xn l) ?_
 try simp only [*,go_sem,seval]
 refine ⟨_,[],[0,466],(Option.some.inj h).symm,by decide,?_⟩
 try simp only [*,go_sem,seval]
 refine Ze h (fun _ h=>?_) fun _ h=>?_<;>try simp only [*,go_sem,seval]
 obtain ⟨D,m,h⟩:=Za h
 refine Zb (Xn m) ?_
 try simp only [*,go_sem,seval]
 refine ⟨_,[],[0,466],(Option.some.inj h).symm,by decide,?_⟩
 try simp only [*,go_sem,seval]
 refine ⟨_,[],[0,1],(Option.some.inj h).symm,by decide,?_⟩
 try simp only [*,go_sem,seval]
 rintro a ⟨sl,ob,n⟩ e E h
 simp only [go_sem,seval,Zd] at e
 obtain ⟨⟨F,G,H⟩,I,J,hn⟩:=e
 subst hn
 have K:=ZC (r_0.cond.length)
 cases h
 try simp only [*,go_sem,seval]
theorem Zm4 {l_0:(List Zh)} {r_1:Zh} {r:Int} (h:Zec l_0 r_1=some r):Zn Tryz.prog J0 83 [(false,[.sl 114 3 (List.map Yn l_0)]),(true,Yn r_1)] [(false,[(false,.int .i64 r)])]:=by
 refine fnk Tryz.func83 (by kernel_rfl) rfl (by kernel_rfl) (by kernel_rfl) ?_
 unfold Zec at h
 simp only [fnS,f83,Zo,go_sem,seval]
 refine Zg h (fun i _ st=>IV [(0,.p false [.c (.sl 114 3 (List.map Yn l_0))]),(3,.bp 0 0),(5,.p false [.c (.int .i64 ((i:Nat):Int))])] [.box 114 [.c (.int .i64 r_1.for_),.c (.sl 3 1 (List.map Qv r_1.inn)),.c (.sl 3 1 (List.map Qv r_1.outs))]] st) [] [0] (by decide) ?_ ?_ ?_
 simp only [*,go_sem,seval]
 rintro o q ⟨⟩ ⟨sl,ob,n⟩ t a b e h f
 simp only [go_sem,seval,Zd] at b
 obtain ⟨⟨g,u,v⟩,w,hn⟩:=b
 subst hn
 have k:=WF.slotL e g (j:=0) rfl
 have x:=ZF a
 have y:=ZJ a
 have z:=Zi (ZE a) k
 try simp only [*,go_sem,seval]
 refine Ze h (fun _ h=>?_) fun _ h=>?_<;>try simp only [*,go_sem,seval]
 obtain ⟨A,l,h⟩:=Za h
 refine Zb (Ze3 l) ?_
 try simp only [*,go_sem,seval]
 refine Ze h (fun _ h=>?_) fun _ h=>?_<;>try simp only [*,go_sem,seval]
 obtain ⟨B,m,h⟩:=Za h
 refine Zb (Ze3 m) ?_
 try simp only [*,go_sem,seval]
 refine Ze h (fun _ h=>?_) fun _ h=>?_<;>try simp only [*,go_sem,seval]
 replace h:=Zs h f
 cases h
 try simp only [*,go_sem,seval]
 refine ⟨_,[],[0],(Option.some.inj h).symm,by decide,?_⟩
 try simp only [*,go_sem,seval]
 refine ⟨_,[],[0],(Option.some.inj h).symm,by decide,?_⟩
 try simp only [*,go_sem,seval]
 refine ⟨_,[],[0],(Option.some.inj h).symm,by decide,?_⟩
 try simp only [*,go_sem,seval]
 rintro ⟨⟩ ⟨sl,ob,n⟩ d C h
 simp only [go_sem,seval,Zd] at d
 obtain ⟨⟨D,E,F⟩,G,hn⟩:=d
 subst hn
 have H:=ZC (l_0.length)
 cases h
 try simp only [*,go_sem,seval]
theorem ZlP {a_0:Zc} {b_1:Zc} {r:Bool} (h:Zbp a_0 b_1=some r):Zn Tryz.prog J0 109 [(true,Zq a_0),(true,Zq b_1)] [(false,[(false,.bool r)])]:=by
 refine fnk Tryz.func109 (by kernel_rfl) rfl (by kernel_rfl) (by kernel_rfl) ?_
 unfold Zbp at h
 simp only [fnS,f109,Zo,go_sem,seval]
 refine Ze h (fun _ h=>?_) fun _ h=>?_<;>try simp only [*,go_sem,seval]
 obtain ⟨b,a,h⟩:=Za h
 refine Zb (ZkC a) ?_
 iterate 2 (cases h;try simp only [*,go_sem,seval])
theorem Xf {f_0:Zc} {r:Zc} (h:Y3 f_0=some r):Zn Tryz.prog J0 100 [(true,Zq f_0)] [(true,[(false,.str r.rel),(false,.sl 9 1 (List.map Zu r.args))])]:=by
 refine fnk Tryz.func100 (by kernel_rfl) rfl (by kernel_rfl) (by kernel_rfl) ?_
 unfold Y3 at h
 simp only [fnS,f100,Zo,go_sem,seval]
 obtain ⟨b,a,h⟩:=Za h
 refine Zb (Zf2 a) ?_
 cases h
 try simp only [*,go_sem,seval]
theorem ZfF {s_0:ByteArray} {r:Bool} (h:ZcZ s_0=some r):Zn Tryz.prog J0 104 [(false,[.str s_0])] [(false,[(false,.bool r)])]:=by
 refine fnk Tryz.func104 (by kernel_rfl) rfl (by kernel_rfl) (by kernel_rfl) ?_
 unfold ZcZ at h
 simp only [fnS,f104,Zo,go_sem,seval]
 obtain ⟨c,a,h⟩:=Za h
 refine Zb (Qg a) ?_
 try simp only [*,go_sem,seval]
 refine Ze h (fun _ h=>?_) fun _ h=>?_<;>try simp only [*,go_sem,seval]
 obtain ⟨d,e,b,h⟩:=Zqp h
 try simp only [seval] at b
 iterate 2 (cases h;try simp only [*,go_sem,seval])
theorem ZcP {s_0:ByteArray} {r:Bool} (h:Zcn s_0=some r):Zn Tryz.prog J0 154 [(false,[.str s_0])] [(false,[(false,.bool r)])]:=by
 refine fnk Tryz.func154 (by kernel_rfl) rfl (by kernel_rfl) (by kernel_rfl) ?_
 unfold Zcn at h
 simp only [fnS,f154,Zo,go_sem,seval]
 refine Ze h (fun _ h=>?_) fun _ h=>?_<;>try simp only [*,go_sem,seval]
 obtain ⟨c,d,a,h⟩:=Zqp h
 try simp only [seval] at a
 try simp only [*,go_sem,seval]
 refine Ze h (fun _ h=>?_) fun _ h=>?_<;>try simp only [*,go_sem,seval]
 obtain ⟨e,h⟩:=Zx h
 try simp only [*,go_sem,seval]
 obtain ⟨f,b,h⟩:=Za h
 refine Zb (Qg b) ?_
 iterate 3 (cases h;try simp only [*,go_sem,seval])
theorem ZbS {s_0:ByteArray} {r:(Int × Bool)} (h:QK s_0=some r):Zn Tryz.prog J0 215 [(false,[.str s_0])] [(false,[(false,.int .i64 r.1)]),(false,[(false,.bool r.2)])]:=by
 refine fnk Tryz.func215 (by kernel_rfl) rfl (by kernel_rfl) (by kernel_rfl) ?_
 unfold QK at h
 simp only [fnS,f215,Zo,go_sem,seval]
 refine Ze h (fun _ h=>?_) fun _ h=>?_<;>try simp only [*,go_sem,seval]
 ·cases h
  try simp only [*,go_sem,seval]
 ·refine Ze h (fun _ h=>?_) fun _ h=>?_<;>try simp only [*,go_sem,seval]
  ·cases h
   try simp only [*,go_sem,seval]
  ·obtain ⟨v1,e3,h⟩:=Za h
   refine Zb (by have hh:=Zrz e3;first|exact hh|(simp only [*,go_sem] at hh;exact hh)) ?_
   try simp only [*,go_sem,seval]
   refine Ze h (fun _ h=>?_) fun _ h=>?_<;>try simp only [*,go_sem,seval]
   ·refine Ze h (fun _ h=>?_) fun _ h=>?_<;>try simp only [*,go_sem,seval]
    ·cases h
     try simp only [*,go_sem,seval]
    ·refine Ze h (fun _ h=>?_) fun _ h=>?_<;>try simp only [*,go_sem,seval]
     ·cases h
      try simp only [*,go_sem,seval]
     ·obtain ⟨v2,e7,h⟩:=Za h
      refine Zb (by have hh:=Zkn e7;first|exact hh|(simp only [*,go_sem] at hh;exact hh)) ?_
      try simp only [*,go_sem,seval]
      refine Ze h (fun _ h=>?_) fun _ h=>?_<;>try simp only [*,go_sem,seval]
      ·cases h
       try simp only [*,go_sem,seval]
      ·cases h
       try simp only [*,go_sem,seval]
   ·cases h
    try simp only [*,go_sem,seval]
theorem ZnB {x_0:Zm} {r:(List ByteArray)} (h:Zgk x_0=some r):Zn Tryz.prog J0 233 [(true,ZM x_0)] [(false,[(false,.sl 9 1 (List.map Zu r))])]:=by
 refine fnk Tryz.func233 (by kernel_rfl) rfl (by kernel_rfl) (by kernel_rfl) ?_
 unfold Zgk at h
 simp only [fnS,f233,Zo,go_sem,seval]
 obtain ⟨c,a,h⟩:=Za h
 refine Zb (Zf2 a) ?_
 obtain ⟨b,h⟩:=Zx h
 try simp only [Nat.reduceLeDiff] at b
 cases h
 try simp only [*,go_sem,seval]
theorem ZgR {r_0:Zf} {r:(List ByteArray)} (h:Qm r_0=some r):Zn Tryz.prog J0 179 [(true,ZB r_0)] [(false,[(false,.sl 9 1 (List.map Zu r))])]:=by
 refine fnk Tryz.func179 (by kernel_rfl) rfl (by kernel_rfl) (by kernel_rfl) ?_
 unfold Qm at h
 simp only [fnS,f179,Zo,go_sem,seval]
 refine Zg h (fun i a st=>IV [(3,.p false [.row 0]),(7,.p false [.c (.sl 134 3 (List.map ZA r_0.thn))]),(8,.p false [.c (.int .i64 ((r_0.thn.length:Nat):Int))]),(9,.p false [.c (.int .i64 ((i:Nat):Int))])] [.row 9 1 (List.map Zu a) 2] st) [(false,3,0)] [112] (by decide) ?_ ?_ ?_
 simp only [*,go_sem,seval]
 rintro q t a ⟨sl,ob,n⟩ u b d f h v
 simp only [go_sem,seval,Zd] at d
 obtain ⟨⟨w,g,x,y⟩,z,hn⟩:=d
 subst hn
 have k:=WF.slotL f g (j:=0) rfl
 have A:=ZF b
 have B:=ZJ b
 have C:=Zi (ZE b) k
 try simp only [*,go_sem,seval]
 refine Ze h (fun _ h=>?_) fun _ h=>?_<;>try simp only [*,go_sem,seval]
 obtain ⟨l,h⟩:=Zx h
 try simp only [Nat.reduceLeDiff] at l
 try simp only [*,go_sem,seval]
 refine ⟨_,[],[289],(Option.some.inj h).symm,by decide,?_⟩
 try simp only [*,go_sem,seval]
 refine Ze h (fun _ h=>?_) fun _ h=>?_<;>try simp only [*,go_sem,seval]
 obtain ⟨m,h⟩:=Zx h
 try simp only [Nat.reduceLeDiff] at m
 try simp only [*,go_sem,seval]
 refine ⟨_,[],[289],(Option.some.inj h).symm,by decide,?_⟩
 try simp only [*,go_sem,seval]
 refine ⟨_,[],[0],(Option.some.inj h).symm,by decide,?_⟩
 try simp only [*,go_sem,seval]
 rintro a ⟨sl,ob,n⟩ e D h
 simp only [go_sem,seval,Zd] at e
 obtain ⟨⟨E,F,G,H⟩,I,hn⟩:=e
 subst hn
 have J:=ZC (r_0.thn.length)
 try simp only [*,go_sem,seval]
 obtain ⟨K,o,h⟩:=Za h
 refine Zb (X5 o) ?_
 cases h
 try simp only [*,go_sem,seval]
theorem Znk {r_0:Zf} {r:(List ByteArray)} (h:ZbA r_0=some r):Zn Tryz.prog J0 208 [(true,ZB r_0)] [(false,[(false,.sl 9 1 (List.map Zu r))])]:=by
 refine fnk Tryz.func208 (by kernel_rfl) rfl (by kernel_rfl) (by kernel_rfl) ?_
 unfold ZbA at h
 simp only [fnS,f208,Zo,go_sem,seval]
 refine Zg h (fun i a st=>IV [(3,.p false [.row 0]),(7,.p false [.c (.sl 130 5 (List.map ZM r_0.cond))]),(8,.p false [.c (.int .i64 ((r_0.cond.length:Nat):Int))]),(9,.p false [.c (.int .i64 ((i:Nat):Int))])] [.row 9 1 (List.map Zu a) 2] st) [(false,3,0)] [112] (by decide) ?_ ?_ ?_
 simp only [*,go_sem,seval]
 rintro q t a ⟨sl,ob,n⟩ u b d f h v
 simp only [go_sem,seval,Zd] at d
 obtain ⟨⟨w,g,x,y⟩,z,hn⟩:=d
 subst hn
 have k:=WF.slotL f g (j:=0) rfl
 have A:=ZF b
 have B:=ZJ b
 have C:=Zi (ZE b) k
 try simp only [*,go_sem,seval]
 refine Ze h (fun _ h=>?_) fun _ h=>?_<;>try simp only [*,go_sem,seval]
 obtain ⟨l,h⟩:=Zx h
 try simp only [Nat.reduceLeDiff] at l
 try simp only [*,go_sem,seval]
 refine ⟨_,[],[289],(Option.some.inj h).symm,by decide,?_⟩
 try simp only [*,go_sem,seval]
 refine Ze h (fun _ h=>?_) fun _ h=>?_<;>try simp only [*,go_sem,seval]
 obtain ⟨m,h⟩:=Zx h
 try simp only [Nat.reduceLeDiff] at m
 try simp only [*,go_sem,seval]
 refine ⟨_,[],[289],(Option.some.inj h).symm,by decide,?_⟩
 try simp only [*,go_sem,seval]
 refine ⟨_,[],[0],(Option.some.inj h).symm,by decide,?_⟩
 try simp only [*,go_sem,seval]
 rintro a ⟨sl,ob,n⟩ e D h
 simp only [go_sem,seval,Zd] at e
 obtain ⟨⟨E,F,G,H⟩,I,hn⟩:=e
 subst hn
 have J:=ZC (r_0.cond.length)
 try simp only [*,go_sem,seval]
 obtain ⟨K,o,h⟩:=Za h
 refine Zb (X5 o) ?_
 cases h
 try simp only [*,go_sem,seval]
theorem ZjE {a_0:Zh} {b_1:Zh} {r:Bool} (h:Zbb a_0 b_1=some r):Zn Tryz.prog J0 140 [(true,Yn a_0),(true,Yn b_1)] [(false,[(false,.bool r)])]:=by
 refine fnk Tryz.func140 (by kernel_rfl) rfl (by kernel_rfl) (by kernel_rfl) ?_
 unfold Zbb at h
 simp only [fnS,f140,Zo,go_sem,seval]
 refine Ze h (fun _ h=>?_) fun _ h=>?_<;>try simp only [*,go_sem,seval]
 obtain ⟨c,a,h⟩:=Za h
 refine Zb (ZgG a) ?_
 try simp only [*,go_sem,seval]
 refine Ze h (fun _ h=>?_) fun _ h=>?_<;>try simp only [*,go_sem,seval]
 obtain ⟨d,b,h⟩:=Za h
 refine Zb (ZgG b) ?_
 iterate 3 (cases h;try simp only [*,go_sem,seval])
end Go.Proofs.YtojnhepgnbhaaaaGreatDoor
namespace Go.Proofs.YtojnhepgnbhaaaaGreatDoor
open Go.Proofs.Tryz
set_option linter.unusedSimpArgs false
set_option linter.unusedVariables false
set_option maxRecDepth 1000000
set_option maxHeartbeats 4000000
theorem Zd2 {l_0:(List Zc)} {f_1:Zc} {r:Int} (h:Zau l_0 f_1=some r):Zn Tryz.prog J0 66 [(false,[.sl 57 2 (List.map Zq l_0)]),(true,Zq f_1)] [(false,[(false,.int .i64 r)])]:=by
 refine fnk Tryz.func66 (by kernel_rfl) rfl (by kernel_rfl) (by kernel_rfl) ?_
 unfold Zau at h
 simp only [fnS,f66,Zo,go_sem,seval]
 refine Zg h (fun i _ st=>IV [(0,.p false [.c (.sl 57 2 (List.map Zq l_0))]),(3,.bp 0 0),(5,.p false [.c (.int .i64 ((i:Nat):Int))])] [.box 57 [.c (.str f_1.rel),.c (.sl 9 1 (List.map Zu f_1.args))]] st) [] [0] (by decide) ?_ ?_ ?_
 simp only [*,go_sem,seval]
 rintro m o ⟨⟩ ⟨sl,ob,n⟩ q a b e h f
 simp only [go_sem,seval,Zd] at b
 obtain ⟨⟨g,t,u⟩,v,hn⟩:=b
 subst hn
 have k:=WF.slotL e g (j:=0) rfl
 have w:=ZF a
 have x:=ZJ a
 have y:=Zi (ZE a) k
 try simp only [*,go_sem,seval]
 obtain ⟨z,l,h⟩:=Za h
 refine Zb (Zo0 l) ?_
 try simp only [*,go_sem,seval]
 refine Ze h (fun _ h=>?_) fun _ h=>?_<;>try simp only [*,go_sem,seval]
 replace h:=Zs h f
 cases h
 try simp only [*,go_sem,seval]
 refine ⟨_,[],[0],(Option.some.inj h).symm,by decide,?_⟩
 try simp only [*,go_sem,seval]
 rintro ⟨⟩ ⟨sl,ob,n⟩ d A h
 simp only [go_sem,seval,Zd] at d
 obtain ⟨⟨B,C,D⟩,E,hn⟩:=d
 subst hn
 have F:=ZC (l_0.length)
 cases h
 try simp only [*,go_sem,seval]
theorem QE {s_0:ByteArray} {r:Bool} (h:Zap s_0=some r):Zn Tryz.prog J0 148 [(false,[.str s_0])] [(false,[(false,.bool r)])]:=by
 refine fnk Tryz.func148 (by kernel_rfl) rfl (by kernel_rfl) (by kernel_rfl) ?_
 unfold Zap at h
 simp only [fnS,f148,Zo,go_sem,seval]
 refine Ze h (fun _ h=>?_) fun _ h=>?_<;>try simp only [*,go_sem,seval]
 obtain ⟨c,d,a,h⟩:=Zqp h
 try simp only [seval] at a
 try simp only [*,go_sem,seval]
 refine Ze h (fun _ h=>?_) fun _ h=>?_<;>try simp only [*,go_sem,seval]
 obtain ⟨e,h⟩:=Zx h
 try simp only [*,go_sem,seval]
 obtain ⟨f,b,h⟩:=Za h
 refine Zb (Qc b) ?_
 iterate 3 (cases h;try simp only [*,go_sem,seval])
theorem Zfs {s_0:ByteArray} {r:Bool} (h:Zc4 s_0=some r):Zn Tryz.prog J0 102 [(false,[.str s_0])] [(false,[(false,.bool r)])]:=by
 refine fnk Tryz.func102 (by kernel_rfl) rfl (by kernel_rfl) (by kernel_rfl) ?_
 unfold Zc4 at h
 simp only [fnS,f102,Zo,go_sem,seval]
 obtain ⟨d,a,h⟩:=Za h
 refine Zb (Qc a) ?_
 try simp only [*,go_sem,seval]
 refine Ze h (fun _ h=>?_) fun _ h=>?_<;>try simp only [*,go_sem,seval]
 obtain ⟨e,f,b,h⟩:=Zqp h
 try simp only [seval] at b
 try simp only [*,go_sem,seval]
 obtain ⟨g,c,h⟩:=Za h
 refine Zb (ZaS c) ?_
 iterate 2 (cases h;try simp only [*,go_sem,seval])
theorem Zd1 {l_0:(List Zc)} {r:(List Zc)} (h:Zax l_0=some r):Zn Tryz.prog J0 125 [(false,[.sl 57 2 (List.map Zq l_0)])] [(false,[(false,.sl 57 2 (List.map Zq r))])]:=by
 refine fnk Tryz.func125 (by kernel_rfl) rfl (by kernel_rfl) (by kernel_rfl) ?_
 unfold Zax at h
 simp only [fnS,f125,Zo,go_sem,seval]
 refine Zg h (fun i a st=>IV [(0,.p false [.c (.sl 57 2 (List.map Zq l_0))]),(3,.p false [.row 0]),(4,.p false [.c (.int .i64 ((i:Nat):Int))])] [.row 57 2 (List.map Zq a) 2] st) [] [16] (by decide) ?_ ?_ ?_
 simp only [*,go_sem,seval]
 rintro o q a ⟨sl,ob,n⟩ t b d f h u
 simp only [go_sem,seval,Zd] at d
 obtain ⟨⟨g,v,w⟩,x,hn⟩:=d
 subst hn
 have k:=WF.slotL f g (j:=0) rfl
 have y:=ZF b
 have z:=ZJ b
 have A:=Zi (ZE b) k
 try simp only [*,go_sem,seval]
 obtain ⟨B,l,h⟩:=Za h
 refine Zb (XF l) ?_
 obtain ⟨m,h⟩:=Zx h
 try simp only [Nat.reduceLeDiff] at m
 try simp only [*,go_sem,seval]
 refine ⟨_,[],[177],(Option.some.inj h).symm,by decide,?_⟩
 try simp only [*,go_sem,seval]
 rintro a ⟨sl,ob,n⟩ e C h
 simp only [go_sem,seval,Zd] at e
 obtain ⟨⟨D,E,F⟩,G,hn⟩:=e
 subst hn
 have H:=ZC (l_0.length)
 cases h
 try simp only [*,go_sem,seval]
theorem Zdv {a_0:ByteArray} {b_1:ByteArray} {r:Int} (h:Xo a_0 b_1=some r):Zn Tryz.prog J0 201 [(false,[.str a_0]),(false,[.str b_1])] [(false,[(false,.int .i64 r)])]:=by
 refine fnk Tryz.func201 (by kernel_rfl) rfl (by kernel_rfl) (by kernel_rfl) ?_
 unfold Xo at h
 simp only [fnS,f201,Zo,go_sem,seval]
 obtain ⟨d,a,h⟩:=Za h
 refine Zb (Zd0 a) ?_
 try simp only [*,go_sem,seval]
 obtain ⟨e,b,h⟩:=Za h
 refine Zb (Zd0 b) ?_
 try simp only [*,go_sem,seval]
 iterate 3 refine Ze h (fun _ h=>?_) fun _ h=>?_<;>try simp only [*,go_sem,seval]
 cases h
 try simp only [*,go_sem,seval]
 refine Ze h (fun _ h=>?_) fun _ h=>?_<;>try simp only [*,go_sem,seval]
 iterate 3 (cases h;try simp only [*,go_sem,seval])
 refine Ze h (fun _ h=>?_) fun _ h=>?_<;>try simp only [*,go_sem,seval]
 cases h
 try simp only [*,go_sem,seval]
 obtain ⟨f,c,h⟩:=Za h
 refine Zb (ZjZ c) ?_
 cases h
 try simp only [*,go_sem,seval]
theorem ZgP {s_0:ByteArray} {r:Bool} (h:ZcD s_0=some r):Zn Tryz.prog J0 232 [(false,[.str s_0])] [(false,[(false,.bool r)])]:=by
 refine fnk Tryz.func232 (by kernel_rfl) rfl (by kernel_rfl) (by kernel_rfl) ?_
 unfold ZcD at h
 simp only [fnS,f232,Zo,go_sem,seval]
 obtain ⟨b,a,h⟩:=Za h
 refine Zb (Zd0 a) ?_
 cases h
 try simp only [*,go_sem,seval]
theorem Zjw {append_0:(List Zf)} {String_1:ByteArray} {a_2:ByteArray} {r:Bool} (h:Za0 append_0 String_1 a_2=some r):Zn Tryz.prog J0 170 [(false,[.sl 82 4 (List.map ZB append_0)]),(false,[.str String_1]),(false,[.str a_2])] [(false,[(false,.bool r)])]:=by
 refine fnk Tryz.func170 (by kernel_rfl) rfl (by kernel_rfl) (by kernel_rfl) ?_
 unfold Za0 at h
 simp only [fnS,f170,Zo,go_sem,seval]
 refine Zeh h (fun s st=>match s with | (row_55,u_56)=>IV [(0,.p false [.c (.sl 82 4 (List.map ZB append_0))]),(2,.p false [.c (.str a_2)]),(7,.p false [.row 0]),(8,.p false [.c (.int .i64 u_56)])] [.row 9 1 (List.map Zu row_55) 2] st) [] [32] (by decide) ?_ ?_
 ·simp only [*,go_sem,seval]
 ·rintro ⟨row_55,u_56⟩ ⟨sl,ob,n⟩ y1 hI2 hW3 h hy1
  simp only [go_sem,seval,Zd] at hI2
  obtain ⟨⟨g4_0,g4_2,g4_7,g4_8⟩,og4_0,hn⟩:=hI2
  subst hn
  try simp only [*,go_sem,seval]
  refine Ze h (fun _ h=>?_) fun _ h=>?_<;>try simp only [*,go_sem,seval]
  ·refine Zg h (fun i row_74 st=>IV [(0,.p false [.c (.sl 82 4 (List.map ZB append_0))]),(2,.p false [.c (.str a_2)]),(7,.p false [.row 0]),(8,.p false [.c (.int .i64 u_56)]),(9,.p false [.c (.int .i64 ((i:Nat):Int))])] [.row 9 1 (List.map Zu row_74) 2] st) [] [0] (by decide) ?_ ?_ ?_
   ·simp only [*,go_sem,seval]
   ·rintro i93 x94 row_74 ⟨sl,ob,n⟩ y6 hx7 hI8 hW9 h hy6
    simp only [go_sem,seval,Zd] at hI8
    obtain ⟨⟨g10_0,g10_2,g10_7,g10_8,g10_9⟩,og10_0,hn⟩:=hI8
    subst hn
    have hlhx7:=WF.slotL hW9 g10_0 (j:=0) rfl
    have q11:=ZF hx7
    have q12:=ZJ hx7
    have q13:=Zi (ZE hx7) hlhx7
    try simp only [*,go_sem,seval]
    obtain ⟨v95,e14,h⟩:=Za h
    refine Zb (by have hh:=ZgD e14;first|exact hh|(simp only [*,go_sem] at hh;exact hh)) ?_
    obtain ⟨p15,h⟩:=Zx h
    obtain ⟨x96,e16,h⟩:=Za h
    try simp only [*,go_sem,seval]
    obtain ⟨v97,e17,h⟩:=Za h
    refine Zb (by have hh:=YG e17;first|exact hh|(simp only [*,go_sem] at hh;exact hh)) ?_
    try simp only [*,go_sem,seval]
    refine Ze h (fun _ h=>?_) fun _ h=>?_<;>try simp only [*,go_sem,seval]
    ·obtain ⟨v98,e19,h⟩:=Za h
     refine Zb (by have hh:=Zny e19;first|exact hh|(simp only [*,go_sem] at hh;exact hh)) ?_
     try simp only [*,go_sem,seval]
     obtain ⟨v99,e20,h⟩:=Za h
     refine Zb (by have hh:=YG e20;first|exact hh|(simp only [*,go_sem] at hh;exact hh)) ?_
     try simp only [*,go_sem,seval]
     refine Ze h (fun _ h=>?_) fun _ h=>?_<;>try simp only [*,go_sem,seval]
     ·replace h:=Zs h hy6
      replace h:=Zs h hy1
      cases h
      try simp only [*,go_sem,seval]
     ·refine Zg h (fun i row_105 st=>IV [(0,.p false [.c (.sl 82 4 (List.map ZB append_0))]),(2,.p false [.c (.str a_2)]),(7,.p false [.row 0]),(8,.p false [.c (.int .i64 u_56)]),(9,.p false [.c (.int .i64 ((i93:Nat):Int))]),(10,.p false [.row 1]),(11,.p false [.c (.int .i64 ((i:Nat):Int))])] [.row 9 1 (List.map Zu row_105) 2,.row 9 1 (List.map Zu v98) 2] st) [] [0,305] (by decide) ?_ ?_ ?_
      ·simp only [*,go_sem,seval]
      ·rintro i108 x109 row_105 ⟨sl,ob,n⟩ y22 hx23 hI24 hW25 h hy22
       simp only [go_sem,seval,Zd] at hI24
       obtain ⟨⟨g26_0,g26_2,g26_7,g26_8,g26_9,g26_10,g26_11⟩,og26_0,og26_1,hn⟩:=hI24
       subst hn
       have hlhx23:=WF.rowL hW25 og26_1
       have q27:=ZF hx23
       have q28:=ZJ hx23
       have q29:=Zi (ZE hx23) hlhx23
       try simp only [*,go_sem,seval]
       obtain ⟨v110,e30,h⟩:=Za h
       refine Zb (by have hh:=YG e30;first|exact hh|(simp only [*,go_sem] at hh;exact hh)) ?_
       try simp only [*,go_sem,seval]
       refine Ze h (fun _ h=>?_) fun _ h=>?_<;>try simp only [*,go_sem,seval]
       ·refine ⟨_,[],[0,1],(Option.some.inj h).symm,by decide,?_⟩
        try simp only [*,go_sem,seval]
       ·obtain ⟨p32,h⟩:=Zx h
        try simp only [Nat.reduceLeDiff] at p32
        try simp only [*,go_sem,seval]
        refine ⟨_,[],[274,1],(Option.some.inj h).symm,by decide,?_⟩
        try simp only [*,go_sem,seval]
      ·rintro row_105 ⟨sl,ob,n⟩ hI33 hW34 h
       simp only [go_sem,seval,Zd] at hI33
       obtain ⟨⟨g35_0,g35_2,g35_7,g35_8,g35_9,g35_10,g35_11⟩,og35_0,og35_1,hn⟩:=hI33
       subst hn
       have q36:=ZC (v98.length)
       try simp only [*,go_sem,seval]
       refine ⟨_,[],[0],(Option.some.inj h).symm,by decide,?_⟩
       try simp only [*,go_sem,seval]
    ·refine ⟨_,[],[0],(Option.some.inj h).symm,by decide,?_⟩
     try simp only [*,go_sem,seval]
   ·rintro row_74 ⟨sl,ob,n⟩ hI37 hW38 h
    simp only [go_sem,seval,Zd] at hI37
    obtain ⟨⟨g39_0,g39_2,g39_7,g39_8,g39_9⟩,og39_0,hn⟩:=hI37
    subst hn
    have q40:=ZC (append_0.length)
    try simp only [*,go_sem,seval]
    refine ⟨_,[],[0],(Option.some.inj h).symm,by decide,?_⟩
    try simp only [*,go_sem,seval]
  ·replace h:=Zs h hy1
   cases h
   try simp only [*,go_sem,seval]
theorem ZbR {l_0:(List Zc)} {f_1:Zc} {r:Int} (h:Yh l_0 f_1=some r):Zn Tryz.prog J0 68 [(false,[.sl 57 2 (List.map Zq l_0)]),(true,Zq f_1)] [(false,[(false,.int .i64 r)])]:=by
 refine fnk Tryz.func68 (by kernel_rfl) rfl (by kernel_rfl) (by kernel_rfl) ?_
 unfold Yh at h
 simp only [fnS,f68,Zo,go_sem,seval]
 refine Zg h (fun i _ st=>IV [(3,.bp 0 0),(7,.p false [.c (.sl 57 2 (List.map Zq l_0))]),(8,.p false [.c (.int .i64 ((l_0.length:Nat):Int))]),(9,.p false [.c (.int .i64 ((i:Nat):Int))])] [.box 57 [.c (.str f_1.rel),.c (.sl 9 1 (List.map Zu f_1.args))]] st) [] [0] (by decide) ?_ ?_ ?_
 simp only [*,go_sem,seval]
 rintro m o ⟨⟩ ⟨sl,ob,n⟩ q a b e h f
 simp only [go_sem,seval,Zd] at b
 obtain ⟨⟨t,g,u,v⟩,w,hn⟩:=b
 subst hn
 have k:=WF.slotL e g (j:=0) rfl
 have x:=ZF a
 have y:=ZJ a
 have z:=Zi (ZE a) k
 try simp only [*,go_sem,seval]
 obtain ⟨A,l,h⟩:=Za h
 refine Zb (ZlP l) ?_
 try simp only [*,go_sem,seval]
 refine Ze h (fun _ h=>?_) fun _ h=>?_<;>try simp only [*,go_sem,seval]
 replace h:=Zs h f
 cases h
 try simp only [*,go_sem,seval]
 refine ⟨_,[],[0],(Option.some.inj h).symm,by decide,?_⟩
 try simp only [*,go_sem,seval]
 rintro ⟨⟩ ⟨sl,ob,n⟩ d B h
 simp only [go_sem,seval,Zd] at d
 obtain ⟨⟨C,D,E,F⟩,G,hn⟩:=d
 subst hn
 have H:=ZC (l_0.length)
 cases h
 try simp only [*,go_sem,seval]
theorem QP {s_0:ByteArray} {r:Bool} (h:QU s_0=some r):Zn Tryz.prog J0 105 [(false,[.str s_0])] [(false,[(false,.bool r)])]:=by
 refine fnk Tryz.func105 (by kernel_rfl) rfl (by kernel_rfl) (by kernel_rfl) ?_
 unfold QU at h
 simp only [fnS,f105,Zo,go_sem,seval]
 obtain ⟨c,a,h⟩:=Za h
 refine Zb (Qg a) ?_
 try simp only [*,go_sem,seval]
 refine Ze h (fun _ h=>?_) fun _ h=>?_<;>try simp only [*,go_sem,seval]
 cases h
 try simp only [*,go_sem,seval]
 obtain ⟨d,b,h⟩:=Za h
 refine Zb (ZcP b) ?_
 cases h
 try simp only [*,go_sem,seval]
theorem QF {b_0:(List Zl)} {r:Bool} (h:XL b_0=some r):Zn Tryz.prog J0 137 [(false,[.sl 192 2 (List.map Z6 b_0)])] [(false,[(false,.bool r)])]:=by
 refine fnk Tryz.func137 (by kernel_rfl) rfl (by kernel_rfl) (by kernel_rfl) ?_
 unfold XL at h
 simp only [fnS,f137,Zo,go_sem,seval]
 refine Ze h (fun _ h=>?_) fun _ h=>?_<;>try simp only [*,go_sem,seval]
 cases h
 try simp only [*,go_sem,seval]
 refine Zg h (fun i _ st=>IV [(0,.p false [.c (.sl 192 2 (List.map Z6 b_0))]),(8,.p false [.c (.sl 192 2 (List.map Z6 b_0))]),(9,.p false [.c (.int .i64 ((b_0.length:Nat):Int))]),(10,.p false [.c (.int .i64 ((i:Nat):Int))])] [] st) [] [] (by decide) ?_ ?_ ?_
 simp only [*,go_sem,seval]
 rintro o q ⟨⟩ ⟨sl,ob,n⟩ t a b f h d
 simp only [go_sem,seval,Zd] at b
 obtain ⟨⟨g,u,v,w⟩,hn⟩:=b
 subst hn
 have k:=WF.slotL f g (j:=0) rfl
 have x:=ZF a
 have y:=ZJ a
 have z:=Zi (ZE a) k
 try simp only [*,go_sem,seval]
 obtain ⟨A,l,h⟩:=Za h
 refine Zb (ZcP l) ?_
 try simp only [*,go_sem,seval]
 refine Ze h (fun _ h=>?_) fun _ h=>?_<;>try simp only [*,go_sem,seval]
 obtain ⟨B,m,h⟩:=Za h
 refine Zb (Qg m) ?_
 try simp only [*,go_sem,seval]
 iterate 2 refine Ze h (fun _ h=>?_) fun _ h=>?_<;>try simp only [*,go_sem,seval]
 obtain ⟨C,D,E,F,h⟩:=Zgn h
 try simp only [*,go_sem,seval]
 refine Ze h (fun _ h=>?_) fun _ h=>?_<;>try simp only [*,go_sem,seval]
 refine ⟨_,[],[],(Option.some.inj h).symm,by decide,?_⟩
 try simp only [*,go_sem,seval]
 replace h:=Zs h d
 cases h
 try simp only [*,go_sem,seval]
 refine ⟨_,[],[],(Option.some.inj h).symm,by decide,?_⟩
 iterate 2 ((try simp only [*,go_sem,seval]);replace h:=Zs h d;cases h)
 try simp only [*,go_sem,seval]
 rintro ⟨⟩ ⟨sl,ob,n⟩ e G h
 simp only [go_sem,seval,Zd] at e
 obtain ⟨⟨H,I,J,K⟩,hn⟩:=e
 subst hn
 have L:=ZC (b_0.length)
 cases h
 try simp only [*,go_sem,seval]
theorem Zjc {f_0:Zc} {r:Bool} (h:Zen f_0=some r):Zn Tryz.prog J0 155 [(true,Zq f_0)] [(false,[(false,.bool r)])]:=by
 refine fnk Tryz.func155 (by kernel_rfl) rfl (by kernel_rfl) (by kernel_rfl) ?_
 unfold Zen at h
 simp only [fnS,f155,Zo,go_sem,seval]
 obtain ⟨o,e,h⟩:=Za h
 refine Zb (ZfF e) ?_
 try simp only [*,go_sem,seval]
 iterate 2 refine Ze h (fun _ h=>?_) fun _ h=>?_<;>try simp only [*,go_sem,seval]
 cases h
 try simp only [*,go_sem,seval]
 refine Zg h (fun i _ st=>IV [(16,.p false [.c (.sl 9 1 (List.map Zu f_0.args))]),(17,.p false [.c (.int .i64 ((f_0.args.length:Nat):Int))]),(18,.p false [.c (.int .i64 ((i:Nat):Int))])] [] st) [] [] (by decide) ?_ ?_ ?_
 simp only [*,go_sem,seval]
 rintro q t ⟨⟩ ⟨sl,ob,n⟩ u a b f h g
 simp only [go_sem,seval,Zd] at b
 obtain ⟨⟨k,v,w⟩,hn⟩:=b
 subst hn
 have l:=WF.slotL f k (j:=0) rfl
 have x:=ZF a
 have y:=ZJ a
 have z:=Zi (ZE a) l
 try simp only [*,go_sem,seval]
 obtain ⟨A,m,h⟩:=Za h
 refine Zb (Qg m) ?_
 try simp only [*,go_sem,seval]
 refine Ze h (fun _ h=>?_) fun _ h=>?_<;>try simp only [*,go_sem,seval]
 refine ⟨_,[],[],(Option.some.inj h).symm,by decide,?_⟩
 try simp only [*,go_sem,seval]
 replace h:=Zs h g
 cases h
 try simp only [*,go_sem,seval]
 rintro ⟨⟩ ⟨sl,ob,n⟩ d B h
 simp only [go_sem,seval,Zd] at d
 obtain ⟨⟨C,D,E⟩,hn⟩:=d
 subst hn
 have F:=ZC (f_0.args.length)
 iterate 2 (cases h;try simp only [*,go_sem,seval])
theorem Zcp {b_0:(List Zl)} {term_1:ByteArray} {r:(ByteArray × Bool)} (h:ZaL b_0 term_1=some r):Zn Tryz.prog J0 138 [(false,[.sl 192 2 (List.map Z6 b_0)]),(false,[.str term_1])] [(false,[(false,.str r.1)]),(false,[(false,.bool r.2)])]:=by
 refine fnk Tryz.func138 (by kernel_rfl) rfl (by kernel_rfl) (by kernel_rfl) ?_
 unfold ZaL at h
 have e:Zcf ⟨#[]⟩=true:=by decide
 simp only [fnS,f138,Zo,go_sem,seval,e]
 obtain ⟨q,f,h⟩:=Za h
 refine Zb (Qg f) ?_
 try simp only [*,go_sem,seval]
 refine Ze h (fun _ h=>?_) fun _ h=>?_<;>try simp only [*,go_sem,seval]
 cases h
 try simp only [*,go_sem,seval]
 obtain ⟨t,g,h⟩:=Za h
 refine Zb (ZcP g) ?_
 try simp only [*,go_sem,seval]
 refine Ze h (fun _ h=>?_) fun _ h=>?_<;>try simp only [*,go_sem,seval]
 refine Zg h (fun i _ st=>IV [(1,.p false [.c (.str term_1)]),(14,.p false [.c (.sl 192 2 (List.map Z6 b_0))]),(15,.p false [.c (.int .i64 ((b_0.length:Nat):Int))]),(16,.p false [.c (.int .i64 ((i:Nat):Int))])] [] st) [] [] (by decide) ?_ ?_ ?_
 simp only [*,go_sem,seval]
 rintro u v ⟨⟩ ⟨sl,ob,n⟩ w a b k h l
 simp only [go_sem,seval,Zd] at b
 obtain ⟨⟨x,m,y,z⟩,hn⟩:=b
 subst hn
 have o:=WF.slotL k m (j:=0) rfl
 have A:=ZF a
 have B:=ZJ a
 have C:=Zi (ZE a) o
 try simp only [*,go_sem,seval]
 refine Ze h (fun _ h=>?_) fun _ h=>?_<;>try simp only [*,go_sem,seval]
 replace h:=Zs h l
 cases h
 try simp only [*,go_sem,seval]
 refine ⟨_,[],[],(Option.some.inj h).symm,by decide,?_⟩
 try simp only [*,go_sem,seval]
 rintro ⟨⟩ ⟨sl,ob,n⟩ d D h
 simp only [go_sem,seval,Zd] at d
 obtain ⟨⟨E,F,G,H⟩,hn⟩:=d
 subst hn
 have I:=ZC (b_0.length)
 iterate 2 (cases h;try simp only [*,go_sem,seval])
theorem ZfB {l_0:(List Zc)} {r:(List Zc)} (h:ZaF l_0=some r):Zn Tryz.prog J0 134 [(false,[.sl 57 2 (List.map Zq l_0)])] [(false,[(false,.sl 57 2 (List.map Zq r))])]:=by
 refine fnk Tryz.func134 (by kernel_rfl) rfl (by kernel_rfl) (by kernel_rfl) ?_
 unfold ZaF at h
 simp only [fnS,f134,Zo,go_sem,seval]
 refine Zg h (fun i a st=>IV [(3,.p false [.row 0]),(6,.p false [.c (.sl 57 2 (List.map Zq l_0))]),(7,.p false [.c (.int .i64 ((l_0.length:Nat):Int))]),(8,.p false [.c (.int .i64 ((i:Nat):Int))])] [.row 57 2 (List.map Zq a) 2] st) [(false,3,0)] [80] (by decide) ?_ ?_ ?_
 simp only [*,go_sem,seval]
 rintro o q a ⟨sl,ob,n⟩ t b d f h u
 simp only [go_sem,seval,Zd] at d
 obtain ⟨⟨v,g,w,x⟩,y,hn⟩:=d
 subst hn
 have k:=WF.slotL f g (j:=0) rfl
 have z:=ZF b
 have A:=ZJ b
 have B:=Zi (ZE b) k
 try simp only [*,go_sem,seval]
 obtain ⟨C,l,h⟩:=Za h
 refine Zb (Xf l) ?_
 obtain ⟨m,h⟩:=Zx h
 try simp only [Nat.reduceLeDiff] at m
 try simp only [*,go_sem,seval]
 refine ⟨_,[],[145],(Option.some.inj h).symm,by decide,?_⟩
 try simp only [*,go_sem,seval]
 rintro a ⟨sl,ob,n⟩ e D h
 simp only [go_sem,seval,Zd] at e
 obtain ⟨⟨E,F,G,H⟩,I,hn⟩:=e
 subst hn
 have J:=ZC (l_0.length)
 cases h
 try simp only [*,go_sem,seval]
theorem Zc2 {l_0:(List ByteArray)} {r:(List ByteArray)} (h:QJ l_0=some r):Zn Tryz.prog J0 229 [(false,[.sl 9 1 (List.map Zu l_0)])] [(false,[(false,.sl 9 1 (List.map Zu r))])]:=by
 refine fnk Tryz.func229 (by kernel_rfl) rfl (by kernel_rfl) (by kernel_rfl) ?_
 unfold QJ at h
 simp only [fnS,f229,Zo,go_sem,seval]
 refine Zg h (fun i a st=>IV [(3,.p false [.row 0]),(6,.p false [.c (.sl 9 1 (List.map Zu l_0))]),(7,.p false [.c (.int .i64 ((l_0.length:Nat):Int))]),(8,.p false [.c (.int .i64 ((i:Nat):Int))])] [.row 9 1 (List.map Zu a) 2] st) [(false,3,0)] [80] (by decide) ?_ ?_ ?_
 simp only [*,go_sem,seval]
 rintro o q a ⟨sl,ob,n⟩ t b d f h u
 simp only [go_sem,seval,Zd] at d
 obtain ⟨⟨v,g,w,x⟩,y,hn⟩:=d
 subst hn
 have k:=WF.slotL f g (j:=0) rfl
 have z:=ZF b
 have A:=ZJ b
 have B:=Zi (ZE b) k
 try simp only [*,go_sem,seval]
 obtain ⟨C,l,h⟩:=Za h
 refine Zb (ZcP l) ?_
 try simp only [*,go_sem,seval]
 refine Ze h (fun _ h=>?_) fun _ h=>?_<;>try simp only [*,go_sem,seval]
 obtain ⟨m,h⟩:=Zx h
 try simp only [Nat.reduceLeDiff] at m
 try simp only [*,go_sem,seval]
 refine ⟨_,[],[145],(Option.some.inj h).symm,by decide,?_⟩
 try simp only [*,go_sem,seval]
 refine ⟨_,[],[0],(Option.some.inj h).symm,by decide,?_⟩
 try simp only [*,go_sem,seval]
 rintro a ⟨sl,ob,n⟩ e D h
 simp only [go_sem,seval,Zd] at e
 obtain ⟨⟨E,F,G,H⟩,I,hn⟩:=e
 subst hn
 have J:=ZC (l_0.length)
 cases h
 try simp only [*,go_sem,seval]
theorem Zl4 {rules_0:(List Zf)} {a_1:ByteArray} {r:(List (ByteArray × Bool))} (h:ZcM rules_0 a_1=some r):ZnF Tryz.prog J0 178 [(false,[.sl 82 4 (List.map ZB rules_0)]),(false,[.str a_1])] (.map .str .bool (List.map eSB r)):=by
 refine fnb Tryz.func178 (by kernel_rfl) rfl (by kernel_rfl) (by kernel_rfl) ?_
 unfold ZcM at h
 simp only [fnB,f178,Zo,go_sem,seval]
 refine Zeh h (fun s st=>match s with | (mp_42,row_43)=>IV [(0,.p false [.c (.sl 82 4 (List.map ZB rules_0))]),(5,.p false [.row 0]),(6,.p false [.row 1])] [.map .str .bool (List.map eSB mp_42),.row 9 1 (List.map Zu row_43) 2] st) [] [16,64] (by decide) ?_ ?_
 ·simp only [*,go_sem,seval]
 ·rintro ⟨mp_42,row_43⟩ ⟨sl,ob,n⟩ y1 hI2 hW3 h hy1
  simp only [go_sem,seval,Zd] at hI2
  obtain ⟨⟨g4_0,g4_5,g4_6⟩,og4_0,og4_1,hn⟩:=hI2
  subst hn
  try simp only [*,go_sem,seval]
  refine Ze h (fun _ h=>?_) fun _ h=>?_<;>try simp only [*,go_sem,seval]
  ·obtain ⟨p6,h⟩:=Zx h
   obtain ⟨x44,e7,h⟩:=Za h
   try simp only [seval] at e7
   obtain ⟨p8,h⟩:=Zx h
   try simp only [*,go_sem,seval]
   refine Zg h (fun i s st=>match s with | (mp_57,row_58)=>IV [(0,.p false [.c (.sl 82 4 (List.map ZB rules_0))]),(5,.p false [.row 0]),(6,.p false [.row 1]),(7,.p false [.c (.str x44)]),(23,.p false [.c (.sl 82 4 (List.map ZB rules_0))]),(24,.p false [.c (.int .i64 ((rules_0.length:Nat):Int))]),(25,.p false [.c (.int .i64 ((i:Nat):Int))])] [.map .str .bool (List.map eSB mp_57),.row 9 1 (List.map Zu row_58) 2] st) [] [0,130] (by decide) ?_ ?_ ?_
   ·simp only [*,go_sem,seval]
   ·rintro i72 x73 ⟨mp_57,row_58⟩ ⟨sl,ob,n⟩ y9 hx10 hI11 hW12 h hy9
    simp only [go_sem,seval,Zd] at hI11
    obtain ⟨⟨g13_0,g13_5,g13_6,g13_7,g13_23,g13_24,g13_25⟩,og13_0,og13_1,hn⟩:=hI11
    subst hn
    have hlhx10:=WF.slotL hW12 g13_0 (j:=0) rfl
    have q14:=ZF hx10
    have q15:=ZJ hx10
    have q16:=Zi (ZE hx10) hlhx10
    try simp only [*,go_sem,seval]
    obtain ⟨v74,e17,h⟩:=Za h
    refine Zb (by have hh:=ZgR e17;first|exact hh|(simp only [*,go_sem] at hh;exact hh)) ?_
    try simp only [*,go_sem,seval]
    obtain ⟨v75,e18,h⟩:=Za h
    refine Zb (by have hh:=Q5 e18;first|exact hh|(simp only [*,go_sem] at hh;exact hh)) ?_
    try simp only [*,go_sem,seval]
    refine Ze h (fun _ h=>?_) fun _ h=>?_<;>try simp only [*,go_sem,seval]
    ·obtain ⟨v76,e20,h⟩:=Za h
     refine Zb (by have hh:=Znk e20;first|exact hh|(simp only [*,go_sem] at hh;exact hh)) ?_
     try simp only [*,go_sem,seval]
     refine Zg h (fun i s st=>match s with | (mp_80,row_81)=>IV [(0,.p false [.c (.sl 82 4 (List.map ZB rules_0))]),(5,.p false [.row 0]),(6,.p false [.row 1]),(7,.p false [.c (.str x44)]),(23,.p false [.c (.sl 82 4 (List.map ZB rules_0))]),(24,.p false [.c (.int .i64 ((rules_0.length:Nat):Int))]),(25,.p false [.c (.int .i64 ((i72:Nat):Int))]),(35,.p false [.row 2]),(36,.p false [.c (.int .i64 ((v76.length:Nat):Int))]),(37,.p false [.c (.int .i64 ((i:Nat):Int))])] [.map .str .bool (List.map eSB mp_80),.row 9 1 (List.map Zu row_81) 2,.row 9 1 (List.map Zu v76) 2] st) [] [0,1,178] (by decide) ?_ ?_ ?_
     ·simp only [*,go_sem,seval]
     ·rintro i83 x84 ⟨mp_80,row_81⟩ ⟨sl,ob,n⟩ y21 hx22 hI23 hW24 h hy21
      simp only [go_sem,seval,Zd] at hI23
      obtain ⟨⟨g25_0,g25_5,g25_6,g25_7,g25_23,g25_24,g25_25,g25_35,g25_36,g25_37⟩,og25_0,og25_1,og25_2,hn⟩:=hI23
      subst hn
      have hlhx22:=WF.rowL hW24 og25_2
      have q26:=ZF hx22
      have q27:=ZJ hx22
      have q28:=Zi (ZE hx22) hlhx22
      try simp only [*,go_sem,seval]
      refine Ze h (fun _ h=>?_) fun _ h=>?_<;>try simp only [*,go_sem,seval]
      ·refine ⟨_,[],[0,1,2],(Option.some.inj h).symm,by decide,?_⟩
       try simp only [*,go_sem,seval]
      ·obtain ⟨p30,h⟩:=Zx h
       try simp only [Nat.reduceLeDiff] at p30
       try simp only [*,go_sem,seval]
       refine ⟨_,[],[0,227,2],(Option.some.inj h).symm,by decide,?_⟩
       try simp only [*,go_sem,seval]
     ·rintro ⟨mp_80,row_81⟩ ⟨sl,ob,n⟩ hI31 hW32 h
      simp only [go_sem,seval,Zd] at hI31
      obtain ⟨⟨g33_0,g33_5,g33_6,g33_7,g33_23,g33_24,g33_25,g33_35,g33_36,g33_37⟩,og33_0,og33_1,og33_2,hn⟩:=hI31
      subst hn
      have q34:=ZC (v76.length)
      try simp only [*,go_sem,seval]
      refine ⟨_,[],[0,1],(Option.some.inj h).symm,by decide,?_⟩
      try simp only [*,go_sem,seval]
    ·refine ⟨_,[],[0,1],(Option.some.inj h).symm,by decide,?_⟩
     try simp only [*,go_sem,seval]
   ·rintro ⟨mp_57,row_58⟩ ⟨sl,ob,n⟩ hI35 hW36 h
    simp only [go_sem,seval,Zd] at hI35
    obtain ⟨⟨g37_0,g37_5,g37_6,g37_7,g37_23,g37_24,g37_25⟩,og37_0,og37_1,hn⟩:=hI35
    subst hn
    have q38:=ZC (rules_0.length)
    try simp only [*,go_sem,seval]
    refine ⟨_,[],[0,1],(Option.some.inj h).symm,by decide,?_⟩
    try simp only [*,go_sem,seval]
  ·replace h:=Zs h hy1
   cases h
   try simp only [*,go_sem,seval]
theorem ZhA {a_0:ByteArray} {b_1:ByteArray} {r:Int} (h:QI a_0 b_1=some r):Zn Tryz.prog J0 211 [(false,[.str a_0]),(false,[.str b_1])] [(false,[(false,.int .i64 r)])]:=by
 refine fnk Tryz.func211 (by kernel_rfl) rfl (by kernel_rfl) (by kernel_rfl) ?_
 unfold QI at h
 simp only [fnS,f211,Zo,go_sem,seval]
 obtain ⟨e,a,h⟩:=Za h
 refine Zb (ZbS a) ?_
 try simp only [*,go_sem,seval]
 obtain ⟨f,b,h⟩:=Za h
 refine Zb (ZbS b) ?_
 try simp only [*,go_sem,seval]
 iterate 2 refine Ze h (fun _ h=>?_) fun _ h=>?_<;>try simp only [*,go_sem,seval]
 obtain ⟨g,c,h⟩:=Za h
 refine Zb (ZbC c) ?_
 iterate 2 (cases h;try simp only [*,go_sem,seval])
 refine Ze h (fun _ h=>?_) fun _ h=>?_<;>try simp only [*,go_sem,seval]
 cases h
 try simp only [*,go_sem,seval]
 obtain ⟨i,d,h⟩:=Za h
 refine Zb (Zh6 d) ?_
 cases h
 try simp only [*,go_sem,seval]
theorem Zlp {l_0:(List Zh)} {r_1:Zh} {r:Bool} (h:ZaK l_0 r_1=some r):Zn Tryz.prog J0 91 [(false,[.sl 114 3 (List.map Yn l_0)]),(true,Yn r_1)] [(false,[(false,.bool r)])]:=by
 refine fnk Tryz.func91 (by kernel_rfl) rfl (by kernel_rfl) (by kernel_rfl) ?_
 unfold ZaK at h
 simp only [fnS,f91,Zo,go_sem,seval]
 refine Zg h (fun i _ st=>IV [(3,.bp 0 0),(7,.p false [.c (.sl 114 3 (List.map Yn l_0))]),(8,.p false [.c (.int .i64 ((l_0.length:Nat):Int))]),(9,.p false [.c (.int .i64 ((i:Nat):Int))])] [.box 114 [.c (.int .i64 r_1.for_),.c (.sl 3 1 (List.map Qv r_1.inn)),.c (.sl 3 1 (List.map Qv r_1.outs))]] st) [] [0] (by decide) ?_ ?_ ?_
 simp only [*,go_sem,seval]
 rintro m o ⟨⟩ ⟨sl,ob,n⟩ q a b e h f
 simp only [go_sem,seval,Zd] at b
 obtain ⟨⟨t,g,u,v⟩,w,hn⟩:=b
 subst hn
 have k:=WF.slotL e g (j:=0) rfl
 have x:=ZF a
 have y:=ZJ a
 have z:=Zi (ZE a) k
 try simp only [*,go_sem,seval]
 obtain ⟨A,l,h⟩:=Za h
 refine Zb (ZjE l) ?_
 try simp only [*,go_sem,seval]
 refine Ze h (fun _ h=>?_) fun _ h=>?_<;>try simp only [*,go_sem,seval]
 replace h:=Zs h f
 cases h
 try simp only [*,go_sem,seval]
 refine ⟨_,[],[0],(Option.some.inj h).symm,by decide,?_⟩
 try simp only [*,go_sem,seval]
 rintro ⟨⟩ ⟨sl,ob,n⟩ d B h
 simp only [go_sem,seval,Zd] at d
 obtain ⟨⟨C,D,E,F⟩,G,hn⟩:=d
 subst hn
 have H:=ZC (l_0.length)
 cases h
 try simp only [*,go_sem,seval]
end Go.Proofs.YtojnhepgnbhaaaaGreatDoor
namespace Go.Proofs.YtojnhepgnbhaaaaGreatDoor
open Go.Proofs.Tryz
set_option linter.unusedSimpArgs false
set_option linter.unusedVariables false
set_option maxRecDepth 1000000
set_option maxHeartbeats 4000000
theorem QB {s_0:ByteArray} {r:Bool} (h:QL s_0=some r):Zn Tryz.prog J0 101 [(false,[.str s_0])] [(false,[(false,.bool r)])]:=by
 refine fnk Tryz.func101 (by kernel_rfl) rfl (by kernel_rfl) (by kernel_rfl) ?_
 unfold QL at h
 simp only [fnS,f101,Zo,go_sem,seval]
 obtain ⟨c,a,h⟩:=Za h
 refine Zb (Qc a) ?_
 try simp only [*,go_sem,seval]
 refine Ze h (fun _ h=>?_) fun _ h=>?_<;>try simp only [*,go_sem,seval]
 cases h
 try simp only [*,go_sem,seval]
 obtain ⟨d,b,h⟩:=Za h
 refine Zb (QE b) ?_
 cases h
 try simp only [*,go_sem,seval]
theorem Zjl {f_0:Zc} {r:Bool} (h:Zey f_0=some r):Zn Tryz.prog J0 149 [(true,Zq f_0)] [(false,[(false,.bool r)])]:=by
 refine fnk Tryz.func149 (by kernel_rfl) rfl (by kernel_rfl) (by kernel_rfl) ?_
 unfold Zey at h
 simp only [fnS,f149,Zo,go_sem,seval]
 refine Zg h (fun i _ st=>IV [(1,.bp 0 0),(3,.p false [.c (.int .i64 ((i:Nat):Int))])] [.box 57 [.c (.str f_0.rel),.c (.sl 9 1 (List.map Zu f_0.args))]] st) [] [0] (by decide) ?_ ?_ ?_
 simp only [*,go_sem,seval]
 rintro o q ⟨⟩ ⟨sl,ob,n⟩ t a b e h f
 simp only [go_sem,seval,Zd] at b
 obtain ⟨⟨u,v⟩,g,hn⟩:=b
 subst hn
 have k:=WF.boxL e g (j:=1) rfl
 have w:=ZF a
 have x:=ZJ a
 have y:=Zi (ZE a) k
 try simp only [*,go_sem,seval]
 obtain ⟨z,l,h⟩:=Za h
 refine Zb (Qc l) ?_
 try simp only [*,go_sem,seval]
 refine Ze h (fun _ h=>?_) fun _ h=>?_<;>try simp only [*,go_sem,seval]
 refine ⟨_,[],[0],(Option.some.inj h).symm,by decide,?_⟩
 try simp only [*,go_sem,seval]
 replace h:=Zs h f
 cases h
 try simp only [*,go_sem,seval]
 rintro ⟨⟩ ⟨sl,ob,n⟩ d A h
 simp only [go_sem,seval,Zd] at d
 obtain ⟨⟨B,C⟩,D,hn⟩:=d
 subst hn
 have E:=ZC (f_0.args.length)
 try simp only [*,go_sem,seval]
 obtain ⟨F,m,h⟩:=Za h
 refine Zb (Zfs m) ?_
 try simp only [*,go_sem,seval]
 refine Ze h (fun _ h=>?_) fun _ h=>?_<;>try simp only [*,go_sem,seval]
 iterate 2 (cases h;try simp only [*,go_sem,seval])
theorem QM {b_0:(List Zl)} {r:Bool} (h:XI b_0=some r):Zn Tryz.prog J0 150 [(false,[.sl 192 2 (List.map Z6 b_0)])] [(false,[(false,.bool r)])]:=by
 refine fnk Tryz.func150 (by kernel_rfl) rfl (by kernel_rfl) (by kernel_rfl) ?_
 unfold XI at h
 simp only [fnS,f150,Zo,go_sem,seval]
 refine Zg h (fun i _ st=>IV [(0,.p false [.c (.sl 192 2 (List.map Z6 b_0))]),(3,.p false [.c (.int .i64 ((i:Nat):Int))])] [] st) [] [] (by decide) ?_ ?_ ?_
 simp only [*,go_sem,seval]
 rintro o q ⟨⟩ ⟨sl,ob,n⟩ t a b f h d
 simp only [go_sem,seval,Zd] at b
 obtain ⟨⟨g,u⟩,hn⟩:=b
 subst hn
 have k:=WF.slotL f g (j:=0) rfl
 have v:=ZF a
 have w:=ZJ a
 have x:=Zi (ZE a) k
 try simp only [*,go_sem,seval]
 obtain ⟨y,l,h⟩:=Za h
 refine Zb (QE l) ?_
 try simp only [*,go_sem,seval]
 refine Ze h (fun _ h=>?_) fun _ h=>?_<;>try simp only [*,go_sem,seval]
 obtain ⟨z,m,h⟩:=Za h
 refine Zb (Qc m) ?_
 try simp only [*,go_sem,seval]
 iterate 2 refine Ze h (fun _ h=>?_) fun _ h=>?_<;>try simp only [*,go_sem,seval]
 obtain ⟨A,B,C,D,h⟩:=Zgn h
 try simp only [*,go_sem,seval]
 refine Ze h (fun _ h=>?_) fun _ h=>?_<;>try simp only [*,go_sem,seval]
 refine ⟨_,[],[],(Option.some.inj h).symm,by decide,?_⟩
 try simp only [*,go_sem,seval]
 replace h:=Zs h d
 cases h
 try simp only [*,go_sem,seval]
 refine ⟨_,[],[],(Option.some.inj h).symm,by decide,?_⟩
 iterate 2 ((try simp only [*,go_sem,seval]);replace h:=Zs h d;cases h)
 try simp only [*,go_sem,seval]
 rintro ⟨⟩ ⟨sl,ob,n⟩ e E h
 simp only [go_sem,seval,Zd] at e
 obtain ⟨⟨F,G⟩,hn⟩:=e
 subst hn
 have H:=ZC (b_0.length)
 cases h
 try simp only [*,go_sem,seval]
theorem Zcl {b_0:(List Zl)} {term_1:ByteArray} {r:(ByteArray × Bool)} (h:ZaC b_0 term_1=some r):Zn Tryz.prog J0 165 [(false,[.sl 192 2 (List.map Z6 b_0)]),(false,[.str term_1])] [(false,[(false,.str r.1)]),(false,[(false,.bool r.2)])]:=by
 refine fnk Tryz.func165 (by kernel_rfl) rfl (by kernel_rfl) (by kernel_rfl) ?_
 unfold ZaC at h
 have e:Zcf ⟨#[]⟩=true:=by decide
 simp only [fnS,f165,Zo,go_sem,seval,e]
 obtain ⟨q,f,h⟩:=Za h
 refine Zb (Qc f) ?_
 try simp only [*,go_sem,seval]
 refine Ze h (fun _ h=>?_) fun _ h=>?_<;>try simp only [*,go_sem,seval]
 cases h
 try simp only [*,go_sem,seval]
 refine Zg h (fun i _ st=>IV [(0,.p false [.c (.sl 192 2 (List.map Z6 b_0))]),(1,.p false [.c (.str term_1)]),(6,.p false [.c (.int .i64 ((i:Nat):Int))])] [] st) [] [] (by decide) ?_ ?_ ?_
 simp only [*,go_sem,seval]
 rintro t u ⟨⟩ ⟨sl,ob,n⟩ v a b g h k
 simp only [go_sem,seval,Zd] at b
 obtain ⟨⟨l,w,x⟩,hn⟩:=b
 subst hn
 have m:=WF.slotL g l (j:=0) rfl
 have y:=ZF a
 have z:=ZJ a
 have A:=Zi (ZE a) m
 try simp only [*,go_sem,seval]
 refine Ze h (fun _ h=>?_) fun _ h=>?_<;>try simp only [*,go_sem,seval]
 obtain ⟨B,o,h⟩:=Za h
 refine Zb (QE o) ?_
 try simp only [*,go_sem,seval]
 refine Ze h (fun _ h=>?_) fun _ h=>?_<;>try simp only [*,go_sem,seval]
 replace h:=Zs h k
 cases h
 try simp only [*,go_sem,seval]
 refine ⟨_,[],[],(Option.some.inj h).symm,by decide,?_⟩
 try simp only [*,go_sem,seval]
 refine ⟨_,[],[],(Option.some.inj h).symm,by decide,?_⟩
 try simp only [*,go_sem,seval]
 rintro ⟨⟩ ⟨sl,ob,n⟩ d C h
 simp only [go_sem,seval,Zd] at d
 obtain ⟨⟨D,E,F⟩,hn⟩:=d
 subst hn
 have G:=ZC (b_0.length)
 cases h
 try simp only [*,go_sem,seval]
theorem Zon {t_0:Zt} {r:Zt} (h:Zfp t_0=some r):Zn Tryz.prog J0 174 [(true,YZ t_0)] [(true,[(false,.sl 57 2 (List.map Zq r.facts)),(false,.sl 192 2 (List.map Z6 r.binding))])]:=by
 refine fnk Tryz.func174 (by kernel_rfl) rfl (by kernel_rfl) (by kernel_rfl) ?_
 unfold Zfp at h
 simp only [fnS,f174,Zo,go_sem,seval]
 obtain ⟨c,a,h⟩:=Za h
 refine Zb (Zd1 a) ?_
 try simp only [*,go_sem,seval]
 obtain ⟨d,b,h⟩:=Za h
 refine Zb (Zf4 b) ?_
 cases h
 try simp only [*,go_sem,seval]
theorem Zb1 {p_0:Zv} {r:(List ByteArray)} (h:Za4 p_0=some r):Zn Tryz.prog J0 225 [(true,QQ p_0)] [(false,[(false,.sl 9 1 (List.map Zu r))])]:=by
 refine fnk Tryz.func225 (by kernel_rfl) rfl (by kernel_rfl) (by kernel_rfl) ?_
 unfold Za4 at h
 simp only [fnS,f225,Zo,go_sem,seval]
 refine Zg h (fun i a st=>IV [(1,.bp 0 0),(3,.p false [.row 1]),(4,.p false [.c (.int .i64 ((i:Nat):Int))])] [.box 49 [.c (.str p_0.rel),.c (.sl 9 1 (List.map Zu p_0.args))],.row 9 1 (List.map Zu a) 2] st) [] [0,32] (by decide) ?_ ?_ ?_
 simp only [*,go_sem,seval]
 rintro o q a ⟨sl,ob,n⟩ t b d f h u
 simp only [go_sem,seval,Zd] at d
 obtain ⟨⟨v,w,x⟩,g,y,hn⟩:=d
 subst hn
 have k:=WF.boxL f g (j:=1) rfl
 have z:=ZF b
 have A:=ZJ b
 have B:=Zi (ZE b) k
 try simp only [*,go_sem,seval]
 obtain ⟨C,l,h⟩:=Za h
 refine Zb (QE l) ?_
 try simp only [*,go_sem,seval]
 refine Ze h (fun _ h=>?_) fun _ h=>?_<;>try simp only [*,go_sem,seval]
 obtain ⟨D,m,h⟩:=Za h
 refine Zb (Xn m) ?_
 try simp only [*,go_sem,seval]
 refine ⟨_,[],[0,274],(Option.some.inj h).symm,by decide,?_⟩
 try simp only [*,go_sem,seval]
 refine ⟨_,[],[0,1],(Option.some.inj h).symm,by decide,?_⟩
 try simp only [*,go_sem,seval]
 rintro a ⟨sl,ob,n⟩ e E h
 simp only [go_sem,seval,Zd] at e
 obtain ⟨⟨F,G,H⟩,I,J,hn⟩:=e
 subst hn
 have K:=ZC (p_0.args.length)
 cases h
 try simp only [*,go_sem,seval]
theorem ZaV {a_0:Zc} {b_1:Zc} {r:Int} (h:Xj a_0 b_1=some r):Zn Tryz.prog J0 172 [(true,Zq a_0),(true,Zq b_1)] [(false,[(false,.int .i64 r)])]:=by
 refine fnk Tryz.func172 (by kernel_rfl) rfl (by kernel_rfl) (by kernel_rfl) ?_
 unfold Xj at h
 simp only [fnS,f172,Zo,go_sem,seval]
 refine Ze h (fun _ h=>?_) fun _ h=>?_<;>try simp only [*,go_sem,seval]
 ·refine Zg h (fun i _ st=>IV [(2,.bp 0 0),(3,.bp 1 0),(5,.p false [.c (.int .i64 ((i:Nat):Int))])] [.box 57 [.c (.str a_0.rel),.c (.sl 9 1 (List.map Zu a_0.args))],.box 57 [.c (.str b_1.rel),.c (.sl 9 1 (List.map Zu b_1.args))]] st) [] [0,16] (by decide) ?_ ?_ ?_
  ·simp only [*,go_sem,seval]
  ·rintro i8 x9 ⟨⟩ ⟨sl,ob,n⟩ y2 hx3 hI4 hW5 h hy2
   simp only [go_sem,seval,Zd] at hI4
   obtain ⟨⟨g6_2,g6_3,g6_5⟩,og6_0,og6_1,hn⟩:=hI4
   subst hn
   have hlhx3:=WF.boxL hW5 og6_0 (j:=1) rfl
   have q7:=ZF hx3
   have q8:=ZJ hx3
   have q9:=Zi (ZE hx3) hlhx3
   try simp only [*,go_sem,seval]
   refine Ze h (fun _ h=>?_) fun _ h=>?_<;>try simp only [*,go_sem,seval]
   ·obtain ⟨x10,a11,a12,e13,h⟩:=Zgn h
    simp only [Int.toNat_natCast] at e13
    try simp only [*,go_sem,seval]
    obtain ⟨v11,e14,h⟩:=Za h
    refine Zb (by have hh:=Zdv e14;first|exact hh|(simp only [*,go_sem] at hh;exact hh)) ?_
    try simp only [*,go_sem,seval]
    refine Ze h (fun _ h=>?_) fun _ h=>?_<;>try simp only [*,go_sem,seval]
    ·replace h:=Zs h hy2
     cases h
     try simp only [*,go_sem,seval]
    ·refine ⟨_,[],[0,1],(Option.some.inj h).symm,by decide,?_⟩
     try simp only [*,go_sem,seval]
   ·refine Ze h (fun _ h=>?_) fun _ h=>?_<;>try simp only [*,go_sem,seval]
    ·replace h:=Zs h hy2
     cases h
     try simp only [*,go_sem,seval]
    ·refine Ze h (fun _ h=>?_) fun _ h=>?_<;>try simp only [*,go_sem,seval]
     ·replace h:=Zs h hy2
      cases h
      try simp only [*,go_sem,seval]
     ·replace h:=Zs h hy2
      cases h
      try simp only [*,go_sem,seval]
  ·rintro ⟨⟩ ⟨sl,ob,n⟩ hI18 hW19 h
   simp only [go_sem,seval,Zd] at hI18
   obtain ⟨⟨g20_2,g20_3,g20_5⟩,og20_0,og20_1,hn⟩:=hI18
   subst hn
   have q21:=ZC (a_0.args.length)
   try simp only [*,go_sem,seval]
   refine Ze h (fun _ h=>?_) fun _ h=>?_<;>try simp only [*,go_sem,seval]
   ·cases h
    try simp only [*,go_sem,seval]
   ·refine Ze h (fun _ h=>?_) fun _ h=>?_<;>try simp only [*,go_sem,seval]
    ·cases h
     try simp only [*,go_sem,seval]
    ·cases h
     try simp only [*,go_sem,seval]
 ·obtain ⟨v12,e24,h⟩:=Za h
  refine Zb (by have hh:=ZjZ e24;first|exact hh|(simp only [*,go_sem] at hh;exact hh)) ?_
  cases h
  try simp only [*,go_sem,seval]
theorem ZgF {l_0:(List Zc)} {facts_1:(List Zc)} {r:(List Int)} (h:Zbz l_0 facts_1=some r):Zn Tryz.prog J0 128 [(false,[.sl 57 2 (List.map Zq l_0)]),(false,[.sl 57 2 (List.map Zq facts_1)])] [(false,[(false,.sl 3 1 (List.map Qv r))])]:=by
 refine fnk Tryz.func128 (by kernel_rfl) rfl (by kernel_rfl) (by kernel_rfl) ?_
 unfold Zbz at h
 simp only [fnS,f128,Zo,go_sem,seval]
 refine Zg h (fun i a st=>IV [(0,.p false [.c (.sl 57 2 (List.map Zq l_0))]),(1,.p false [.c (.sl 57 2 (List.map Zq facts_1))]),(5,.p false [.row 0]),(6,.p false [.c (.int .i64 ((i:Nat):Int))])] [.row 3 1 (List.map Qv a) 2] st) [] [16] (by decide) ?_ ?_ ?_
 simp only [*,go_sem,seval]
 rintro o q a ⟨sl,ob,n⟩ t b d f h u
 simp only [go_sem,seval,Zd] at d
 obtain ⟨⟨v,g,w,x⟩,y,hn⟩:=d
 subst hn
 have k:=WF.slotL f g (j:=0) rfl
 have z:=ZF b
 have A:=ZJ b
 have B:=Zi (ZE b) k
 try simp only [*,go_sem,seval]
 obtain ⟨C,l,h⟩:=Za h
 refine Zb (Zd2 l) ?_
 try simp only [*,go_sem,seval]
 refine Ze h (fun _ h=>?_) fun _ h=>?_<;>try simp only [*,go_sem,seval]
 obtain ⟨D,m,h⟩:=Za h
 refine Zb (ZnR m) ?_
 try simp only [*,go_sem,seval]
 refine ⟨_,[],[241],(Option.some.inj h).symm,by decide,?_⟩
 try simp only [*,go_sem,seval]
 refine ⟨_,[],[0],(Option.some.inj h).symm,by decide,?_⟩
 try simp only [*,go_sem,seval]
 rintro a ⟨sl,ob,n⟩ e E h
 simp only [go_sem,seval,Zd] at e
 obtain ⟨⟨F,G,H,I⟩,J,hn⟩:=e
 subst hn
 have K:=ZC (facts_1.length)
 cases h
 try simp only [*,go_sem,seval]
theorem Qa {p_0:Zv} {r:Bool} (h:Xe p_0=some r):Zn Tryz.prog J0 63 [(true,QQ p_0)] [(false,[(false,.bool r)])]:=by
 refine fnk Tryz.func63 (by kernel_rfl) rfl (by kernel_rfl) (by kernel_rfl) ?_
 unfold Xe at h
 simp only [fnS,f63,Zo,go_sem,seval]
 obtain ⟨o,e,h⟩:=Za h
 refine Zb (ZfF e) ?_
 try simp only [*,go_sem,seval]
 iterate 2 refine Ze h (fun _ h=>?_) fun _ h=>?_<;>try simp only [*,go_sem,seval]
 cases h
 try simp only [*,go_sem,seval]
 refine Zg h (fun i _ st=>IV [(16,.p false [.c (.sl 9 1 (List.map Zu p_0.args))]),(17,.p false [.c (.int .i64 ((p_0.args.length:Nat):Int))]),(18,.p false [.c (.int .i64 ((i:Nat):Int))])] [] st) [] [] (by decide) ?_ ?_ ?_
 simp only [*,go_sem,seval]
 rintro q t ⟨⟩ ⟨sl,ob,n⟩ u a b f h g
 simp only [go_sem,seval,Zd] at b
 obtain ⟨⟨k,v,w⟩,hn⟩:=b
 subst hn
 have l:=WF.slotL f k (j:=0) rfl
 have x:=ZF a
 have y:=ZJ a
 have z:=Zi (ZE a) l
 try simp only [*,go_sem,seval]
 obtain ⟨A,m,h⟩:=Za h
 refine Zb (QP m) ?_
 try simp only [*,go_sem,seval]
 refine Ze h (fun _ h=>?_) fun _ h=>?_<;>try simp only [*,go_sem,seval]
 refine ⟨_,[],[],(Option.some.inj h).symm,by decide,?_⟩
 try simp only [*,go_sem,seval]
 replace h:=Zs h g
 cases h
 try simp only [*,go_sem,seval]
 rintro ⟨⟩ ⟨sl,ob,n⟩ d B h
 simp only [go_sem,seval,Zd] at d
 obtain ⟨⟨C,D,E⟩,hn⟩:=d
 subst hn
 have F:=ZC (p_0.args.length)
 iterate 2 (cases h;try simp only [*,go_sem,seval])
theorem ZnU {a:(List Zl)} {b:ByteArray} {d:ByteArray} {r:((List Zl) × Bool)} (h:ZfW a b d=some r):Zn Tryz.prog J0 157 [(false,[.sl 192 2 (List.map Z6 a)]),(false,[.str b]),(false,[.str d])] [(false,[(false,.sl 192 2 (List.map Z6 r.1))]),(false,[(false,.bool r.2)])]:=by
 refine fnk Tryz.func157 (by kernel_rfl) rfl (by kernel_rfl) (by kernel_rfl) ?_
 unfold ZfW at h
 simp only [fnS,f157,Zo,go_sem,seval]
 obtain ⟨L,x,h⟩:=Za h
 refine Zb (QF x) ?_
 try simp only [*,go_sem,seval]
 refine Ze h (fun c2 h=>?_) (fun c2 h=>?_)<;>try simp only [*,go_sem,seval]
 obtain ⟨M,y,h⟩:=Za h
 refine Zb (ZcP y) ?_
 try simp only [*,go_sem,seval]
 refine Ze h (fun e h=>?_) (fun e h=>?_)<;>try simp only [*,go_sem,seval]
 obtain ⟨N,z,h⟩:=Za h
 refine Zb (Qg z) ?_
 try simp only [*,go_sem,seval]
 refine Ze h (fun f h=>?_) (fun f h=>?_)<;>try simp only [*,go_sem,seval]
 obtain ⟨O,A,h⟩:=Za h
 refine Zb (Zcp A) ?_
 try simp only [*,go_sem,seval]
 refine Ze h (fun g h=>?_) (fun g h=>?_)<;>try simp only [*,go_sem,seval]
 refine Ze h (fun _ h=>?_) fun _ h=>?_<;>try simp only [*,go_sem,seval]
 obtain ⟨P,B,h⟩:=Za h
 refine Zb (ZfS B) ?_
 iterate 2 (cases h;try simp only [*,go_sem,seval])
 refine Ze h (fun k h=>?_) (fun k h=>?_)<;>try simp only [*,go_sem,seval]
 cases h
 try simp only [*,go_sem,seval]
 refine Zg h (fun i s st=>match s with | (l,m)=>IV [(1,.p false [.c (.str b)]),(2,.p false [.c (.str d)]),(10,.p false [.row 0]),(11,.p false [.c (.bool m)]),(42,.p false [.c (.sl 192 2 (List.map Z6 a))]),(43,.p false [.c (.int .i64 ((a.length:Nat):Int))]),(44,.p false [.c (.int .i64 ((i:Nat):Int))])] [.row 192 2 (List.map Z6 l) 2] st) [(false,10,0)] [512] (by decide) ?_ ?_ ?_
 simp only [*,go_sem,seval]
 rintro Q R ⟨l,m⟩ ⟨sl,ob,n⟩ S o v D h T
 simp only [go_sem,seval,Zd] at v
 obtain ⟨⟨U,V,W,X,E,Y,Z⟩,aa,hn⟩:=v
 subst hn
 have F:=WF.slotL D E (j:=0) rfl
 have ab:=ZF o
 have ac:=ZJ o
 have ad:=Zi (ZE o) F
 try simp only [*,go_sem,seval]
 refine Ze h (fun q h=>?_) (fun q h=>?_)<;>try simp only [*,go_sem,seval]
 obtain ⟨G,h⟩:=Zx h
 try simp only [Nat.reduceLeDiff] at G
 try simp only [*,go_sem,seval]
 refine ⟨_,[],[257],(Option.some.inj h).symm,by decide,?_⟩
 try simp only [*,go_sem,seval]
 refine Ze h (fun t h=>?_) (fun t h=>?_)
 have u:=t
 try simp only [c2,e,f,g,k,q,Bool.false_or,Bool.or_false] at u
 obtain ⟨H,h⟩:=Zx h
 try simp only [Nat.reduceLeDiff] at H
 try simp only [*,go_sem,seval]
 refine ⟨_,[],[257],(Option.some.inj h).symm,by decide,?_⟩
 try simp only [*,go_sem,seval]
 have u:=t
 try simp only [c2,e,f,g,k,q,Bool.false_or,Bool.or_false] at u
 obtain ⟨I,h⟩:=Zx h
 try simp only [Nat.reduceLeDiff] at I
 obtain ⟨J,h⟩:=Zx h
 try simp only [Nat.reduceLeDiff] at J
 try simp only [*,go_sem,seval]
 refine ⟨_,[],[385],(Option.some.inj h).symm,by decide,?_⟩
 try simp only [*,go_sem,seval]
 rintro ⟨l,m⟩ ⟨sl,ob,n⟩ w ae h
 simp only [go_sem,seval,Zd] at w
 obtain ⟨⟨af,ag,ah,ai,aj,ak,al⟩,am,hn⟩:=w
 subst hn
 have an:=ZC (a.length)
 try simp only [*,go_sem,seval]
 refine Ze h (fun _ h=>?_) fun _ h=>?_<;>try simp only [*,go_sem,seval]
 cases h
 try simp only [*,go_sem,seval]
 obtain ⟨K,h⟩:=Zx h
 try simp only [Nat.reduceLeDiff] at K
 iterate 4 (cases h;try simp only [*,go_sem,seval])
theorem ZcE {r_0:Zf} {n_1:Int} {r:(List ByteArray)} (h:QR r_0 n_1=some r):Zn Tryz.prog J0 205 [(true,ZB r_0),(false,[.int .i64 n_1])] [(false,[(false,.sl 9 1 (List.map Zu r))])]:=by
 refine fnk Tryz.func205 (by kernel_rfl) rfl (by kernel_rfl) (by kernel_rfl) ?_
 unfold QR at h
 simp only [fnS,f205,Zo,go_sem,seval]
 refine Zg h (fun i a st=>IV [(1,.p false [.c (.int .i64 n_1)]),(5,.p false [.row 0]),(9,.p false [.c (.sl 130 5 (List.map ZM r_0.cond))]),(10,.p false [.c (.int .i64 ((r_0.cond.length:Nat):Int))]),(11,.p false [.c (.int .i64 ((i:Nat):Int))])] [.row 9 1 (List.map Zu a) 2] st) [(false,5,0)] [112] (by decide) ?_ ?_ ?_
 simp only [*,go_sem,seval]
 rintro q t a ⟨sl,ob,n⟩ u b d f h v
 simp only [go_sem,seval,Zd] at d
 obtain ⟨⟨w,x,g,y,z⟩,A,hn⟩:=d
 subst hn
 have k:=WF.slotL f g (j:=0) rfl
 have B:=ZF b
 have C:=ZJ b
 have D:=Zi (ZE b) k
 try simp only [*,go_sem,seval]
 iterate 2 refine Ze h (fun _ h=>?_) fun _ h=>?_<;>try simp only [*,go_sem,seval]
 obtain ⟨E,l,h⟩:=Za h
 refine Zb (Zc2 l) ?_
 obtain ⟨m,h⟩:=Zx h
 try simp only [Nat.reduceLeDiff] at m
 try simp only [*,go_sem,seval]
 refine ⟨_,[],[321],(Option.some.inj h).symm,by decide,?_⟩
 try simp only [*,go_sem,seval]
 refine ⟨_,[],[0],(Option.some.inj h).symm,by decide,?_⟩
 try simp only [*,go_sem,seval]
 refine ⟨_,[],[0],(Option.some.inj h).symm,by decide,?_⟩
 try simp only [*,go_sem,seval]
 rintro a ⟨sl,ob,n⟩ e F h
 simp only [go_sem,seval,Zd] at e
 obtain ⟨⟨G,H,I,J,K⟩,L,hn⟩:=e
 subst hn
 have M:=ZC (r_0.cond.length)
 try simp only [*,go_sem,seval]
 obtain ⟨N,o,h⟩:=Za h
 refine Zb (X5 o) ?_
 cases h
 try simp only [*,go_sem,seval]
theorem ZbT {x_0:Zm} {r:(List ByteArray)} (h:Qn x_0=some r):Zn Tryz.prog J0 206 [(true,ZM x_0)] [(false,[(false,.sl 9 1 (List.map Zu r))])]:=by
 refine fnk Tryz.func206 (by kernel_rfl) rfl (by kernel_rfl) (by kernel_rfl) ?_
 unfold Qn at h
 simp only [fnS,f206,Zo,go_sem,seval]
 obtain ⟨d,a,h⟩:=Za h
 refine Zb (ZnB a) ?_
 try simp only [*,go_sem,seval]
 obtain ⟨e,b,h⟩:=Za h
 refine Zb (Zc2 b) ?_
 try simp only [*,go_sem,seval]
 obtain ⟨f,c,h⟩:=Za h
 refine Zb (X5 c) ?_
 cases h
 try simp only [*,go_sem,seval]
theorem ZdF {a_0:Zc} {b_1:Zc} {r:Int} (h:Qb a_0 b_1=some r):Zn Tryz.prog J0 180 [(true,Zq a_0),(true,Zq b_1)] [(false,[(false,.int .i64 r)])]:=by
 refine fnk Tryz.func180 (by kernel_rfl) rfl (by kernel_rfl) (by kernel_rfl) ?_
 unfold Qb at h
 simp only [fnS,f180,Zo,go_sem,seval]
 obtain ⟨u,f,h⟩:=Za h
 refine Zb (Zh6 f) ?_
 try simp only [*,go_sem,seval]
 refine Ze h (fun _ h=>?_) fun _ h=>?_<;>try simp only [*,go_sem,seval]
 cases h
 try simp only [*,go_sem,seval]
 refine Zg h (fun i _ st=>IV [(2,.bp 0 0),(3,.bp 1 0),(6,.p false [.c (.int .i64 ((i:Nat):Int))])] [.box 57 [.c (.str a_0.rel),.c (.sl 9 1 (List.map Zu a_0.args))],.box 57 [.c (.str b_1.rel),.c (.sl 9 1 (List.map Zu b_1.args))]] st) [] [0,16] (by decide) ?_ ?_ ?_
 simp only [*,go_sem,seval]
 rintro v w ⟨⟩ ⟨sl,ob,n⟩ x a b g h d
 simp only [go_sem,seval,Zd] at b
 obtain ⟨⟨y,z,A⟩,k,B,hn⟩:=b
 subst hn
 have l:=WF.boxL g k (j:=1) rfl
 have C:=ZF a
 have D:=ZJ a
 have E:=Zi (ZE a) l
 try simp only [*,go_sem,seval]
 refine Ze h (fun _ h=>?_) fun _ h=>?_<;>try simp only [*,go_sem,seval]
 obtain ⟨F,G,H,m,h⟩:=Zgn h
 simp only [Int.toNat_natCast] at m
 try simp only [*,go_sem,seval]
 obtain ⟨I,o,h⟩:=Za h
 refine Zb (ZhA o) ?_
 try simp only [*,go_sem,seval]
 refine Ze h (fun _ h=>?_) fun _ h=>?_<;>try simp only [*,go_sem,seval]
 replace h:=Zs h d
 cases h
 try simp only [*,go_sem,seval]
 refine ⟨_,[],[0,1],(Option.some.inj h).symm,by decide,?_⟩
 try simp only [*,go_sem,seval]
 obtain ⟨J,q,h⟩:=Za h
 refine Zb (ZbC q) ?_
 replace h:=Zs h d
 cases h
 try simp only [*,go_sem,seval]
 rintro ⟨⟩ ⟨sl,ob,n⟩ e K h
 simp only [go_sem,seval,Zd] at e
 obtain ⟨⟨L,M,N⟩,O,P,hn⟩:=e
 subst hn
 have Q:=ZC (a_0.args.length)
 try simp only [*,go_sem,seval]
 obtain ⟨R,t,h⟩:=Za h
 refine Zb (ZbC t) ?_
 cases h
 try simp only [*,go_sem,seval]
theorem Zhz {facts_0:(List Zc)} {l_1:(List Zc)} {r:(List Int)} (h:Zcy facts_0 l_1=some r):Zn Tryz.prog J0 90 [(false,[.sl 57 2 (List.map Zq facts_0)]),(false,[.sl 57 2 (List.map Zq l_1)])] [(false,[(false,.sl 3 1 (List.map Qv r))])]:=by
 refine fnk Tryz.func90 (by kernel_rfl) rfl (by kernel_rfl) (by kernel_rfl) ?_
 unfold Zcy at h
 simp only [fnS,f90,Zo,go_sem,seval]
 refine Zg h (fun i a st=>IV [(0,.p false [.c (.sl 57 2 (List.map Zq facts_0))]),(5,.p false [.row 0]),(9,.p false [.c (.sl 57 2 (List.map Zq l_1))]),(10,.p false [.c (.int .i64 ((l_1.length:Nat):Int))]),(11,.p false [.c (.int .i64 ((i:Nat):Int))])] [.row 3 1 (List.map Qv a) 2] st) [(false,5,0)] [80] (by decide) ?_ ?_ ?_
 simp only [*,go_sem,seval]
 rintro t u a ⟨sl,ob,n⟩ v b d f h w
 simp only [go_sem,seval,Zd] at d
 obtain ⟨⟨x,y,g,z,A⟩,B,hn⟩:=d
 subst hn
 have k:=WF.slotL f g (j:=0) rfl
 have C:=ZF b
 have D:=ZJ b
 have E:=Zi (ZE b) k
 try simp only [*,go_sem,seval]
 obtain ⟨F,l,h⟩:=Za h
 refine Zb (ZbR l) ?_
 try simp only [*,go_sem,seval]
 refine Ze h (fun _ h=>?_) fun _ h=>?_<;>try simp only [*,go_sem,seval]
 obtain ⟨G,m,h⟩:=Za h
 refine Zb (ZoY m) ?_
 try simp only [*,go_sem,seval]
 refine Ze h (fun _ h=>?_) fun _ h=>?_<;>try simp only [*,go_sem,seval]
 refine ⟨_,[],[0],(Option.some.inj h).symm,by decide,?_⟩
 try simp only [*,go_sem,seval]
 obtain ⟨o,h⟩:=Zx h
 try simp only [Nat.reduceLeDiff] at o
 try simp only [*,go_sem,seval]
 refine ⟨_,[],[321],(Option.some.inj h).symm,by decide,?_⟩
 try simp only [*,go_sem,seval]
 refine ⟨_,[],[0],(Option.some.inj h).symm,by decide,?_⟩
 try simp only [*,go_sem,seval]
 rintro a ⟨sl,ob,n⟩ e H h
 simp only [go_sem,seval,Zd] at e
 obtain ⟨⟨I,J,K,L,M⟩,N,hn⟩:=e
 subst hn
 have O:=ZC (l_1.length)
 try simp only [*,go_sem,seval]
 obtain ⟨P,q,h⟩:=Za h
 refine ZsX (Zl1 q) ?_
 cases h
 try simp only [*,go_sem,seval]
end Go.Proofs.YtojnhepgnbhaaaaGreatDoor
namespace Go.Proofs.YtojnhepgnbhaaaaGreatDoor
open Go.Proofs.Tryz
set_option linter.unusedSimpArgs false
set_option linter.unusedVariables false
set_option maxRecDepth 1000000
set_option maxHeartbeats 4000000
theorem X3 {p_0:Zv} {r:Bool} (h:Xb p_0=some r):Zn Tryz.prog J0 60 [(true,QQ p_0)] [(false,[(false,.bool r)])]:=by
 refine fnk Tryz.func60 (by kernel_rfl) rfl (by kernel_rfl) (by kernel_rfl) ?_
 unfold Xb at h
 simp only [fnS,f60,Zo,go_sem,seval]
 refine Zg h (fun i _ st=>IV [(1,.bp 0 0),(3,.p false [.c (.int .i64 ((i:Nat):Int))])] [.box 49 [.c (.str p_0.rel),.c (.sl 9 1 (List.map Zu p_0.args))]] st) [] [0] (by decide) ?_ ?_ ?_
 simp only [*,go_sem,seval]
 rintro o q ⟨⟩ ⟨sl,ob,n⟩ t a b e h f
 simp only [go_sem,seval,Zd] at b
 obtain ⟨⟨u,v⟩,g,hn⟩:=b
 subst hn
 have k:=WF.boxL e g (j:=1) rfl
 have w:=ZF a
 have x:=ZJ a
 have y:=Zi (ZE a) k
 try simp only [*,go_sem,seval]
 obtain ⟨z,l,h⟩:=Za h
 refine Zb (QB l) ?_
 try simp only [*,go_sem,seval]
 refine Ze h (fun _ h=>?_) fun _ h=>?_<;>try simp only [*,go_sem,seval]
 refine ⟨_,[],[0],(Option.some.inj h).symm,by decide,?_⟩
 try simp only [*,go_sem,seval]
 replace h:=Zs h f
 cases h
 try simp only [*,go_sem,seval]
 rintro ⟨⟩ ⟨sl,ob,n⟩ d A h
 simp only [go_sem,seval,Zd] at d
 obtain ⟨⟨B,C⟩,D,hn⟩:=d
 subst hn
 have E:=ZC (p_0.args.length)
 try simp only [*,go_sem,seval]
 obtain ⟨F,m,h⟩:=Za h
 refine Zb (Zfs m) ?_
 try simp only [*,go_sem,seval]
 refine Ze h (fun _ h=>?_) fun _ h=>?_<;>try simp only [*,go_sem,seval]
 iterate 2 (cases h;try simp only [*,go_sem,seval])
theorem Zpe {b_0:(List Zl)} {v_1:ByteArray} {value_2:ByteArray} {r:((List Zl) × Bool)} (h:Zfx b_0 v_1 value_2=some r):Zn Tryz.prog J0 152 [(false,[.sl 192 2 (List.map Z6 b_0)]),(false,[.str v_1]),(false,[.str value_2])] [(false,[(false,.sl 192 2 (List.map Z6 r.1))]),(false,[(false,.bool r.2)])]:=by
 refine fnk Tryz.func152 (by kernel_rfl) rfl (by kernel_rfl) (by kernel_rfl) ?_
 unfold Zfx at h
 simp only [fnS,f152,Zo,go_sem,seval]
 obtain ⟨g,a,h⟩:=Za h
 refine Zb (QM a) ?_
 try simp only [*,go_sem,seval]
 refine Ze h (fun _ h=>?_) fun _ h=>?_<;>try simp only [*,go_sem,seval]
 obtain ⟨i,b,h⟩:=Za h
 refine Zb (QE b) ?_
 try simp only [*,go_sem,seval]
 refine Ze h (fun _ h=>?_) fun _ h=>?_<;>try simp only [*,go_sem,seval]
 obtain ⟨j,c,h⟩:=Za h
 refine Zb (Qc c) ?_
 try simp only [*,go_sem,seval]
 refine Ze h (fun _ h=>?_) fun _ h=>?_<;>try simp only [*,go_sem,seval]
 obtain ⟨k,d,h⟩:=Za h
 refine Zb (Zcl d) ?_
 try simp only [*,go_sem,seval]
 iterate 2 refine Ze h (fun _ h=>?_) fun _ h=>?_<;>try simp only [*,go_sem,seval]
 obtain ⟨l,e,h⟩:=Za h
 refine Zb (Zf4 e) ?_
 iterate 2 (cases h;try simp only [*,go_sem,seval])
 refine Ze h (fun _ h=>?_) fun _ h=>?_<;>try simp only [*,go_sem,seval]
 cases h
 try simp only [*,go_sem,seval]
 obtain ⟨m,f,h⟩:=Za h
 refine Zb (Zqk f) ?_
 iterate 4 (cases h;try simp only [*,go_sem,seval])
theorem Zae {x_0:Zm} {r:(List ByteArray)} (h:XR x_0=some r):Zn Tryz.prog J0 195 [(true,ZM x_0)] [(false,[(false,.sl 9 1 (List.map Zu r))])]:=by
 refine fnk Tryz.func195 (by kernel_rfl) rfl (by kernel_rfl) (by kernel_rfl) ?_
 unfold XR at h
 simp only [fnS,f195,Zo,go_sem,seval]
 obtain ⟨i,a,h⟩:=Za h
 refine Zb (Zb1 a) ?_
 try simp only [*,go_sem,seval]
 obtain ⟨j,b,h⟩:=Za h
 refine Zb (QE b) ?_
 try simp only [*,go_sem,seval]
 refine Ze h (fun _ h=>?_) fun _ h=>?_<;>try simp only [*,go_sem,seval]
 obtain ⟨k,c,h⟩:=Za h
 refine Zb (Xn c) ?_
 try simp only [*,go_sem,seval]
 obtain ⟨l,d,h⟩:=Za h
 refine Zb (QE d) ?_
 try simp only [*,go_sem,seval]
 refine Ze h (fun _ h=>?_) fun _ h=>?_<;>try simp only [*,go_sem,seval]
 obtain ⟨m,e,h⟩:=Za h
 refine Zb (Xn e) ?_
 iterate 2 (cases h;try simp only [*,go_sem,seval])
 obtain ⟨o,f,h⟩:=Za h
 refine Zb (QE f) ?_
 try simp only [*,go_sem,seval]
 refine Ze h (fun _ h=>?_) fun _ h=>?_<;>try simp only [*,go_sem,seval]
 obtain ⟨p,g,h⟩:=Za h
 refine Zb (Xn g) ?_
 iterate 2 (cases h;try simp only [*,go_sem,seval])
theorem Za3 {r_0:Zf} {n_1:Int} {r:(List ByteArray)} (h:Qf r_0 n_1=some r):Zn Tryz.prog J0 196 [(true,ZB r_0),(false,[.int .i64 n_1])] [(false,[(false,.sl 9 1 (List.map Zu r))])]:=by
 refine fnk Tryz.func196 (by kernel_rfl) rfl (by kernel_rfl) (by kernel_rfl) ?_
 unfold Qf at h
 simp only [fnS,f196,Zo,go_sem,seval]
 refine Zg h (fun i row_12 st=>IV [(1,.p false [.c (.int .i64 n_1)]),(2,.bp 0 0),(5,.p false [.row 1]),(6,.p false [.c (.int .i64 ((i:Nat):Int))])] [.box 82 [.c (.str r_0.name),.c (.int .i64 r_0.priority),.c (.sl 130 5 (List.map ZM r_0.cond)),.c (.sl 134 3 (List.map ZA r_0.thn))],.row 9 1 (List.map Zu row_12) 2] st) [] [0,32] (by decide) ?_ ?_ ?_
 ·simp only [*,go_sem,seval]
 ·rintro i25 x26 row_12 ⟨sl,ob,n⟩ y1 hx2 hI3 hW4 h hy1
  simp only [go_sem,seval,Zd] at hI3
  obtain ⟨⟨g5_1,g5_2,g5_5,g5_6⟩,og5_0,og5_1,hn⟩:=hI3
  subst hn
  have hlhx2:=WF.boxL hW4 og5_0 (j:=2) rfl
  have q6:=ZF hx2
  have q7:=ZJ hx2
  have q8:=Zi (ZE hx2) hlhx2
  try simp only [*,go_sem,seval]
  refine Ze h (fun _ h=>?_) fun _ h=>?_<;>try simp only [*,go_sem,seval]
  ·refine Ze h (fun _ h=>?_) fun _ h=>?_<;>try simp only [*,go_sem,seval]
   ·obtain ⟨v27,e11,h⟩:=Za h
    refine Zb (by have hh:=Zb1 e11;first|exact hh|(simp only [*,go_sem] at hh;exact hh)) ?_
    try simp only [*,go_sem,seval]
    refine Zg h (fun i row_30 st=>IV [(1,.p false [.c (.int .i64 n_1)]),(2,.bp 0 0),(5,.p false [.row 1]),(6,.p false [.c (.int .i64 ((i25:Nat):Int))]),(7,.p false [.row 2]),(8,.p false [.c (.int .i64 ((i:Nat):Int))]),(16,.p false [.c (.int .i64 ((i25:Nat):Int))]),(17,.p false [.c (.int .i64 n_1)]),(18,.p false [.c (.bool (decide (((i25:Nat):Int)<n_1)))])] [.box 82 [.c (.str r_0.name),.c (.int .i64 r_0.priority),.c (.sl 130 5 (List.map ZM r_0.cond)),.c (.sl 134 3 (List.map ZA r_0.thn))],.row 9 1 (List.map Zu row_30) 2,.row 9 1 (List.map Zu v27) 2] st) [] [0,1,370] (by decide) ?_ ?_ ?_
    ·simp only [*,go_sem,seval]
    ·rintro i34 x35 row_30 ⟨sl,ob,n⟩ y12 hx13 hI14 hW15 h hy12
     simp only [go_sem,seval,Zd] at hI14
     obtain ⟨⟨g16_1,g16_2,g16_5,g16_6,g16_7,g16_8,g16_16,g16_17,g16_18⟩,og16_0,og16_1,og16_2,hn⟩:=hI14
     subst hn
     have hlhx13:=WF.rowL hW15 og16_2
     have q17:=ZF hx13
     have q18:=ZJ hx13
     have q19:=Zi (ZE hx13) hlhx13
     try simp only [*,go_sem,seval]
     obtain ⟨v36,e20,h⟩:=Za h
     refine Zb (by have hh:=Xn e20;first|exact hh|(simp only [*,go_sem] at hh;exact hh)) ?_
     try simp only [*,go_sem,seval]
     refine ⟨_,[],[0,147,2],(Option.some.inj h).symm,by decide,?_⟩
     try simp only [*,go_sem,seval]
    ·rintro row_30 ⟨sl,ob,n⟩ hI21 hW22 h
     simp only [go_sem,seval,Zd] at hI21
     obtain ⟨⟨g23_1,g23_2,g23_5,g23_6,g23_7,g23_8,g23_16,g23_17,g23_18⟩,og23_0,og23_1,og23_2,hn⟩:=hI21
     subst hn
     have q24:=ZC (v27.length)
     try simp only [*,go_sem,seval]
     refine ⟨_,[],[0,1],(Option.some.inj h).symm,by decide,?_⟩
     try simp only [*,go_sem,seval]
   ·refine ⟨_,[],[0,1],(Option.some.inj h).symm,by decide,?_⟩
    try simp only [*,go_sem,seval]
  ·replace h:=Zs h hy1
   cases h
   try simp only [*,go_sem,seval]
 ·rintro row_12 ⟨sl,ob,n⟩ hI25 hW26 h
  simp only [go_sem,seval,Zd] at hI25
  obtain ⟨⟨g27_1,g27_2,g27_5,g27_6⟩,og27_0,og27_1,hn⟩:=hI25
  subst hn
  have q28:=ZC (r_0.cond.length)
  cases h
  try simp only [*,go_sem,seval]
theorem Zl8 {l_0:(List Zc)} {r:Bool} (h:ZcW l_0=some r):Zn Tryz.prog J0 124 [(false,[.sl 57 2 (List.map Zq l_0)])] [(false,[(false,.bool r)])]:=by
 refine fnk Tryz.func124 (by kernel_rfl) rfl (by kernel_rfl) (by kernel_rfl) ?_
 unfold ZcW at h
 simp only [fnS,f124,Zo,go_sem,seval]
 refine Zg h (fun i _ st=>IV [(0,.p false [.c (.sl 57 2 (List.map Zq l_0))]),(3,.p false [.c (.int .i64 ((i:Nat):Int))])] [] st) [] [] (by decide) ?_ ?_ ?_
 simp only [*,go_sem,seval]
 rintro o q ⟨⟩ ⟨sl,ob,n⟩ t a b f h d
 simp only [go_sem,seval,Zd] at b
 obtain ⟨⟨g,u⟩,hn⟩:=b
 subst hn
 have k:=WF.slotL f g (j:=0) rfl
 have v:=ZF a
 have w:=ZJ a
 have x:=Zi (ZE a) k
 try simp only [*,go_sem,seval]
 obtain ⟨y,l,h⟩:=Za h
 refine Zb (Zjl l) ?_
 try simp only [*,go_sem,seval]
 iterate 2 refine Ze h (fun _ h=>?_) fun _ h=>?_<;>try simp only [*,go_sem,seval]
 obtain ⟨z,A,B,C,h⟩:=Zgn h
 try simp only [*,go_sem,seval]
 obtain ⟨D,m,h⟩:=Za h
 refine Zb (ZaV m) ?_
 try simp only [*,go_sem,seval]
 refine Ze h (fun _ h=>?_) fun _ h=>?_<;>try simp only [*,go_sem,seval]
 replace h:=Zs h d
 cases h
 try simp only [*,go_sem,seval]
 refine ⟨_,[],[],(Option.some.inj h).symm,by decide,?_⟩
 try simp only [*,go_sem,seval]
 refine ⟨_,[],[],(Option.some.inj h).symm,by decide,?_⟩
 try simp only [*,go_sem,seval]
 replace h:=Zs h d
 cases h
 try simp only [*,go_sem,seval]
 rintro ⟨⟩ ⟨sl,ob,n⟩ e E h
 simp only [go_sem,seval,Zd] at e
 obtain ⟨⟨F,G⟩,hn⟩:=e
 subst hn
 have H:=ZC (l_0.length)
 cases h
 try simp only [*,go_sem,seval]
theorem Zqa {a:(List Zc)} {f_1:Zc} {r:(List Zc)} (h:ZbK a f_1=some r):Zn Tryz.prog J0 126 [(false,[.sl 57 2 (List.map Zq a)]),(true,Zq f_1)] [(false,[(false,.sl 57 2 (List.map Zq r))])]:=by
 refine fnk Tryz.func126 (by kernel_rfl) rfl (by kernel_rfl) (by kernel_rfl) ?_
 unfold ZbK at h
 simp only [fnS,f126,Zo,go_sem,seval]
 refine Zg h (fun i s st=>match s with | (b,d)=>IV [(0,.p false [.c (.sl 57 2 (List.map Zq a))]),(3,.bp 0 0),(5,.p false [.row 1]),(6,.p false [.c (.bool d)]),(7,.p false [.c (.int .i64 ((i:Nat):Int))])] [.box 57 [.c (.str f_1.rel),.c (.sl 9 1 (List.map Zu f_1.args))],.row 57 2 (List.map Zq b) 2] st) [] [0,32] (by decide) ?_ ?_ ?_
 simp only [*,go_sem,seval]
 rintro G H ⟨b,d⟩ ⟨sl,ob,n⟩ I e f k h J
 simp only [go_sem,seval,Zd] at f
 obtain ⟨⟨l,K,L,M,N⟩,O,P,hn⟩:=f
 subst hn
 have m:=WF.slotL k l (j:=0) rfl
 have Q:=ZF e
 have R:=ZJ e
 have S:=Zi (ZE e) m
 try simp only [*,go_sem,seval]
 refine Ze h (fun _ h=>?_) fun _ h=>?_<;>try simp only [*,go_sem,seval]
 obtain ⟨T,o,h⟩:=Za h
 refine Zb (XF o) ?_
 obtain ⟨q,h⟩:=Zx h
 try simp only [Nat.reduceLeDiff] at q
 try simp only [*,go_sem,seval]
 refine ⟨_,[],[0,354],(Option.some.inj h).symm,by decide,?_⟩
 try simp only [*,go_sem,seval]
 obtain ⟨U,t,h⟩:=Za h
 refine Zb (ZaV t) ?_
 try simp only [*,go_sem,seval]
 refine Ze h (fun _ h=>?_) fun _ h=>?_<;>try simp only [*,go_sem,seval]
 obtain ⟨V,u,h⟩:=Za h
 refine Zb (ZaV u) ?_
 try simp only [*,go_sem,seval]
 refine Ze h (fun _ h=>?_) fun _ h=>?_<;>try simp only [*,go_sem,seval]
 obtain ⟨W,v,h⟩:=Za h
 refine Zb (XF v) ?_
 obtain ⟨w,h⟩:=Zx h
 try simp only [Nat.reduceLeDiff] at w
 try simp only [*,go_sem,seval]
 obtain ⟨X,x,h⟩:=Za h
 refine Zb (XF x) ?_
 obtain ⟨y,h⟩:=Zx h
 try simp only [Nat.reduceLeDiff] at y
 try simp only [*,go_sem,seval]
 refine ⟨_,[],[0,578],(Option.some.inj h).symm,by decide,?_⟩
 try simp only [*,go_sem,seval]
 obtain ⟨Y,z,h⟩:=Za h
 refine Zb (XF z) ?_
 obtain ⟨A,h⟩:=Zx h
 try simp only [Nat.reduceLeDiff] at A
 try simp only [*,go_sem,seval]
 refine ⟨_,[],[0,482],(Option.some.inj h).symm,by decide,?_⟩
 try simp only [*,go_sem,seval]
 obtain ⟨Z,B,h⟩:=Za h
 refine Zb (XF B) ?_
 obtain ⟨C,h⟩:=Zx h
 try simp only [Nat.reduceLeDiff] at C
 try simp only [*,go_sem,seval]
 refine ⟨_,[],[0,354],(Option.some.inj h).symm,by decide,?_⟩
 try simp only [*,go_sem,seval]
 rintro ⟨b,d⟩ ⟨sl,ob,n⟩ g aa h
 simp only [go_sem,seval,Zd] at g
 obtain ⟨⟨ab,ac,ad,ae,af⟩,ag,ah,hn⟩:=g
 subst hn
 have ai:=ZC (a.length)
 try simp only [*,go_sem,seval]
 refine Ze h (fun _ h=>?_) fun _ h=>?_<;>try simp only [*,go_sem,seval]
 cases h
 try simp only [*,go_sem,seval]
 obtain ⟨aj,D,h⟩:=Za h
 refine Zb (XF D) ?_
 obtain ⟨E,h⟩:=Zx h
 try simp only [Nat.reduceLeDiff] at E
 cases h
 try simp only [*,go_sem,seval]
theorem ZfI {append_0:Zv} {String_1:Zc} {a_2:(List Zl)} {r:((List Zl) × Bool)} (h:ZaD append_0 String_1 a_2=some r):Zn Tryz.prog J0 106 [(true,QQ append_0),(true,Zq String_1),(false,[.sl 192 2 (List.map Z6 a_2)])] [(false,[(false,.sl 192 2 (List.map Z6 r.1))]),(false,[(false,.bool r.2)])]:=by
 refine fnk Tryz.func106 (by kernel_rfl) rfl (by kernel_rfl) (by kernel_rfl) ?_
 unfold ZaD at h
 simp only [fnS,f106,Zo,go_sem,seval]
 obtain ⟨y,g,h⟩:=Za h
 refine Zb (Qa g) ?_
 try simp only [*,go_sem,seval]
 refine Ze h (fun _ h=>?_) fun _ h=>?_<;>try simp only [*,go_sem,seval]
 obtain ⟨z,k,h⟩:=Za h
 refine Zb (Zjc k) ?_
 try simp only [*,go_sem,seval]
 refine Ze h (fun _ h=>?_) fun _ h=>?_<;>try simp only [*,go_sem,seval]
 obtain ⟨A,l,h⟩:=Za h
 refine Zb (QF l) ?_
 try simp only [*,go_sem,seval]
 iterate 3 refine Ze h (fun _ h=>?_) fun _ h=>?_<;>try simp only [*,go_sem,seval]
 cases h
 try simp only [*,go_sem,seval]
 obtain ⟨B,m,h⟩:=Za h
 refine Zb (ZfS m) ?_
 try simp only [*,go_sem,seval]
 refine Zg h (fun i a st=>IV [(4,.bp 0 0),(8,.p false [.row 1]),(45,.p false [.c (.sl 9 1 (List.map Zu append_0.args))]),(46,.p false [.c (.int .i64 ((append_0.args.length:Nat):Int))]),(47,.p false [.c (.int .i64 ((i:Nat):Int))])] [.box 57 [.c (.str String_1.rel),.c (.sl 9 1 (List.map Zu String_1.args))],.row 192 2 (List.map Z6 a) 2] st) [] [16,544] (by decide) ?_ ?_ ?_
 simp only [*,go_sem,seval]
 rintro C D a ⟨sl,ob,n⟩ E b d o h e
 simp only [go_sem,seval,Zd] at d
 obtain ⟨⟨F,G,q,H,I⟩,J,K,hn⟩:=d
 subst hn
 have t:=WF.slotL o q (j:=0) rfl
 have L:=ZF b
 have M:=ZJ b
 have N:=Zi (ZE b) t
 try simp only [*,go_sem,seval]
 obtain ⟨O,u,h⟩:=Za h
 refine Zb (Qg u) ?_
 try simp only [*,go_sem,seval]
 refine Ze h (fun _ h=>?_) fun _ h=>?_<;>try simp only [*,go_sem,seval]
 obtain ⟨P,Q,R,v,h⟩:=Zgn h
 simp only [Int.toNat_natCast] at v
 try simp only [*,go_sem,seval]
 refine Ze h (fun _ h=>?_) fun _ h=>?_<;>try simp only [*,go_sem,seval]
 refine ⟨_,[],[0,1],(Option.some.inj h).symm,by decide,?_⟩
 try simp only [*,go_sem,seval]
 replace h:=Zs h e
 cases h
 try simp only [*,go_sem,seval]
 obtain ⟨S,T,U,w,h⟩:=Zgn h
 simp only [Int.toNat_natCast] at w
 try simp only [*,go_sem,seval]
 obtain ⟨V,x,h⟩:=Za h
 refine Zb (ZnU x) ?_
 try simp only [*,go_sem,seval]
 refine Ze h (fun _ h=>?_) fun _ h=>?_<;>try simp only [*,go_sem,seval]
 refine ⟨_,[],[0,242],(Option.some.inj h).symm,by decide,?_⟩
 try simp only [*,go_sem,seval]
 replace h:=Zs h e
 cases h
 try simp only [*,go_sem,seval]
 rintro a ⟨sl,ob,n⟩ f W h
 simp only [go_sem,seval,Zd] at f
 obtain ⟨⟨X,Y,Z,aa,ab⟩,ac,ad,hn⟩:=f
 subst hn
 have ae:=ZC (append_0.args.length)
 iterate 5 (cases h;try simp only [*,go_sem,seval])
theorem ZfQ {x_0:Zm} {r:Bool} (h:Zdf x_0=some r):Zn Tryz.prog J0 181 [(true,ZM x_0)] [(false,[(false,.bool r)])]:=by
 refine fnk Tryz.func181 (by kernel_rfl) rfl (by kernel_rfl) (by kernel_rfl) ?_
 unfold Zdf at h
 have a:Zcf ⟨#[]⟩=true:=by decide
 simp only [fnS,f181,Zo,go_sem,seval,a]
 refine Ze h (fun _ h=>?_) fun _ h=>?_<;>try simp only [*,go_sem,seval]
 obtain ⟨o,b,h⟩:=Za h
 refine Zb (Qa b) ?_
 try simp only [*,go_sem,seval]
 iterate 2 refine Ze h (fun _ h=>?_) fun _ h=>?_<;>try simp only [*,go_sem,seval]
 iterate 3 (cases h;try simp only [*,go_sem,seval])
 refine Ze h (fun _ h=>?_) fun _ h=>?_<;>try simp only [*,go_sem,seval]
 obtain ⟨p,c,h⟩:=Za h
 refine Zb (Qa c) ?_
 try simp only [*,go_sem,seval]
 iterate 2 refine Ze h (fun _ h=>?_) fun _ h=>?_<;>try simp only [*,go_sem,seval]
 iterate 3 (cases h;try simp only [*,go_sem,seval])
 refine Ze h (fun _ h=>?_) fun _ h=>?_<;>try simp only [*,go_sem,seval]
 obtain ⟨q,d,h⟩:=Za h
 refine Zb (QP d) ?_
 try simp only [*,go_sem,seval]
 refine Ze h (fun _ h=>?_) fun _ h=>?_<;>try simp only [*,go_sem,seval]
 obtain ⟨t,e,h⟩:=Za h
 refine Zb (QP e) ?_
 try simp only [*,go_sem,seval]
 refine Ze h (fun _ h=>?_) fun _ h=>?_<;>try simp only [*,go_sem,seval]
 obtain ⟨u,f,h⟩:=Za h
 refine Zb (QZ f) ?_
 iterate 3 (cases h;try simp only [*,go_sem,seval])
 refine Ze h (fun _ h=>?_) fun _ h=>?_<;>try simp only [*,go_sem,seval]
 obtain ⟨v,g,h⟩:=Za h
 refine Zb (QP g) ?_
 try simp only [*,go_sem,seval]
 refine Ze h (fun _ h=>?_) fun _ h=>?_<;>try simp only [*,go_sem,seval]
 obtain ⟨w,i,h⟩:=Za h
 refine Zb (QP i) ?_
 try simp only [*,go_sem,seval]
 refine Ze h (fun _ h=>?_) fun _ h=>?_<;>try simp only [*,go_sem,seval]
 obtain ⟨x,j,h⟩:=Za h
 refine Zb (QZ j) ?_
 iterate 3 (cases h;try simp only [*,go_sem,seval])
 refine Ze h (fun _ h=>?_) fun _ h=>?_<;>try simp only [*,go_sem,seval]
 obtain ⟨y,k,h⟩:=Za h
 refine Zb (QP k) ?_
 try simp only [*,go_sem,seval]
 refine Ze h (fun _ h=>?_) fun _ h=>?_<;>try simp only [*,go_sem,seval]
 obtain ⟨z,l,h⟩:=Za h
 refine Zb (QP l) ?_
 try simp only [*,go_sem,seval]
 refine Ze h (fun _ h=>?_) fun _ h=>?_<;>try simp only [*,go_sem,seval]
 obtain ⟨A,m,h⟩:=Za h
 refine Zb (QZ m) ?_
 iterate 4 (cases h;try simp only [*,go_sem,seval])
theorem Zd4 {p_0:Zv} {b_1:(List Zl)} {r:(Zc × Bool)} (h:Ql p_0 b_1=some r):Zn Tryz.prog J0 89 [(true,QQ p_0),(false,[.sl 192 2 (List.map Z6 b_1)])] [(true,[(false,.str r.1.rel),(false,.sl 9 1 (List.map Zu r.1.args))]),(false,[(false,.bool r.2)])]:=by
 refine fnk Tryz.func89 (by kernel_rfl) rfl (by kernel_rfl) (by kernel_rfl) ?_
 unfold Ql at h
 simp only [fnS,f89,Zo,go_sem,seval]
 obtain ⟨u,f,h⟩:=Za h
 refine Zb (Qa f) ?_
 try simp only [*,go_sem,seval]
 refine Ze h (fun _ h=>?_) fun _ h=>?_<;>try simp only [*,go_sem,seval]
 obtain ⟨v,g,h⟩:=Za h
 refine Zb (QF g) ?_
 try simp only [*,go_sem,seval]
 refine Ze h (fun _ h=>?_) fun _ h=>?_<;>try simp only [*,go_sem,seval]
 refine Zg h (fun i a st=>IV [(1,.p false [.c (.sl 192 2 (List.map Z6 b_1))]),(4,.bp 0 0),(6,.bp 1 0),(24,.p false [.c (.sl 9 1 (List.map Zu p_0.args))]),(25,.p false [.c (.int .i64 ((p_0.args.length:Nat):Int))]),(26,.p false [.c (.int .i64 ((i:Nat):Int))])] [.box 57 [.c (.str ⟨#[]⟩),.nil 9 1],.box 57 [.c (.str p_0.rel),.row 2],.row 9 1 (List.map Zu a) 2] st) [(true,224,1)] [16,224,320] (by decide) ?_ ?_ ?_
 simp only [*,go_sem,seval]
 rintro w x a ⟨sl,ob,n⟩ y b d k h l
 simp only [go_sem,seval,Zd] at d
 obtain ⟨⟨z,A,B,m,C,D⟩,E,F,G,hn⟩:=d
 subst hn
 have o:=WF.slotL k m (j:=0) rfl
 have H:=ZF b
 have I:=ZJ b
 have J:=Zi (ZE b) o
 try simp only [*,go_sem,seval]
 obtain ⟨K,q,h⟩:=Za h
 refine Zb (Zcp q) ?_
 try simp only [*,go_sem,seval]
 refine Ze h (fun _ h=>?_) fun _ h=>?_<;>try simp only [*,go_sem,seval]
 obtain ⟨t,h⟩:=Zx h
 try simp only [Nat.reduceLeDiff] at t
 try simp only [*,go_sem,seval]
 refine ⟨_,[],[0,1,291],(Option.some.inj h).symm,by decide,?_⟩
 try simp only [*,go_sem,seval]
 replace h:=Zs h l
 cases h
 try simp only [*,go_sem,seval]
 rintro a ⟨sl,ob,n⟩ e L h
 simp only [go_sem,seval,Zd] at e
 obtain ⟨⟨M,N,O,P,Q,R⟩,S,T,U,hn⟩:=e
 subst hn
 have V:=ZC (p_0.args.length)
 iterate 3 (cases h;try simp only [*,go_sem,seval])
theorem Zfg {r_0:Zf} {k_1:Int} {v_2:ByteArray} {r:Bool} (h:XB r_0 k_1 v_2=some r):Zn Tryz.prog J0 250 [(true,ZB r_0),(false,[.int .i64 k_1]),(false,[.str v_2])] [(false,[(false,.bool r)])]:=by
 refine fnk Tryz.func250 (by kernel_rfl) rfl (by kernel_rfl) (by kernel_rfl) ?_
 unfold XB at h
 simp only [fnS,f250,Zo,go_sem,seval]
 refine Zg h (fun i _ st=>IV [(1,.p false [.c (.int .i64 k_1)]),(2,.p false [.c (.str v_2)]),(3,.bp 0 0),(12,.p false [.c (.sl 130 5 (List.map ZM r_0.cond))]),(13,.p false [.c (.int .i64 ((r_0.cond.length:Nat):Int))]),(14,.p false [.c (.int .i64 ((i:Nat):Int))])] [.box 82 [.c (.str r_0.name),.c (.int .i64 r_0.priority),.c (.sl 130 5 (List.map ZM r_0.cond)),.c (.sl 134 3 (List.map ZA r_0.thn))]] st) [] [0] (by decide) ?_ ?_ ?_
 simp only [*,go_sem,seval]
 rintro z A ⟨⟩ ⟨sl,ob,n⟩ B a d k h l
 simp only [go_sem,seval,Zd] at d
 obtain ⟨⟨C,D,E,m,F,G⟩,H,hn⟩:=d
 subst hn
 have o:=WF.slotL k m (j:=0) rfl
 have I:=ZF a
 have J:=ZJ a
 have K:=Zi (ZE a) o
 try simp only [*,go_sem,seval]
 refine Ze h (fun _ h=>?_) fun _ h=>?_<;>try simp only [*,go_sem,seval]
 obtain ⟨L,q,h⟩:=Za h
 refine Zb (ZbT q) ?_
 try simp only [*,go_sem,seval]
 obtain ⟨M,t,h⟩:=Za h
 refine Zb (Q5 t) ?_
 try simp only [*,go_sem,seval]
 refine Ze h (fun _ h=>?_) fun _ h=>?_<;>try simp only [*,go_sem,seval]
 replace h:=Zs h l
 cases h
 try simp only [*,go_sem,seval]
 refine ⟨_,[],[0],(Option.some.inj h).symm,by decide,?_⟩
 try simp only [*,go_sem,seval]
 refine ⟨_,[],[0],(Option.some.inj h).symm,by decide,?_⟩
 try simp only [*,go_sem,seval]
 rintro ⟨⟩ ⟨sl,ob,n⟩ e N h
 simp only [go_sem,seval,Zd] at e
 obtain ⟨⟨O,P,Q,R,S,T⟩,U,hn⟩:=e
 subst hn
 have V:=ZC (r_0.cond.length)
 try simp only [*,go_sem,seval]
 refine Zg h (fun i _ st=>IV [(2,.p false [.c (.str v_2)]),(30,.p false [.c (.sl 134 3 (List.map ZA r_0.thn))]),(31,.p false [.c (.int .i64 ((r_0.thn.length:Nat):Int))]),(32,.p false [.c (.int .i64 ((i:Nat):Int))])] [] st) [] [] (by decide) ?_ ?_ ?_
 simp only [*,go_sem,seval]
 rintro W X ⟨⟩ ⟨sl,ob,n⟩ Y b f u h v
 simp only [go_sem,seval,Zd] at f
 obtain ⟨⟨Z,w,aa,ab⟩,hn⟩:=f
 subst hn
 have x:=WF.slotL u w (j:=0) rfl
 have ac:=ZF b
 have ad:=ZJ b
 have ae:=Zi (ZE b) x
 try simp only [*,go_sem,seval]
 obtain ⟨af,y,h⟩:=Za h
 refine Zb (Q5 y) ?_
 try simp only [*,go_sem,seval]
 refine Ze h (fun _ h=>?_) fun _ h=>?_<;>try simp only [*,go_sem,seval]
 replace h:=Zs h v
 cases h
 try simp only [*,go_sem,seval]
 refine ⟨_,[],[],(Option.some.inj h).symm,by decide,?_⟩
 try simp only [*,go_sem,seval]
 rintro ⟨⟩ ⟨sl,ob,n⟩ g ag h
 simp only [go_sem,seval,Zd] at g
 obtain ⟨⟨ah,ai,aj,ak⟩,hn⟩:=g
 subst hn
 have al:=ZC (r_0.thn.length)
 cases h
 try simp only [*,go_sem,seval]
theorem ZlN {a_0:Zr} {r:Bool} (h:ZcH a_0=some r):Zn Tryz.prog J0 228 [(true,ZA a_0)] [(false,[(false,.bool r)])]:=by
 refine fnk Tryz.func228 (by kernel_rfl) rfl (by kernel_rfl) (by kernel_rfl) ?_
 unfold ZcH at h
 simp only [fnS,f228,Zo,go_sem,seval]
 refine Ze h (fun _ h=>?_) fun _ h=>?_<;>try simp only [*,go_sem,seval]
 obtain ⟨d,a,h⟩:=Za h
 refine Zb (Qa a) ?_
 cases h
 try simp only [*,go_sem,seval]
 refine Ze h (fun _ h=>?_) fun _ h=>?_<;>try simp only [*,go_sem,seval]
 obtain ⟨e,b,h⟩:=Za h
 refine Zb (Qa b) ?_
 cases h
 try simp only [*,go_sem,seval]
 refine Ze h (fun _ h=>?_) fun _ h=>?_<;>try simp only [*,go_sem,seval]
 obtain ⟨f,c,h⟩:=Za h
 refine Zb (QZ c) ?_
 iterate 2 (cases h;try simp only [*,go_sem,seval])
theorem ZjC {l_0:(List Zm)} {r:(List ByteArray)} (h:Zbj l_0=some r):Zn Tryz.prog J0 230 [(false,[.sl 130 5 (List.map ZM l_0)])] [(false,[(false,.sl 9 1 (List.map Zu r))])]:=by
 refine fnk Tryz.func230 (by kernel_rfl) rfl (by kernel_rfl) (by kernel_rfl) ?_
 unfold Zbj at h
 simp only [fnS,f230,Zo,go_sem,seval]
 refine Zg h (fun i a st=>IV [(3,.p false [.row 0]),(6,.p false [.c (.sl 130 5 (List.map ZM l_0))]),(7,.p false [.c (.int .i64 ((l_0.length:Nat):Int))]),(8,.p false [.c (.int .i64 ((i:Nat):Int))])] [.row 9 1 (List.map Zu a) 2] st) [(false,3,0)] [80] (by decide) ?_ ?_ ?_
 simp only [*,go_sem,seval]
 rintro o q a ⟨sl,ob,n⟩ t b d f h u
 simp only [go_sem,seval,Zd] at d
 obtain ⟨⟨v,g,w,x⟩,y,hn⟩:=d
 subst hn
 have k:=WF.slotL f g (j:=0) rfl
 have z:=ZF b
 have A:=ZJ b
 have B:=Zi (ZE b) k
 try simp only [*,go_sem,seval]
 obtain ⟨C,l,h⟩:=Za h
 refine Zb (ZbT l) ?_
 obtain ⟨m,h⟩:=Zx h
 try simp only [Nat.reduceLeDiff] at m
 try simp only [*,go_sem,seval]
 refine ⟨_,[],[129],(Option.some.inj h).symm,by decide,?_⟩
 try simp only [*,go_sem,seval]
 rintro a ⟨sl,ob,n⟩ e D h
 simp only [go_sem,seval,Zd] at e
 obtain ⟨⟨E,F,G,H⟩,I,hn⟩:=e
 subst hn
 have J:=ZC (l_0.length)
 cases h
 try simp only [*,go_sem,seval]
end Go.Proofs.YtojnhepgnbhaaaaGreatDoor
namespace Go.Proofs.YtojnhepgnbhaaaaGreatDoor
open Go.Proofs.Tryz
set_option linter.unusedSimpArgs false
set_option linter.unusedVariables false
set_option maxRecDepth 1000000
set_option maxHeartbeats 4000000
theorem ZlL {l_0:(List Zc)} {r:Bool} (h:ZcU l_0=some r):Zn Tryz.prog J0 133 [(false,[.sl 57 2 (List.map Zq l_0)])] [(false,[(false,.bool r)])]:=by
 refine fnk Tryz.func133 (by kernel_rfl) rfl (by kernel_rfl) (by kernel_rfl) ?_
 unfold ZcU at h
 simp only [fnS,f133,Zo,go_sem,seval]
 refine Ze h (fun _ h=>?_) fun _ h=>?_<;>try simp only [*,go_sem,seval]
 cases h
 try simp only [*,go_sem,seval]
 refine Zg h (fun i _ st=>IV [(0,.p false [.c (.sl 57 2 (List.map Zq l_0))]),(8,.p false [.c (.sl 57 2 (List.map Zq l_0))]),(9,.p false [.c (.int .i64 ((l_0.length:Nat):Int))]),(10,.p false [.c (.int .i64 ((i:Nat):Int))])] [] st) [] [] (by decide) ?_ ?_ ?_
 simp only [*,go_sem,seval]
 rintro o q ⟨⟩ ⟨sl,ob,n⟩ t a b f h d
 simp only [go_sem,seval,Zd] at b
 obtain ⟨⟨g,u,v,w⟩,hn⟩:=b
 subst hn
 have k:=WF.slotL f g (j:=0) rfl
 have x:=ZF a
 have y:=ZJ a
 have z:=Zi (ZE a) k
 try simp only [*,go_sem,seval]
 obtain ⟨A,l,h⟩:=Za h
 refine Zb (Zjc l) ?_
 try simp only [*,go_sem,seval]
 iterate 2 refine Ze h (fun _ h=>?_) fun _ h=>?_<;>try simp only [*,go_sem,seval]
 obtain ⟨B,C,D,E,h⟩:=Zgn h
 try simp only [*,go_sem,seval]
 obtain ⟨F,m,h⟩:=Za h
 refine Zb (ZdF m) ?_
 try simp only [*,go_sem,seval]
 refine Ze h (fun _ h=>?_) fun _ h=>?_<;>try simp only [*,go_sem,seval]
 replace h:=Zs h d
 cases h
 try simp only [*,go_sem,seval]
 refine ⟨_,[],[],(Option.some.inj h).symm,by decide,?_⟩
 try simp only [*,go_sem,seval]
 refine ⟨_,[],[],(Option.some.inj h).symm,by decide,?_⟩
 try simp only [*,go_sem,seval]
 replace h:=Zs h d
 cases h
 try simp only [*,go_sem,seval]
 rintro ⟨⟩ ⟨sl,ob,n⟩ e G h
 simp only [go_sem,seval,Zd] at e
 obtain ⟨⟨H,I,J,K⟩,hn⟩:=e
 subst hn
 have L:=ZC (l_0.length)
 cases h
 try simp only [*,go_sem,seval]
theorem ZnP {a:(List Zc)} {f_1:Zc} {r:(List Zc)} (h:X2 a f_1=some r):Zn Tryz.prog J0 135 [(false,[.sl 57 2 (List.map Zq a)]),(true,Zq f_1)] [(false,[(false,.sl 57 2 (List.map Zq r))])]:=by
 refine fnk Tryz.func135 (by kernel_rfl) rfl (by kernel_rfl) (by kernel_rfl) ?_
 unfold X2 at h
 simp only [fnS,f135,Zo,go_sem,seval]
 refine Zg h (fun i s st=>match s with | (b,d)=>IV [(3,.bp 0 0),(5,.p false [.row 1]),(6,.p false [.c (.bool d)]),(9,.p false [.c (.sl 57 2 (List.map Zq a))]),(10,.p false [.c (.int .i64 ((a.length:Nat):Int))]),(11,.p false [.c (.int .i64 ((i:Nat):Int))])] [.box 57 [.c (.str f_1.rel),.c (.sl 9 1 (List.map Zu f_1.args))],.row 57 2 (List.map Zq b) 2] st) [(false,5,0)] [0,112] (by decide) ?_ ?_ ?_
 simp only [*,go_sem,seval]
 rintro D E ⟨b,d⟩ ⟨sl,ob,n⟩ F e f l h G
 simp only [go_sem,seval,Zd] at f
 obtain ⟨⟨H,I,J,m,K,L⟩,M,N,hn⟩:=f
 subst hn
 have o:=WF.slotL l m (j:=0) rfl
 have O:=ZF e
 have P:=ZJ e
 have Q:=Zi (ZE e) o
 try simp only [*,go_sem,seval]
 refine Ze h (fun _ h=>?_) fun _ h=>?_<;>try simp only [*,go_sem,seval]
 obtain ⟨R,q,h⟩:=Za h
 refine Zb (Xf q) ?_
 obtain ⟨t,h⟩:=Zx h
 try simp only [Nat.reduceLeDiff] at t
 try simp only [*,go_sem,seval]
 refine ⟨_,[],[0,274],(Option.some.inj h).symm,by decide,?_⟩
 try simp only [*,go_sem,seval]
 obtain ⟨S,u,h⟩:=Za h
 refine Zb (ZdF u) ?_
 try simp only [*,go_sem,seval]
 refine Ze h (fun _ h=>?_) fun _ h=>?_<;>try simp only [*,go_sem,seval]
 obtain ⟨T,v,h⟩:=Za h
 refine Zb (Xf v) ?_
 obtain ⟨w,h⟩:=Zx h
 try simp only [Nat.reduceLeDiff] at w
 try simp only [*,go_sem,seval]
 obtain ⟨U,x,h⟩:=Za h
 refine Zb (Xf x) ?_
 obtain ⟨y,h⟩:=Zx h
 try simp only [Nat.reduceLeDiff] at y
 try simp only [*,go_sem,seval]
 refine ⟨_,[],[0,386],(Option.some.inj h).symm,by decide,?_⟩
 try simp only [*,go_sem,seval]
 obtain ⟨V,z,h⟩:=Za h
 refine Zb (Xf z) ?_
 obtain ⟨A,h⟩:=Zx h
 try simp only [Nat.reduceLeDiff] at A
 try simp only [*,go_sem,seval]
 refine ⟨_,[],[0,274],(Option.some.inj h).symm,by decide,?_⟩
 try simp only [*,go_sem,seval]
 rintro ⟨b,d⟩ ⟨sl,ob,n⟩ g W h
 simp only [go_sem,seval,Zd] at g
 obtain ⟨⟨X,Y,Z,aa,ab,ac⟩,ad,ae,hn⟩:=g
 subst hn
 have af:=ZC (a.length)
 try simp only [*,go_sem,seval]
 refine Ze h (fun _ h=>?_) fun _ h=>?_<;>try simp only [*,go_sem,seval]
 cases h
 try simp only [*,go_sem,seval]
 obtain ⟨ag,B,h⟩:=Za h
 refine Zb (Xf B) ?_
 obtain ⟨C,h⟩:=Zx h
 try simp only [Nat.reduceLeDiff] at C
 cases h
 try simp only [*,go_sem,seval]
end Go.Proofs.YtojnhepgnbhaaaaGreatDoor
namespace Go.Proofs.YtojnhepgnbhaaaaGreatDoor
open Go.Proofs.Tryz
set_option linter.unusedSimpArgs false
set_option linter.unusedVariables false
set_option maxRecDepth 1000000
set_option maxHeartbeats 4000000
theorem Zfh {append_0:Zv} {String_1:Zc} {a_2:(List Zl)} {r:((List Zl) × Bool)} (h:ZaO append_0 String_1 a_2=some r):Zn Tryz.prog J0 103 [(true,QQ append_0),(true,Zq String_1),(false,[.sl 192 2 (List.map Z6 a_2)])] [(false,[(false,.sl 192 2 (List.map Z6 r.1))]),(false,[(false,.bool r.2)])]:=by
 refine fnk Tryz.func103 (by kernel_rfl) rfl (by kernel_rfl) (by kernel_rfl) ?_
 unfold ZaO at h
 simp only [fnS,f103,Zo,go_sem,seval]
 obtain ⟨y,g,h⟩:=Za h
 refine Zb (X3 g) ?_
 try simp only [*,go_sem,seval]
 refine Ze h (fun _ h=>?_) fun _ h=>?_<;>try simp only [*,go_sem,seval]
 obtain ⟨z,k,h⟩:=Za h
 refine Zb (Zjl k) ?_
 try simp only [*,go_sem,seval]
 refine Ze h (fun _ h=>?_) fun _ h=>?_<;>try simp only [*,go_sem,seval]
 obtain ⟨A,l,h⟩:=Za h
 refine Zb (QM l) ?_
 try simp only [*,go_sem,seval]
 iterate 3 refine Ze h (fun _ h=>?_) fun _ h=>?_<;>try simp only [*,go_sem,seval]
 cases h
 try simp only [*,go_sem,seval]
 obtain ⟨B,m,h⟩:=Za h
 refine Zb (Zf4 m) ?_
 try simp only [*,go_sem,seval]
 refine Zg h (fun i a st=>IV [(3,.bp 0 0),(4,.bp 1 0),(8,.p false [.row 2]),(9,.p false [.c (.int .i64 ((i:Nat):Int))])] [.box 49 [.c (.str append_0.rel),.c (.sl 9 1 (List.map Zu append_0.args))],.box 57 [.c (.str String_1.rel),.c (.sl 9 1 (List.map Zu String_1.args))],.row 192 2 (List.map Z6 a) 2] st) [] [0,16,544] (by decide) ?_ ?_ ?_
 simp only [*,go_sem,seval]
 rintro C D a ⟨sl,ob,n⟩ E b d o h e
 simp only [go_sem,seval,Zd] at d
 obtain ⟨⟨F,G,H,I⟩,q,J,K,hn⟩:=d
 subst hn
 have t:=WF.boxL o q (j:=1) rfl
 have L:=ZF b
 have M:=ZJ b
 have N:=Zi (ZE b) t
 try simp only [*,go_sem,seval]
 obtain ⟨O,u,h⟩:=Za h
 refine Zb (Qc u) ?_
 try simp only [*,go_sem,seval]
 refine Ze h (fun _ h=>?_) fun _ h=>?_<;>try simp only [*,go_sem,seval]
 obtain ⟨P,Q,R,v,h⟩:=Zgn h
 simp only [Int.toNat_natCast] at v
 try simp only [*,go_sem,seval]
 refine Ze h (fun _ h=>?_) fun _ h=>?_<;>try simp only [*,go_sem,seval]
 refine ⟨_,[],[0,1,2],(Option.some.inj h).symm,by decide,?_⟩
 try simp only [*,go_sem,seval]
 replace h:=Zs h e
 cases h
 try simp only [*,go_sem,seval]
 obtain ⟨S,T,U,w,h⟩:=Zgn h
 simp only [Int.toNat_natCast] at w
 try simp only [*,go_sem,seval]
 obtain ⟨V,x,h⟩:=Za h
 refine Zb (Zpe x) ?_
 try simp only [*,go_sem,seval]
 refine Ze h (fun _ h=>?_) fun _ h=>?_<;>try simp only [*,go_sem,seval]
 refine ⟨_,[],[0,1,355],(Option.some.inj h).symm,by decide,?_⟩
 try simp only [*,go_sem,seval]
 replace h:=Zs h e
 cases h
 try simp only [*,go_sem,seval]
 rintro a ⟨sl,ob,n⟩ f W h
 simp only [go_sem,seval,Zd] at f
 obtain ⟨⟨X,Y,Z,aa⟩,ab,ac,ad,hn⟩:=f
 subst hn
 have ae:=ZC (append_0.args.length)
 iterate 5 (cases h;try simp only [*,go_sem,seval])
theorem ZfK {x_0:Zm} {r:Bool} (h:Zc9 x_0=some r):Zn Tryz.prog J0 202 [(true,ZM x_0)] [(false,[(false,.bool r)])]:=by
 refine fnk Tryz.func202 (by kernel_rfl) rfl (by kernel_rfl) (by kernel_rfl) ?_
 unfold Zc9 at h
 have a:Zcf ⟨#[]⟩=true:=by decide
 simp only [fnS,f202,Zo,go_sem,seval,a]
 refine Ze h (fun _ h=>?_) fun _ h=>?_<;>try simp only [*,go_sem,seval]
 obtain ⟨k,b,h⟩:=Za h
 refine Zb (X3 b) ?_
 try simp only [*,go_sem,seval]
 iterate 2 refine Ze h (fun _ h=>?_) fun _ h=>?_<;>try simp only [*,go_sem,seval]
 iterate 3 (cases h;try simp only [*,go_sem,seval])
 refine Ze h (fun _ h=>?_) fun _ h=>?_<;>try simp only [*,go_sem,seval]
 obtain ⟨l,c,h⟩:=Za h
 refine Zb (X3 c) ?_
 try simp only [*,go_sem,seval]
 iterate 2 refine Ze h (fun _ h=>?_) fun _ h=>?_<;>try simp only [*,go_sem,seval]
 iterate 3 (cases h;try simp only [*,go_sem,seval])
 iterate 3 refine Ze h (fun _ h=>?_) fun _ h=>?_<;>try simp only [*,go_sem,seval]
 obtain ⟨m,d,h⟩:=Za h
 refine Zb (QB d) ?_
 try simp only [*,go_sem,seval]
 refine Ze h (fun _ h=>?_) fun _ h=>?_<;>try simp only [*,go_sem,seval]
 obtain ⟨o,e,h⟩:=Za h
 refine Zb (QB e) ?_
 iterate 4 (cases h;try simp only [*,go_sem,seval])
 iterate 3 refine Ze h (fun _ h=>?_) fun _ h=>?_<;>try simp only [*,go_sem,seval]
 obtain ⟨p,f,h⟩:=Za h
 refine Zb (QB f) ?_
 try simp only [*,go_sem,seval]
 refine Ze h (fun _ h=>?_) fun _ h=>?_<;>try simp only [*,go_sem,seval]
 obtain ⟨q,g,h⟩:=Za h
 refine Zb (QB g) ?_
 iterate 4 (cases h;try simp only [*,go_sem,seval])
 iterate 3 refine Ze h (fun _ h=>?_) fun _ h=>?_<;>try simp only [*,go_sem,seval]
 obtain ⟨t,i,h⟩:=Za h
 refine Zb (QB i) ?_
 try simp only [*,go_sem,seval]
 refine Ze h (fun _ h=>?_) fun _ h=>?_<;>try simp only [*,go_sem,seval]
 obtain ⟨u,j,h⟩:=Za h
 refine Zb (QB j) ?_
 iterate 5 (cases h;try simp only [*,go_sem,seval])
theorem ZdZ {p_0:Zv} {b_1:(List Zl)} {r:(Zc × Bool)} (h:Xi p_0 b_1=some r):Zn Tryz.prog J0 116 [(true,QQ p_0),(false,[.sl 192 2 (List.map Z6 b_1)])] [(true,[(false,.str r.1.rel),(false,.sl 9 1 (List.map Zu r.1.args))]),(false,[(false,.bool r.2)])]:=by
 refine fnk Tryz.func116 (by kernel_rfl) rfl (by kernel_rfl) (by kernel_rfl) ?_
 unfold Xi at h
 simp only [fnS,f116,Zo,go_sem,seval]
 obtain ⟨u,f,h⟩:=Za h
 refine Zb (X3 f) ?_
 try simp only [*,go_sem,seval]
 refine Ze h (fun _ h=>?_) fun _ h=>?_<;>try simp only [*,go_sem,seval]
 obtain ⟨v,g,h⟩:=Za h
 refine Zb (QM g) ?_
 try simp only [*,go_sem,seval]
 refine Ze h (fun _ h=>?_) fun _ h=>?_<;>try simp only [*,go_sem,seval]
 refine Zg h (fun i a st=>IV [(1,.p false [.c (.sl 192 2 (List.map Z6 b_1))]),(2,.bp 0 0),(4,.bp 1 0),(6,.bp 2 0),(7,.p false [.c (.int .i64 ((i:Nat):Int))])] [.box 49 [.c (.str p_0.rel),.c (.sl 9 1 (List.map Zu p_0.args))],.box 57 [.c (.str ⟨#[]⟩),.nil 9 1],.box 57 [.c (.str p_0.rel),.row 3],.row 9 1 (List.map Zu a) 2] st) [(true,224,1)] [0,16,224,272] (by decide) ?_ ?_ ?_
 simp only [*,go_sem,seval]
 rintro w x a ⟨sl,ob,n⟩ y b d k h l
 simp only [go_sem,seval,Zd] at d
 obtain ⟨⟨z,A,B,C,D⟩,m,E,F,G,hn⟩:=d
 subst hn
 have o:=WF.boxL k m (j:=1) rfl
 have H:=ZF b
 have I:=ZJ b
 have J:=Zi (ZE b) o
 try simp only [*,go_sem,seval]
 obtain ⟨K,q,h⟩:=Za h
 refine Zb (Zcl q) ?_
 try simp only [*,go_sem,seval]
 refine Ze h (fun _ h=>?_) fun _ h=>?_<;>try simp only [*,go_sem,seval]
 obtain ⟨t,h⟩:=Zx h
 try simp only [Nat.reduceLeDiff] at t
 try simp only [*,go_sem,seval]
 refine ⟨_,[],[0,1,2,372],(Option.some.inj h).symm,by decide,?_⟩
 try simp only [*,go_sem,seval]
 replace h:=Zs h l
 cases h
 try simp only [*,go_sem,seval]
 rintro a ⟨sl,ob,n⟩ e L h
 simp only [go_sem,seval,Zd] at e
 obtain ⟨⟨M,N,O,P,Q⟩,R,S,T,U,hn⟩:=e
 subst hn
 have V:=ZC (p_0.args.length)
 iterate 3 (cases h;try simp only [*,go_sem,seval])
theorem Zea {r_0:Zf} {i_1:Int} {v_2:ByteArray} {r:Bool} (h:XS r_0 i_1 v_2=some r):Zn Tryz.prog J0 223 [(true,ZB r_0),(false,[.int .i64 i_1]),(false,[.str v_2])] [(false,[(false,.bool r)])]:=by
 refine fnk Tryz.func223 (by kernel_rfl) rfl (by kernel_rfl) (by kernel_rfl) ?_
 unfold XS at h
 simp only [fnS,f223,Zo,go_sem,seval]
 refine Zg h (fun i _ st=>IV [(1,.p false [.c (.int .i64 i_1)]),(2,.p false [.c (.str v_2)]),(3,.bp 0 0),(7,.p false [.c (.int .i64 ((i:Nat):Int))])] [.box 82 [.c (.str r_0.name),.c (.int .i64 r_0.priority),.c (.sl 130 5 (List.map ZM r_0.cond)),.c (.sl 134 3 (List.map ZA r_0.thn))]] st) [] [0] (by decide) ?_ ?_ ?_
 simp only [*,go_sem,seval]
 rintro A B ⟨⟩ ⟨sl,ob,n⟩ C a d k h l
 simp only [go_sem,seval,Zd] at d
 obtain ⟨⟨D,E,F,G⟩,m,hn⟩:=d
 subst hn
 have o:=WF.boxL k m (j:=2) rfl
 have H:=ZF a
 have I:=ZJ a
 have J:=Zi (ZE a) o
 try simp only [*,go_sem,seval]
 refine Ze h (fun _ h=>?_) fun _ h=>?_<;>try simp only [*,go_sem,seval]
 obtain ⟨K,q,h⟩:=Za h
 refine Zb (Zae q) ?_
 try simp only [*,go_sem,seval]
 obtain ⟨L,t,h⟩:=Za h
 refine Zb (YG t) ?_
 try simp only [*,go_sem,seval]
 refine Ze h (fun _ h=>?_) fun _ h=>?_<;>try simp only [*,go_sem,seval]
 replace h:=Zs h l
 cases h
 try simp only [*,go_sem,seval]
 refine ⟨_,[],[0],(Option.some.inj h).symm,by decide,?_⟩
 try simp only [*,go_sem,seval]
 refine ⟨_,[],[0],(Option.some.inj h).symm,by decide,?_⟩
 try simp only [*,go_sem,seval]
 rintro ⟨⟩ ⟨sl,ob,n⟩ e M h
 simp only [go_sem,seval,Zd] at e
 obtain ⟨⟨N,O,P,Q⟩,R,hn⟩:=e
 subst hn
 have S:=ZC (r_0.cond.length)
 try simp only [*,go_sem,seval]
 refine Zg h (fun i _ st=>IV [(2,.p false [.c (.str v_2)]),(3,.bp 0 0),(8,.p false [.c (.int .i64 ((i:Nat):Int))])] [.box 82 [.c (.str r_0.name),.c (.int .i64 r_0.priority),.c (.sl 130 5 (List.map ZM r_0.cond)),.c (.sl 134 3 (List.map ZA r_0.thn))]] st) [] [0] (by decide) ?_ ?_ ?_
 simp only [*,go_sem,seval]
 rintro T U ⟨⟩ ⟨sl,ob,n⟩ V b f u h v
 simp only [go_sem,seval,Zd] at f
 obtain ⟨⟨W,X,Y⟩,w,hn⟩:=f
 subst hn
 have x:=WF.boxL u w (j:=3) rfl
 have Z:=ZF b
 have aa:=ZJ b
 have ab:=Zi (ZE b) x
 try simp only [*,go_sem,seval]
 obtain ⟨ac,y,h⟩:=Za h
 refine Zb (Zb1 y) ?_
 try simp only [*,go_sem,seval]
 obtain ⟨ad,z,h⟩:=Za h
 refine Zb (YG z) ?_
 try simp only [*,go_sem,seval]
 refine Ze h (fun _ h=>?_) fun _ h=>?_<;>try simp only [*,go_sem,seval]
 replace h:=Zs h v
 cases h
 try simp only [*,go_sem,seval]
 refine ⟨_,[],[0],(Option.some.inj h).symm,by decide,?_⟩
 try simp only [*,go_sem,seval]
 rintro ⟨⟩ ⟨sl,ob,n⟩ g ae h
 simp only [go_sem,seval,Zd] at g
 obtain ⟨⟨af,ag,ah⟩,ai,hn⟩:=g
 subst hn
 have aj:=ZC (r_0.thn.length)
 cases h
 try simp only [*,go_sem,seval]
theorem Zl9 {a_0:Zr} {r:Bool} (h:Zdm a_0=some r):Zn Tryz.prog J0 224 [(true,ZA a_0)] [(false,[(false,.bool r)])]:=by
 refine fnk Tryz.func224 (by kernel_rfl) rfl (by kernel_rfl) (by kernel_rfl) ?_
 unfold Zdm at h
 have a:Zcf ⟨#[]⟩=true:=by decide
 simp only [fnS,f224,Zo,go_sem,seval,a]
 refine Ze h (fun _ h=>?_) fun _ h=>?_<;>try simp only [*,go_sem,seval]
 obtain ⟨d,b,h⟩:=Za h
 refine Zb (X3 b) ?_
 cases h
 try simp only [*,go_sem,seval]
 refine Ze h (fun _ h=>?_) fun _ h=>?_<;>try simp only [*,go_sem,seval]
 obtain ⟨e,c,h⟩:=Za h
 refine Zb (X3 c) ?_
 cases h
 try simp only [*,go_sem,seval]
 iterate 2 refine Ze h (fun _ h=>?_) fun _ h=>?_<;>try simp only [*,go_sem,seval]
 iterate 3 (cases h;try simp only [*,go_sem,seval])
theorem ZlS {r_0:Zf} {r:(List ByteArray)} (h:Zdg r_0=some r):Zn Tryz.prog J0 226 [(true,ZB r_0)] [(false,[(false,.sl 9 1 (List.map Zu r))])]:=by
 refine fnk Tryz.func226 (by kernel_rfl) rfl (by kernel_rfl) (by kernel_rfl) ?_
 unfold Zdg at h
 simp only [fnS,f226,Zo,go_sem,seval]
 refine Zg h (fun i row_12 st=>IV [(1,.bp 0 0),(3,.p false [.row 1]),(4,.p false [.c (.int .i64 ((i:Nat):Int))])] [.box 82 [.c (.str r_0.name),.c (.int .i64 r_0.priority),.c (.sl 130 5 (List.map ZM r_0.cond)),.c (.sl 134 3 (List.map ZA r_0.thn))],.row 9 1 (List.map Zu row_12) 2] st) [] [0,32] (by decide) ?_ ?_ ?_
 ·simp only [*,go_sem,seval]
 ·rintro i61 x62 row_12 ⟨sl,ob,n⟩ y1 hx2 hI3 hW4 h hy1
  simp only [go_sem,seval,Zd] at hI3
  obtain ⟨⟨g5_1,g5_3,g5_4⟩,og5_0,og5_1,hn⟩:=hI3
  subst hn
  have hlhx2:=WF.boxL hW4 og5_0 (j:=2) rfl
  have q6:=ZF hx2
  have q7:=ZJ hx2
  have q8:=Zi (ZE hx2) hlhx2
  try simp only [*,go_sem,seval]
  obtain ⟨v63,e9,h⟩:=Za h
  refine Zb (by have hh:=Zae e9;first|exact hh|(simp only [*,go_sem] at hh;exact hh)) ?_
  try simp only [*,go_sem,seval]
  refine Zg h (fun i row_66 st=>IV [(1,.bp 0 0),(3,.p false [.row 1]),(4,.p false [.c (.int .i64 ((i61:Nat):Int))]),(5,.p false [.row 2]),(6,.p false [.c (.int .i64 ((i:Nat):Int))])] [.box 82 [.c (.str r_0.name),.c (.int .i64 r_0.priority),.c (.sl 130 5 (List.map ZM r_0.cond)),.c (.sl 134 3 (List.map ZA r_0.thn))],.row 9 1 (List.map Zu row_66) 2,.row 9 1 (List.map Zu v63) 2] st) [] [0,1,162] (by decide) ?_ ?_ ?_
  ·simp only [*,go_sem,seval]
  ·rintro i70 x71 row_66 ⟨sl,ob,n⟩ y10 hx11 hI12 hW13 h hy10
   simp only [go_sem,seval,Zd] at hI12
   obtain ⟨⟨g14_1,g14_3,g14_4,g14_5,g14_6⟩,og14_0,og14_1,og14_2,hn⟩:=hI12
   subst hn
   have hlhx11:=WF.rowL hW13 og14_2
   have q15:=ZF hx11
   have q16:=ZJ hx11
   have q17:=Zi (ZE hx11) hlhx11
   try simp only [*,go_sem,seval]
   obtain ⟨v72,e18,h⟩:=Za h
   refine Zb (by have hh:=Xn e18;first|exact hh|(simp only [*,go_sem] at hh;exact hh)) ?_
   try simp only [*,go_sem,seval]
   refine ⟨_,[],[0,147,2],(Option.some.inj h).symm,by decide,?_⟩
   try simp only [*,go_sem,seval]
  ·rintro row_66 ⟨sl,ob,n⟩ hI19 hW20 h
   simp only [go_sem,seval,Zd] at hI19
   obtain ⟨⟨g21_1,g21_3,g21_4,g21_5,g21_6⟩,og21_0,og21_1,og21_2,hn⟩:=hI19
   subst hn
   have q22:=ZC (v63.length)
   try simp only [*,go_sem,seval]
   refine ⟨_,[],[0,1],(Option.some.inj h).symm,by decide,?_⟩
   try simp only [*,go_sem,seval]
 ·rintro row_12 ⟨sl,ob,n⟩ hI23 hW24 h
  simp only [go_sem,seval,Zd] at hI23
  obtain ⟨⟨g25_1,g25_3,g25_4⟩,og25_0,og25_1,hn⟩:=hI23
  subst hn
  have q26:=ZC (r_0.cond.length)
  try simp only [*,go_sem,seval]
  refine Zg h (fun i row_84 st=>IV [(1,.bp 0 0),(3,.p false [.row 1]),(7,.p false [.c (.int .i64 ((i:Nat):Int))])] [.box 82 [.c (.str r_0.name),.c (.int .i64 r_0.priority),.c (.sl 130 5 (List.map ZM r_0.cond)),.c (.sl 134 3 (List.map ZA r_0.thn))],.row 9 1 (List.map Zu row_84) 2] st) [] [0,1] (by decide) ?_ ?_ ?_
  ·simp only [*,go_sem,seval]
  ·rintro i97 x98 row_84 ⟨sl,ob,n⟩ y27 hx28 hI29 hW30 h hy27
   simp only [go_sem,seval,Zd] at hI29
   obtain ⟨⟨g31_1,g31_3,g31_7⟩,og31_0,og31_1,hn⟩:=hI29
   subst hn
   have hlhx28:=WF.boxL hW30 og31_0 (j:=3) rfl
   have q32:=ZF hx28
   have q33:=ZJ hx28
   have q34:=Zi (ZE hx28) hlhx28
   try simp only [*,go_sem,seval]
   obtain ⟨v99,e35,h⟩:=Za h
   refine Zb (by have hh:=Zb1 e35;first|exact hh|(simp only [*,go_sem] at hh;exact hh)) ?_
   try simp only [*,go_sem,seval]
   refine Zg h (fun i row_102 st=>IV [(1,.bp 0 0),(3,.p false [.row 1]),(7,.p false [.c (.int .i64 ((i97:Nat):Int))]),(8,.p false [.row 2]),(9,.p false [.c (.int .i64 ((i:Nat):Int))])] [.box 82 [.c (.str r_0.name),.c (.int .i64 r_0.priority),.c (.sl 130 5 (List.map ZM r_0.cond)),.c (.sl 134 3 (List.map ZA r_0.thn))],.row 9 1 (List.map Zu row_102) 2,.row 9 1 (List.map Zu v99) 2] st) [] [0,1,178] (by decide) ?_ ?_ ?_
   ·simp only [*,go_sem,seval]
   ·rintro i106 x107 row_102 ⟨sl,ob,n⟩ y36 hx37 hI38 hW39 h hy36
    simp only [go_sem,seval,Zd] at hI38
    obtain ⟨⟨g40_1,g40_3,g40_7,g40_8,g40_9⟩,og40_0,og40_1,og40_2,hn⟩:=hI38
    subst hn
    have hlhx37:=WF.rowL hW39 og40_2
    have q41:=ZF hx37
    have q42:=ZJ hx37
    have q43:=Zi (ZE hx37) hlhx37
    try simp only [*,go_sem,seval]
    obtain ⟨v108,e44,h⟩:=Za h
    refine Zb (by have hh:=Xn e44;first|exact hh|(simp only [*,go_sem] at hh;exact hh)) ?_
    try simp only [*,go_sem,seval]
    refine ⟨_,[],[0,147,2],(Option.some.inj h).symm,by decide,?_⟩
    try simp only [*,go_sem,seval]
   ·rintro row_102 ⟨sl,ob,n⟩ hI45 hW46 h
    simp only [go_sem,seval,Zd] at hI45
    obtain ⟨⟨g47_1,g47_3,g47_7,g47_8,g47_9⟩,og47_0,og47_1,og47_2,hn⟩:=hI45
    subst hn
    have q48:=ZC (v99.length)
    try simp only [*,go_sem,seval]
    refine ⟨_,[],[0,1],(Option.some.inj h).symm,by decide,?_⟩
    try simp only [*,go_sem,seval]
  ·rintro row_84 ⟨sl,ob,n⟩ hI49 hW50 h
   simp only [go_sem,seval,Zd] at hI49
   obtain ⟨⟨g51_1,g51_3,g51_7⟩,og51_0,og51_1,hn⟩:=hI49
   subst hn
   have q52:=ZC (r_0.thn.length)
   cases h
   try simp only [*,go_sem,seval]
theorem ZcQ {p_0:Zv} {b_1:(List Zl)} {facts_2:(List Zc)} {r:(List Zc)} (h:Xy p_0 b_1 facts_2=some r):Zn Tryz.prog J0 64 [(true,QQ p_0),(false,[.sl 192 2 (List.map Z6 b_1)]),(false,[.sl 57 2 (List.map Zq facts_2)])] [(false,[(false,.sl 57 2 (List.map Zq r))])]:=by
 refine fnk Tryz.func64 (by kernel_rfl) rfl (by kernel_rfl) (by kernel_rfl) ?_
 unfold Xy at h
 simp only [fnS,f64,Zo,go_sem,seval]
 refine Zg h (fun i a st=>IV [(1,.p false [.c (.sl 192 2 (List.map Z6 b_1))]),(3,.bp 0 0),(7,.p false [.row 1]),(12,.p false [.c (.sl 57 2 (List.map Zq facts_2))]),(13,.p false [.c (.int .i64 ((facts_2.length:Nat):Int))]),(14,.p false [.c (.int .i64 ((i:Nat):Int))])] [.box 49 [.c (.str p_0.rel),.c (.sl 9 1 (List.map Zu p_0.args))],.row 57 2 (List.map Zq a) 2] st) [(false,7,0)] [0,96] (by decide) ?_ ?_ ?_
 simp only [*,go_sem,seval]
 rintro q t a ⟨sl,ob,n⟩ u b d f h v
 simp only [go_sem,seval,Zd] at d
 obtain ⟨⟨w,x,y,g,z,A⟩,B,C,hn⟩:=d
 subst hn
 have k:=WF.slotL f g (j:=0) rfl
 have D:=ZF b
 have E:=ZJ b
 have F:=Zi (ZE b) k
 try simp only [*,go_sem,seval]
 obtain ⟨G,l,h⟩:=Za h
 refine Zb (ZfI l) ?_
 try simp only [*,go_sem,seval]
 refine Ze h (fun _ h=>?_) fun _ h=>?_<;>try simp only [*,go_sem,seval]
 obtain ⟨H,m,h⟩:=Za h
 refine Zb (Xf m) ?_
 obtain ⟨o,h⟩:=Zx h
 try simp only [Nat.reduceLeDiff] at o
 try simp only [*,go_sem,seval]
 refine ⟨_,[],[0,306],(Option.some.inj h).symm,by decide,?_⟩
 try simp only [*,go_sem,seval]
 refine ⟨_,[],[0,1],(Option.some.inj h).symm,by decide,?_⟩
 try simp only [*,go_sem,seval]
 rintro a ⟨sl,ob,n⟩ e I h
 simp only [go_sem,seval,Zd] at e
 obtain ⟨⟨J,K,L,M,N,O⟩,P,Q,hn⟩:=e
 subst hn
 have R:=ZC (facts_2.length)
 cases h
 try simp only [*,go_sem,seval]
theorem ZoJ {x_0:Zm} {r:Bool} (h:Zh1 x_0=some r):Zn Tryz.prog J0 214 [(true,ZM x_0)] [(false,[(false,.bool r)])]:=by
 refine fnk Tryz.func214 (by kernel_rfl) rfl (by kernel_rfl) (by kernel_rfl) ?_
 unfold Zh1 at h
 simp only [fnS,f214,Zo,go_sem,seval]
 obtain ⟨b,a,h⟩:=Za h
 refine Zb (ZfQ a) ?_
 try simp only [*,go_sem,seval]
 refine Ze h (fun _ h=>?_) fun _ h=>?_<;>try simp only [*,go_sem,seval]
 iterate 2 (cases h;try simp only [*,go_sem,seval])
theorem Zgz {r_0:Zf} {k_1:Int} {r:Bool} (h:ZbE r_0 k_1=some r):Zn Tryz.prog J0 227 [(true,ZB r_0),(false,[.int .i64 k_1])] [(false,[(false,.bool r)])]:=by
 refine fnk Tryz.func227 (by kernel_rfl) rfl (by kernel_rfl) (by kernel_rfl) ?_
 unfold ZbE at h
 simp only [fnS,f227,Zo,go_sem,seval]
 obtain ⟨a,v,w,x,h⟩:=Zgn h
 try simp only [*,go_sem,seval]
 obtain ⟨j,k,h⟩:=Za h
 refine Zb (ZcE k) ?_
 try simp only [*,go_sem,seval]
 obtain ⟨b,l,h⟩:=Za h
 refine Zb (ZbT l) ?_
 try simp only [*,go_sem,seval]
 refine Zg h (fun i _ st=>IV [(1,.p false [.c (.int .i64 k_1)]),(2,.bp 0 0),(5,.bp 1 0),(6,.p false [.row 2]),(18,.p false [.row 3]),(19,.p false [.c (.int .i64 ((b.length:Nat):Int))]),(20,.p false [.c (.int .i64 ((i:Nat):Int))])] [.box 82 [.c (.str r_0.name),.c (.int .i64 r_0.priority),.c (.sl 130 5 (List.map ZM r_0.cond)),.c (.sl 134 3 (List.map ZA r_0.thn))],.box 130 [.c (.int .i64 a.kind),.c (.str a.pattern.rel),.c (.sl 9 1 (List.map Zu a.pattern.args)),.c (.str a.left),.c (.str a.right)],.row 9 1 (List.map Zu j) 2,.row 9 1 (List.map Zu b) 2] st) [] [0,112,176,224] (by decide) ?_ ?_ ?_
 simp only [*,go_sem,seval]
 rintro y z ⟨⟩ ⟨sl,ob,n⟩ A d e m h f
 simp only [go_sem,seval,Zd] at e
 obtain ⟨⟨B,C,D,E,F,G,H⟩,I,J,K,o,hn⟩:=e
 subst hn
 have q:=WF.rowL m o
 have L:=ZF d
 have M:=ZJ d
 have N:=Zi (ZE d) q
 try simp only [*,go_sem,seval]
 refine Ze h (fun _ h=>?_) fun _ h=>?_<;>try simp only [*,go_sem,seval]
 refine ⟨_,[],[0,1,2,3],(Option.some.inj h).symm,by decide,?_⟩
 try simp only [*,go_sem,seval]
 obtain ⟨O,t,h⟩:=Za h
 refine Zb (Q5 t) ?_
 try simp only [*,go_sem,seval]
 refine Ze h (fun _ h=>?_) fun _ h=>?_<;>try simp only [*,go_sem,seval]
 refine ⟨_,[],[0,1,2,3],(Option.some.inj h).symm,by decide,?_⟩
 try simp only [*,go_sem,seval]
 refine Ze h (fun _ h=>?_) fun _ h=>?_<;>try simp only [*,go_sem,seval]
 replace h:=Zs h f
 cases h
 try simp only [*,go_sem,seval]
 obtain ⟨P,u,h⟩:=Za h
 refine Zb (Zfg u) ?_
 try simp only [*,go_sem,seval]
 refine Ze h (fun _ h=>?_) fun _ h=>?_<;>try simp only [*,go_sem,seval]
 replace h:=Zs h f
 cases h
 try simp only [*,go_sem,seval]
 refine ⟨_,[],[0,1,2,3],(Option.some.inj h).symm,by decide,?_⟩
 try simp only [*,go_sem,seval]
 rintro ⟨⟩ ⟨sl,ob,n⟩ g Q h
 simp only [go_sem,seval,Zd] at g
 obtain ⟨⟨R,S,T,U,V,W,X⟩,Y,Z,aa,ab,hn⟩:=g
 subst hn
 have ac:=ZC (b.length)
 cases h
 try simp only [*,go_sem,seval]
end Go.Proofs.YtojnhepgnbhaaaaGreatDoor
