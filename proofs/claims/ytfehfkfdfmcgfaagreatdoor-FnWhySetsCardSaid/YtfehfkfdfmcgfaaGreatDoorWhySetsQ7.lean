/- Texts of this proof, joined: Shelf, SortH, SortZ, LCompare, SortS, LAtoi, LItoa, Ext, Dp0, Dp1, Dp3, Dp2, Dp4, Dp6, Dp5, Dp7, Dp8, Dp10. What each holds is said at its theorems. -/
import Derived.Shelf.Small.Strs
import Derived.Shelf.Small.Wraps
import Derived.Shelf.Strconv.Atoi
import Derived.Shelf.Strconv.Itoa0
import Derived.Shelf.Strconv.Itoa1
import Derived.Shelf.LaysM
import Derived.Shelf.Strconv.Itoa2
import Derived.Shelf.Strconv.Itoa3
import Derived.Shelf.Strconv.AtoiErrFast
import Derived.Shelf.Strconv.ParseIntEmpty
import Derived.Shelf.Strconv.AtoiFail
import Derived.Shelf.Strconv.Clone
import Derived.Shelf.Strconv.SyntaxError
import Derived.Shelf.LaysC
import Derived.Shelf.Strconv.ToError
import Derived.Shelf.Strconv.AtoiErr
import Derived.Shelf.Strconv.ErrVar
import Derived.Shelf.Sort.Plain
import Derived.Shelf.Slices.In.SortNone
import Derived.Shelf.Slices.In.SortNone2
import Derived.Test.YtfehfkfdfmcgfaaGreatDoorProg
import Derived.Test.YtfehfkfdfmcgfaaGreatDoorWhySetsQ6
import Derived.Test.YtfehfkfdfmcgfaaGreatDoorWhySetsQ1
import Derived.Lib.AtoiErrMem
import Derived.Lib.AppendIntMem
import Derived.Lib.ItoaLen
set_option linter.unusedSimpArgs false
set_option linter.unusedVariables false
open Array renaming getElem?_toList→AA,getElem?_modify→AB
open Bool renaming false_or→AE,or_false→AF
open Int renaming toNat_natCast→A4,toNat→A6
open List renaming map→A0,getElem?_map→A5,eq_nil_of_length_eq_zero→A7,getElem?_take→A8,getElem?_drop→A9,size_toArray→AC,map_map→AD,map_cons→AG,map_nil→AH
open Option.some renaming inj→A3
open Go.Proofs.Tryz
namespace Go.Proofs
open Go.Shelf
def lays106_ren:Go.Shelf.Ren:=⟨fun | 106=>203 | 213=>265 | 265=>296 | n=>n,fun | 9=>9 | 3=>3 | n=>n,fun | n=>n⟩
theorem lays106:Go.Proofs.Lays.n106 prog lays106_ren:={
 mixed:=by kernel_rfl
 f106:=func203.trans (congrArg some (by kernel_rfl))
 f213:=func265.trans (congrArg some (by kernel_rfl))
 f265:=func296.trans (congrArg some (by kernel_rfl))
 t3:=underlying3
 a3:=isAgg3
 z3:=sizeOf3
 v3:=zeroValue3
 t9:=underlying9
 a9:=isAgg9
 z9:=sizeOf9
 v9:=zeroValue9 }
open Go.RowKit in
theorem strings_Compare (a b:ByteArray) (w:World):
  Calls prog 203 #[.string a,.string b] w fun e w'=>e=.returned (.int .i64 (Lib.compareBytes a.data.toList b.data.toList))∧w'=w:=Any.strings_Compare lays106 a b w
def lays172_ren:Go.Shelf.Ren:=⟨fun | 172=>297 | 244=>320 | 245=>321 | 247=>344 | 279=>345 | 280=>346 | 281=>347 | 282=>348 | 287=>357 | 316=>358 | 171=>322 | 205=>359 | 321=>362 | 322=>363 | 243=>349 | 246=>360 | 283=>364 | 284=>365 | 285=>366 | 286=>367 | 129=>310 | 317=>368 | 318=>369 | 319=>370 | 320=>371 | 337=>372 | 338=>373 | n=>n,fun | 9=>9 | 3=>3 | 75=>271 | 76=>272 | 4=>4 | 5=>5 | 167=>306 | 37=>22 | 0=>0 | 85=>307 | 2=>2 | 168=>309 | 53=>285 | 175=>318 | 46=>241 | 210=>322 | 127=>327 | 145=>330 | 143=>328 | 21=>21 | 171=>331 | 173=>333 | 212=>337 | 51=>283 | 20=>20 | 213=>338 | 232=>339 | 233=>340 | 80=>341 | n=>n,fun | 15=>1 | 16=>2 | 17=>3 | 18=>4 | 19=>5 | n=>n⟩
theorem lays172:Go.Proofs.Lays.n172 prog lays172_ren:={
 mixed:=by kernel_rfl
 f129:=func310.trans (congrArg some (by kernel_rfl))
 f171:=func322.trans (congrArg some (by kernel_rfl))
 f172:=func297.trans (congrArg some (by kernel_rfl))
 f205:=func359.trans (congrArg some (by kernel_rfl))
 f243:=func349.trans (congrArg some (by kernel_rfl))
 f244:=func320.trans (congrArg some (by kernel_rfl))
 f245:=func321.trans (congrArg some (by kernel_rfl))
 f246:=func360.trans (congrArg some (by kernel_rfl))
 f247:=func344.trans (congrArg some (by kernel_rfl))
 f279:=func345.trans (congrArg some (by kernel_rfl))
 f280:=func346.trans (congrArg some (by kernel_rfl))
 f281:=func347.trans (congrArg some (by kernel_rfl))
 f282:=func348.trans (congrArg some (by kernel_rfl))
 f283:=func364.trans (congrArg some (by kernel_rfl))
 f284:=func365.trans (congrArg some (by kernel_rfl))
 f285:=func366.trans (congrArg some (by kernel_rfl))
 f286:=func367.trans (congrArg some (by kernel_rfl))
 f287:=func357.trans (congrArg some (by kernel_rfl))
 f316:=func358.trans (congrArg some (by kernel_rfl))
 f317:=func368.trans (congrArg some (by kernel_rfl))
 f318:=func369.trans (congrArg some (by kernel_rfl))
 f319:=func370.trans (congrArg some (by kernel_rfl))
 f320:=func371.trans (congrArg some (by kernel_rfl))
 f321:=func362.trans (congrArg some (by kernel_rfl))
 f322:=func363.trans (congrArg some (by kernel_rfl))
 f337:=func372.trans (congrArg some (by kernel_rfl))
 f338:=func373.trans (congrArg some (by kernel_rfl))
 t0:=underlying0
 a0:=isAgg0
 z0:=sizeOf0
 v0:=zeroValue0
 t2:=underlying2
 a2:=isAgg2
 z2:=sizeOf2
 v2:=zeroValue2
 t3:=underlying3
 a3:=isAgg3
 z3:=sizeOf3
 v3:=zeroValue3
 t4:=underlying4
 a4:=isAgg4
 z4:=sizeOf4
 v4:=zeroValue4
 t5:=underlying5
 a5:=isAgg5
 z5:=sizeOf5
 v5:=zeroValue5
 t9:=underlying9
 a9:=isAgg9
 z9:=sizeOf9
 v9:=zeroValue9
 t20:=underlying20
 a20:=isAgg20
 z20:=sizeOf20
 v20:=zeroValue20
 t21:=underlying21
 a21:=isAgg21
 z21:=sizeOf21
 v21:=zeroValue21
 t37:=underlying22
 a37:=isAgg22
 z37:=sizeOf22
 v37:=zeroValue22
 t46:=underlying241
 a46:=isAgg241
 z46:=sizeOf241
 v46:=zeroValue241
 t51:=underlying283
 a51:=isAgg283
 z51:=sizeOf283
 v51:=zeroValue283
 t53:=underlying285
 a53:=isAgg285
 z53:=sizeOf285
 v53:=zeroValue285
 t75:=underlying271
 a75:=isAgg271
 z75:=sizeOf271
 v75:=zeroValue271
 t76:=underlying272
 a76:=isAgg272
 z76:=sizeOf272
 v76:=zeroValue272
 t85:=underlying307
 a85:=isAgg307
 z85:=sizeOf307
 v85:=zeroValue307
 t127:=underlying327
 a127:=isAgg327
 z127:=sizeOf327
 v127:=zeroValue327
 t143:=underlying328
 a143:=isAgg328
 z143:=sizeOf328
 v143:=zeroValue328
 t145:=underlying330
 a145:=isAgg330
 z145:=sizeOf330
 v145:=zeroValue330
 t167:=underlying306
 a167:=isAgg306
 z167:=sizeOf306
 v167:=zeroValue306
 t168:=underlying309
 a168:=isAgg309
 z168:=sizeOf309
 v168:=zeroValue309
 t171:=underlying331
 a171:=isAgg331
 z171:=sizeOf331
 v171:=zeroValue331
 t173:=underlying333
 a173:=isAgg333
 z173:=sizeOf333
 v173:=zeroValue333
 t175:=underlying318
 a175:=isAgg318
 z175:=sizeOf318
 v175:=zeroValue318
 t210:=underlying322
 a210:=isAgg322
 z210:=sizeOf322
 v210:=zeroValue322
 t212:=underlying337
 a212:=isAgg337
 z212:=sizeOf337
 v212:=zeroValue337
 t213:=underlying338
 a213:=isAgg338
 z213:=sizeOf338
 t232:=underlying339
 a232:=isAgg339
 z232:=sizeOf339
 v232:=zeroValue339
 t233:=underlying340
 a233:=isAgg340
 z233:=sizeOf340
 v233:=zeroValue340
 g15:=by kernel_rfl
 g16:=by kernel_rfl
 g17:=by kernel_rfl
 g18:=by kernel_rfl
 g19:=by kernel_rfl }
open Go.RowKit in
theorem strconv_Atoi (s:ByteArray) (n:Int) (hl:s.size≤18) (h:Lib.atoi s.data.toList=some n) (w:World):
  Calls prog 297 #[.string s] w fun e w'=>e=.returned (.tuple #[.int .i64 n,.nilIface])∧∃t,w'=Lib.bytesWorld w 5 t:=Any.strconv_Atoi lays172 s n hl h w
def laysM171_ren:Go.Shelf.Ren:=⟨fun | 171=>322 | 243=>349 | 246=>360 | 283=>364 | 284=>365 | 285=>366 | 286=>367 | 129=>310 | 317=>368 | 318=>369 | 319=>370 | 320=>371 | 337=>372 | 338=>373 | n=>n,fun | 3=>3 | 9=>9 | 2=>2 | 4=>4 | 171=>331 | 0=>0 | 53=>285 | 37=>22 | 5=>5 | 173=>333 | 212=>337 | 51=>283 | 20=>20 | 213=>338 | 46=>241 | 232=>339 | 233=>340 | n=>n,fun | 17=>3 | 18=>4 | 19=>5 | n=>n⟩
theorem laysM171:Go.Proofs.LaysM.n171 prog laysM171_ren:={
 mixed:=by kernel_rfl
 f129:=func310.trans (congrArg some (by kernel_rfl))
 f171:=func322.trans (congrArg some (by kernel_rfl))
 f243:=func349.trans (congrArg some (by kernel_rfl))
 f246:=func360.trans (congrArg some (by kernel_rfl))
 f283:=func364.trans (congrArg some (by kernel_rfl))
 f284:=func365.trans (congrArg some (by kernel_rfl))
 f285:=func366.trans (congrArg some (by kernel_rfl))
 f286:=func367.trans (congrArg some (by kernel_rfl))
 f317:=func368.trans (congrArg some (by kernel_rfl))
 f318:=func369.trans (congrArg some (by kernel_rfl))
 f319:=func370.trans (congrArg some (by kernel_rfl))
 f320:=func371.trans (congrArg some (by kernel_rfl))
 f337:=func372.trans (congrArg some (by kernel_rfl))
 f338:=func373.trans (congrArg some (by kernel_rfl))
 t0:=underlying0
 a0:=isAgg0
 z0:=sizeOf0
 v0:=zeroValue0
 t2:=underlying2
 a2:=isAgg2
 z2:=sizeOf2
 v2:=zeroValue2
 t3:=underlying3
 a3:=isAgg3
 z3:=sizeOf3
 v3:=zeroValue3
 t4:=underlying4
 a4:=isAgg4
 z4:=sizeOf4
 v4:=zeroValue4
 t5:=underlying5
 a5:=isAgg5
 z5:=sizeOf5
 v5:=zeroValue5
 t9:=underlying9
 a9:=isAgg9
 z9:=sizeOf9
 v9:=zeroValue9
 t20:=underlying20
 a20:=isAgg20
 z20:=sizeOf20
 v20:=zeroValue20
 t37:=underlying22
 a37:=isAgg22
 z37:=sizeOf22
 v37:=zeroValue22
 t46:=underlying241
 a46:=isAgg241
 z46:=sizeOf241
 v46:=zeroValue241
 t51:=underlying283
 a51:=isAgg283
 z51:=sizeOf283
 v51:=zeroValue283
 t53:=underlying285
 a53:=isAgg285
 z53:=sizeOf285
 v53:=zeroValue285
 t171:=underlying331
 a171:=isAgg331
 z171:=sizeOf331
 v171:=zeroValue331
 t173:=underlying333
 a173:=isAgg333
 z173:=sizeOf333
 v173:=zeroValue333
 t212:=underlying337
 a212:=isAgg337
 z212:=sizeOf337
 v212:=zeroValue337
 t213:=underlying338
 a213:=isAgg338
 z213:=sizeOf338
 t232:=underlying339
 a232:=isAgg339
 z232:=sizeOf339
 v232:=zeroValue339
 t233:=underlying340
 a233:=isAgg340
 z233:=sizeOf340
 v233:=zeroValue340
 g17:=by kernel_rfl
 g18:=by kernel_rfl
 g19:=by kernel_rfl
 i0:=by kernel_rfl
 i2:=by kernel_rfl
 i3:=by kernel_rfl
 i4:=by kernel_rfl
 i5:=by kernel_rfl
 i9:=by kernel_rfl
 i20:=by kernel_rfl
 i37:=by kernel_rfl
 i46:=by kernel_rfl
 i51:=by kernel_rfl
 i53:=by kernel_rfl
 i171:=by kernel_rfl
 i173:=by kernel_rfl
 i212:=by kernel_rfl
 i232:=by kernel_rfl
 i233:=by kernel_rfl
 m17:=by kernel_rfl
 m18:=by kernel_rfl
 m19:=by kernel_rfl }
open Go.RowKit Go.Sort Go.Lib in
theorem strconv_Itoa (n : Int) (h0 : -9223372036854775808 ≤ n) (h1 : n ≤ 9223372036854775807) (w : World) (htab : Lib.TabIs prog w "internal/strconv.uint64pow10" .u64 Lib.pow10Tab) :
  Calls prog 322 #[.int .i64 n] w fun e w'=>e=.returned (.string ⟨(Lib.itoa n).toArray⟩)∧∃k os,w'=grow (w.drewN k) os:=Any.strconv_Itoa laysM171 n h0 h1 w htab
def laysC172_ren:Go.Shelf.Ren:=⟨fun | 172=>297 | 244=>320 | 245=>321 | 247=>344 | 279=>345 | 280=>346 | 281=>347 | 282=>348 | 287=>357 | 316=>358 | 171=>322 | 205=>359 | 321=>362 | 322=>363 | 243=>349 | 246=>360 | 283=>364 | 284=>365 | 285=>366 | 286=>367 | 129=>310 | 317=>368 | 318=>369 | 319=>370 | 320=>371 | 337=>372 | 338=>373 | n=>n,fun | 9=>9 | 3=>3 | 75=>271 | 76=>272 | 4=>4 | 5=>5 | 167=>306 | 37=>22 | 0=>0 | 85=>307 | 2=>2 | 168=>309 | 53=>285 | 175=>318 | 46=>241 | 210=>322 | 127=>327 | 145=>330 | 143=>328 | 21=>21 | 171=>331 | 173=>333 | 212=>337 | 51=>283 | 20=>20 | 213=>338 | 232=>339 | 233=>340 | 80=>341 | n=>n,fun | 15=>1 | 16=>2 | 17=>3 | 18=>4 | 19=>5 | n=>n⟩
theorem laysC172:Go.Proofs.LaysC.n172 prog laysC172_ren:={
 mixed:=by kernel_rfl
 f129:=func310.trans (congrArg some (by kernel_rfl))
 f171:=func322.trans (congrArg some (by kernel_rfl))
 f172:=func297.trans (congrArg some (by kernel_rfl))
 f205:=func359.trans (congrArg some (by kernel_rfl))
 f243:=func349.trans (congrArg some (by kernel_rfl))
 f244:=func320.trans (congrArg some (by kernel_rfl))
 f245:=func321.trans (congrArg some (by kernel_rfl))
 f246:=func360.trans (congrArg some (by kernel_rfl))
 f247:=func344.trans (congrArg some (by kernel_rfl))
 f279:=func345.trans (congrArg some (by kernel_rfl))
 f280:=func346.trans (congrArg some (by kernel_rfl))
 f281:=func347.trans (congrArg some (by kernel_rfl))
 f282:=func348.trans (congrArg some (by kernel_rfl))
 f283:=func364.trans (congrArg some (by kernel_rfl))
 f284:=func365.trans (congrArg some (by kernel_rfl))
 f285:=func366.trans (congrArg some (by kernel_rfl))
 f286:=func367.trans (congrArg some (by kernel_rfl))
 f287:=func357.trans (congrArg some (by kernel_rfl))
 f316:=func358.trans (congrArg some (by kernel_rfl))
 f317:=func368.trans (congrArg some (by kernel_rfl))
 f318:=func369.trans (congrArg some (by kernel_rfl))
 f319:=func370.trans (congrArg some (by kernel_rfl))
 f320:=func371.trans (congrArg some (by kernel_rfl))
 f321:=func362.trans (congrArg some (by kernel_rfl))
 f322:=func363.trans (congrArg some (by kernel_rfl))
 f337:=func372.trans (congrArg some (by kernel_rfl))
 f338:=func373.trans (congrArg some (by kernel_rfl))
 t0:=underlying0
 a0:=isAgg0
 z0:=sizeOf0
 v0:=zeroValue0
 t2:=underlying2
 a2:=isAgg2
 z2:=sizeOf2
 v2:=zeroValue2
 t3:=underlying3
 a3:=isAgg3
 z3:=sizeOf3
 v3:=zeroValue3
 t4:=underlying4
 a4:=isAgg4
 z4:=sizeOf4
 v4:=zeroValue4
 t5:=underlying5
 a5:=isAgg5
 z5:=sizeOf5
 v5:=zeroValue5
 t9:=underlying9
 a9:=isAgg9
 z9:=sizeOf9
 v9:=zeroValue9
 t20:=underlying20
 a20:=isAgg20
 z20:=sizeOf20
 v20:=zeroValue20
 t21:=underlying21
 a21:=isAgg21
 z21:=sizeOf21
 v21:=zeroValue21
 t37:=underlying22
 a37:=isAgg22
 z37:=sizeOf22
 v37:=zeroValue22
 t46:=underlying241
 a46:=isAgg241
 z46:=sizeOf241
 v46:=zeroValue241
 t51:=underlying283
 a51:=isAgg283
 z51:=sizeOf283
 v51:=zeroValue283
 t53:=underlying285
 a53:=isAgg285
 z53:=sizeOf285
 v53:=zeroValue285
 t75:=underlying271
 a75:=isAgg271
 z75:=sizeOf271
 v75:=zeroValue271
 t76:=underlying272
 a76:=isAgg272
 z76:=sizeOf272
 v76:=zeroValue272
 t85:=underlying307
 a85:=isAgg307
 z85:=sizeOf307
 v85:=zeroValue307
 t127:=underlying327
 a127:=isAgg327
 z127:=sizeOf327
 v127:=zeroValue327
 t143:=underlying328
 a143:=isAgg328
 z143:=sizeOf328
 v143:=zeroValue328
 t145:=underlying330
 a145:=isAgg330
 z145:=sizeOf330
 v145:=zeroValue330
 t167:=underlying306
 a167:=isAgg306
 z167:=sizeOf306
 v167:=zeroValue306
 t168:=underlying309
 a168:=isAgg309
 z168:=sizeOf309
 v168:=zeroValue309
 t171:=underlying331
 a171:=isAgg331
 z171:=sizeOf331
 v171:=zeroValue331
 t173:=underlying333
 a173:=isAgg333
 z173:=sizeOf333
 v173:=zeroValue333
 t175:=underlying318
 a175:=isAgg318
 z175:=sizeOf318
 v175:=zeroValue318
 t210:=underlying322
 a210:=isAgg322
 z210:=sizeOf322
 v210:=zeroValue322
 t212:=underlying337
 a212:=isAgg337
 z212:=sizeOf337
 v212:=zeroValue337
 t213:=underlying338
 a213:=isAgg338
 z213:=sizeOf338
 t232:=underlying339
 a232:=isAgg339
 z232:=sizeOf339
 v232:=zeroValue339
 t233:=underlying340
 a233:=isAgg340
 z233:=sizeOf340
 v233:=zeroValue340
 g15:=by kernel_rfl
 g16:=by kernel_rfl
 g17:=by kernel_rfl
 g18:=by kernel_rfl
 g19:=by kernel_rfl
 t80:=underlying341
 a80:=isAgg341
 z80:=sizeOf341
 v80:=zeroValue341
 i0:=by kernel_rfl
 i2:=by kernel_rfl
 i3:=by kernel_rfl
 i4:=by kernel_rfl
 i5:=by kernel_rfl
 i9:=by kernel_rfl
 i20:=by kernel_rfl
 i21:=by kernel_rfl
 i37:=by kernel_rfl
 i46:=by kernel_rfl
 i51:=by kernel_rfl
 i53:=by kernel_rfl
 i75:=by kernel_rfl
 i76:=by kernel_rfl
 i80:=by kernel_rfl
 i85:=by kernel_rfl
 i127:=by kernel_rfl
 i143:=by kernel_rfl
 i145:=by kernel_rfl
 i167:=by kernel_rfl
 i168:=by kernel_rfl
 i171:=by kernel_rfl
 i173:=by kernel_rfl
 i175:=by kernel_rfl
 i210:=by kernel_rfl
 i212:=by kernel_rfl
 i232:=by kernel_rfl
 i233:=by kernel_rfl
 m15:=by kernel_rfl
 m16:=by kernel_rfl
 m17:=by kernel_rfl
 m18:=by kernel_rfl
 m19:=by kernel_rfl
 c0:=by kernel_rfl
 c2:=by kernel_rfl
 c3:=by kernel_rfl
 c4:=by kernel_rfl
 c5:=by kernel_rfl
 c9:=by kernel_rfl
 c20:=by kernel_rfl
 c21:=by kernel_rfl
 c37:=by kernel_rfl
 c46:=by kernel_rfl
 c51:=by kernel_rfl
 c53:=by kernel_rfl
 c75:=by kernel_rfl
 c76:=by kernel_rfl
 c80:=by kernel_rfl
 c85:=by kernel_rfl
 c127:=by kernel_rfl
 c143:=by kernel_rfl
 c145:=by kernel_rfl
 c167:=by kernel_rfl
 c168:=by kernel_rfl
 c171:=by kernel_rfl
 c173:=by kernel_rfl
 c175:=by kernel_rfl
 c210:=by kernel_rfl
 c212:=by kernel_rfl
 c213:=by kernel_rfl
 c232:=by kernel_rfl
 c233:=by kernel_rfl }
open Go.RowKit in
theorem strconv_Atoi_err_var (s : ByteArray) (hl : s.size ≤ 18) (h : Lib.atoi s.data.toList = none) (tp : TypeId) (p : Value) (w : World) (hvar : w.var? prog "strconv.ErrSyntax" = some #[.iface tp p]) :
  Calls prog 297 #[.string s] w fun e w'=>∃N,e=.returned (.tuple #[.int .i64 0,.iface 309 (.pointer (some ⟨N,0,none⟩))])∧w.heap.size≤N∧w'.heap[N]?=some (.cells #[.string ⟨#[65,116,111,105]⟩,.string s,.iface tp p] 322 (0,0))∧Below w.heap.size w w':=Any.strconv_Atoi_err_var laysC172 s hl h tp p w hvar
def lays191_ren:Go.Shelf.Ren:=⟨fun | 191=>164 | 189=>230 | 125=>274 | 257=>273 | 128=>309 | 129=>310 | 294=>300 | 295=>301 | 296=>302 | 297=>303 | 298=>304 | 299=>305 | 216=>306 | 300=>307 | 301=>308 | 328=>332 | 329=>333 | 330=>334 | 331=>335 | 332=>336 | 215=>337 | 343=>354 | n=>n,fun | 28=>65 | 0=>0 | 3=>3 | 46=>241 | 51=>283 | 53=>285 | 4=>4 | 183=>277 | 182=>276 | 131=>167 | 5=>5 | 9=>9 | 218=>297 | 222=>301 | 228=>314 | 229=>315 | n=>n,fun | n=>n⟩
theorem lays191:Go.Proofs.Lays.n191 prog lays191_ren:={
 mixed:=by kernel_rfl
 f125:=func274.trans (congrArg some (by kernel_rfl))
 f128:=func309.trans (congrArg some (by kernel_rfl))
 f129:=func310.trans (congrArg some (by kernel_rfl))
 f189:=func230.trans (congrArg some (by kernel_rfl))
 f191:=func164.trans (congrArg some (by kernel_rfl))
 f215:=func337.trans (congrArg some (by kernel_rfl))
 f216:=func306.trans (congrArg some (by kernel_rfl))
 f257:=func273.trans (congrArg some (by kernel_rfl))
 f294:=func300.trans (congrArg some (by kernel_rfl))
 f295:=func301.trans (congrArg some (by kernel_rfl))
 f296:=func302.trans (congrArg some (by kernel_rfl))
 f297:=func303.trans (congrArg some (by kernel_rfl))
 f298:=func304.trans (congrArg some (by kernel_rfl))
 f299:=func305.trans (congrArg some (by kernel_rfl))
 f300:=func307.trans (congrArg some (by kernel_rfl))
 f301:=func308.trans (congrArg some (by kernel_rfl))
 f328:=func332.trans (congrArg some (by kernel_rfl))
 f329:=func333.trans (congrArg some (by kernel_rfl))
 f330:=func334.trans (congrArg some (by kernel_rfl))
 f331:=func335.trans (congrArg some (by kernel_rfl))
 f332:=func336.trans (congrArg some (by kernel_rfl))
 f343:=func354.trans (congrArg some (by kernel_rfl))
 t0:=underlying0
 a0:=isAgg0
 z0:=sizeOf0
 v0:=zeroValue0
 t3:=underlying3
 a3:=isAgg3
 z3:=sizeOf3
 v3:=zeroValue3
 t4:=underlying4
 a4:=isAgg4
 z4:=sizeOf4
 v4:=zeroValue4
 t5:=underlying5
 a5:=isAgg5
 z5:=sizeOf5
 v5:=zeroValue5
 t9:=underlying9
 a9:=isAgg9
 z9:=sizeOf9
 v9:=zeroValue9
 t28:=underlying65
 a28:=isAgg65
 z28:=sizeOf65
 v28:=zeroValue65
 t46:=underlying241
 a46:=isAgg241
 z46:=sizeOf241
 v46:=zeroValue241
 t51:=underlying283
 a51:=isAgg283
 z51:=sizeOf283
 v51:=zeroValue283
 t53:=underlying285
 a53:=isAgg285
 z53:=sizeOf285
 v53:=zeroValue285
 t131:=underlying167
 a131:=isAgg167
 z131:=sizeOf167
 v131:=zeroValue167
 t182:=underlying276
 a182:=isAgg276
 z182:=sizeOf276
 v182:=zeroValue276
 t183:=underlying277
 a183:=isAgg277
 z183:=sizeOf277
 v183:=zeroValue277
 t218:=underlying297
 a218:=isAgg297
 z218:=sizeOf297
 v218:=zeroValue297
 t222:=underlying301
 a222:=isAgg301
 z222:=sizeOf301
 v222:=zeroValue301
 t228:=underlying314
 a228:=isAgg314
 z228:=sizeOf314
 v228:=zeroValue314
 t229:=underlying315
 a229:=isAgg315
 z229:=sizeOf315
 v229:=zeroValue315 }
open Go.Sort Go.RowKit in
theorem sort_Ints (blk off cap:Nat) (zs:List Int) (w:World) (hH:Holds (Value.int .i64) w blk off zs.toArray) (hblk:blk<w.heap.size) (hsz:zs.length<4611686018427387904):
  Calls prog 164 #[.slice (some ⟨blk,off,none⟩) zs.length cap] w fun e w'=>
   e=.returned (.tuple #[])∧∃n os,w'=grow (putRow (Value.int .i64) (Sort.ahead w n) blk off (zs.mergeSort fun x y=>decide (x≤y)).toArray) os:=Any.sort_Ints lays191 blk off cap zs w hH hblk hsz
def lays192_ren:Go.Shelf.Ren:=⟨fun | 192=>210 | 190=>267 | 125=>274 | 258=>299 | 128=>309 | 129=>310 | 302=>323 | 303=>324 | 304=>325 | 305=>326 | 306=>327 | 307=>328 | 308=>329 | 309=>330 | 310=>331 | 333=>350 | 329=>333 | 330=>334 | 334=>351 | 335=>352 | 336=>353 | 344=>361 | n=>n,fun | 31=>43 | 0=>0 | 9=>9 | 3=>3 | 46=>241 | 51=>283 | 53=>285 | 4=>4 | 183=>277 | 182=>276 | 131=>167 | 5=>5 | 218=>297 | 222=>301 | 228=>314 | 229=>315 | n=>n,fun | n=>n⟩
theorem lays192:Go.Proofs.Lays.n192 prog lays192_ren:={
 mixed:=by kernel_rfl
 f125:=func274.trans (congrArg some (by kernel_rfl))
 f128:=func309.trans (congrArg some (by kernel_rfl))
 f129:=func310.trans (congrArg some (by kernel_rfl))
 f190:=func267.trans (congrArg some (by kernel_rfl))
 f192:=func210.trans (congrArg some (by kernel_rfl))
 f258:=func299.trans (congrArg some (by kernel_rfl))
 f302:=func323.trans (congrArg some (by kernel_rfl))
 f303:=func324.trans (congrArg some (by kernel_rfl))
 f304:=func325.trans (congrArg some (by kernel_rfl))
 f305:=func326.trans (congrArg some (by kernel_rfl))
 f306:=func327.trans (congrArg some (by kernel_rfl))
 f307:=func328.trans (congrArg some (by kernel_rfl))
 f308:=func329.trans (congrArg some (by kernel_rfl))
 f309:=func330.trans (congrArg some (by kernel_rfl))
 f310:=func331.trans (congrArg some (by kernel_rfl))
 f329:=func333.trans (congrArg some (by kernel_rfl))
 f330:=func334.trans (congrArg some (by kernel_rfl))
 f333:=func350.trans (congrArg some (by kernel_rfl))
 f334:=func351.trans (congrArg some (by kernel_rfl))
 f335:=func352.trans (congrArg some (by kernel_rfl))
 f336:=func353.trans (congrArg some (by kernel_rfl))
 f344:=func361.trans (congrArg some (by kernel_rfl))
 t0:=underlying0
 a0:=isAgg0
 z0:=sizeOf0
 v0:=zeroValue0
 t3:=underlying3
 a3:=isAgg3
 z3:=sizeOf3
 v3:=zeroValue3
 t4:=underlying4
 a4:=isAgg4
 z4:=sizeOf4
 v4:=zeroValue4
 t5:=underlying5
 a5:=isAgg5
 z5:=sizeOf5
 v5:=zeroValue5
 t9:=underlying9
 a9:=isAgg9
 z9:=sizeOf9
 v9:=zeroValue9
 t31:=underlying43
 a31:=isAgg43
 z31:=sizeOf43
 v31:=zeroValue43
 t46:=underlying241
 a46:=isAgg241
 z46:=sizeOf241
 v46:=zeroValue241
 t51:=underlying283
 a51:=isAgg283
 z51:=sizeOf283
 v51:=zeroValue283
 t53:=underlying285
 a53:=isAgg285
 z53:=sizeOf285
 v53:=zeroValue285
 t131:=underlying167
 a131:=isAgg167
 z131:=sizeOf167
 v131:=zeroValue167
 t182:=underlying276
 a182:=isAgg276
 z182:=sizeOf276
 v182:=zeroValue276
 t183:=underlying277
 a183:=isAgg277
 z183:=sizeOf277
 v183:=zeroValue277
 t218:=underlying297
 a218:=isAgg297
 z218:=sizeOf297
 v218:=zeroValue297
 t222:=underlying301
 a222:=isAgg301
 z222:=sizeOf301
 v222:=zeroValue301
 t228:=underlying314
 a228:=isAgg314
 z228:=sizeOf314
 v228:=zeroValue314
 t229:=underlying315
 a229:=isAgg315
 z229:=sizeOf315
 v229:=zeroValue315 }
open Go.Sort Go.RowKit in
theorem sort_Strings (blk off cap:Nat) (ss:List (List UInt8)) (w:World) (hH:Holds encStr w blk off ss.toArray) (hblk:blk<w.heap.size) (hsz:ss.length<4611686018427387904):
  Calls prog 210 #[.slice (some ⟨blk,off,none⟩) ss.length cap] w fun e w'=>
   e=.returned (.tuple #[])∧∃n os,w'=grow (putRow encStr (Sort.ahead w n) blk off (ss.mergeSort fun x y=>decide (x≤y)).toArray) os:=Any.sort_Strings lays192 blk off cap ss w hH hblk hsz
open Go.RowKit Go.Sort in
theorem sort_Strings_none (p:Option Addr) (cap:Nat) (w:World):
  Calls prog 210 #[.slice p 0 cap] w fun e w'=>e=.returned (.tuple #[])∧w'=w:=Any.sort_Strings_none lays192 p cap w
open Go.RowKit Go.Sort in
theorem sort_Ints_none (p:Option Addr) (cap:Nat) (w:World):
  Calls prog 164 #[.slice p 0 cap] w fun e w'=>e=.returned (.tuple #[])∧w'=w:=Any.sort_Ints_none lays191 p cap w
end Go.Proofs
namespace Go.Proofs.YtfehfkfdfmcgfaaGreatDoor
section
open Go.RowKit Go.Sort
theorem Zn6 {α:Type} [Inhabited α] {P:Program} {J:World→Prop} {JF:Nat→Prop} (enc:α→Value) (el:α→List CT) (hel:∀(w:World) x v L,RCs w (el x) v L→v=[enc x]) (hmv:∀(w w':World) x,RCs w (el x) [enc x] []→RCs w' (el x) [enc x] []) (hflat:∀l:List α,ZaN (l.map el)=true) {f:FuncId} {e:TypeId} {zs d:List α} (hc:ZdV P f) (hd:d.length=zs.length) (hsub:∀x∈d,x∈zs)
  (hN:∀p cap w,Calls P f #[.slice p 0 cap] w fun e w'=>e=.returned (.tuple #[])∧w'=w)
  (hC:∀blk off cap w,Holds enc w blk off zs.toArray→blk<w.heap.size→Calls P f #[.slice (some ⟨blk,off,none⟩) zs.length cap] w fun e w'=>e=.returned (.tuple #[])∧∃n os,w'=grow (putRow enc (Sort.ahead w n) blk off d.toArray) os):
  Zbx P J JF f (.row e 1 (zs.map el)) [] [] (.row e 1 (d.map el)):=by
 refine ⟨hc,fun w z q v0 vs hj hqf hz hh ha=>?_⟩
 cases vs with
 | cons _ _=>exact ha.elim
 | nil=>
 obtain ⟨hfl,hm,hq,cs,hown,hre⟩:=hh
 have hcs:∀(l:List α) (cs:List Value) (L:List Nat),REs w 1 (l.map el) cs L→cs=l.map enc∧(L=[]→∀x∈l,RCs w (el x) [enc x] []):=by
  intro l
  induction l with
  | nil=>intro cs L h;exact ⟨h.1,fun _ x mx=>by simp at mx⟩
  | cons x l ih=>
   rintro cs L ⟨c1,c2,L1,L2,rfl,rfl,h3,h4⟩
   obtain ⟨i1,i2⟩:=ih _ _ h4
   have e1:=hel _ _ _ _ h3.1
   refine ⟨by rw [e1,i1];rfl,fun hL y my=>?_⟩
   obtain ⟨l1,l2⟩:=List.append_eq_nil_iff.1 hL
   rcases List.mem_cons.1 my with rfl | my
   ·rw [←e1,←l1];exact h3.1
   ·exact i2 l2 y my
 obtain ⟨e1,e2⟩:=hcs zs cs [] hre
 have e2:=e2 rfl
 subst e1
 have hre':∀(w':World) (l:List α),(∀x∈l,x∈zs)→REs w' 1 (l.map el) (l.map enc) []:=by
  intro w' l
  induction l with
  | nil=>intro _;exact ⟨rfl,rfl⟩
  | cons x l ih=>intro hl;exact ⟨[enc x],l.map enc,[],[],rfl,rfl,⟨hmv w w' x (e2 x (hl x (by simp))),rfl⟩,ih fun y my=>hl y (by simp [my])⟩
 have hzl:(zs.map el).length=zs.length:=by simp
 rw [hzl] at hown
 have done:∀w':World,w'.os=w.os→w'.tape=w.tape→w'.output=w.output→w.heap.size≤w'.heap.size→(∀k,k<w.heap.size→¬q=some k→w'.heap[k]?=w.heap[k]?)→w'.ownsV 0 e 1 v0 d.length (d.map enc)→∃v n,Ending.returned (.tuple #[])=.returned v∧ZjD w' w.heap.size n [] v∧(∀b,inQ z q b→n b)∧ZnA w' n q (.row e 1 (d.map el)) v0∧Zzh q w w':=
  fun w' h1 h2 h3 h4 h5 h6=>⟨_,inQ z q,rfl,⟨[],[],⟨rfl,rfl⟩,Own.nil _ _,rfl⟩,fun _ h=>h,⟨hflat d,by omega,hq,d.map enc,by simpa using h6,hre' w' d hsub⟩,⟨h1,h2,h3,h4,h5⟩⟩
 rcases Nat.eq_zero_or_pos zs.length with h0 | h0
 ·have hz0:zs=[]:=A7 h0
  have hd0:d=[]:=A7 (hd.trans h0)
  obtain ⟨A,cap,hv⟩:=Zax hown
  rw [h0] at hv
  subst hv
  refine (hN A cap w).mono ?_
  rintro e' w' ⟨rfl,rfl⟩
  exact done w' rfl rfl rfl (Nat.le_refl _) (fun _ _ _=>rfl) (by rw [hd0];rw [hz0] at hown;exact hown)
 ·rcases hown.2 with ⟨h',hl0⟩ | ⟨g,o,cap,cur,h',hb,hg,hnc,hcm,hcsz,htake⟩
  ·omega
  ·subst h'
   have hlt:g<w.heap.size:=(Array.getElem?_eq_some_iff.1 hg).1
   have hcur:∀j,j<zs.length→cur[o+j]?=some (enc zs[j]!):=fun j hj=>by
    have:=congrArg (fun l=>l[j]?) htake
    simp only[Nat.mul_one,A8,hj,if_true,A9,AA,A5] at this
    rw [this]
    simp [List.getElem!_eq_getElem?_getD,hj]
   refine (hC g o cap w (fun j hj=>?_) hlt).mono ?_
   ·have hj':j<zs.length:=by simpa using hj
    refine ⟨?_,by simp [World.frozen?,hg]⟩
    simp only[World.cell?,hg,Option.isSome_none,Bool.false_eq_true,if_false]
    rw [hcur j hj']
    simp [hj']
   ·rintro e' w' ⟨rfl,n,os,rfl⟩
    have hh:(putRow enc (Sort.ahead w n) g o d.toArray).heap[g]?=some (.cells (putCells enc o d.toArray cur) e (0,0)):=by
     simp only[putRow,mapBlock,heap_ahead,AB,if_true,hg,Option.map_some,onCells]
    refine done _ rfl rfl rfl (by simp) (fun k hk hqk=>?_) ⟨by simp,.inr ⟨g,o,cap,putCells enc o d.toArray cur,by rw [hd],by omega,?_,by omega,hcm,by simpa [putCells] using hcsz,?_⟩⟩
    ·rw [heap_grow_old _ _ (by simpa using hk)]
     simp only[putRow,mapBlock,heap_ahead,AB]
     rw [if_neg (fun e=>hqk (by rw [←hq];simp [Value.ownBlock,e]))]
    ·rw [heap_grow_old _ _ (by simpa using hlt)];exact hh
    ·apply List.ext_getElem?
     intro j
     simp only[Nat.mul_one,A8,A9,A5,AA,putCells,Array.getElem?_mapIdx,AC]
     by_cases hj:j<d.length
     ·have hjc:o+j<cur.size:=by omega
      simp [hj,hjc]
     ·simp [hj]
end
section
open Go.RowKit Go.Sort
theorem ZsM {J:World→Prop} {JF:Nat→Prop} {l r:List Int} (h:ZfG l=some r):Zbx prog J JF 164 (.row 3 1 (l.map ZI)) [] [] (.row 3 1 (r.map ZI)):=by
 obtain ⟨h1,h2⟩:=Zq h
 obtain rfl:=A3 h2
 refine Zn6 (Value.int .i64) ZI (fun w x v L h=>?_) (fun w w' x h=>h) ZnX ⟨f164,func164,by kernel_rfl,by kernel_rfl⟩ (by simp [Zkx]) (fun x hx=>by simpa [Zkx] using hx) (fun p cap w=>sort_Ints_none p cap w) (fun blk off cap w hH hb=>sort_Ints blk off cap l w hH hb (by omega))
 obtain ⟨u,vs,L1,L2,rfl,rfl,q1,rfl,rfl⟩:=h
 rw [q1.1]
end
section
open Go.RowKit
theorem Zul {J:World→Prop} {a b:ByteArray} {r:Int} (h:ZeP a b=some r):Zk prog J 203 [(false,[.str a]),(false,[.str b])] [(false,[(false,.int .i64 r)])]:=by
 obtain rfl:=A3 h
 refine ⟨⟨f203,func203,by kernel_rfl,by kernel_rfl⟩,fun w z vs hj hz hargs=>?_⟩
 obtain ⟨v,u,L,M,rfl,⟨rfl,_⟩,rfl,_⟩:=Zwg hargs
 refine (strings_Compare a b w).mono ?_
 rintro e w' ⟨rfl,rfl⟩
 exact ⟨_,z,rfl,ZqW ⟨⟨rfl,rfl⟩,rfl⟩,fun b h=>h,Below.refl _ _⟩
end
section
open Go.RowKit Go.Sort
theorem ZmW {J:World→Prop} {JF:Nat→Prop} {l r:List ByteArray} (h:Zcb l=some r):Zbx prog J JF 210 (.row 9 1 (l.map Zx)) [] [] (.row 9 1 (r.map Zx)):=by
 obtain ⟨h1,h2⟩:=Zq h
 obtain rfl:=A3 h2
 have e1:l.map Zx=(l.map toL).map fun x=>Zx (ofL x):=by rw [AD];exact List.map_congr_left fun x _=>by simp [ZiP]
 have e2:(Ze2 l).map Zx=((l.map toL).mergeSort fun x y=>decide (x≤y)).map fun x=>Zx (ofL x):=by simp [Ze2,AD,Function.comp_def]
 rw [e1,e2]
 refine Zn6 encStr (fun x=>Zx (ofL x)) (fun w x v L h=>?_) (fun w w' x h=>h) (fun l=>ZbO (fun _=>rfl) l) ⟨f210,func210,by kernel_rfl,by kernel_rfl⟩ (by simp) (fun x hx=>by simpa using hx) (fun p cap w=>sort_Strings_none p cap w) (fun blk off cap w hH hb=>sort_Strings blk off cap (l.map toL) w hH hb (by simp;omega))
 obtain ⟨u,vs,L1,L2,rfl,rfl,q1,rfl,rfl⟩:=h
 rw [q1.1]
 rfl
end
section
open Go.RowKit
theorem ZyE {J : World → Prop} (hJ : ∀ w, J w → ∃ tp p, w.var? prog "strconv.ErrSyntax" = some #[.iface tp p]) {s : ByteArray} {r : Int × Bool} (h : Zl4 s = some r) : Zk prog J 297 [(false, [.str s])] [(false, [(false, .int .i64 r.1)]), (false, [(false, .ifc r.2)])] := by
 obtain ⟨h1,h2⟩:=Zq h
 refine ⟨⟨f297,func297,by kernel_rfl,by kernel_rfl⟩,fun w z vs hj hz hargs=>?_⟩
 obtain ⟨v,L,rfl,rfl,_⟩:=Zmc hargs
 cases ha:Lib.atoi (toL s) with
 | some n=>
  rw [ha] at h2
  obtain rfl:=A3 h2
  refine (strconv_Atoi s n h1 ha w).mono ?_
  rintro e w' ⟨rfl,t,rfl⟩
  exact ⟨_,z,rfl,ZpQ ⟨⟨rfl,rfl⟩,rfl⟩ ⟨⟨rfl,rfl,rfl⟩,rfl⟩,fun b h=>h,Lib.bytesWorld_below _ _ _⟩
 | none=>
  rw [ha] at h2
  obtain rfl:=A3 h2
  obtain ⟨tp,p,hv⟩:=hJ w hj
  refine (strconv_Atoi_err_var s h1 ha tp p w hv).mono ?_
  rintro e w' ⟨N,rfl,_,_,hb⟩
  exact ⟨_,z,rfl,ZpQ ⟨⟨rfl,rfl⟩,rfl⟩ ⟨⟨rfl,rfl,_,_,rfl⟩,rfl⟩,fun b h=>h,hb⟩
end
section
open Go.RowKit Go.Sort Go.Lib
theorem ZCl {J : World → Prop} (hJ : ∀ w, J w → Lib.TabIs prog w "internal/strconv.uint64pow10" .u64 Lib.pow10Tab) {n : Int} {r : ByteArray} (h : Zpj n = some r) : Zk prog J 322 [(false, [.int .i64 n])] [(false, [(false, .str r)])] := by
 obtain ⟨h1,h2⟩:=Zq h
 obtain rfl:=A3 h2
 refine ⟨⟨f322,func322,by kernel_rfl,by kernel_rfl⟩,fun w z vs hj hz hargs=>?_⟩
 obtain ⟨v,L,rfl,rfl,_⟩:=Zmc hargs
 refine (strconv_Itoa n h1.1 h1.2 w (hJ w hj)).mono ?_
 rintro e w' ⟨rfl,k,os,rfl⟩
 refine ⟨_,z,rfl,ZqW ⟨⟨rfl,rfl,?_⟩,rfl⟩,fun b h=>h,below_grow _ _ (Nat.le_refl _) _ _⟩
 have:=Lib.itoa_length_le n h1.1 h1.2
 show (Lib.itoa n).toArray.size≤_
 rw [AC]
 omega
end
theorem ZmZ {l r:List Int} (h:ZfG l=some r):Zbx prog J0 JF0 164 (.row 3 1 (l.map ZI)) [] [] (.row 3 1 (r.map ZI)):=ZsM h
theorem Zjc {a b:ByteArray} {r:Int} (h:ZeP a b=some r):Zk prog J0 203 [(false,[.str a]),(false,[.str b])] [(false,[(false,.int .i64 r)])]:=Zul h
theorem Zju {l r:List ByteArray} (h:Zcb l=some r):Zbx prog J0 JF0 210 (.row 9 1 (l.map Zx)) [] [] (.row 9 1 (r.map Zx)):=ZmW h
theorem Zt2 {s:ByteArray} {r:Int × Bool} (h:Zl4 s=some r):Zk prog J0 297 [(false,[.str s])] [(false,[(false,.int .i64 r.1)]),(false,[(false,.ifc r.2)])]:=ZyE ZAB h
theorem ZtG {n:Int} {r:ByteArray} (h:Zpj n=some r):Zk prog J0 322 [(false,[.int .i64 n])] [(false,[(false,.str r)])]:=ZCl ZzO h
section
set_option linter.unusedSimpArgs false
set_option linter.unusedVariables false
set_option maxRecDepth 1000000
set_option maxHeartbeats 4000000
theorem ZvY {code_0:(List Int)} {r:Bool} (h:ZsU code_0=some r):Zk prog J0 11 [(false,[.sl 5 1 (A0 ZeK code_0)])] [(false,[(false,.bool r)])]:=by
 refine fnk func11 rfl ?_
 unfold ZsU at h
 simp only[fnS,f11,Zm,go_sem,seval]
 cases h
 simp only[*,go_sem,seval]
theorem Zsi {code_0:(List Int)} {r:ZJ} (h:Zjn code_0=some r):Zmx prog J0 58 [(false,[.sl 5 1 (A0 ZeK code_0)])] (.box 152 (Zbj r)):=by
 refine fnb func58 rfl ?_
 unfold Zjn at h
 simp only[fnB,f58,Zm,go_sem,seval]
 refine Zi h (fun i a st=>IV [(0,.p false [.c (.sl 5 1 (A0 ZeK code_0))]),(3,.p false [.c (.int .i64 a)]),(4,.p false [.c (.int .i64 ((i:Nat):Int))])] [] st) [] [] (by decide) ?_ ?_ ?_
 simp only[*,go_sem,seval]
 rintro _ _ a ⟨sl,ob,n⟩ _ b d f h g
 simp only[go_sem,seval,Zc] at d
 obtain ⟨⟨k,_,_⟩,hn⟩:=d
 subst hn
 have l:=WF.slotL f k (j:=0) rfl
 have:=ZA b
 have:=ZC b
 have:=Zj (ZB b) l
 simp only[*,go_sem,seval]
 refine Ze h (fun _ h=>?_) fun _ h=>?_<;>try simp only[*,go_sem,seval]
 refine ⟨_,[],[],(A3 h).symm,by decide,?_⟩
 simp only[*,go_sem,seval]
 replace h:=Zn h g
 cases h
 simp only[*,go_sem,seval]
 rintro a ⟨sl,ob,n⟩ e _ h
 simp only[go_sem,seval,Zc] at e
 obtain ⟨⟨_,_,_⟩,hn⟩:=e
 subst hn
 have:=Zy (code_0.length)
 cases h
 simp only[*,go_sem,seval]
theorem Zef {c_0:ZJ} {r:(Int × ZJ)} (h:Zcy c_0=some r):Zbx prog J0 JF0 173 (.box 152 (Zbj c_0)) [] [(false,[(false,.int .i64 r.1)])] (.box 152 (Zbj r.2)):=by
 refine fnh func173 rfl ?_
 unfold Zcy at h
 have a:¬((35:Int)<0):=by decide
 have b:¬((45:Int)<0):=by decide
 simp only[fnH,f173,Zdh,Zdg,Xp,go_sem,seval,a,b]
 refine Ze h (fun _ h=>?_) fun _ h=>?_<;>try simp only[*,go_sem,seval]
 obtain ⟨_,_,_,_,h⟩:=ZbQ h
 iterate 2 (cases h;simp only[*,go_sem,seval])
theorem ZjH {a:Int} {r:ByteArray} (h:Zat a=some r):Zk prog J0 125 [(false,[.int .i64 a])] [(false,[(false,.str r)])]:=by
 refine fnk func125 rfl ?_
 unfold Zat at h
 have g:Z9 ⟨#[45,57,50,50,51,51,55,50,48,51,54,56,53,52,55,55,53,56,48,56]⟩=true:=by decide
 have i:Z9 ⟨#[]⟩=true:=by decide
 have j:¬((10:Int)=0):=by decide
 simp only[fnS,f125,Zm,go_sem,seval,g,i,j]
 refine Ze h (fun _ h=>?_) fun _ h=>?_<;>try simp only[*,go_sem,seval]
 cases h
 simp only[*,go_sem,seval]
 refine Ze h (fun _ h=>?_) fun _ h=>?_<;>try simp only[*,go_sem,seval]
 cases h
 refine Yo h (fun s st=>match s with | (b,d)=>IV [(0,.p false [.c (.int .i64 b)]),(3,.p false [.c (.str d)])] [] st) [] [] (by decide) ?_ ?_
 simp only[*,go_sem,seval]
 rintro ⟨b,d⟩ ⟨sl,ob,n⟩ _ e _ h k
 simp only[go_sem,seval,Zc] at e
 obtain ⟨⟨_,_⟩,hn⟩:=e
 subst hn
 obtain ⟨_,h⟩:=Zq h
 simp only[*,go_sem,seval]
 refine Ze h (fun _ h=>?_) fun _ h=>?_<;>try simp only[*,go_sem,seval]
 replace h:=Zn h k
 cases h
 simp only[*,go_sem,seval]
 refine ⟨_,[],[],(A3 h).symm,by decide,?_⟩
 simp only[*,go_sem,seval]
theorem ZgG {n_0:Int} {r:ByteArray} (h:X3 n_0=some r):Zk prog J0 125 [(false,[.int .i64 n_0])] [(false,[(false,.str r)])]:=by
 refine fnk func125 rfl ?_
 unfold X3 at h
 have f:Z9 ⟨#[45,57,50,50,51,51,55,50,48,51,54,56,53,52,55,55,53,56,48,56]⟩=true:=by decide
 have g:Z9 ⟨#[45]⟩=true:=by decide
 have i:Z9 ⟨#[]⟩=true:=by decide
 have j:¬((10:Int)=0):=by decide
 simp only[fnS,f125,Zm,go_sem,seval,f,g,i,j]
 refine Ze h (fun _ h=>?_) fun _ h=>?_<;>try simp only[*,go_sem,seval]
 cases h
 simp only[*,go_sem,seval]
 refine Ze h (fun _ h=>?_) fun _ h=>?_<;>try simp only[*,go_sem,seval]
 refine ZMH h fun _ k h=>Zd (ZjH k) ?_
 obtain ⟨l,h⟩:=Zq h
 simp only[go_sem] at l
 cases h
 simp only[*,go_sem,seval]
 refine Yo h (fun s st=>match s with | (a,b)=>IV [(0,.p false [.c (.int .i64 a)]),(3,.p false [.c (.str b)])] [] st) [] [] (by decide) ?_ ?_
 simp only[*,go_sem,seval]
 rintro ⟨a,b⟩ ⟨sl,ob,n⟩ _ d _ h m
 simp only[go_sem,seval,Zc] at d
 obtain ⟨⟨_,_⟩,hn⟩:=d
 subst hn
 obtain ⟨_,h⟩:=Zq h
 simp only[*,go_sem,seval]
 refine Ze h (fun _ h=>?_) fun _ h=>?_<;>try simp only[*,go_sem,seval]
 replace h:=Zn h m
 cases h
 simp only[*,go_sem,seval]
 refine ⟨_,[],[],(A3 h).symm,by decide,?_⟩
 simp only[*,go_sem,seval]
theorem XU {x_0:Int} {least_1:Int} {most_2:Int} {r:Bool} (h:X7 x_0 least_1 most_2=some r):Zk prog J0 209 [(false,[.int .i64 x_0]),(false,[.int .i64 least_1]),(false,[.int .i64 most_2])] [(false,[(false,.bool r)])]:=by
 refine fnk func209 rfl ?_
 unfold X7 at h
 simp only[fnS,f209,Zm,go_sem,seval]
 refine Ze h (fun _ h=>?_) fun _ h=>?_<;>try simp only[*,go_sem,seval]
 iterate 2 (cases h;simp only[*,go_sem,seval])
theorem Qd {a:ByteArray} {b:ByteArray} {r:(List ByteArray)} (h:Qx a b=some r):Zk prog J0 254 [(false,[.str a]),(false,[.str b])] [(false,[(false,.sl 9 1 (A0 Zx r))])]:=by
 refine fnk func254 rfl ?_
 unfold Qx at h
 have i:Z9 ⟨#[]⟩=true:=by decide
 simp only[fnS,f254,Zm,go_sem,seval,i]
 refine Ze h (fun _ h=>?_) fun _ h=>?_<;>try simp only[*,go_sem,seval]
 cases h
 simp only[*,go_sem,seval]
 refine Yo h (fun s st=>match s with | (d,e,f)=>IV [(0,.p false [.c (.str a)]),(1,.p false [.c (.str b)]),(5,.p false [.row 0]),(6,.p false [.c (.int .i64 e)]),(7,.p false [.c (.int .i64 f)])] [.row 9 1 (A0 Zx d) 2] st) [] [16] (by decide) ?_ ?_
 simp only[*,go_sem,seval]
 rintro ⟨d,e,f⟩ ⟨sl,ob,n⟩ _ g _ h k
 simp only[go_sem,seval,Zc] at g
 obtain ⟨⟨_,_,_,_,_⟩,_,hn⟩:=g
 subst hn
 simp only[*,go_sem,seval]
 refine Ze h (fun _ h=>?_) fun _ h=>?_<;>try simp only[*,go_sem,seval]
 obtain ⟨_,h⟩:=Zq h
 simp only[*,go_sem,seval]
 refine Ze h (fun _ h=>?_) fun _ h=>?_<;>try simp only[*,go_sem,seval]
 obtain ⟨_,h⟩:=Zq h
 obtain ⟨l,h⟩:=Zq h
 try simp only[Nat.reduceLeDiff] at l
 simp only[*,go_sem,seval]
 refine ⟨_,[],[353],(A3 h).symm,by decide,?_⟩
 simp only[*,go_sem,seval]
 refine ⟨_,[],[0],(A3 h).symm,by decide,?_⟩
 simp only[*,go_sem,seval]
 obtain ⟨_,h⟩:=Zq h
 obtain ⟨m,h⟩:=Zq h
 try simp only[Nat.reduceLeDiff] at m
 replace h:=Zn h k
 cases h
 simp only[*,go_sem,seval]
theorem Xg {a:(List ByteArray)} {b:ByteArray} {r:(List ByteArray)} (h:XO a b=some r):Zk prog J0 271 [(false,[.sl 9 1 (A0 Zx a)]),(false,[.str b])] [(false,[(false,.sl 9 1 (A0 Zx r))])]:=by
 refine fnk func271 rfl ?_
 unfold XO at h
 simp only[fnS,f271,Zm,go_sem,seval]
 refine Zi h (fun i s st=>match s with | (d,e)=>IV [(0,.p false [.c (.sl 9 1 (A0 Zx a))]),(1,.p false [.c (.str b)]),(5,.p false [.row 0]),(6,.p false [.c (.bool e)]),(7,.p false [.c (.int .i64 ((i:Nat):Int))])] [.row 9 1 (A0 Zx d) 2] st) [] [16] (by decide) ?_ ?_ ?_
 simp only[*,go_sem,seval]
 rintro _ _ ⟨d,e⟩ ⟨sl,ob,n⟩ _ f g l h _
 simp only[go_sem,seval,Zc] at g
 obtain ⟨⟨m,_,_,_,_⟩,_,hn⟩:=g
 subst hn
 have o:=WF.slotL l m (j:=0) rfl
 have:=ZA f
 have:=ZC f
 have:=Zj (ZB f) o
 simp only[*,go_sem,seval]
 refine Ze h (fun _ h=>?_) fun _ h=>?_<;>try simp only[*,go_sem,seval]
 obtain ⟨q,h⟩:=Zq h
 try simp only[Nat.reduceLeDiff] at q
 simp only[*,go_sem,seval]
 refine ⟨_,[],[321],(A3 h).symm,by decide,?_⟩
 simp only[*,go_sem,seval]
 refine Ze h (fun _ h=>?_) fun _ h=>?_<;>try simp only[*,go_sem,seval]
 obtain ⟨t,h⟩:=Zq h
 try simp only[Nat.reduceLeDiff] at t
 simp only[*,go_sem,seval]
 refine ⟨_,[],[321],(A3 h).symm,by decide,?_⟩
 simp only[*,go_sem,seval]
 refine Ze h (fun _ h=>?_) fun _ h=>?_<;>try simp only[*,go_sem,seval]
 obtain ⟨u,h⟩:=Zq h
 try simp only[Nat.reduceLeDiff] at u
 simp only[*,go_sem,seval]
 refine ⟨_,[],[433],(A3 h).symm,by decide,?_⟩
 simp only[*,go_sem,seval]
 obtain ⟨v,h⟩:=Zq h
 try simp only[Nat.reduceLeDiff] at v
 obtain ⟨w,h⟩:=Zq h
 try simp only[Nat.reduceLeDiff] at w
 simp only[*,go_sem,seval]
 refine ⟨_,[],[513],(A3 h).symm,by decide,?_⟩
 simp only[*,go_sem,seval]
 rintro ⟨d,e⟩ ⟨sl,ob,n⟩ k _ h
 simp only[go_sem,seval,Zc] at k
 obtain ⟨⟨_,_,_,_,_⟩,_,hn⟩:=k
 subst hn
 have:=Zy (a.length)
 simp only[*,go_sem,seval]
 refine Ze h (fun _ h=>?_) fun _ h=>?_<;>try simp only[*,go_sem,seval]
 cases h
 simp only[*,go_sem,seval]
 obtain ⟨x,h⟩:=Zq h
 try simp only[Nat.reduceLeDiff] at x
 cases h
 simp only[*,go_sem,seval]
theorem Yz {l_0:(List ByteArray)} {s_1:ByteArray} {r:Bool} (h:ZV l_0 s_1=some r):Zk prog J0 222 [(false,[.sl 9 1 (A0 Zx l_0)]),(false,[.str s_1])] [(false,[(false,.bool r)])]:=by
 refine fnk func222 rfl ?_
 unfold ZV at h
 simp only[fnS,f222,Zm,go_sem,seval]
 refine Zi h (fun i _ st=>IV [(0,.p false [.c (.sl 9 1 (A0 Zx l_0))]),(1,.p false [.c (.str s_1)]),(5,.p false [.c (.int .i64 ((i:Nat):Int))])] [] st) [] [] (by decide) ?_ ?_ ?_
 simp only[*,go_sem,seval]
 rintro _ _ ⟨⟩ ⟨sl,ob,n⟩ _ a b e h f
 simp only[go_sem,seval,Zc] at b
 obtain ⟨⟨g,_,_⟩,hn⟩:=b
 subst hn
 have k:=WF.slotL e g (j:=0) rfl
 have:=ZA a
 have:=ZC a
 have:=Zj (ZB a) k
 simp only[*,go_sem,seval]
 refine Ze h (fun _ h=>?_) fun _ h=>?_<;>try simp only[*,go_sem,seval]
 replace h:=Zn h f
 cases h
 simp only[*,go_sem,seval]
 refine ⟨_,[],[],(A3 h).symm,by decide,?_⟩
 simp only[*,go_sem,seval]
 rintro ⟨⟩ ⟨sl,ob,n⟩ d _ h
 simp only[go_sem,seval,Zc] at d
 obtain ⟨⟨_,_,_⟩,hn⟩:=d
 subst hn
 have:=Zy (l_0.length)
 cases h
 simp only[*,go_sem,seval]
theorem ZrB {kind_0:Int} {r:ByteArray} (h:Zgi kind_0=some r):Zk prog J0 318 [(false,[.int .i64 kind_0])] [(false,[(false,.str r)])]:=by
 refine fnk func318 rfl ?_
 unfold Zgi at h
 have ks0:Z9 ⟨#[32,33,61,32]⟩=true:=by decide
 have ks1:Z9 ⟨#[32,60,32]⟩=true:=by decide
 have ks2:Z9 ⟨#[32,61,32]⟩=true:=by decide
 have ks3:Z9 ⟨#[]⟩=true:=by decide
 simp only[fnS,f318,Zm,go_sem,seval,ks0,ks1,ks2,ks3]
 refine Ze h (fun _ h=>?_) fun _ h=>?_<;>try simp only[*,go_sem,seval]
 ·cases h
  simp only[*,go_sem,seval]
 ·refine Ze h (fun _ h=>?_) fun _ h=>?_<;>try simp only[*,go_sem,seval]
  ·cases h
   simp only[*,go_sem,seval]
  ·cases h
   simp only[*,go_sem,seval]
theorem Zle {a_0:ByteArray} {b_1:ByteArray} {r:Int} (h:Zhp a_0 b_1=some r):Zk prog J0 74 [(false,[.str a_0]),(false,[.str b_1])] [(false,[(false,.int .i64 r)])]:=by
 refine fnk func74 rfl ?_
 unfold Zhp at h
 simp only[fnS,f74,Zm,go_sem,seval]
 refine Ze h (fun a h=>?_) (fun a h=>?_)<;>try simp only[*,go_sem,seval]
 cases h
 simp only[*,go_sem,seval]
 refine Ze h (fun b h=>?_) (fun b h=>?_)
 have c:=b
 try simp only[a,AE,AF] at c
 cases h
 simp only[*,go_sem,seval]
 have c:=b
 try simp only[a,AE,AF] at c
 cases h
 simp only[*,go_sem,seval]
theorem ZpE {l_0:(List ByteArray)} {r:(List ByteArray)} (h:Zfc l_0=some r):Zk prog J0 151 [(false,[.sl 9 1 (A0 Zx l_0)])] [(false,[(false,.sl 9 1 (A0 Zx r))])]:=by
 refine fnk func151 rfl ?_
 unfold Zfc at h
 simp only[fnS,f151,Zm,go_sem,seval]
 obtain ⟨_,h⟩:=Zq h
 cases h
 simp only[*,go_sem,seval]
theorem X4 {s_0:ByteArray} {r:Bool} (h:Qm s_0=some r):Zk prog J0 202 [(false,[.str s_0])] [(false,[(false,.bool r)])]:=by
 refine fnk func202 rfl ?_
 unfold Qm at h
 simp only[fnS,f202,Zm,go_sem,seval]
 refine Ze h (fun _ h=>?_) fun _ h=>?_<;>try simp only[*,go_sem,seval]
 ·cases h
  simp only[*,go_sem,seval]
 ·refine Ze h (fun _ h=>?_) fun _ h=>?_<;>try simp only[*,go_sem,seval]
  ·cases h
   simp only[*,go_sem,seval]
  ·refine Zi h (fun i _ st=>IV [(0,.p false [.c (.str s_0)]),(3,.p false [.c (.int .i64 ((i:Nat):Int))])] [] st) [] [] (by decide) ?_ ?_ ?_
   ·simp only[*,go_sem,seval]
   ·rintro i4 x5 ⟨⟩ ⟨sl,ob,n⟩ y3 hx4 hI5 hW6 h hy3
    simp only[go_sem,seval,Zc] at hI5
    obtain ⟨⟨g7_0,g7_3⟩,hn⟩:=hI5
    subst hn
    have hlhx4:=WF.slotS hW6 g7_0 (j:=0) rfl
    have q8:=Zpp hx4
    have q9:=Zva hx4
    have q10:=Zj (Zta hx4) hlhx4
    simp only[*,go_sem,seval]
    refine Ze h (fun _ h=>?_) fun _ h=>?_<;>try simp only[*,go_sem,seval]
    ·refine Ze h (fun _ h=>?_) fun _ h=>?_<;>try simp only[*,go_sem,seval]
     ·replace h:=Zn h hy3
      cases h
      simp only[*,go_sem,seval]
     ·refine Ze h (fun _ h=>?_) fun _ h=>?_<;>try simp only[*,go_sem,seval]
      ·replace h:=Zn h hy3
       cases h
       simp only[*,go_sem,seval]
      ·refine ⟨_,[],[],(A3 h).symm,by decide,?_⟩
       simp only[*,go_sem,seval]
    ·refine Ze h (fun _ h=>?_) fun _ h=>?_<;>try simp only[*,go_sem,seval]
     ·refine Ze h (fun _ h=>?_) fun _ h=>?_<;>try simp only[*,go_sem,seval]
      ·replace h:=Zn h hy3
       cases h
       simp only[*,go_sem,seval]
      ·refine Ze h (fun _ h=>?_) fun _ h=>?_<;>try simp only[*,go_sem,seval]
       ·replace h:=Zn h hy3
        cases h
        simp only[*,go_sem,seval]
       ·refine ⟨_,[],[],(A3 h).symm,by decide,?_⟩
        simp only[*,go_sem,seval]
     ·refine ⟨_,[],[],(A3 h).symm,by decide,?_⟩
      simp only[*,go_sem,seval]
   ·rintro ⟨⟩ ⟨sl,ob,n⟩ hI17 hW18 h
    simp only[go_sem,seval,Zc] at hI17
    obtain ⟨⟨g19_0,g19_3⟩,hn⟩:=hI17
    subst hn
    have q20:=Zy (s_0.size)
    cases h
    simp only[*,go_sem,seval]
theorem ZbW {a_0:Int} {b_1:Int} {r:Int} (h:XG a_0 b_1=some r):Zk prog J0 205 [(false,[.int .i64 a_0]),(false,[.int .i64 b_1])] [(false,[(false,.int .i64 r)])]:=by
 refine fnk func205 rfl ?_
 unfold XG at h
 simp only[fnS,f205,Zm,go_sem,seval]
 refine Ze h (fun _ h=>?_) fun _ h=>?_<;>try simp only[*,go_sem,seval]
 ·cases h
  simp only[*,go_sem,seval]
 ·refine Ze h (fun _ h=>?_) fun _ h=>?_<;>try simp only[*,go_sem,seval]
  ·cases h
   simp only[*,go_sem,seval]
  ·cases h
   simp only[*,go_sem,seval]
theorem ZkY {n_0:Int} {r:ByteArray} (h:Za4 n_0=some r):Zk prog J0 298 [(false,[.int .i64 n_0])] [(false,[(false,.str r)])]:=by
 refine fnk func298 rfl ?_
 unfold Za4 at h
 have a:Z9 ⟨#[]⟩=true:=by decide
 simp only[fnS,f298,Zm,go_sem,seval,a]
 refine ZMH h fun _ b h=>Zd (ZtG b) ?_
 cases h
 simp only[*,go_sem,seval]
theorem Zls {a_0:(List ByteArray)} {b_1:(List ByteArray)} {r:Bool} (h:Zct a_0 b_1=some r):Zk prog J0 208 [(false,[.sl 9 1 (A0 Zx a_0)]),(false,[.sl 9 1 (A0 Zx b_1)])] [(false,[(false,.bool r)])]:=by
 refine fnk func208 rfl ?_
 unfold Zct at h
 simp only[fnS,f208,Zm,go_sem,seval]
 refine Ze h (fun _ h=>?_) fun _ h=>?_<;>try simp only[*,go_sem,seval]
 cases h
 simp only[*,go_sem,seval]
 refine Zi h (fun i _ st=>IV [(0,.p false [.c (.sl 9 1 (A0 Zx a_0))]),(1,.p false [.c (.sl 9 1 (A0 Zx b_1))]),(12,.p false [.c (.int .i64 ((a_0.length:Nat):Int))]),(13,.p false [.c (.int .i64 ((i:Nat):Int))])] [] st) [] [] (by decide) ?_ ?_ ?_
 simp only[*,go_sem,seval]
 rintro _ _ ⟨⟩ ⟨sl,ob,n⟩ _ a b e h f
 simp only[go_sem,seval,Zc] at b
 obtain ⟨⟨g,_,_,_⟩,hn⟩:=b
 subst hn
 have k:=WF.slotL e g (j:=0) rfl
 have:=ZA a
 have:=ZC a
 have:=Zj (ZB a) k
 obtain ⟨_,_,_,l,h⟩:=ZbQ h
 simp only[A4] at l
 simp only[*,go_sem,seval]
 refine Ze h (fun _ h=>?_) fun _ h=>?_<;>try simp only[*,go_sem,seval]
 refine ⟨_,[],[],(A3 h).symm,by decide,?_⟩
 simp only[*,go_sem,seval]
 replace h:=Zn h f
 cases h
 simp only[*,go_sem,seval]
 rintro ⟨⟩ ⟨sl,ob,n⟩ d _ h
 simp only[go_sem,seval,Zc] at d
 obtain ⟨⟨_,_,_,_⟩,hn⟩:=d
 subst hn
 have:=Zy (a_0.length)
 cases h
 simp only[*,go_sem,seval]
theorem Zac {l_0:(List ByteArray)} {s_1:ByteArray} {r:Bool} (h:Xc l_0 s_1=some r):Zk prog J0 145 [(false,[.sl 9 1 (A0 Zx l_0)]),(false,[.str s_1])] [(false,[(false,.bool r)])]:=by
 refine fnk func145 rfl ?_
 unfold Xc at h
 simp only[fnS,f145,Zm,go_sem,seval]
 refine Zi h (fun i _ st=>IV [(1,.p false [.c (.str s_1)]),(7,.p false [.c (.sl 9 1 (A0 Zx l_0))]),(8,.p false [.c (.int .i64 ((l_0.length:Nat):Int))]),(9,.p false [.c (.int .i64 ((i:Nat):Int))])] [] st) [] [] (by decide) ?_ ?_ ?_
 simp only[*,go_sem,seval]
 rintro _ _ ⟨⟩ ⟨sl,ob,n⟩ _ a b e h f
 simp only[go_sem,seval,Zc] at b
 obtain ⟨⟨_,g,_,_⟩,hn⟩:=b
 subst hn
 have k:=WF.slotL e g (j:=0) rfl
 have:=ZA a
 have:=ZC a
 have:=Zj (ZB a) k
 simp only[*,go_sem,seval]
 refine Ze h (fun _ h=>?_) fun _ h=>?_<;>try simp only[*,go_sem,seval]
 replace h:=Zn h f
 cases h
 simp only[*,go_sem,seval]
 refine ⟨_,[],[],(A3 h).symm,by decide,?_⟩
 simp only[*,go_sem,seval]
 rintro ⟨⟩ ⟨sl,ob,n⟩ d _ h
 simp only[go_sem,seval,Zc] at d
 obtain ⟨⟨_,_,_,_⟩,hn⟩:=d
 subst hn
 have:=Zy (l_0.length)
 cases h
 simp only[*,go_sem,seval]
theorem XX {l_0:(List ByteArray)} {r:(List ByteArray)} (h:Ym l_0=some r):Zk prog J0 147 [(false,[.sl 9 1 (A0 Zx l_0)])] [(false,[(false,.sl 9 1 (A0 Zx r))])]:=by
 refine fnk func147 rfl ?_
 unfold Ym at h
 simp only[fnS,f147,Zm,go_sem,seval]
 obtain ⟨_,h⟩:=Zq h
 simp only[*,go_sem,seval]
 obtain ⟨a,g,h⟩:=Za h
 refine QL (Zju g) ?_
 simp only[*,go_sem,seval]
 refine Zi h (fun i b st=>IV [(3,.p false [.row 0]),(4,.p false [.row 1]),(11,.p false [.row 0]),(12,.p false [.c (.int .i64 ((a.length:Nat):Int))]),(13,.p false [.c (.int .i64 ((i:Nat):Int))])] [.row 9 1 (A0 Zx a) 2,.row 9 1 (A0 Zx b) 2] st) [(false,4,0)] [32,160] (by decide) ?_ ?_ ?_
 simp only[*,go_sem,seval]
 rintro _ _ b ⟨sl,ob,n⟩ _ d e j h _
 simp only[go_sem,seval,Zc] at e
 obtain ⟨⟨_,_,_,_,_⟩,k,_,hn⟩:=e
 subst hn
 have l:=WF.rowL j k
 have:=ZA d
 have:=ZC d
 have:=Zj (ZB d) l
 simp only[*,go_sem,seval]
 refine Ze h (fun _ h=>?_) fun _ h=>?_<;>try simp only[*,go_sem,seval]
 obtain ⟨m,h⟩:=Zq h
 try simp only[Nat.reduceLeDiff] at m
 simp only[*,go_sem,seval]
 refine ⟨_,[],[0,322],(A3 h).symm,by decide,?_⟩
 simp only[*,go_sem,seval]
 obtain ⟨_,h⟩:=Zq h
 obtain ⟨_,_,h⟩:=Za h
 simp only[*,go_sem,seval]
 refine Ze h (fun _ h=>?_) fun _ h=>?_<;>try simp only[*,go_sem,seval]
 refine ⟨_,[],[0,1],(A3 h).symm,by decide,?_⟩
 simp only[*,go_sem,seval]
 obtain ⟨o,h⟩:=Zq h
 try simp only[Nat.reduceLeDiff] at o
 simp only[*,go_sem,seval]
 refine ⟨_,[],[0,322],(A3 h).symm,by decide,?_⟩
 simp only[*,go_sem,seval]
 rintro b ⟨sl,ob,n⟩ f _ h
 simp only[go_sem,seval,Zc] at f
 obtain ⟨⟨_,_,_,_,_⟩,_,_,hn⟩:=f
 subst hn
 have:=Zy (a.length)
 cases h
 simp only[*,go_sem,seval]
theorem Q8 {p_0:Zv} {r:Bool} (h:Y8 p_0=some r):Zk prog J0 263 [(true,QA p_0)] [(false,[(false,.bool r)])]:=by
 refine fnk func263 rfl ?_
 unfold Y8 at h
 have a:Z9 ⟨#[]⟩=true:=by decide
 simp only[fnS,f263,Zm,go_sem,seval,a]
 refine Ze h (fun _ h=>?_) fun _ h=>?_<;>try simp only[*,go_sem,seval]
 iterate 2 (cases h;simp only[*,go_sem,seval])
theorem Zgx {l_0:(List ByteArray)} {r:(List ByteArray)} (h:Za6 l_0=some r):Zk prog J0 182 [(false,[.sl 9 1 (A0 Zx l_0)])] [(false,[(false,.sl 9 1 (A0 Zx r))])]:=by
 refine fnk func182 rfl ?_
 unfold Za6 at h
 simp only[fnS,f182,Zm,go_sem,seval]
 obtain ⟨_,h⟩:=Zq h
 cases h
 simp only[*,go_sem,seval]
theorem ZmU {l_0:(List Zg)} {name_1:ByteArray} {r:Int} (h:QF l_0 name_1=some r):Zk prog J0 133 [(false,[.sl 42 4 (A0 ZF l_0)]),(false,[.str name_1])] [(false,[(false,.int .i64 r)])]:=by
 refine fnk func133 rfl ?_
 unfold QF at h
 simp only[fnS,f133,Zm,go_sem,seval]
 refine Zi h (fun i _ st=>IV [(1,.p false [.c (.str name_1)]),(7,.p false [.c (.sl 42 4 (A0 ZF l_0))]),(8,.p false [.c (.int .i64 ((l_0.length:Nat):Int))]),(9,.p false [.c (.int .i64 ((i:Nat):Int))])] [] st) [] [] (by decide) ?_ ?_ ?_
 simp only[*,go_sem,seval]
 rintro _ _ ⟨⟩ ⟨sl,ob,n⟩ _ a b e h f
 simp only[go_sem,seval,Zc] at b
 obtain ⟨⟨_,g,_,_⟩,hn⟩:=b
 subst hn
 have k:=WF.slotL e g (j:=0) rfl
 have:=ZA a
 have:=ZC a
 have:=Zj (ZB a) k
 simp only[*,go_sem,seval]
 refine Ze h (fun _ h=>?_) fun _ h=>?_<;>try simp only[*,go_sem,seval]
 replace h:=Zn h f
 cases h
 simp only[*,go_sem,seval]
 refine ⟨_,[],[],(A3 h).symm,by decide,?_⟩
 simp only[*,go_sem,seval]
 rintro ⟨⟩ ⟨sl,ob,n⟩ d _ h
 simp only[go_sem,seval,Zc] at d
 obtain ⟨⟨_,_,_,_⟩,hn⟩:=d
 subst hn
 have:=Zy (l_0.length)
 cases h
 simp only[*,go_sem,seval]
theorem Zm5 {r_0:Zg} {r:Bool} (h:ZdJ r_0=some r):Zk prog J0 162 [(true,ZF r_0)] [(false,[(false,.bool r)])]:=by
 refine fnk func162 rfl ?_
 unfold ZdJ at h
 simp only[fnS,f162,Zm,go_sem,seval]
 refine Zi h (fun i _ st=>IV [(6,.p false [.c (.sl 50 3 (A0 ZG r_0.thn))]),(7,.p false [.c (.int .i64 ((r_0.thn.length:Nat):Int))]),(8,.p false [.c (.int .i64 ((i:Nat):Int))])] [] st) [] [] (by decide) ?_ ?_ ?_
 simp only[*,go_sem,seval]
 rintro _ _ ⟨⟩ ⟨sl,ob,n⟩ _ a b e h f
 simp only[go_sem,seval,Zc] at b
 obtain ⟨⟨g,_,_⟩,hn⟩:=b
 subst hn
 have k:=WF.slotL e g (j:=0) rfl
 have:=ZA a
 have:=ZC a
 have:=Zj (ZB a) k
 simp only[*,go_sem,seval]
 refine Ze h (fun _ h=>?_) fun _ h=>?_<;>try simp only[*,go_sem,seval]
 replace h:=Zn h f
 cases h
 simp only[*,go_sem,seval]
 refine ⟨_,[],[],(A3 h).symm,by decide,?_⟩
 simp only[*,go_sem,seval]
 rintro ⟨⟩ ⟨sl,ob,n⟩ d _ h
 simp only[go_sem,seval,Zc] at d
 obtain ⟨⟨_,_,_⟩,hn⟩:=d
 subst hn
 have:=Zy (r_0.thn.length)
 cases h
 simp only[*,go_sem,seval]
theorem Zgp {b_0:(List Zs)} {r:(List Zs)} (h:ZaT b_0=some r):Zk prog J0 215 [(false,[.sl 166 2 (A0 Z4 b_0)])] [(false,[(false,.sl 166 2 (A0 Z4 r))])]:=by
 refine fnk func215 rfl ?_
 unfold ZaT at h
 simp only[fnS,f215,Zm,go_sem,seval]
 obtain ⟨_,h⟩:=Zq h
 cases h
 simp only[*,go_sem,seval]
theorem ZeI {r_0:Zg} {r:(List Zt)} (h:YP r_0=some r):Zk prog J0 85 [(true,ZF r_0)] [(false,[(true,.sl 173 5 (A0 ZK r))])]:=by
 refine fnk func85 rfl ?_
 unfold YP at h
 simp only[fnS,f85,Zm,go_sem,seval]
 refine Zi h (fun i a st=>IV [(3,.p false [.row 0]),(7,.p false [.c (.sl 173 5 (A0 ZK r_0.cond))]),(8,.p false [.c (.int .i64 ((r_0.cond.length:Nat):Int))]),(9,.p false [.c (.int .i64 ((i:Nat):Int))])] [.row 173 5 (A0 ZK a) 1] st) [(false,3,0),(true,112,1)] [112] (by decide) ?_ ?_ ?_
 simp only[*,go_sem,seval]
 rintro _ _ a ⟨sl,ob,n⟩ _ b d f h _
 simp only[go_sem,seval,Zc] at d
 obtain ⟨⟨_,g,_,_⟩,_,hn⟩:=d
 subst hn
 have k:=WF.slotL f g (j:=0) rfl
 have:=ZA b
 have:=ZC b
 have:=Zj (ZB b) k
 simp only[*,go_sem,seval]
 refine Ze h (fun _ h=>?_) fun _ h=>?_<;>try simp only[*,go_sem,seval]
 obtain ⟨l,h⟩:=Zq h
 try simp only[Nat.reduceLeDiff] at l
 simp only[*,go_sem,seval]
 refine ⟨_,[],[177],(A3 h).symm,by decide,?_⟩
 simp only[*,go_sem,seval]
 refine ⟨_,[],[0],(A3 h).symm,by decide,?_⟩
 simp only[*,go_sem,seval]
 rintro a ⟨sl,ob,n⟩ e _ h
 simp only[go_sem,seval,Zc] at e
 obtain ⟨⟨_,_,_,_⟩,_,hn⟩:=e
 subst hn
 have:=Zy (r_0.cond.length)
 cases h
 simp only[*,go_sem,seval]
theorem ZqS {l_0:(List Int)} {n_1:Int} {r:Bool} (h:Zgz l_0 n_1=some r):Zk prog J0 163 [(false,[.sl 3 1 (A0 ZI l_0)]),(false,[.int .i64 n_1])] [(false,[(false,.bool r)])]:=by
 refine fnk func163 rfl ?_
 unfold Zgz at h
 simp only[fnS,f163,Zm,go_sem,seval]
 refine Zi h (fun i _ st=>IV [(1,.p false [.c (.int .i64 n_1)]),(7,.p false [.c (.sl 3 1 (A0 ZI l_0))]),(8,.p false [.c (.int .i64 ((l_0.length:Nat):Int))]),(9,.p false [.c (.int .i64 ((i:Nat):Int))])] [] st) [] [] (by decide) ?_ ?_ ?_
 simp only[*,go_sem,seval]
 rintro _ _ ⟨⟩ ⟨sl,ob,n⟩ _ a b e h f
 simp only[go_sem,seval,Zc] at b
 obtain ⟨⟨_,g,_,_⟩,hn⟩:=b
 subst hn
 have k:=WF.slotL e g (j:=0) rfl
 have:=ZA a
 have:=ZC a
 have:=Zj (ZB a) k
 simp only[*,go_sem,seval]
 refine Ze h (fun _ h=>?_) fun _ h=>?_<;>try simp only[*,go_sem,seval]
 replace h:=Zn h f
 cases h
 simp only[*,go_sem,seval]
 refine ⟨_,[],[],(A3 h).symm,by decide,?_⟩
 simp only[*,go_sem,seval]
 rintro ⟨⟩ ⟨sl,ob,n⟩ d _ h
 simp only[go_sem,seval,Zc] at d
 obtain ⟨⟨_,_,_,_⟩,hn⟩:=d
 subst hn
 have:=Zy (l_0.length)
 cases h
 simp only[*,go_sem,seval]
theorem ZhM {a_0:(List Int)} {b_1:(List Int)} {r:Bool} (h:ZbL a_0 b_1=some r):Zk prog J0 292 [(false,[.sl 3 1 (A0 ZI a_0)]),(false,[.sl 3 1 (A0 ZI b_1)])] [(false,[(false,.bool r)])]:=by
 refine fnk func292 rfl ?_
 unfold ZbL at h
 simp only[fnS,f292,Zm,go_sem,seval]
 refine Ze h (fun _ h=>?_) fun _ h=>?_<;>try simp only[*,go_sem,seval]
 cases h
 simp only[*,go_sem,seval]
 refine Zi h (fun i _ st=>IV [(0,.p false [.c (.sl 3 1 (A0 ZI a_0))]),(1,.p false [.c (.sl 3 1 (A0 ZI b_1))]),(12,.p false [.c (.int .i64 ((a_0.length:Nat):Int))]),(13,.p false [.c (.int .i64 ((i:Nat):Int))])] [] st) [] [] (by decide) ?_ ?_ ?_
 simp only[*,go_sem,seval]
 rintro _ _ ⟨⟩ ⟨sl,ob,n⟩ _ a b e h f
 simp only[go_sem,seval,Zc] at b
 obtain ⟨⟨g,_,_,_⟩,hn⟩:=b
 subst hn
 have k:=WF.slotL e g (j:=0) rfl
 have:=ZA a
 have:=ZC a
 have:=Zj (ZB a) k
 obtain ⟨_,_,_,l,h⟩:=ZbQ h
 simp only[A4] at l
 simp only[*,go_sem,seval]
 refine Ze h (fun _ h=>?_) fun _ h=>?_<;>try simp only[*,go_sem,seval]
 replace h:=Zn h f
 cases h
 simp only[*,go_sem,seval]
 refine ⟨_,[],[],(A3 h).symm,by decide,?_⟩
 simp only[*,go_sem,seval]
 rintro ⟨⟩ ⟨sl,ob,n⟩ d _ h
 simp only[go_sem,seval,Zc] at d
 obtain ⟨⟨_,_,_,_⟩,hn⟩:=d
 subst hn
 have:=Zy (a_0.length)
 cases h
 simp only[*,go_sem,seval]
end
section
set_option linter.unusedSimpArgs false
set_option linter.unusedVariables false
set_option maxRecDepth 1000000
set_option maxHeartbeats 4000000
theorem Zp7 {append_0:Zr} {r:(List Int)} (h:ZgJ append_0=some r):Zk prog J0 257 [(true,XY append_0)] [(false,[(false,.sl 3 1 (A0 ZI r))])]:=by
 refine fnk func257 rfl ?_
 unfold ZgJ at h
 simp only[fnS,f257,Zm,go_sem,seval]
 obtain ⟨p1,h⟩:=Zq h
 simp only[*,go_sem,seval]
 refine Yo h (fun s st=>match s with | (row_92,u_93)=>IV [(1,.bp 0 0),(3,.p false [.row 1]),(4,.p false [.c (.bool u_93)])] [.box 64 [.c (.int .i64 append_0.nodes),.c (.sl 199 3 (A0 ZE append_0.reasons))],.row 3 1 (A0 ZI row_92) 2] st) [] [0,64] (by decide) ?_ ?_
 ·simp only[*,go_sem,seval]
 ·rintro ⟨row_92,u_93⟩ ⟨sl,ob,n⟩ y2 hI3 hW4 h hy2
  simp only[go_sem,seval,Zc] at hI3
  obtain ⟨⟨g5_1,g5_3,g5_4⟩,og5_0,og5_1,hn⟩:=hI3
  subst hn
  simp only[*,go_sem,seval]
  refine Ze h (fun _ h=>?_) fun _ h=>?_<;>try simp only[*,go_sem,seval]
  ·refine Zi h (fun i s st=>match s with | (row_123,u_125)=>IV [(1,.bp 0 0),(3,.p false [.row 1]),(4,.p false [.c (.bool u_125)]),(17,.p false [.c (.sl 199 3 (A0 ZE append_0.reasons))]),(18,.p false [.c (.int .i64 ((append_0.reasons.length:Nat):Int))]),(19,.p false [.c (.int .i64 ((i:Nat):Int))])] [.box 64 [.c (.int .i64 append_0.nodes),.c (.sl 199 3 (A0 ZE append_0.reasons))],.row 3 1 (A0 ZI row_123) 2] st) [] [0,1] (by decide) ?_ ?_ ?_
   ·simp only[*,go_sem,seval]
   ·rintro i155 x156 ⟨row_123,u_125⟩ ⟨sl,ob,n⟩ y7 hx8 hI9 hW10 h hy7
    simp only[go_sem,seval,Zc] at hI9
    obtain ⟨⟨g11_1,g11_3,g11_4,g11_17,g11_18,g11_19⟩,og11_0,og11_1,hn⟩:=hI9
    subst hn
    have hlhx8:=WF.slotL hW10 g11_17 (j:=0) rfl
    have q12:=ZA hx8
    have q13:=ZC hx8
    have q14:=Zj (ZB hx8) hlhx8
    obtain ⟨p15,h⟩:=Zq h
    obtain ⟨x157,e16,h⟩:=Za h
    simp only[*,go_sem,seval]
    refine Zi h (fun i u_161 st=>IV [(1,.bp 0 0),(3,.p false [.row 1]),(4,.p false [.c (.bool u_125)]),(6,.bp 2 0),(7,.p false [.c (.int .i64 u_161)]),(17,.p false [.c (.sl 199 3 (A0 ZE append_0.reasons))]),(18,.p false [.c (.int .i64 ((append_0.reasons.length:Nat):Int))]),(19,.p false [.c (.int .i64 ((i155:Nat):Int))]),(29,.p false [.c (.sl 3 1 (A0 ZI x156.inn))]),(30,.p false [.c (.int .i64 ((x156.inn.length:Nat):Int))]),(31,.p false [.c (.int .i64 ((i:Nat):Int))])] [.box 64 [.c (.int .i64 append_0.nodes),.c (.sl 199 3 (A0 ZE append_0.reasons))],.row 3 1 (A0 ZI row_123) 2,.box 199 [.c (.int .i64 x156.for_),.c (.sl 3 1 (A0 ZI x156.inn)),.c (.sl 3 1 (A0 ZI x156.outs))]] st) [] [0,1,50] (by decide) ?_ ?_ ?_
    ·simp only[*,go_sem,seval]
    ·rintro i173 x174 u_161 ⟨sl,ob,n⟩ y17 hx18 hI19 hW20 h hy17
     simp only[go_sem,seval,Zc] at hI19
     obtain ⟨⟨g21_1,g21_3,g21_4,g21_6,g21_7,g21_17,g21_18,g21_19,g21_29,g21_30,g21_31⟩,og21_0,og21_1,og21_2,hn⟩:=hI19
     subst hn
     have hlhx18:=WF.slotL hW20 g21_29 (j:=0) rfl
     have q22:=ZA hx18
     have q23:=ZC hx18
     have q24:=Zj (ZB hx18) hlhx18
     obtain ⟨p25,h⟩:=Zq h
     obtain ⟨x175,e26,h⟩:=Za h
     simp only[*,go_sem,seval]
     refine ⟨_,[],[0,1,2],(A3 h).symm,by decide,?_⟩
     simp only[*,go_sem,seval]
    ·rintro u_161 ⟨sl,ob,n⟩ hI27 hW28 h
     simp only[go_sem,seval,Zc] at hI27
     obtain ⟨⟨g29_1,g29_3,g29_4,g29_6,g29_7,g29_17,g29_18,g29_19,g29_29,g29_30,g29_31⟩,og29_0,og29_1,og29_2,hn⟩:=hI27
     subst hn
     have q30:=Zy (x156.inn.length)
     simp only[*,go_sem,seval]
     refine Zi h (fun i u_179 st=>IV [(1,.bp 0 0),(3,.p false [.row 1]),(4,.p false [.c (.bool u_125)]),(6,.bp 2 0),(7,.p false [.c (.int .i64 u_179)]),(17,.p false [.c (.sl 199 3 (A0 ZE append_0.reasons))]),(18,.p false [.c (.int .i64 ((append_0.reasons.length:Nat):Int))]),(19,.p false [.c (.int .i64 ((i155:Nat):Int))]),(43,.p false [.c (.sl 3 1 (A0 ZI x156.outs))]),(44,.p false [.c (.int .i64 ((x156.outs.length:Nat):Int))]),(45,.p false [.c (.int .i64 ((i:Nat):Int))])] [.box 64 [.c (.int .i64 append_0.nodes),.c (.sl 199 3 (A0 ZE append_0.reasons))],.row 3 1 (A0 ZI row_123) 2,.box 199 [.c (.int .i64 x156.for_),.c (.sl 3 1 (A0 ZI x156.inn)),.c (.sl 3 1 (A0 ZI x156.outs))]] st) [] [0,1,2] (by decide) ?_ ?_ ?_
     ·simp only[*,go_sem,seval]
     ·rintro i182 x183 u_179 ⟨sl,ob,n⟩ y31 hx32 hI33 hW34 h hy31
      simp only[go_sem,seval,Zc] at hI33
      obtain ⟨⟨g35_1,g35_3,g35_4,g35_6,g35_7,g35_17,g35_18,g35_19,g35_43,g35_44,g35_45⟩,og35_0,og35_1,og35_2,hn⟩:=hI33
      subst hn
      have hlhx32:=WF.slotL hW34 g35_43 (j:=0) rfl
      have q36:=ZA hx32
      have q37:=ZC hx32
      have q38:=Zj (ZB hx32) hlhx32
      obtain ⟨p39,h⟩:=Zq h
      obtain ⟨x184,e40,h⟩:=Za h
      simp only[*,go_sem,seval]
      refine ⟨_,[],[0,1,2],(A3 h).symm,by decide,?_⟩
      simp only[*,go_sem,seval]
     ·rintro u_179 ⟨sl,ob,n⟩ hI41 hW42 h
      simp only[go_sem,seval,Zc] at hI41
      obtain ⟨⟨g43_1,g43_3,g43_4,g43_6,g43_7,g43_17,g43_18,g43_19,g43_43,g43_44,g43_45⟩,og43_0,og43_1,og43_2,hn⟩:=hI41
      subst hn
      have q44:=Zy (x156.outs.length)
      simp only[*,go_sem,seval]
      refine Ze h (fun _ h=>?_) fun _ h=>?_<;>try simp only[*,go_sem,seval]
      ·refine ⟨_,[],[0,1],(A3 h).symm,by decide,?_⟩
       simp only[*,go_sem,seval]
      ·refine ⟨_,[],[0,1],(A3 h).symm,by decide,?_⟩
       simp only[*,go_sem,seval]
   ·rintro ⟨row_123,u_125⟩ ⟨sl,ob,n⟩ hI46 hW47 h
    simp only[go_sem,seval,Zc] at hI46
    obtain ⟨⟨g48_1,g48_3,g48_4,g48_17,g48_18,g48_19⟩,og48_0,og48_1,hn⟩:=hI46
    subst hn
    have q49:=Zy (append_0.reasons.length)
    simp only[*,go_sem,seval]
    refine ⟨_,[],[0,1],(A3 h).symm,by decide,?_⟩
    simp only[*,go_sem,seval]
  ·replace h:=Zn h hy2
   cases h
   simp only[*,go_sem,seval]
theorem ZlJ {r_0:Zf} {rounds_1:(List Int)} {before_2:Int} {r:Bool} (h:ZaY r_0 rounds_1 before_2=some r):Zk prog J0 258 [(true,ZE r_0),(false,[.sl 3 1 (A0 ZI rounds_1)]),(false,[.int .i64 before_2])] [(false,[(false,.bool r)])]:=by
 refine fnk func258 rfl ?_
 unfold ZaY at h
 simp only[fnS,f258,Zm,go_sem,seval]
 refine Zi h (fun i _ st=>IV [(1,.p false [.c (.sl 3 1 (A0 ZI rounds_1))]),(2,.p false [.c (.int .i64 before_2)]),(3,.bp 0 0),(12,.p false [.c (.sl 3 1 (A0 ZI r_0.inn))]),(13,.p false [.c (.int .i64 ((r_0.inn.length:Nat):Int))]),(14,.p false [.c (.int .i64 ((i:Nat):Int))])] [.box 199 [.c (.int .i64 r_0.for_),.c (.sl 3 1 (A0 ZI r_0.inn)),.c (.sl 3 1 (A0 ZI r_0.outs))]] st) [] [0] (by decide) ?_ ?_ ?_
 simp only[*,go_sem,seval]
 rintro _ _ ⟨⟩ ⟨sl,ob,n⟩ _ a d l h e
 simp only[go_sem,seval,Zc] at d
 obtain ⟨⟨_,_,_,m,_,_⟩,_,hn⟩:=d
 subst hn
 have o:=WF.slotL l m (j:=0) rfl
 have:=ZA a
 have:=ZC a
 have:=Zj (ZB a) o
 obtain ⟨_,_,_,_,h⟩:=ZbQ h
 simp only[*,go_sem,seval]
 refine Ze h (fun _ h=>?_) fun _ h=>?_<;>try simp only[*,go_sem,seval]
 replace h:=Zn h e
 cases h
 simp only[*,go_sem,seval]
 refine Ze h (fun _ h=>?_) fun _ h=>?_<;>try simp only[*,go_sem,seval]
 replace h:=Zn h e
 cases h
 simp only[*,go_sem,seval]
 refine ⟨_,[],[0],(A3 h).symm,by decide,?_⟩
 simp only[*,go_sem,seval]
 rintro ⟨⟩ ⟨sl,ob,n⟩ f _ h
 simp only[go_sem,seval,Zc] at f
 obtain ⟨⟨_,_,_,_,_,_⟩,_,hn⟩:=f
 subst hn
 have:=Zy (r_0.inn.length)
 simp only[*,go_sem,seval]
 refine Zi h (fun i _ st=>IV [(1,.p false [.c (.sl 3 1 (A0 ZI rounds_1))]),(33,.p false [.c (.sl 3 1 (A0 ZI r_0.outs))]),(34,.p false [.c (.int .i64 ((r_0.outs.length:Nat):Int))]),(35,.p false [.c (.int .i64 ((i:Nat):Int))])] [] st) [] [] (by decide) ?_ ?_ ?_
 simp only[*,go_sem,seval]
 rintro _ _ ⟨⟩ ⟨sl,ob,n⟩ _ b g q h t
 simp only[go_sem,seval,Zc] at g
 obtain ⟨⟨_,u,_,_⟩,hn⟩:=g
 subst hn
 have v:=WF.slotL q u (j:=0) rfl
 have:=ZA b
 have:=ZC b
 have:=Zj (ZB b) v
 obtain ⟨_,_,_,_,h⟩:=ZbQ h
 simp only[*,go_sem,seval]
 refine Ze h (fun _ h=>?_) fun _ h=>?_<;>try simp only[*,go_sem,seval]
 replace h:=Zn h t
 cases h
 simp only[*,go_sem,seval]
 refine ⟨_,[],[],(A3 h).symm,by decide,?_⟩
 simp only[*,go_sem,seval]
 rintro ⟨⟩ ⟨sl,ob,n⟩ k _ h
 simp only[go_sem,seval,Zc] at k
 obtain ⟨⟨_,_,_,_⟩,hn⟩:=k
 subst hn
 have:=Zy (r_0.outs.length)
 cases h
 simp only[*,go_sem,seval]
theorem ZjC {a_0:(List ByteArray)} {b_1:(List ByteArray)} {r:Bool} (h:Zev a_0 b_1=some r):Zk prog J0 150 [(false,[.sl 9 1 (A0 Zx a_0)]),(false,[.sl 9 1 (A0 Zx b_1)])] [(false,[(false,.bool r)])]:=by
 refine fnk func150 rfl ?_
 unfold Zev at h
 simp only[fnS,f150,Zm,go_sem,seval]
 refine Ze h (fun _ h=>?_) fun _ h=>?_<;>try simp only[*,go_sem,seval]
 cases h
 simp only[*,go_sem,seval]
 refine Zi h (fun i _ st=>IV [(0,.p false [.c (.sl 9 1 (A0 Zx a_0))]),(1,.p false [.c (.sl 9 1 (A0 Zx b_1))]),(5,.p false [.c (.int .i64 ((i:Nat):Int))])] [] st) [] [] (by decide) ?_ ?_ ?_
 simp only[*,go_sem,seval]
 rintro _ _ ⟨⟩ ⟨sl,ob,n⟩ _ a b e h f
 simp only[go_sem,seval,Zc] at b
 obtain ⟨⟨g,_,_⟩,hn⟩:=b
 subst hn
 have k:=WF.slotL e g (j:=0) rfl
 have:=ZA a
 have:=ZC a
 have:=Zj (ZB a) k
 obtain ⟨_,_,_,l,h⟩:=ZbQ h
 simp only[A4] at l
 simp only[*,go_sem,seval]
 refine Ze h (fun _ h=>?_) fun _ h=>?_<;>try simp only[*,go_sem,seval]
 refine ⟨_,[],[],(A3 h).symm,by decide,?_⟩
 simp only[*,go_sem,seval]
 replace h:=Zn h f
 cases h
 simp only[*,go_sem,seval]
 rintro ⟨⟩ ⟨sl,ob,n⟩ d _ h
 simp only[go_sem,seval,Zc] at d
 obtain ⟨⟨_,_,_⟩,hn⟩:=d
 subst hn
 have:=Zy (a_0.length)
 cases h
 simp only[*,go_sem,seval]
theorem ZhP {l_0:(List Zg)} {name_1:ByteArray} {r:Int} (h:ZdZ l_0 name_1=some r):Zk prog J0 19 [(false,[.sl 42 4 (A0 ZF l_0)]),(false,[.str name_1])] [(false,[(false,.int .i64 r)])]:=by
 refine fnk func19 rfl ?_
 unfold ZdZ at h
 simp only[fnS,f19,Zm,go_sem,seval]
 refine Zi h (fun i _ st=>IV [(0,.p false [.c (.sl 42 4 (A0 ZF l_0))]),(1,.p false [.c (.str name_1)]),(5,.p false [.c (.int .i64 ((i:Nat):Int))])] [] st) [] [] (by decide) ?_ ?_ ?_
 simp only[*,go_sem,seval]
 rintro _ _ ⟨⟩ ⟨sl,ob,n⟩ _ a b e h f
 simp only[go_sem,seval,Zc] at b
 obtain ⟨⟨g,_,_⟩,hn⟩:=b
 subst hn
 have k:=WF.slotL e g (j:=0) rfl
 have:=ZA a
 have:=ZC a
 have:=Zj (ZB a) k
 simp only[*,go_sem,seval]
 refine Ze h (fun _ h=>?_) fun _ h=>?_<;>try simp only[*,go_sem,seval]
 replace h:=Zn h f
 cases h
 simp only[*,go_sem,seval]
 refine ⟨_,[],[],(A3 h).symm,by decide,?_⟩
 simp only[*,go_sem,seval]
 rintro ⟨⟩ ⟨sl,ob,n⟩ d _ h
 simp only[go_sem,seval,Zc] at d
 obtain ⟨⟨_,_,_⟩,hn⟩:=d
 subst hn
 have:=Zy (l_0.length)
 cases h
 simp only[*,go_sem,seval]
theorem ZgL {b_0:(List Zs)} {r:(List Zs)} (h:ZcA b_0=some r):Zk prog J0 313 [(false,[.sl 166 2 (A0 Z4 b_0)])] [(false,[(false,.sl 166 2 (A0 Z4 r))])]:=by
 refine fnk func313 rfl ?_
 unfold ZcA at h
 simp only[fnS,f313,Zm,go_sem,seval]
 obtain ⟨_,h⟩:=Zq h
 cases h
 simp only[*,go_sem,seval]
theorem ZsA {a:(List Zs)} {b:ByteArray} {d:ByteArray} {r:(List Zs)} (h:ZiO a b d=some r):Zk prog J0 339 [(false,[.sl 166 2 (A0 Z4 a)]),(false,[.str b]),(false,[.str d])] [(false,[(false,.sl 166 2 (A0 Z4 r))])]:=by
 refine fnk func339 rfl ?_
 unfold ZiO at h
 simp only[fnS,f339,Zm,go_sem,seval]
 refine Zi h (fun i s st=>match s with | (e,f)=>IV [(0,.p false [.c (.sl 166 2 (A0 Z4 a))]),(1,.p false [.c (.str b)]),(2,.p false [.c (.str d)]),(7,.p false [.row 0]),(8,.p false [.c (.bool f)]),(9,.p false [.c (.int .i64 ((i:Nat):Int))])] [.row 166 2 (A0 Z4 e) 2] st) [] [16] (by decide) ?_ ?_ ?_
 simp only[*,go_sem,seval]
 rintro _ _ ⟨e,f⟩ ⟨sl,ob,n⟩ _ g l o h _
 simp only[go_sem,seval,Zc] at l
 obtain ⟨⟨q,_,_,_,_,_⟩,_,hn⟩:=l
 subst hn
 have t:=WF.slotL o q (j:=0) rfl
 have:=ZA g
 have:=ZC g
 have:=Zj (ZB g) t
 simp only[*,go_sem,seval]
 refine Ze h (fun _ h=>?_) fun _ h=>?_<;>try simp only[*,go_sem,seval]
 obtain ⟨u,h⟩:=Zq h
 try simp only[Nat.reduceLeDiff] at u
 simp only[*,go_sem,seval]
 refine ⟨_,[],[337],(A3 h).symm,by decide,?_⟩
 simp only[*,go_sem,seval]
 refine Ze h (fun k h=>?_) (fun k h=>?_)
 have v:=k
 obtain ⟨w,h⟩:=Zq h
 try simp only[Nat.reduceLeDiff] at w
 simp only[*,go_sem,seval]
 refine ⟨_,[],[337],(A3 h).symm,by decide,?_⟩
 simp only[*,go_sem,seval]
 have v:=k
 obtain ⟨x,h⟩:=Zq h
 try simp only[Nat.reduceLeDiff] at x
 obtain ⟨y,h⟩:=Zq h
 try simp only[Nat.reduceLeDiff] at y
 simp only[*,go_sem,seval]
 refine ⟨_,[],[465],(A3 h).symm,by decide,?_⟩
 simp only[*,go_sem,seval]
 rintro ⟨e,f⟩ ⟨sl,ob,n⟩ m _ h
 simp only[go_sem,seval,Zc] at m
 obtain ⟨⟨_,_,_,_,_,_⟩,_,hn⟩:=m
 subst hn
 have:=Zy (a.length)
 simp only[*,go_sem,seval]
 refine Ze h (fun _ h=>?_) fun _ h=>?_<;>try simp only[*,go_sem,seval]
 cases h
 simp only[*,go_sem,seval]
 obtain ⟨z,h⟩:=Zq h
 try simp only[Nat.reduceLeDiff] at z
 cases h
 simp only[*,go_sem,seval]
theorem ZeY {r_0:Zg} {r:(List Zt)} (h:XJ r_0=some r):Zk prog J0 172 [(true,ZF r_0)] [(false,[(true,.sl 173 5 (A0 ZK r))])]:=by
 refine fnk func172 rfl ?_
 unfold XJ at h
 simp only[fnS,f172,Zm,go_sem,seval]
 refine Zi h (fun i a st=>IV [(1,.bp 0 0),(3,.p false [.row 1]),(4,.p false [.c (.int .i64 ((i:Nat):Int))])] [.box 42 [.c (.str r_0.name),.c (.int .i64 r_0.priority),.c (.sl 173 5 (A0 ZK r_0.cond)),.c (.sl 50 3 (A0 ZG r_0.thn))],.row 173 5 (A0 ZK a) 1] st) [(true,32,1)] [0,32] (by decide) ?_ ?_ ?_
 simp only[*,go_sem,seval]
 rintro _ _ a ⟨sl,ob,n⟩ _ b d f h _
 simp only[go_sem,seval,Zc] at d
 obtain ⟨⟨_,_,_⟩,g,_,hn⟩:=d
 subst hn
 have k:=WF.boxL f g (j:=2) rfl
 have:=ZA b
 have:=ZC b
 have:=Zj (ZB b) k
 simp only[*,go_sem,seval]
 refine Ze h (fun _ h=>?_) fun _ h=>?_<;>try simp only[*,go_sem,seval]
 obtain ⟨l,h⟩:=Zq h
 try simp only[Nat.reduceLeDiff] at l
 simp only[*,go_sem,seval]
 refine ⟨_,[],[0,306],(A3 h).symm,by decide,?_⟩
 simp only[*,go_sem,seval]
 refine ⟨_,[],[0,1],(A3 h).symm,by decide,?_⟩
 simp only[*,go_sem,seval]
 rintro a ⟨sl,ob,n⟩ e _ h
 simp only[go_sem,seval,Zc] at e
 obtain ⟨⟨_,_,_⟩,_,_,hn⟩:=e
 subst hn
 have:=Zy (r_0.cond.length)
 cases h
 simp only[*,go_sem,seval]
theorem ZpR {a:(List Int)} {b:Int} {r:(List Int)} (h:Zgk a b=some r):Zk prog J0 159 [(false,[.sl 3 1 (A0 ZI a)]),(false,[.int .i64 b])] [(false,[(false,.sl 3 1 (A0 ZI r))])]:=by
 refine fnk func159 rfl ?_
 unfold Zgk at h
 simp only[fnS,f159,Zm,go_sem,seval]
 refine Zi h (fun i s st=>match s with | (d,e)=>IV [(0,.p false [.c (.sl 3 1 (A0 ZI a))]),(1,.p false [.c (.int .i64 b)]),(5,.p false [.row 0]),(6,.p false [.c (.bool e)]),(7,.p false [.c (.int .i64 ((i:Nat):Int))])] [.row 3 1 (A0 ZI d) 2] st) [] [16] (by decide) ?_ ?_ ?_
 simp only[*,go_sem,seval]
 rintro _ _ ⟨d,e⟩ ⟨sl,ob,n⟩ _ f k m h _
 simp only[go_sem,seval,Zc] at k
 obtain ⟨⟨o,_,_,_,_⟩,_,hn⟩:=k
 subst hn
 have q:=WF.slotL m o (j:=0) rfl
 have:=ZA f
 have:=ZC f
 have:=Zj (ZB f) q
 simp only[*,go_sem,seval]
 refine Ze h (fun _ h=>?_) fun _ h=>?_<;>try simp only[*,go_sem,seval]
 obtain ⟨t,h⟩:=Zq h
 try simp only[Nat.reduceLeDiff] at t
 simp only[*,go_sem,seval]
 refine ⟨_,[],[321],(A3 h).symm,by decide,?_⟩
 simp only[*,go_sem,seval]
 iterate 2 refine Ze h (fun _ h=>?_) fun _ h=>?_<;>try simp only[*,go_sem,seval]
 obtain ⟨u,h⟩:=Zq h
 try simp only[Nat.reduceLeDiff] at u
 obtain ⟨v,h⟩:=Zq h
 try simp only[Nat.reduceLeDiff] at v
 simp only[*,go_sem,seval]
 refine ⟨_,[],[513],(A3 h).symm,by decide,?_⟩
 simp only[*,go_sem,seval]
 obtain ⟨w,h⟩:=Zq h
 try simp only[Nat.reduceLeDiff] at w
 simp only[*,go_sem,seval]
 refine ⟨_,[],[433],(A3 h).symm,by decide,?_⟩
 simp only[*,go_sem,seval]
 obtain ⟨x,h⟩:=Zq h
 try simp only[Nat.reduceLeDiff] at x
 simp only[*,go_sem,seval]
 refine ⟨_,[],[321],(A3 h).symm,by decide,?_⟩
 simp only[*,go_sem,seval]
 rintro ⟨d,e⟩ ⟨sl,ob,n⟩ l _ h
 simp only[go_sem,seval,Zc] at l
 obtain ⟨⟨_,_,_,_,_⟩,_,hn⟩:=l
 subst hn
 have:=Zy (a.length)
 simp only[*,go_sem,seval]
 refine Ze h (fun _ h=>?_) fun _ h=>?_<;>try simp only[*,go_sem,seval]
 cases h
 simp only[*,go_sem,seval]
 obtain ⟨y,h⟩:=Zq h
 try simp only[Nat.reduceLeDiff] at y
 cases h
 simp only[*,go_sem,seval]
theorem ZfS {a_0:(List Int)} {b_1:(List Int)} {r:Bool} (h:Zbi a_0 b_1=some r):Zk prog J0 259 [(false,[.sl 3 1 (A0 ZI a_0)]),(false,[.sl 3 1 (A0 ZI b_1)])] [(false,[(false,.bool r)])]:=by
 refine fnk func259 rfl ?_
 unfold Zbi at h
 simp only[fnS,f259,Zm,go_sem,seval]
 refine Ze h (fun _ h=>?_) fun _ h=>?_<;>try simp only[*,go_sem,seval]
 cases h
 simp only[*,go_sem,seval]
 refine Zi h (fun i _ st=>IV [(0,.p false [.c (.sl 3 1 (A0 ZI a_0))]),(1,.p false [.c (.sl 3 1 (A0 ZI b_1))]),(5,.p false [.c (.int .i64 ((i:Nat):Int))])] [] st) [] [] (by decide) ?_ ?_ ?_
 simp only[*,go_sem,seval]
 rintro _ _ ⟨⟩ ⟨sl,ob,n⟩ _ a b e h f
 simp only[go_sem,seval,Zc] at b
 obtain ⟨⟨g,_,_⟩,hn⟩:=b
 subst hn
 have k:=WF.slotL e g (j:=0) rfl
 have:=ZA a
 have:=ZC a
 have:=Zj (ZB a) k
 obtain ⟨_,_,_,l,h⟩:=ZbQ h
 simp only[A4] at l
 simp only[*,go_sem,seval]
 refine Ze h (fun _ h=>?_) fun _ h=>?_<;>try simp only[*,go_sem,seval]
 replace h:=Zn h f
 cases h
 simp only[*,go_sem,seval]
 refine ⟨_,[],[],(A3 h).symm,by decide,?_⟩
 simp only[*,go_sem,seval]
 rintro ⟨⟩ ⟨sl,ob,n⟩ d _ h
 simp only[go_sem,seval,Zc] at d
 obtain ⟨⟨_,_,_⟩,hn⟩:=d
 subst hn
 have:=Zy (a_0.length)
 cases h
 simp only[*,go_sem,seval]
theorem ZFM {code_0:(List Int)} {i_1:Int} {r:Int} (h:ZFL code_0 i_1=some r):Zk prog J0 23 [(false,[.sl 5 1 (A0 ZeK code_0)]),(false,[.int .i64 i_1])] [(false,[(false,.int .i64 r)])]:=by
 refine fnk func23 rfl ?_
 unfold ZFL at h
 simp only[fnS,f23,Zm,go_sem,seval]
 refine Ze h (fun _ h=>?_) fun _ h=>?_<;>try simp only[*,go_sem,seval]
 cases h
 simp only[*,go_sem,seval]
 obtain ⟨_,_,_,_,h⟩:=ZbQ h
 cases h
 simp only[*,go_sem,seval]
theorem ZFE {l_0:(List Zb)} {n_1:Int} {r:(List Zb)} (h:ZFx l_0 n_1=some r):Zk prog J0 30 [(false,[.sl 45 2 (A0 Zl l_0)]),(false,[.int .i64 n_1])] [(false,[(true,.sl 45 2 (A0 Zl r))])]:=by
 refine fnk func30 rfl ?_
 unfold ZFx at h
 have f:¬((16:Int)=0):=by decide
 simp only[fnS,f30,Zm,go_sem,seval,f]
 refine Zi h (fun i a st=>IV [(0,.p false [.c (.sl 45 2 (A0 Zl l_0))]),(1,.p false [.c (.int .i64 n_1)]),(5,.p false [.row 0]),(6,.p false [.c (.int .i64 ((i:Nat):Int))])] [.row 45 2 (A0 Zl a) 1] st) [(true,16,1)] [16] (by decide) ?_ ?_ ?_
 simp only[*,go_sem,seval]
 rintro _ _ a ⟨sl,ob,n⟩ _ b d g h _
 simp only[go_sem,seval,Zc] at d
 obtain ⟨⟨k,_,_,_⟩,_,hn⟩:=d
 subst hn
 have l:=WF.slotL g k (j:=0) rfl
 have:=ZA b
 have:=ZC b
 have:=Zj (ZB b) l
 obtain ⟨_,h⟩:=Zq h
 simp only[*,go_sem,seval]
 refine Ze h (fun _ h=>?_) fun _ h=>?_<;>try simp only[*,go_sem,seval]
 obtain ⟨m,h⟩:=Zq h
 try simp only[Nat.reduceLeDiff] at m
 simp only[*,go_sem,seval]
 refine ⟨_,[],[257],(A3 h).symm,by decide,?_⟩
 simp only[*,go_sem,seval]
 refine ⟨_,[],[0],(A3 h).symm,by decide,?_⟩
 simp only[*,go_sem,seval]
 rintro a ⟨sl,ob,n⟩ e _ h
 simp only[go_sem,seval,Zc] at e
 obtain ⟨⟨_,_,_,_⟩,_,hn⟩:=e
 subst hn
 have:=Zy (l_0.length)
 cases h
 simp only[*,go_sem,seval]
theorem ZFR {l_0:(List Int)} {nodes_1:Int} {r:Bool} (h:ZFP l_0 nodes_1=some r):Zk prog J0 242 [(false,[.sl 3 1 (A0 ZI l_0)]),(false,[.int .i64 nodes_1])] [(false,[(false,.bool r)])]:=by
 refine fnk func242 rfl ?_
 unfold ZFP at h
 simp only[fnS,f242,Zm,go_sem,seval]
 refine Zi h (fun i _ st=>IV [(0,.p false [.c (.sl 3 1 (A0 ZI l_0))]),(1,.p false [.c (.int .i64 nodes_1)]),(7,.p false [.c (.sl 3 1 (A0 ZI l_0))]),(8,.p false [.c (.int .i64 ((l_0.length:Nat):Int))]),(9,.p false [.c (.int .i64 ((i:Nat):Int))])] [] st) [] [] (by decide) ?_ ?_ ?_
 simp only[*,go_sem,seval]
 rintro _ _ ⟨⟩ ⟨sl,ob,n⟩ _ a d f h b
 simp only[go_sem,seval,Zc] at d
 obtain ⟨⟨g,_,_,_,_⟩,hn⟩:=d
 subst hn
 have k:=WF.slotL f g (j:=0) rfl
 have:=ZA a
 have:=ZC a
 have:=Zj (ZB a) k
 simp only[*,go_sem,seval]
 refine Ze h (fun _ h=>?_) fun _ h=>?_<;>try simp only[*,go_sem,seval]
 replace h:=Zn h b
 cases h
 simp only[*,go_sem,seval]
 refine Ze h (fun _ h=>?_) fun _ h=>?_<;>try simp only[*,go_sem,seval]
 replace h:=Zn h b
 cases h
 simp only[*,go_sem,seval]
 refine Ze h (fun _ h=>?_) fun _ h=>?_<;>try simp only[*,go_sem,seval]
 obtain ⟨_,_,_,_,h⟩:=ZbQ h
 simp only[*,go_sem,seval]
 refine Ze h (fun _ h=>?_) fun _ h=>?_<;>try simp only[*,go_sem,seval]
 replace h:=Zn h b
 cases h
 simp only[*,go_sem,seval]
 refine ⟨_,[],[],(A3 h).symm,by decide,?_⟩
 simp only[*,go_sem,seval]
 refine ⟨_,[],[],(A3 h).symm,by decide,?_⟩
 simp only[*,go_sem,seval]
 rintro ⟨⟩ ⟨sl,ob,n⟩ e _ h
 simp only[go_sem,seval,Zc] at e
 obtain ⟨⟨_,_,_,_,_⟩,hn⟩:=e
 subst hn
 have:=Zy (l_0.length)
 cases h
 simp only[*,go_sem,seval]
theorem ZIp {a_0:Int} {b_1:Int} {r:Bool} (h:ZGC a_0 b_1=some r):Zk prog J0 243 [(false,[.int .i64 a_0]),(false,[.int .i64 b_1])] [(false,[(false,.bool r)])]:=by
 refine fnk func243 rfl ?_
 unfold ZGC at h
 simp only[fnS,f243,Zm,go_sem,seval]
 iterate 2 refine Ze h (fun _ h=>?_) fun _ h=>?_<;>try simp only[*,go_sem,seval]
 iterate 3 (cases h;simp only[*,go_sem,seval])
theorem ZHT {a:QZ} {keep_1:(Int→Option Bool)} {kkeep_1:Nat} {ckeep_1:List CT} (hkeep_1:(SC prog J0 JF0 hds).hd kkeep_1=0) (skeep_1:∀{x0} {r:Bool},keep_1 x0=some r→Zk prog J0 kkeep_1 ([(false,[.int .i64 x0])]++ckeep_1.map fun c=>(false,[c])) [(false,[(false,.bool r)])]) {r:(List Int)} (h:ZGf a keep_1=some r):Zk prog J0 178 [(true,ZAT a),(false,[.fn kkeep_1 ckeep_1])] [(false,[(false,.sl 3 1 (A0 ZI r))])]:=by
 refine fnk func178 rfl ?_
 unfold ZGf at h
 simp only[fnS,f178,Zm,go_sem,seval,hkeep_1]
 obtain ⟨_,h⟩:=Zq h
 simp only[*,go_sem,seval]
 refine Yo h (fun s st=>match s with | (d,e)=>IV [(1,.p false [.c (.fn kkeep_1 ckeep_1)]),(5,.p false [.row 0]),(10,.p false [.c (.int .i64 (ZCy .i64 1 ((a.assumed.length:Nat):Int)))]),(11,.p false [.c (.int .i64 e)])] [.row 3 1 (A0 ZI d) 2] st) [(false,5,0)] [128] (by decide) ?_ ?_
 simp only[*,go_sem,seval]
 rintro ⟨d,e⟩ ⟨sl,ob,n⟩ _ f _ h g
 simp only[go_sem,seval,Zc] at f
 obtain ⟨⟨_,_,_,_⟩,_,hn⟩:=f
 subst hn
 simp only[*,go_sem,seval]
 refine Ze h (fun _ h=>?_) fun _ h=>?_<;>try simp only[*,go_sem,seval]
 refine ZMH h fun _ i h=>Zd (skeep_1 i) ?_
 simp only[*,go_sem,seval]
 refine Ze h (fun _ h=>?_) fun _ h=>?_<;>try simp only[*,go_sem,seval]
 obtain ⟨j,h⟩:=Zq h
 try simp only[Nat.reduceLeDiff] at j
 simp only[*,go_sem,seval]
 refine ⟨_,[],[145],(A3 h).symm,by decide,?_⟩
 simp only[*,go_sem,seval]
 refine ⟨_,[],[0],(A3 h).symm,by decide,?_⟩
 simp only[*,go_sem,seval]
 replace h:=Zn h g
 cases h
 simp only[*,go_sem,seval]
theorem ZHc {l_0:(List Int)} {set_1:Int} {r:(List Int)} (h:ZGn l_0 set_1=some r):Zk prog J0 114 [(false,[.sl 3 1 (A0 ZI l_0)]),(false,[.int .i64 set_1])] [(false,[(false,.sl 3 1 (A0 ZI r))])]:=by
 refine fnk func114 rfl ?_
 unfold ZGn at h
 have f:¬((0:Int)<0):=by decide
 simp only[fnS,f114,Zm,go_sem,seval,f]
 refine Zi h (fun i a st=>IV [(1,.p false [.c (.int .i64 set_1)]),(5,.p false [.row 0]),(8,.p false [.c (.sl 3 1 (A0 ZI l_0))]),(9,.p false [.c (.int .i64 ((l_0.length:Nat):Int))]),(10,.p false [.c (.int .i64 ((i:Nat):Int))])] [.row 3 1 (A0 ZI a) 2] st) [(false,5,0)] [80] (by decide) ?_ ?_ ?_
 simp only[*,go_sem,seval]
 rintro _ _ a ⟨sl,ob,n⟩ _ b d g h _
 simp only[go_sem,seval,Zc] at d
 obtain ⟨⟨_,_,k,_,_⟩,_,hn⟩:=d
 subst hn
 have l:=WF.slotL g k (j:=0) rfl
 have:=ZA b
 have:=ZC b
 have:=Zj (ZB b) l
 obtain ⟨_,h⟩:=Zq h
 simp only[*,go_sem,seval]
 refine Ze h (fun _ h=>?_) fun _ h=>?_<;>try simp only[*,go_sem,seval]
 obtain ⟨m,h⟩:=Zq h
 try simp only[Nat.reduceLeDiff] at m
 simp only[*,go_sem,seval]
 refine ⟨_,[],[225],(A3 h).symm,by decide,?_⟩
 simp only[*,go_sem,seval]
 refine ⟨_,[],[0],(A3 h).symm,by decide,?_⟩
 simp only[*,go_sem,seval]
 rintro a ⟨sl,ob,n⟩ e _ h
 simp only[go_sem,seval,Zc] at e
 obtain ⟨⟨_,_,_,_,_⟩,_,hn⟩:=e
 subst hn
 have:=Zy (l_0.length)
 cases h
 simp only[*,go_sem,seval]
theorem ZGV {l_0:(List Int)} {r:(List Int)} (h:ZF8 l_0=some r):Zk prog J0 252 [(false,[.sl 3 1 (A0 ZI l_0)])] [(false,[(false,.sl 3 1 (A0 ZI r))])]:=by
 refine fnk func252 rfl ?_
 unfold ZF8 at h
 simp only[fnS,f252,Zm,go_sem,seval]
 obtain ⟨_,h⟩:=Zq h
 cases h
 simp only[*,go_sem,seval]
theorem ZIt {l_0:(List Int)} {a_1:(List Bool)} {r:Bool} (h:ZGw l_0 a_1=some r):Zk prog J0 181 [(false,[.sl 3 1 (A0 ZI l_0)]),(false,[.sl 4 1 (A0 ZfM a_1)])] [(false,[(false,.bool r)])]:=by
 refine fnk func181 rfl ?_
 unfold ZGw at h
 simp only[fnS,f181,Zm,go_sem,seval]
 refine Zi h (fun i _ st=>IV [(1,.p false [.c (.sl 4 1 (A0 ZfM a_1))]),(7,.p false [.c (.sl 3 1 (A0 ZI l_0))]),(8,.p false [.c (.int .i64 ((l_0.length:Nat):Int))]),(9,.p false [.c (.int .i64 ((i:Nat):Int))])] [] st) [] [] (by decide) ?_ ?_ ?_
 simp only[*,go_sem,seval]
 rintro _ _ ⟨⟩ ⟨sl,ob,n⟩ _ a b e h f
 simp only[go_sem,seval,Zc] at b
 obtain ⟨⟨_,g,_,_⟩,hn⟩:=b
 subst hn
 have k:=WF.slotL e g (j:=0) rfl
 have:=ZA a
 have:=ZC a
 have:=Zj (ZB a) k
 obtain ⟨_,_,_,_,h⟩:=ZbQ h
 simp only[*,go_sem,seval]
 refine Ze h (fun _ h=>?_) fun _ h=>?_<;>try simp only[*,go_sem,seval]
 replace h:=Zn h f
 cases h
 simp only[*,go_sem,seval]
 refine ⟨_,[],[],(A3 h).symm,by decide,?_⟩
 simp only[*,go_sem,seval]
 rintro ⟨⟩ ⟨sl,ob,n⟩ d _ h
 simp only[go_sem,seval,Zc] at d
 obtain ⟨⟨_,_,_,_⟩,hn⟩:=d
 subst hn
 have:=Zy (l_0.length)
 cases h
 simp only[*,go_sem,seval]
end
section
set_option linter.unusedSimpArgs false
set_option linter.unusedVariables false
set_option maxRecDepth 1000000
set_option maxHeartbeats 4000000
theorem Q7 {c_0:ZJ} {n_1:Int} {r:(Int × ZJ)} (h:Xv c_0 n_1=some r):Zbx prog J0 JF0 111 (.box 152 (Zbj c_0)) [(false,[.int .i64 n_1])] [(false,[(false,.int .i64 r.1)])] (.box 152 (Zbj r.2)):=by
 refine fnh func111 rfl ?_
 unfold Xv at h
 simp only[fnH,f111,Zdh,Zdg,Xp,go_sem,seval]
 refine Ze h (fun _ h=>?_) fun _ h=>?_<;>try simp only[*,go_sem,seval]
 cases h
 simp only[*,go_sem,seval]
 refine Ze h (fun _ h=>?_) fun _ h=>?_<;>try simp only[*,go_sem,seval]
 obtain ⟨_,a,h⟩:=Za h
 refine QL (Zef a) ?_
 obtain ⟨_,h⟩:=Zq h
 cases h
 simp only[*,go_sem,seval]
 obtain ⟨_,b,h⟩:=Za h
 refine QL (Zef b) ?_
 simp only[*,go_sem,seval]
 obtain ⟨_,c,h⟩:=Za h
 refine QL (Zef c) ?_
 simp only[*,go_sem,seval]
 obtain ⟨_,d,h⟩:=Za h
 refine QL (Zef d) ?_
 obtain ⟨_,h⟩:=Zq h
 cases h
 simp only[*,go_sem,seval]
theorem Zb1 {s_0:ByteArray} {r:(Int × Bool)} (h:Qe s_0=some r):Zk prog J0 144 [(false,[.str s_0])] [(false,[(false,.int .i64 r.1)]),(false,[(false,.bool r.2)])]:=by
 refine fnk func144 rfl ?_
 unfold Qe at h
 simp only[fnS,f144,Zm,go_sem,seval]
 refine ZMH h fun _ g h=>Zd (XU g) ?_
 simp only[*,go_sem,seval]
 refine Ze h (fun _ h=>?_) fun _ h=>?_<;>try simp only[*,go_sem,seval]
 refine Zi h (fun i a st=>IV [(0,.p false [.c (.str s_0)]),(4,.p false [.c (.int .i64 a)]),(5,.p false [.c (.int .i64 ((i:Nat):Int))])] [] st) [] [] (by decide) ?_ ?_ ?_
 simp only[*,go_sem,seval]
 rintro _ _ a ⟨sl,ob,n⟩ _ b d k h e
 simp only[go_sem,seval,Zc] at d
 obtain ⟨⟨l,_,_⟩,hn⟩:=d
 subst hn
 have m:=WF.slotS k l (j:=0) rfl
 have:=Zpp b
 have:=Zva b
 have:=Zj (Zta b) m
 simp only[*,go_sem,seval]
 refine Ze h (fun _ h=>?_) fun _ h=>?_<;>try simp only[*,go_sem,seval]
 replace h:=Zn h e
 cases h
 simp only[*,go_sem,seval]
 refine Ze h (fun _ h=>?_) fun _ h=>?_<;>try simp only[*,go_sem,seval]
 replace h:=Zn h e
 cases h
 simp only[*,go_sem,seval]
 refine ⟨_,[],[],(A3 h).symm,by decide,?_⟩
 simp only[*,go_sem,seval]
 rintro a ⟨sl,ob,n⟩ f _ h
 simp only[go_sem,seval,Zc] at f
 obtain ⟨⟨_,_,_⟩,hn⟩:=f
 subst hn
 have:=Zy (s_0.size)
 simp only[*,go_sem,seval]
 refine ZMH h fun _ o h=>Zd (ZgG o) ?_
 simp only[*,go_sem,seval]
 refine Ze h (fun _ h=>?_) fun _ h=>?_<;>try simp only[*,go_sem,seval]
 iterate 3 (cases h;simp only[*,go_sem,seval])
theorem X0 {s_0:ByteArray} {r:Bool} (h:Qk s_0=some r):Zk prog J0 143 [(false,[.str s_0])] [(false,[(false,.bool r)])]:=by
 refine fnk func143 rfl ?_
 unfold Qk at h
 simp only[fnS,f143,Zm,go_sem,seval]
 refine Zi h (fun i _ st=>IV [(0,.p false [.c (.str s_0)]),(3,.p false [.c (.int .i64 ((i:Nat):Int))])] [] st) [] [] (by decide) ?_ ?_ ?_
 simp only[*,go_sem,seval]
 rintro _ _ ⟨⟩ ⟨sl,ob,n⟩ _ a b e h f
 simp only[go_sem,seval,Zc] at b
 obtain ⟨⟨g,_⟩,hn⟩:=b
 subst hn
 have k:=WF.slotS e g (j:=0) rfl
 have:=Zpp a
 have:=Zva a
 have:=Zj (Zta a) k
 simp only[*,go_sem,seval]
 refine ZMH h fun _ l h=>Zd (XU l) ?_
 simp only[*,go_sem,seval]
 refine Ze h (fun _ h=>?_) fun _ h=>?_<;>try simp only[*,go_sem,seval]
 refine ⟨_,[],[],(A3 h).symm,by decide,?_⟩
 simp only[*,go_sem,seval]
 refine ZMH h fun _ m h=>Zd (XU m) ?_
 simp only[*,go_sem,seval]
 refine Ze h (fun _ h=>?_) fun _ h=>?_<;>try simp only[*,go_sem,seval]
 refine ⟨_,[],[],(A3 h).symm,by decide,?_⟩
 simp only[*,go_sem,seval]
 replace h:=Zn h f
 cases h
 simp only[*,go_sem,seval]
 rintro ⟨⟩ ⟨sl,ob,n⟩ d _ h
 simp only[go_sem,seval,Zc] at d
 obtain ⟨⟨_,_⟩,hn⟩:=d
 subst hn
 have:=Zy (s_0.size)
 simp only[*,go_sem,seval]
 refine ZMH h fun _ o h=>Zd (XU o) ?_
 cases h
 simp only[*,go_sem,seval]
theorem ZoF {s_0:ByteArray} {r:(ByteArray × (List ByteArray) × Bool)} (h:ZeH s_0=some r):Zk prog J0 343 [(false,[.str s_0])] [(false,[(false,.str r.1)]),(false,[(false,.sl 9 1 (A0 Zx r.2.1))]),(false,[(false,.bool r.2.2)])]:=by
 refine fnk func343 rfl ?_
 unfold ZeH at h
 have a:Z9 ⟨#[40]⟩=true:=by decide
 have b:Z9 ⟨#[44]⟩=true:=by decide
 have c:Z9 ⟨#[]⟩=true:=by decide
 simp only[fnS,f343,Zm,go_sem,seval,a,b,c]
 refine ZMH h fun _ d h=>Zd (Qd d) ?_
 simp only[*,go_sem,seval]
 refine Ze h (fun _ h=>?_) fun _ h=>?_<;>try simp only[*,go_sem,seval]
 cases h
 simp only[*,go_sem,seval]
 obtain ⟨_,h⟩:=Zq h
 obtain ⟨_,e,h⟩:=Za h
 try simp only[seval] at e
 simp only[*,go_sem,seval]
 refine Ze h (fun _ h=>?_) fun _ h=>?_<;>try simp only[*,go_sem,seval]
 cases h
 simp only[*,go_sem,seval]
 obtain ⟨_,_,_,h⟩:=ZpS h
 simp only[*,go_sem,seval]
 refine Ze h (fun _ h=>?_) fun _ h=>?_<;>try simp only[*,go_sem,seval]
 cases h
 simp only[*,go_sem,seval]
 obtain ⟨_,h⟩:=Zq h
 simp only[*,go_sem,seval]
 refine Ze h (fun _ h=>?_) fun _ h=>?_<;>try simp only[*,go_sem,seval]
 obtain ⟨_,h⟩:=Zq h
 obtain ⟨_,f,h⟩:=Za h
 try simp only[seval] at f
 cases h
 simp only[*,go_sem,seval]
 obtain ⟨_,h⟩:=Zq h
 obtain ⟨_,g,h⟩:=Za h
 try simp only[seval] at g
 simp only[*,go_sem,seval]
 refine ZMH h fun _ i h=>Zd (Qd i) ?_
 cases h
 simp only[*,go_sem,seval]
theorem Xa {f_0:Zb} {r:Zb} (h:Xj f_0=some r):Zk prog J0 81 [(true,Zl f_0)] [(true,[(false,.str r.rel),(false,.sl 9 1 (A0 Zx r.args))])]:=by
 refine fnk func81 rfl ?_
 unfold Xj at h
 simp only[fnS,f81,Zm,go_sem,seval]
 refine ZMH h fun _ a h=>Zd (ZpE a) ?_
 cases h
 simp only[*,go_sem,seval]
theorem Zgl {s_0:ByteArray} {r:Bool} (h:Zd1 s_0=some r):Zk prog J0 195 [(false,[.str s_0])] [(false,[(false,.bool r)])]:=by
 refine fnk func195 rfl ?_
 unfold Zd1 at h
 simp only[fnS,f195,Zm,go_sem,seval]
 refine ZMH h fun _ a h=>Zd (X4 a) ?_
 simp only[*,go_sem,seval]
 refine Ze h (fun _ h=>?_) fun _ h=>?_<;>try simp only[*,go_sem,seval]
 obtain ⟨_,_,b,h⟩:=ZpS h
 try simp only[seval] at b
 iterate 2 (cases h;simp only[*,go_sem,seval])
theorem Zcf {s_0:ByteArray} {r:(Int × Bool)} (h:QE s_0=some r):Zk prog J0 266 [(false,[.str s_0])] [(false,[(false,.int .i64 r.1)]),(false,[(false,.bool r.2)])]:=by
 refine fnk func266 rfl ?_
 unfold QE at h
 simp only[fnS,f266,Zm,go_sem,seval]
 refine Ze h (fun _ h=>?_) fun _ h=>?_<;>try simp only[*,go_sem,seval]
 ·cases h
  simp only[*,go_sem,seval]
 ·refine Ze h (fun _ h=>?_) fun _ h=>?_<;>try simp only[*,go_sem,seval]
  ·cases h
   simp only[*,go_sem,seval]
  ·refine ZMH h fun v1 e3 h=>Zd (Zt2 e3) ?_
   simp only[*,go_sem,seval]
   refine Ze h (fun _ h=>?_) fun _ h=>?_<;>try simp only[*,go_sem,seval]
   ·refine Ze h (fun _ h=>?_) fun _ h=>?_<;>try simp only[*,go_sem,seval]
    ·cases h
     simp only[*,go_sem,seval]
    ·refine Ze h (fun _ h=>?_) fun _ h=>?_<;>try simp only[*,go_sem,seval]
     ·cases h
      simp only[*,go_sem,seval]
     ·refine ZMH h fun v2 e7 h=>Zd (ZkY e7) ?_
      simp only[*,go_sem,seval]
      refine Ze h (fun _ h=>?_) fun _ h=>?_<;>try simp only[*,go_sem,seval]
      ·cases h
       simp only[*,go_sem,seval]
      ·cases h
       simp only[*,go_sem,seval]
   ·cases h
    simp only[*,go_sem,seval]
theorem Zdc {s_0:ByteArray} {r:Bool} (h:ZcP s_0=some r):Zk prog J0 207 [(false,[.str s_0])] [(false,[(false,.bool r)])]:=by
 refine fnk func207 rfl ?_
 unfold ZcP at h
 simp only[fnS,f207,Zm,go_sem,seval]
 refine Ze h (fun _ h=>?_) fun _ h=>?_<;>try simp only[*,go_sem,seval]
 obtain ⟨_,_,a,h⟩:=ZpS h
 try simp only[seval] at a
 simp only[*,go_sem,seval]
 refine Ze h (fun _ h=>?_) fun _ h=>?_<;>try simp only[*,go_sem,seval]
 obtain ⟨_,h⟩:=Zq h
 simp only[*,go_sem,seval]
 refine ZMH h fun _ b h=>Zd (X4 b) ?_
 iterate 3 (cases h;simp only[*,go_sem,seval])
theorem ZmL {a_0:Zb} {b_1:Zb} {r:Bool} (h:ZbR a_0 b_1=some r):Zk prog J0 139 [(true,Zl a_0),(true,Zl b_1)] [(false,[(false,.bool r)])]:=by
 refine fnk func139 rfl ?_
 unfold ZbR at h
 simp only[fnS,f139,Zm,go_sem,seval]
 refine Ze h (fun _ h=>?_) fun _ h=>?_<;>try simp only[*,go_sem,seval]
 refine ZMH h fun _ a h=>Zd (Zls a) ?_
 iterate 2 (cases h;simp only[*,go_sem,seval])
theorem ZpH {x_0:Zt} {r:(List ByteArray)} (h:Zhu x_0=some r):Zk prog J0 268 [(true,ZK x_0)] [(false,[(false,.sl 9 1 (A0 Zx r))])]:=by
 refine fnk func268 rfl ?_
 unfold Zhu at h
 simp only[fnS,f268,Zm,go_sem,seval]
 refine ZMH h fun _ a h=>Zd (Zgx a) ?_
 obtain ⟨b,h⟩:=Zq h
 try simp only[Nat.reduceLeDiff] at b
 cases h
 simp only[*,go_sem,seval]
theorem ZhN {r_0:Zg} {r:(List ByteArray)} (h:Qf r_0=some r):Zk prog J0 78 [(true,ZF r_0)] [(false,[(false,.sl 9 1 (A0 Zx r))])]:=by
 refine fnk func78 rfl ?_
 unfold Qf at h
 simp only[fnS,f78,Zm,go_sem,seval]
 refine Zi h (fun i a st=>IV [(3,.p false [.row 0]),(7,.p false [.c (.sl 50 3 (A0 ZG r_0.thn))]),(8,.p false [.c (.int .i64 ((r_0.thn.length:Nat):Int))]),(9,.p false [.c (.int .i64 ((i:Nat):Int))])] [.row 9 1 (A0 Zx a) 2] st) [(false,3,0)] [112] (by decide) ?_ ?_ ?_
 simp only[*,go_sem,seval]
 rintro _ _ a ⟨sl,ob,n⟩ _ b d f h _
 simp only[go_sem,seval,Zc] at d
 obtain ⟨⟨_,g,_,_⟩,_,hn⟩:=d
 subst hn
 have k:=WF.slotL f g (j:=0) rfl
 have:=ZA b
 have:=ZC b
 have:=Zj (ZB b) k
 simp only[*,go_sem,seval]
 refine Ze h (fun _ h=>?_) fun _ h=>?_<;>try simp only[*,go_sem,seval]
 obtain ⟨l,h⟩:=Zq h
 try simp only[Nat.reduceLeDiff] at l
 simp only[*,go_sem,seval]
 refine ⟨_,[],[289],(A3 h).symm,by decide,?_⟩
 simp only[*,go_sem,seval]
 refine Ze h (fun _ h=>?_) fun _ h=>?_<;>try simp only[*,go_sem,seval]
 obtain ⟨m,h⟩:=Zq h
 try simp only[Nat.reduceLeDiff] at m
 simp only[*,go_sem,seval]
 refine ⟨_,[],[289],(A3 h).symm,by decide,?_⟩
 simp only[*,go_sem,seval]
 refine ⟨_,[],[0],(A3 h).symm,by decide,?_⟩
 simp only[*,go_sem,seval]
 rintro a ⟨sl,ob,n⟩ e _ h
 simp only[go_sem,seval,Zc] at e
 obtain ⟨⟨_,_,_,_⟩,_,hn⟩:=e
 subst hn
 have:=Zy (r_0.thn.length)
 simp only[*,go_sem,seval]
 refine ZMH h fun _ o h=>Zd (XX o) ?_
 cases h
 simp only[*,go_sem,seval]
theorem Zo9 {r_0:Zg} {r:(List ByteArray)} (h:ZbX r_0=some r):Zk prog J0 146 [(true,ZF r_0)] [(false,[(false,.sl 9 1 (A0 Zx r))])]:=by
 refine fnk func146 rfl ?_
 unfold ZbX at h
 simp only[fnS,f146,Zm,go_sem,seval]
 refine Zi h (fun i a st=>IV [(3,.p false [.row 0]),(7,.p false [.c (.sl 173 5 (A0 ZK r_0.cond))]),(8,.p false [.c (.int .i64 ((r_0.cond.length:Nat):Int))]),(9,.p false [.c (.int .i64 ((i:Nat):Int))])] [.row 9 1 (A0 Zx a) 2] st) [(false,3,0)] [112] (by decide) ?_ ?_ ?_
 simp only[*,go_sem,seval]
 rintro _ _ a ⟨sl,ob,n⟩ _ b d f h _
 simp only[go_sem,seval,Zc] at d
 obtain ⟨⟨_,g,_,_⟩,_,hn⟩:=d
 subst hn
 have k:=WF.slotL f g (j:=0) rfl
 have:=ZA b
 have:=ZC b
 have:=Zj (ZB b) k
 simp only[*,go_sem,seval]
 refine Ze h (fun _ h=>?_) fun _ h=>?_<;>try simp only[*,go_sem,seval]
 obtain ⟨l,h⟩:=Zq h
 try simp only[Nat.reduceLeDiff] at l
 simp only[*,go_sem,seval]
 refine ⟨_,[],[289],(A3 h).symm,by decide,?_⟩
 simp only[*,go_sem,seval]
 refine Ze h (fun _ h=>?_) fun _ h=>?_<;>try simp only[*,go_sem,seval]
 obtain ⟨m,h⟩:=Zq h
 try simp only[Nat.reduceLeDiff] at m
 simp only[*,go_sem,seval]
 refine ⟨_,[],[289],(A3 h).symm,by decide,?_⟩
 simp only[*,go_sem,seval]
 refine ⟨_,[],[0],(A3 h).symm,by decide,?_⟩
 simp only[*,go_sem,seval]
 rintro a ⟨sl,ob,n⟩ e _ h
 simp only[go_sem,seval,Zc] at e
 obtain ⟨⟨_,_,_,_⟩,_,hn⟩:=e
 subst hn
 have:=Zy (r_0.cond.length)
 simp only[*,go_sem,seval]
 refine ZMH h fun _ o h=>Zd (XX o) ?_
 cases h
 simp only[*,go_sem,seval]
theorem YO {f_0:Zb} {r:Zb} (h:YA f_0=some r):Zk prog J0 115 [(true,Zl f_0)] [(true,[(false,.str r.rel),(false,.sl 9 1 (A0 Zx r.args))])]:=by
 refine fnk func115 rfl ?_
 unfold YA at h
 simp only[fnS,f115,Zm,go_sem,seval]
 refine ZMH h fun _ a h=>Zd (Zgx a) ?_
 cases h
 simp only[*,go_sem,seval]
theorem ZkG {a_0:Zf} {b_1:Zf} {r:Bool} (h:Zbw a_0 b_1=some r):Zk prog J0 256 [(true,ZE a_0),(true,ZE b_1)] [(false,[(false,.bool r)])]:=by
 refine fnk func256 rfl ?_
 unfold Zbw at h
 simp only[fnS,f256,Zm,go_sem,seval]
 refine Ze h (fun _ h=>?_) fun _ h=>?_<;>try simp only[*,go_sem,seval]
 refine ZMH h fun _ a h=>Zd (ZhM a) ?_
 simp only[*,go_sem,seval]
 refine Ze h (fun _ h=>?_) fun _ h=>?_<;>try simp only[*,go_sem,seval]
 refine ZMH h fun _ b h=>Zd (ZhM b) ?_
 iterate 3 (cases h;simp only[*,go_sem,seval])
theorem Zqy {append_0:Zr} {r:(List Int)} (h:ZfZ append_0=some r):Zk prog J0 191 [(true,XY append_0)] [(false,[(false,.sl 3 1 (A0 ZI r))])]:=by
 refine fnk func191 rfl ?_
 unfold ZfZ at h
 simp only[fnS,f191,Zm,go_sem,seval]
 refine ZMH h fun v1 e1 h=>Zd (Zp7 e1) ?_
 obtain ⟨p2,h⟩:=Zq h
 simp only[*,go_sem,seval]
 refine Yo h (fun s st=>match s with | (row_4,u_5,u_6)=>IV [(1,.bp 0 0),(3,.p false [.row 1]),(4,.p false [.row 2]),(5,.p false [.c (.int .i64 u_6)]),(20,.p false [.c (.int .i64 ((A6 append_0.nodes:Nat):Int))]),(21,.p false [.c (.int .i64 u_5)])] [.box 64 [.c (.int .i64 append_0.nodes),.c (.sl 199 3 (A0 ZE append_0.reasons))],.row 3 1 (A0 ZI v1) 2,.row 3 1 (A0 ZI row_4) 2] st) [] [0,48,112] (by decide) ?_ ?_
 ·simp only[*,go_sem,seval]
 ·rintro ⟨row_4,u_5,u_6⟩ ⟨sl,ob,n⟩ y3 hI4 hW5 h hy3
  simp only[go_sem,seval,Zc] at hI4
  obtain ⟨⟨g6_1,g6_3,g6_4,g6_5,g6_20,g6_21⟩,og6_0,og6_1,og6_2,hn⟩:=hI4
  subst hn
  simp only[*,go_sem,seval]
  refine Ze h (fun _ h=>?_) fun _ h=>?_<;>try simp only[*,go_sem,seval]
  ·obtain ⟨p8,h⟩:=Zq h
   obtain ⟨x7,e9,h⟩:=Za h
   obtain ⟨p10,h⟩:=Zq h
   obtain ⟨x8,e11,h⟩:=Za h
   simp only[*,go_sem,seval]
   refine ⟨_,[],[0,1,2],(A3 h).symm,by decide,?_⟩
   simp only[*,go_sem,seval]
  ·refine Yo h (fun s st=>match s with | (row_84,u_85,u_46)=>IV [(1,.bp 0 0),(3,.p false [.row 1]),(4,.p false [.row 2]),(5,.p false [.c (.int .i64 u_6)]),(7,.p false [.c (.int .i64 u_85)]),(8,.p false [.c (.int .i64 u_46)])] [.box 64 [.c (.int .i64 append_0.nodes),.c (.sl 199 3 (A0 ZE append_0.reasons))],.row 3 1 (A0 ZI v1) 2,.row 3 1 (A0 ZI row_84) 2] st) [] [0,1,2] (by decide) ?_ ?_
   ·simp only[*,go_sem,seval]
   ·rintro ⟨row_84,u_85,u_46⟩ ⟨sl,ob,n⟩ y12 hI13 hW14 h hy12
    simp only[go_sem,seval,Zc] at hI13
    obtain ⟨⟨g15_1,g15_3,g15_4,g15_5,g15_7,g15_8⟩,og15_0,og15_1,og15_2,hn⟩:=hI13
    subst hn
    simp only[*,go_sem,seval]
    refine Ze h (fun _ h=>?_) fun _ h=>?_<;>try simp only[*,go_sem,seval]
    ·refine Zi h (fun i row_94 st=>IV [(1,.bp 0 0),(3,.p false [.row 1]),(4,.p false [.row 2]),(5,.p false [.c (.int .i64 u_6)]),(7,.p false [.c (.int .i64 u_85)]),(8,.p false [.c (.int .i64 u_46)]),(9,.p false [.row 3]),(38,.p false [.c (.sl 199 3 (A0 ZE append_0.reasons))]),(39,.p false [.c (.int .i64 ((append_0.reasons.length:Nat):Int))]),(40,.p false [.c (.int .i64 ((i:Nat):Int))])] [.box 64 [.c (.int .i64 append_0.nodes),.c (.sl 199 3 (A0 ZE append_0.reasons))],.row 3 1 (A0 ZI v1) 2,.row 3 1 (A0 ZI row_84) 2,.row 3 1 (A0 ZI row_94) 2] st) [(false,9,0)] [0,1,2,131] (by decide) ?_ ?_ ?_
     ·simp only[*,go_sem,seval]
     ·rintro i109 x110 row_94 ⟨sl,ob,n⟩ y17 hx18 hI19 hW20 h hy17
      simp only[go_sem,seval,Zc] at hI19
      obtain ⟨⟨g21_1,g21_3,g21_4,g21_5,g21_7,g21_8,g21_9,g21_38,g21_39,g21_40⟩,og21_0,og21_1,og21_2,og21_3,hn⟩:=hI19
      subst hn
      have hlhx18:=WF.slotL hW20 g21_38 (j:=0) rfl
      have q22:=ZA hx18
      have q23:=ZC hx18
      have q24:=Zj (ZB hx18) hlhx18
      obtain ⟨p25,h⟩:=Zq h
      obtain ⟨x111,e26,h⟩:=Za h
      simp only[*,go_sem,seval]
      refine Ze h (fun _ h=>?_) fun _ h=>?_<;>try simp only[*,go_sem,seval]
      ·obtain ⟨p28,h⟩:=Zq h
       obtain ⟨x112,e29,h⟩:=Za h
       simp only[*,go_sem,seval]
       refine Ze h (fun _ h=>?_) fun _ h=>?_<;>try simp only[*,go_sem,seval]
       ·refine ZMH h fun v113 e31 h=>Zd (ZlJ e31) ?_
        simp only[*,go_sem,seval]
        refine Ze h (fun _ h=>?_) fun _ h=>?_<;>try simp only[*,go_sem,seval]
        ·obtain ⟨p33,h⟩:=Zq h
         try simp only[Nat.reduceLeDiff] at p33
         simp only[*,go_sem,seval]
         refine ⟨_,[],[0,1,2,484],(A3 h).symm,by decide,?_⟩
         simp only[*,go_sem,seval]
        ·refine ⟨_,[],[0,1,2,3],(A3 h).symm,by decide,?_⟩
         simp only[*,go_sem,seval]
       ·refine ⟨_,[],[0,1,2,3],(A3 h).symm,by decide,?_⟩
        simp only[*,go_sem,seval]
      ·refine ⟨_,[],[0,1,2,3],(A3 h).symm,by decide,?_⟩
       simp only[*,go_sem,seval]
     ·rintro row_94 ⟨sl,ob,n⟩ hI34 hW35 h
      simp only[go_sem,seval,Zc] at hI34
      obtain ⟨⟨g36_1,g36_3,g36_4,g36_5,g36_7,g36_8,g36_9,g36_38,g36_39,g36_40⟩,og36_0,og36_1,og36_2,og36_3,hn⟩:=hI34
      subst hn
      have q37:=Zy (append_0.reasons.length)
      simp only[*,go_sem,seval]
      refine Ze h (fun _ h=>?_) fun _ h=>?_<;>try simp only[*,go_sem,seval]
      ·refine ⟨_,[],[0,1,2],(A3 h).symm,by decide,?_⟩
       simp only[*,go_sem,seval]
      ·refine Zi h (fun i row_116 st=>IV [(1,.bp 0 0),(3,.p false [.row 1]),(4,.p false [.row 2]),(5,.p false [.c (.int .i64 u_6)]),(7,.p false [.c (.int .i64 u_85)]),(8,.p false [.c (.int .i64 u_46)]),(76,.p false [.row 3]),(77,.p false [.c (.int .i64 ((row_94.length:Nat):Int))]),(78,.p false [.c (.int .i64 ((i:Nat):Int))])] [.box 64 [.c (.int .i64 append_0.nodes),.c (.sl 199 3 (A0 ZE append_0.reasons))],.row 3 1 (A0 ZI v1) 2,.row 3 1 (A0 ZI row_116) 2,.row 3 1 (A0 ZI row_94) 2] st) [] [0,1,2,3] (by decide) ?_ ?_ ?_
       ·simp only[*,go_sem,seval]
       ·rintro i120 x121 row_116 ⟨sl,ob,n⟩ y39 hx40 hI41 hW42 h hy39
        simp only[go_sem,seval,Zc] at hI41
        obtain ⟨⟨g43_1,g43_3,g43_4,g43_5,g43_7,g43_8,g43_76,g43_77,g43_78⟩,og43_0,og43_1,og43_2,og43_3,hn⟩:=hI41
        subst hn
        have hlhx40:=WF.rowL hW42 og43_3
        have q44:=ZA hx40
        have q45:=ZC hx40
        have q46:=Zj (ZB hx40) hlhx40
        obtain ⟨p47,h⟩:=Zq h
        obtain ⟨x122,e48,h⟩:=Za h
        simp only[*,go_sem,seval]
        refine ⟨_,[],[0,1,2,3],(A3 h).symm,by decide,?_⟩
        simp only[*,go_sem,seval]
       ·rintro row_116 ⟨sl,ob,n⟩ hI49 hW50 h
        simp only[go_sem,seval,Zc] at hI49
        obtain ⟨⟨g51_1,g51_3,g51_4,g51_5,g51_7,g51_8,g51_76,g51_77,g51_78⟩,og51_0,og51_1,og51_2,og51_3,hn⟩:=hI49
        subst hn
        have q52:=Zy (row_94.length)
        simp only[*,go_sem,seval]
        refine ⟨_,[],[0,1,2],(A3 h).symm,by decide,?_⟩
        simp only[*,go_sem,seval]
    ·replace h:=Zn h hy12
     replace h:=Zn h hy3
     cases h
     simp only[*,go_sem,seval]
theorem Zry {a_0:Zb} {b_1:Zb} {r:Bool} (h:Zmh a_0 b_1=some r):Zk prog J0 80 [(true,Zl a_0),(true,Zl b_1)] [(false,[(false,.bool r)])]:=by
 refine fnk func80 rfl ?_
 unfold Zmh at h
 simp only[fnS,f80,Zm,go_sem,seval]
 refine Ze h (fun _ h=>?_) fun _ h=>?_<;>try simp only[*,go_sem,seval]
 refine ZMH h fun _ a h=>Zd (ZjC a) ?_
 iterate 2 (cases h;simp only[*,go_sem,seval])
theorem Znk {a_0:(List ByteArray)} {b_1:(List ByteArray)} {r:Bool} (h:Zdm a_0 b_1=some r):Zk prog J0 276 [(false,[.sl 9 1 (A0 Zx a_0)]),(false,[.sl 9 1 (A0 Zx b_1)])] [(false,[(false,.bool r)])]:=by
 refine fnk func276 rfl ?_
 unfold Zdm at h
 simp only[fnS,f276,Zm,go_sem,seval]
 refine Zi h (fun i _ st=>IV [(0,.p false [.c (.sl 9 1 (A0 Zx a_0))]),(1,.p false [.c (.sl 9 1 (A0 Zx b_1))]),(5,.p false [.c (.int .i64 ((i:Nat):Int))])] [] st) [] [] (by decide) ?_ ?_ ?_
 simp only[*,go_sem,seval]
 rintro _ _ ⟨⟩ ⟨sl,ob,n⟩ _ a b e h f
 simp only[go_sem,seval,Zc] at b
 obtain ⟨⟨g,_,_⟩,hn⟩:=b
 subst hn
 have k:=WF.slotL e g (j:=0) rfl
 have:=ZA a
 have:=ZC a
 have:=Zj (ZB a) k
 simp only[*,go_sem,seval]
 refine ZMH h fun _ l h=>Zd (Yz l) ?_
 simp only[*,go_sem,seval]
 refine Ze h (fun _ h=>?_) fun _ h=>?_<;>try simp only[*,go_sem,seval]
 refine ⟨_,[],[],(A3 h).symm,by decide,?_⟩
 simp only[*,go_sem,seval]
 replace h:=Zn h f
 cases h
 simp only[*,go_sem,seval]
 rintro ⟨⟩ ⟨sl,ob,n⟩ d _ h
 simp only[go_sem,seval,Zc] at d
 obtain ⟨⟨_,_,_⟩,hn⟩:=d
 subst hn
 have:=Zy (a_0.length)
 cases h
 simp only[*,go_sem,seval]
theorem ZhE {r_0:Zg} {r:(List ByteArray)} (h:QR r_0=some r):Zk prog J0 235 [(true,ZF r_0)] [(false,[(false,.sl 9 1 (A0 Zx r))])]:=by
 refine fnk func235 rfl ?_
 unfold QR at h
 simp only[fnS,f235,Zm,go_sem,seval]
 refine Zi h (fun i a st=>IV [(1,.bp 0 0),(3,.p false [.row 1]),(4,.p false [.c (.int .i64 ((i:Nat):Int))])] [.box 42 [.c (.str r_0.name),.c (.int .i64 r_0.priority),.c (.sl 173 5 (A0 ZK r_0.cond)),.c (.sl 50 3 (A0 ZG r_0.thn))],.row 9 1 (A0 Zx a) 2] st) [] [0,32] (by decide) ?_ ?_ ?_
 simp only[*,go_sem,seval]
 rintro _ _ a ⟨sl,ob,n⟩ _ b d f h _
 simp only[go_sem,seval,Zc] at d
 obtain ⟨⟨_,_,_⟩,g,_,hn⟩:=d
 subst hn
 have k:=WF.boxL f g (j:=3) rfl
 have:=ZA b
 have:=ZC b
 have:=Zj (ZB b) k
 simp only[*,go_sem,seval]
 refine Ze h (fun _ h=>?_) fun _ h=>?_<;>try simp only[*,go_sem,seval]
 refine ZMH h fun _ l h=>Zd (Xg l) ?_
 simp only[*,go_sem,seval]
 refine ⟨_,[],[0,466],(A3 h).symm,by decide,?_⟩
 simp only[*,go_sem,seval]
 refine Ze h (fun _ h=>?_) fun _ h=>?_<;>try simp only[*,go_sem,seval]
 refine ZMH h fun _ m h=>Zd (Xg m) ?_
 simp only[*,go_sem,seval]
 refine ⟨_,[],[0,466],(A3 h).symm,by decide,?_⟩
 simp only[*,go_sem,seval]
 refine ⟨_,[],[0,1],(A3 h).symm,by decide,?_⟩
 simp only[*,go_sem,seval]
 rintro a ⟨sl,ob,n⟩ e _ h
 simp only[go_sem,seval,Zc] at e
 obtain ⟨⟨_,_,_⟩,_,_,hn⟩:=e
 subst hn
 have:=Zy (r_0.thn.length)
 cases h
 simp only[*,go_sem,seval]
theorem Zpg {r_0:Zg} {r:(List ByteArray)} (h:ZbY r_0=some r):Zk prog J0 277 [(true,ZF r_0)] [(false,[(false,.sl 9 1 (A0 Zx r))])]:=by
 refine fnk func277 rfl ?_
 unfold ZbY at h
 simp only[fnS,f277,Zm,go_sem,seval]
 refine Zi h (fun i a st=>IV [(1,.bp 0 0),(3,.p false [.row 1]),(4,.p false [.c (.int .i64 ((i:Nat):Int))])] [.box 42 [.c (.str r_0.name),.c (.int .i64 r_0.priority),.c (.sl 173 5 (A0 ZK r_0.cond)),.c (.sl 50 3 (A0 ZG r_0.thn))],.row 9 1 (A0 Zx a) 2] st) [] [0,32] (by decide) ?_ ?_ ?_
 simp only[*,go_sem,seval]
 rintro _ _ a ⟨sl,ob,n⟩ _ b d f h _
 simp only[go_sem,seval,Zc] at d
 obtain ⟨⟨_,_,_⟩,g,_,hn⟩:=d
 subst hn
 have k:=WF.boxL f g (j:=2) rfl
 have:=ZA b
 have:=ZC b
 have:=Zj (ZB b) k
 simp only[*,go_sem,seval]
 refine Ze h (fun _ h=>?_) fun _ h=>?_<;>try simp only[*,go_sem,seval]
 refine ZMH h fun _ l h=>Zd (Xg l) ?_
 simp only[*,go_sem,seval]
 refine ⟨_,[],[0,466],(A3 h).symm,by decide,?_⟩
 simp only[*,go_sem,seval]
 refine Ze h (fun _ h=>?_) fun _ h=>?_<;>try simp only[*,go_sem,seval]
 refine ZMH h fun _ m h=>Zd (Xg m) ?_
 simp only[*,go_sem,seval]
 refine ⟨_,[],[0,466],(A3 h).symm,by decide,?_⟩
 simp only[*,go_sem,seval]
 refine ⟨_,[],[0,1],(A3 h).symm,by decide,?_⟩
 simp only[*,go_sem,seval]
 rintro a ⟨sl,ob,n⟩ e _ h
 simp only[go_sem,seval,Zc] at e
 obtain ⟨⟨_,_,_⟩,_,_,hn⟩:=e
 subst hn
 have:=Zy (r_0.cond.length)
 cases h
 simp only[*,go_sem,seval]
theorem Zo7 {l_0:(List Zf)} {r_1:Zf} {r:Int} (h:ZeD l_0 r_1=some r):Zk prog J0 193 [(false,[.sl 199 3 (A0 ZE l_0)]),(true,ZE r_1)] [(false,[(false,.int .i64 r)])]:=by
 refine fnk func193 rfl ?_
 unfold ZeD at h
 simp only[fnS,f193,Zm,go_sem,seval]
 refine Zi h (fun i _ st=>IV [(0,.p false [.c (.sl 199 3 (A0 ZE l_0))]),(3,.bp 0 0),(5,.p false [.c (.int .i64 ((i:Nat):Int))])] [.box 199 [.c (.int .i64 r_1.for_),.c (.sl 3 1 (A0 ZI r_1.inn)),.c (.sl 3 1 (A0 ZI r_1.outs))]] st) [] [0] (by decide) ?_ ?_ ?_
 simp only[*,go_sem,seval]
 rintro _ _ ⟨⟩ ⟨sl,ob,n⟩ _ a b e h f
 simp only[go_sem,seval,Zc] at b
 obtain ⟨⟨g,_,_⟩,_,hn⟩:=b
 subst hn
 have k:=WF.slotL e g (j:=0) rfl
 have:=ZA a
 have:=ZC a
 have:=Zj (ZB a) k
 simp only[*,go_sem,seval]
 refine Ze h (fun _ h=>?_) fun _ h=>?_<;>try simp only[*,go_sem,seval]
 refine ZMH h fun _ l h=>Zd (ZfS l) ?_
 simp only[*,go_sem,seval]
 refine Ze h (fun _ h=>?_) fun _ h=>?_<;>try simp only[*,go_sem,seval]
 refine ZMH h fun _ m h=>Zd (ZfS m) ?_
 simp only[*,go_sem,seval]
 refine Ze h (fun _ h=>?_) fun _ h=>?_<;>try simp only[*,go_sem,seval]
 replace h:=Zn h f
 cases h
 simp only[*,go_sem,seval]
 refine ⟨_,[],[0],(A3 h).symm,by decide,?_⟩
 simp only[*,go_sem,seval]
 refine ⟨_,[],[0],(A3 h).symm,by decide,?_⟩
 simp only[*,go_sem,seval]
 refine ⟨_,[],[0],(A3 h).symm,by decide,?_⟩
 simp only[*,go_sem,seval]
 rintro ⟨⟩ ⟨sl,ob,n⟩ d _ h
 simp only[go_sem,seval,Zc] at d
 obtain ⟨⟨_,_,_⟩,_,hn⟩:=d
 subst hn
 have:=Zy (l_0.length)
 cases h
 simp only[*,go_sem,seval]
theorem Zi0 {l_0:(List Int)} {n_1:Int} {r:Bool} (h:ZbS l_0 n_1=some r):Zk prog J0 282 [(false,[.sl 3 1 (A0 ZI l_0)]),(false,[.int .i64 n_1])] [(false,[(false,.bool r)])]:=by
 refine fnk func282 rfl ?_
 unfold ZbS at h
 simp only[fnS,f282,Zm,go_sem,seval]
 refine Zi h (fun i _ st=>IV [(0,.p false [.c (.sl 3 1 (A0 ZI l_0))]),(1,.p false [.c (.int .i64 n_1)]),(5,.p false [.c (.int .i64 ((i:Nat):Int))])] [] st) [] [] (by decide) ?_ ?_ ?_
 simp only[*,go_sem,seval]
 rintro _ _ ⟨⟩ ⟨sl,ob,n⟩ _ a b f h d
 simp only[go_sem,seval,Zc] at b
 obtain ⟨⟨g,_,_⟩,hn⟩:=b
 subst hn
 have k:=WF.slotL f g (j:=0) rfl
 have:=ZA a
 have:=ZC a
 have:=Zj (ZB a) k
 simp only[*,go_sem,seval]
 refine ZMH h fun _ l h=>Zd (XU l) ?_
 simp only[*,go_sem,seval]
 iterate 2 refine Ze h (fun _ h=>?_) fun _ h=>?_<;>try simp only[*,go_sem,seval]
 obtain ⟨_,_,_,_,h⟩:=ZbQ h
 simp only[*,go_sem,seval]
 refine Ze h (fun _ h=>?_) fun _ h=>?_<;>try simp only[*,go_sem,seval]
 replace h:=Zn h d
 cases h
 simp only[*,go_sem,seval]
 refine ⟨_,[],[],(A3 h).symm,by decide,?_⟩
 simp only[*,go_sem,seval]
 refine ⟨_,[],[],(A3 h).symm,by decide,?_⟩
 simp only[*,go_sem,seval]
 replace h:=Zn h d
 cases h
 simp only[*,go_sem,seval]
 rintro ⟨⟩ ⟨sl,ob,n⟩ e _ h
 simp only[go_sem,seval,Zc] at e
 obtain ⟨⟨_,_,_⟩,hn⟩:=e
 subst hn
 have:=Zy (l_0.length)
 cases h
 simp only[*,go_sem,seval]
end
section
set_option linter.unusedSimpArgs false
set_option linter.unusedVariables false
set_option maxRecDepth 1000000
set_option maxHeartbeats 4000000
theorem ZGW {a:QZ} {String_1:Int} {r:(List Bool)} (h:ZFY a String_1=some r):Zk prog J0 283 [(true,ZAT a),(false,[.int .i64 String_1])] [(false,[(false,.sl 4 1 (A0 ZfM r))])]:=by
 refine fnk func283 rfl ?_
 unfold ZFY at h
 have A:¬((0:Int)<0):=by decide
 simp only[fnS,f283,Zm,go_sem,seval,A]
 obtain ⟨_,h⟩:=Zq h
 simp only[*,go_sem,seval]
 refine Zi h (fun i g st=>IV [(1,.p false [.c (.int .i64 String_1)]),(2,.bp 0 0),(5,.p false [.row 1]),(6,.p false [.c (.int .i64 ((i:Nat):Int))])] [.box 67 [.c (.int .i64 a.beliefs.nodes),.c (.sl 199 3 (A0 ZE a.beliefs.reasons)),.c (.sl 3 1 (A0 ZI a.assumed)),.c (.sl 3 1 (A0 ZI a.bad))],.row 4 1 (A0 ZfM g) 2] st) [] [0,80] (by decide) ?_ ?_ ?_
 simp only[*,go_sem,seval]
 rintro _ _ g ⟨sl,ob,n⟩ _ k q B h _
 simp only[go_sem,seval,Zc] at q
 obtain ⟨⟨_,_,_,_⟩,C,_,hn⟩:=q
 subst hn
 have D:=WF.boxL B C (j:=2) rfl
 have:=ZA k
 have:=ZC k
 have:=Zj (ZB k) D
 obtain ⟨_,h⟩:=Zq h
 simp only[*,go_sem,seval]
 refine Ze h (fun _ h=>?_) fun _ h=>?_<;>try simp only[*,go_sem,seval]
 obtain ⟨_,h⟩:=Zq h
 obtain ⟨_,_,h⟩:=Za h
 simp only[*,go_sem,seval]
 refine ⟨_,[],[0,1],(A3 h).symm,by decide,?_⟩
 simp only[*,go_sem,seval]
 refine ⟨_,[],[0,1],(A3 h).symm,by decide,?_⟩
 simp only[*,go_sem,seval]
 rintro g ⟨sl,ob,n⟩ t _ h
 simp only[go_sem,seval,Zc] at t
 obtain ⟨⟨_,_,_,_⟩,_,_,hn⟩:=t
 subst hn
 have:=Zy (a.assumed.length)
 simp only[*,go_sem,seval]
 refine Yo h (fun s st=>match s with | (u,d)=>IV [(2,.bp 0 0),(5,.p false [.row 1]),(7,.p false [.c (.int .i64 d)])] [.box 67 [.c (.int .i64 a.beliefs.nodes),.c (.sl 199 3 (A0 ZE a.beliefs.reasons)),.c (.sl 3 1 (A0 ZI a.assumed)),.c (.sl 3 1 (A0 ZI a.bad))],.row 4 1 (A0 ZfM u) 2] st) [] [0,1] (by decide) ?_ ?_
 simp only[*,go_sem,seval]
 rintro ⟨u,d⟩ ⟨sl,ob,n⟩ _ v _ h E
 simp only[go_sem,seval,Zc] at v
 obtain ⟨⟨_,_,_⟩,_,_,hn⟩:=v
 subst hn
 simp only[*,go_sem,seval]
 refine Ze h (fun _ h=>?_) fun _ h=>?_<;>try simp only[*,go_sem,seval]
 refine Zi h (fun i e st=>IV [(2,.bp 0 0),(5,.p false [.row 1]),(7,.p false [.c (.int .i64 d)]),(8,.p false [.c (.int .i64 ((i:Nat):Int))])] [.box 67 [.c (.int .i64 a.beliefs.nodes),.c (.sl 199 3 (A0 ZE a.beliefs.reasons)),.c (.sl 3 1 (A0 ZI a.assumed)),.c (.sl 3 1 (A0 ZI a.bad))],.row 4 1 (A0 ZfM e) 2] st) [] [0,1] (by decide) ?_ ?_ ?_
 simp only[*,go_sem,seval]
 rintro F f e ⟨sl,ob,n⟩ _ l w G h _
 simp only[go_sem,seval,Zc] at w
 obtain ⟨⟨_,_,_,_⟩,H,_,hn⟩:=w
 subst hn
 have I:=WF.boxL G H (j:=1) rfl
 have:=ZA l
 have:=ZC l
 have:=Zj (ZB l) I
 simp only[*,go_sem,seval]
 refine Zi h (fun i m st=>IV [(2,.bp 0 0),(5,.p false [.row 1]),(7,.p false [.c (.int .i64 d)]),(8,.p false [.c (.int .i64 ((F:Nat):Int))]),(9,.bp 2 0),(10,.p false [.c (.bool m)]),(11,.p false [.c (.int .i64 ((i:Nat):Int))])] [.box 67 [.c (.int .i64 a.beliefs.nodes),.c (.sl 199 3 (A0 ZE a.beliefs.reasons)),.c (.sl 3 1 (A0 ZI a.assumed)),.c (.sl 3 1 (A0 ZI a.bad))],.row 4 1 (A0 ZfM e) 2,.box 199 [.c (.int .i64 f.for_),.c (.sl 3 1 (A0 ZI f.inn)),.c (.sl 3 1 (A0 ZI f.outs))]] st) [] [0,1,194] (by decide) ?_ ?_ ?_
 simp only[*,go_sem,seval]
 rintro _ _ m ⟨sl,ob,n⟩ _ o x J h _
 simp only[go_sem,seval,Zc] at x
 obtain ⟨⟨_,_,_,_,_,_,_⟩,_,_,K,hn⟩:=x
 subst hn
 have L:=WF.boxL J K (j:=1) rfl
 have:=ZA o
 have:=ZC o
 have:=Zj (ZB o) L
 simp only[*,go_sem,seval]
 refine Ze h (fun _ h=>?_) fun _ h=>?_<;>try simp only[*,go_sem,seval]
 obtain ⟨_,h⟩:=Zq h
 obtain ⟨_,_,h⟩:=Za h
 simp only[*,go_sem,seval]
 refine ⟨_,[],[0,1,2],(A3 h).symm,by decide,?_⟩
 simp only[*,go_sem,seval]
 refine ⟨_,[],[0,1,2],(A3 h).symm,by decide,?_⟩
 simp only[*,go_sem,seval]
 rintro m ⟨sl,ob,n⟩ y _ h
 simp only[go_sem,seval,Zc] at y
 obtain ⟨⟨_,_,_,_,_,_,_⟩,_,_,_,hn⟩:=y
 subst hn
 have:=Zy (f.inn.length)
 obtain ⟨_,h⟩:=Zq h
 obtain ⟨_,_,h⟩:=Za h
 simp only[*,go_sem,seval]
 refine Ze h (fun _ h=>?_) fun _ h=>?_<;>try simp only[*,go_sem,seval]
 refine ⟨_,[],[0,1],(A3 h).symm,by decide,?_⟩
 simp only[*,go_sem,seval]
 refine ⟨_,[],[0,1],(A3 h).symm,by decide,?_⟩
 simp only[*,go_sem,seval]
 rintro e ⟨sl,ob,n⟩ z _ h
 simp only[go_sem,seval,Zc] at z
 obtain ⟨⟨_,_,_,_⟩,_,_,hn⟩:=z
 subst hn
 have:=Zy (a.beliefs.reasons.length)
 simp only[*,go_sem,seval]
 refine ⟨_,[],[0,1],(A3 h).symm,by decide,?_⟩
 simp only[*,go_sem,seval]
 replace h:=Zn h E
 cases h
 simp only[*,go_sem,seval]
theorem ZIS {l_0:(List Int)} {x_1:Int} {r:Bool} (h:ZHv l_0 x_1=some r):Zk prog J0 247 [(false,[.sl 3 1 (A0 ZI l_0)]),(false,[.int .i64 x_1])] [(false,[(false,.bool r)])]:=by
 refine fnk func247 rfl ?_
 unfold ZHv at h
 simp only[fnS,f247,Zm,go_sem,seval]
 refine Zi h (fun i _ st=>IV [(0,.p false [.c (.sl 3 1 (A0 ZI l_0))]),(1,.p false [.c (.int .i64 x_1)]),(5,.p false [.c (.int .i64 ((i:Nat):Int))])] [] st) [] [] (by decide) ?_ ?_ ?_
 simp only[*,go_sem,seval]
 rintro _ _ ⟨⟩ ⟨sl,ob,n⟩ _ a b e h f
 simp only[go_sem,seval,Zc] at b
 obtain ⟨⟨g,_,_⟩,hn⟩:=b
 subst hn
 have k:=WF.slotL e g (j:=0) rfl
 have:=ZA a
 have:=ZC a
 have:=Zj (ZB a) k
 simp only[*,go_sem,seval]
 refine Ze h (fun _ h=>?_) fun _ h=>?_<;>try simp only[*,go_sem,seval]
 replace h:=Zn h f
 cases h
 simp only[*,go_sem,seval]
 refine ⟨_,[],[],(A3 h).symm,by decide,?_⟩
 simp only[*,go_sem,seval]
 rintro ⟨⟩ ⟨sl,ob,n⟩ d _ h
 simp only[go_sem,seval,Zc] at d
 obtain ⟨⟨_,_,_⟩,hn⟩:=d
 subst hn
 have:=Zy (l_0.length)
 cases h
 simp only[*,go_sem,seval]
theorem ZIx {a_0:Int} {b_1:Int} {r:Bool} (h:ZGK a_0 b_1=some r):Zk prog J0 249 [(false,[.int .i64 a_0]),(false,[.int .i64 b_1])] [(false,[(false,.bool r)])]:=by
 refine fnk func249 rfl ?_
 unfold ZGK at h
 simp only[fnS,f249,Zm,go_sem,seval]
 iterate 2 refine Ze h (fun _ h=>?_) fun _ h=>?_<;>try simp only[*,go_sem,seval]
 iterate 3 (cases h;simp only[*,go_sem,seval])
end
section
set_option linter.unusedSimpArgs false
set_option linter.unusedVariables false
set_option maxRecDepth 1000000
set_option maxHeartbeats 4000000
theorem ZHN {b_0:Zr} {r:Bool} (h:ZF9 b_0=some r):Zk prog J0 241 [(true,XY b_0)] [(false,[(false,.bool r)])]:=by
 refine fnk func241 rfl ?_
 unfold ZF9 at h
 simp only[fnS,f241,Zm,go_sem,seval]
 refine Ze h (fun _ h=>?_) fun _ h=>?_<;>try simp only[*,go_sem,seval]
 ·cases h
  simp only[*,go_sem,seval]
 ·refine Ze h (fun _ h=>?_) fun _ h=>?_<;>try simp only[*,go_sem,seval]
  ·cases h
   simp only[*,go_sem,seval]
  ·refine Ze h (fun _ h=>?_) fun _ h=>?_<;>try simp only[*,go_sem,seval]
   ·cases h
    simp only[*,go_sem,seval]
   ·refine Zi h (fun i _ st=>IV [(1,.bp 0 0),(20,.p false [.c (.sl 199 3 (A0 ZE b_0.reasons))]),(21,.p false [.c (.int .i64 ((b_0.reasons.length:Nat):Int))]),(22,.p false [.c (.int .i64 ((i:Nat):Int))])] [.box 64 [.c (.int .i64 b_0.nodes),.c (.sl 199 3 (A0 ZE b_0.reasons))]] st) [] [0] (by decide) ?_ ?_ ?_
    ·simp only[*,go_sem,seval]
    ·rintro i8 x9 ⟨⟩ ⟨sl,ob,n⟩ y4 hx5 hI6 hW7 h hy4
     simp only[go_sem,seval,Zc] at hI6
     obtain ⟨⟨g8_1,g8_20,g8_21,g8_22⟩,og8_0,hn⟩:=hI6
     subst hn
     have hlhx5:=WF.slotL hW7 g8_20 (j:=0) rfl
     have q9:=ZA hx5
     have q10:=ZC hx5
     have q11:=Zj (ZB hx5) hlhx5
     simp only[*,go_sem,seval]
     refine Ze h (fun _ h=>?_) fun _ h=>?_<;>try simp only[*,go_sem,seval]
     ·replace h:=Zn h hy4
      cases h
      simp only[*,go_sem,seval]
     ·refine Ze h (fun _ h=>?_) fun _ h=>?_<;>try simp only[*,go_sem,seval]
      ·replace h:=Zn h hy4
       cases h
       simp only[*,go_sem,seval]
      ·refine ZMH h fun v10 e14 h=>Zd (ZFR e14) ?_
       simp only[*,go_sem,seval]
       refine Ze h (fun _ h=>?_) fun _ h=>?_<;>try simp only[*,go_sem,seval]
       ·refine ZMH h fun v11 e16 h=>Zd (ZFR e16) ?_
        simp only[*,go_sem,seval]
        refine Ze h (fun _ h=>?_) fun _ h=>?_<;>try simp only[*,go_sem,seval]
        ·refine ⟨_,[],[0],(A3 h).symm,by decide,?_⟩
         simp only[*,go_sem,seval]
        ·replace h:=Zn h hy4
         cases h
         simp only[*,go_sem,seval]
       ·replace h:=Zn h hy4
        cases h
        simp only[*,go_sem,seval]
    ·rintro ⟨⟩ ⟨sl,ob,n⟩ hI18 hW19 h
     simp only[go_sem,seval,Zc] at hI18
     obtain ⟨⟨g20_1,g20_20,g20_21,g20_22⟩,og20_0,hn⟩:=hI18
     subst hn
     have q21:=Zy (b_0.reasons.length)
     cases h
     simp only[*,go_sem,seval]
theorem ZHC {a:(List Int)} {r:(List Int)} (h:ZFQ a=some r):Zk prog J0 177 [(false,[.sl 3 1 (A0 ZI a)])] [(false,[(false,.sl 3 1 (A0 ZI r))])]:=by
 refine fnk func177 rfl ?_
 unfold ZFQ at h
 simp only[fnS,f177,Zm,go_sem,seval]
 refine Zi h (fun i d st=>IV [(0,.p false [.c (.sl 3 1 (A0 ZI a))]),(3,.p false [.row 0]),(9,.p false [.c (.sl 3 1 (A0 ZI a))]),(10,.p false [.c (.int .i64 ((a.length:Nat):Int))]),(11,.p false [.c (.int .i64 ((i:Nat):Int))])] [.row 3 1 (A0 ZI d) 2] st) [(false,3,0)] [80] (by decide) ?_ ?_ ?_
 simp only[*,go_sem,seval]
 rintro q e d ⟨sl,ob,n⟩ _ f t z h _
 simp only[go_sem,seval,Zc] at t
 obtain ⟨⟨A,_,_,_,_⟩,_,hn⟩:=t
 subst hn
 have B:=WF.slotL z A (j:=0) rfl
 have:=ZA f
 have:=ZC f
 have:=Zj (ZB f) B
 simp only[*,go_sem,seval]
 refine Ze h (fun _ h=>?_) fun _ h=>?_<;>try simp only[*,go_sem,seval]
 refine ZMH h fun _ C h=>Zd (ZqS C) ?_
 simp only[*,go_sem,seval]
 refine Zi h (fun i s st=>match s with | (g,k,l)=>IV [(0,.p false [.c (.sl 3 1 (A0 ZI a))]),(3,.p false [.row 0]),(5,.p false [.c (.int .i64 e)]),(6,.p false [.c (.bool l)]),(9,.p false [.c (.sl 3 1 (A0 ZI a))]),(10,.p false [.c (.int .i64 ((a.length:Nat):Int))]),(11,.p false [.c (.int .i64 ((q:Nat):Int))]),(18,.p false [.row 0]),(19,.p false [.c (.int .i64 e)]),(20,.p false [.c (.bool g)]),(21,.p false [.c (.bool k)]),(23,.p false [.c (.sl 3 1 (A0 ZI a))]),(24,.p false [.c (.int .i64 ((a.length:Nat):Int))]),(25,.p false [.c (.int .i64 ((i:Nat):Int))])] [.row 3 1 (A0 ZI d) 2] st) [] [0] (by decide) ?_ ?_ ?_
 simp only[*,go_sem,seval]
 rintro _ _ ⟨g,k,l⟩ ⟨sl,ob,n⟩ _ m u D h _
 simp only[go_sem,seval,Zc] at u
 obtain ⟨⟨E,_,_,_,_,_,_,_,_,_,_,_,_,_⟩,_,hn⟩:=u
 subst hn
 have F:=WF.slotL D E (j:=0) rfl
 have:=ZA m
 have:=ZC m
 have:=Zj (ZB m) F
 simp only[*,go_sem,seval]
 iterate 2 refine Ze h (fun _ h=>?_) fun _ h=>?_<;>try simp only[*,go_sem,seval]
 refine ⟨_,[],[0],(A3 h).symm,by decide,?_⟩
 simp only[*,go_sem,seval]
 refine ZMH h fun _ G h=>Zd (ZIp G) ?_
 simp only[*,go_sem,seval]
 refine ⟨_,[],[0],(A3 h).symm,by decide,?_⟩
 simp only[*,go_sem,seval]
 refine ⟨_,[],[0],(A3 h).symm,by decide,?_⟩
 simp only[*,go_sem,seval]
 rintro ⟨g,k,l⟩ ⟨sl,ob,n⟩ v _ h
 simp only[go_sem,seval,Zc] at v
 obtain ⟨⟨_,_,_,_,_,_,_,_,_,_,_,_,_,_⟩,_,hn⟩:=v
 subst hn
 have:=Zy (a.length)
 simp only[*,go_sem,seval]
 refine Ze h (fun _ h=>?_) fun _ h=>?_<;>try simp only[*,go_sem,seval]
 obtain ⟨H,h⟩:=Zq h
 try simp only[Nat.reduceLeDiff] at H
 simp only[*,go_sem,seval]
 refine ⟨_,[],[81],(A3 h).symm,by decide,?_⟩
 simp only[*,go_sem,seval]
 refine ⟨_,[],[0],(A3 h).symm,by decide,?_⟩
 simp only[*,go_sem,seval]
 refine Zi h (fun i _ st=>IV [(0,.p false [.c (.sl 3 1 (A0 ZI a))]),(3,.p false [.row 0]),(5,.p false [.c (.int .i64 e)]),(6,.p false [.c (.bool false)]),(9,.p false [.c (.sl 3 1 (A0 ZI a))]),(10,.p false [.c (.int .i64 ((a.length:Nat):Int))]),(11,.p false [.c (.int .i64 ((q:Nat):Int))]),(23,.p false [.c (.sl 3 1 (A0 ZI a))]),(24,.p false [.c (.int .i64 ((a.length:Nat):Int))]),(25,.p false [.c (.int .i64 ((i:Nat):Int))])] [.row 3 1 (A0 ZI d) 2] st) [] [0] (by decide) ?_ ?_ ?_
 simp only[*,go_sem,seval]
 rintro _ _ ⟨⟩ ⟨sl,ob,n⟩ _ o w I h _
 simp only[go_sem,seval,Zc] at w
 obtain ⟨⟨J,_,_,_,_,_,_,_,_,_⟩,_,hn⟩:=w
 subst hn
 have K:=WF.slotL I J (j:=0) rfl
 have:=ZA o
 have:=ZC o
 have:=Zj (ZB o) K
 simp only[*,go_sem,seval]
 refine ⟨_,[],[0],(A3 h).symm,by decide,?_⟩
 simp only[*,go_sem,seval]
 rintro ⟨⟩ ⟨sl,ob,n⟩ x _ h
 simp only[go_sem,seval,Zc] at x
 obtain ⟨⟨_,_,_,_,_,_,_,_,_,_⟩,_,hn⟩:=x
 subst hn
 have:=Zy (a.length)
 simp only[*,go_sem,seval]
 refine ⟨_,[],[0],(A3 h).symm,by decide,?_⟩
 simp only[*,go_sem,seval]
 rintro d ⟨sl,ob,n⟩ y _ h
 simp only[go_sem,seval,Zc] at y
 obtain ⟨⟨_,_,_,_,_⟩,_,hn⟩:=y
 subst hn
 have:=Zy (a.length)
 simp only[*,go_sem,seval]
 obtain ⟨_,L,h⟩:=Za h
 refine QL (ZmZ L) ?_
 cases h
 simp only[*,go_sem,seval]
theorem ZHm {r_0:Zf} {r:Zf} (h:ZGb r_0=some r):Zk prog J0 187 [(true,ZE r_0)] [(true,[(false,.int .i64 r.for_),(false,.sl 3 1 (A0 ZI r.inn)),(false,.sl 3 1 (A0 ZI r.outs))])]:=by
 refine fnk func187 rfl ?_
 unfold ZGb at h
 simp only[fnS,f187,Zm,go_sem,seval]
 refine ZMH h fun _ a h=>Zd (ZGV a) ?_
 simp only[*,go_sem,seval]
 refine ZMH h fun _ b h=>Zd (ZGV b) ?_
 cases h
 simp only[*,go_sem,seval]
theorem ZHF {l_0:(List Int)} {r:(List Int)} (h:ZFS l_0=some r):Zk prog J0 185 [(false,[.sl 3 1 (A0 ZI l_0)])] [(false,[(false,.sl 3 1 (A0 ZI r))])]:=by
 refine fnk func185 rfl ?_
 unfold ZFS at h
 simp only[fnS,f185,Zm,go_sem,seval]
 refine Zi h (fun i a st=>IV [(0,.p false [.c (.sl 3 1 (A0 ZI l_0))]),(3,.p false [.row 0]),(4,.p false [.c (.int .i64 ((i:Nat):Int))])] [.row 3 1 (A0 ZI a) 2] st) [] [16] (by decide) ?_ ?_ ?_
 simp only[*,go_sem,seval]
 rintro m _ a ⟨sl,ob,n⟩ _ b f o h _
 simp only[go_sem,seval,Zc] at f
 obtain ⟨⟨q,_,_⟩,_,hn⟩:=f
 subst hn
 have t:=WF.slotL o q (j:=0) rfl
 have:=ZA b
 have:=ZC b
 have:=Zj (ZB b) t
 simp only[*,go_sem,seval]
 refine Zi h (fun i d st=>IV [(0,.p false [.c (.sl 3 1 (A0 ZI l_0))]),(3,.p false [.row 0]),(4,.p false [.c (.int .i64 ((m:Nat):Int))]),(5,.p false [.c (.bool d)]),(6,.p false [.c (.int .i64 ((i:Nat):Int))])] [.row 3 1 (A0 ZI a) 2] st) [] [0] (by decide) ?_ ?_ ?_
 simp only[*,go_sem,seval]
 rintro _ _ d ⟨sl,ob,n⟩ _ e g u h _
 simp only[go_sem,seval,Zc] at g
 obtain ⟨⟨v,_,_,_,_⟩,_,hn⟩:=g
 subst hn
 have w:=WF.slotL u v (j:=0) rfl
 have:=ZA e
 have:=ZC e
 have:=Zj (ZB e) w
 simp only[*,go_sem,seval]
 refine Ze h (fun _ h=>?_) fun _ h=>?_<;>try simp only[*,go_sem,seval]
 refine ZMH h fun _ x h=>Zd (ZIx x) ?_
 simp only[*,go_sem,seval]
 refine Ze h (fun _ h=>?_) fun _ h=>?_<;>try simp only[*,go_sem,seval]
 refine ⟨_,[],[0],(A3 h).symm,by decide,?_⟩
 simp only[*,go_sem,seval]
 refine ⟨_,[],[0],(A3 h).symm,by decide,?_⟩
 simp only[*,go_sem,seval]
 refine ⟨_,[],[0],(A3 h).symm,by decide,?_⟩
 simp only[*,go_sem,seval]
 rintro d ⟨sl,ob,n⟩ k _ h
 simp only[go_sem,seval,Zc] at k
 obtain ⟨⟨_,_,_,_,_⟩,_,hn⟩:=k
 subst hn
 have:=Zy (l_0.length)
 simp only[*,go_sem,seval]
 refine Ze h (fun _ h=>?_) fun _ h=>?_<;>try simp only[*,go_sem,seval]
 refine ZMH h fun _ y h=>Zd (ZpR y) ?_
 simp only[*,go_sem,seval]
 refine ⟨_,[],[161],(A3 h).symm,by decide,?_⟩
 simp only[*,go_sem,seval]
 refine ⟨_,[],[0],(A3 h).symm,by decide,?_⟩
 simp only[*,go_sem,seval]
 rintro a ⟨sl,ob,n⟩ l _ h
 simp only[go_sem,seval,Zc] at l
 obtain ⟨⟨_,_,_⟩,_,hn⟩:=l
 subst hn
 have:=Zy (l_0.length)
 cases h
 simp only[*,go_sem,seval]
end
section
set_option linter.unusedSimpArgs false
set_option linter.unusedVariables false
set_option maxRecDepth 1000000
set_option maxHeartbeats 4000000
theorem Zlu {b_0:Zr} {r:Bool} (h:Zcr b_0=some r):Zk prog J0 281 [(true,XY b_0)] [(false,[(false,.bool r)])]:=by
 refine fnk func281 rfl ?_
 unfold Zcr at h
 simp only[fnS,f281,Zm,go_sem,seval]
 refine Zi h (fun i _ st=>IV [(1,.bp 0 0),(3,.p false [.c (.int .i64 ((i:Nat):Int))])] [.box 64 [.c (.int .i64 b_0.nodes),.c (.sl 199 3 (A0 ZE b_0.reasons))]] st) [] [0] (by decide) ?_ ?_ ?_
 simp only[*,go_sem,seval]
 rintro _ _ ⟨⟩ ⟨sl,ob,n⟩ _ a b e h f
 simp only[go_sem,seval,Zc] at b
 obtain ⟨⟨_,_⟩,g,hn⟩:=b
 subst hn
 have k:=WF.boxL e g (j:=1) rfl
 have:=ZA a
 have:=ZC a
 have:=Zj (ZB a) k
 simp only[*,go_sem,seval]
 refine ZMH h fun _ l h=>Zd (XU l) ?_
 simp only[*,go_sem,seval]
 refine Ze h (fun _ h=>?_) fun _ h=>?_<;>try simp only[*,go_sem,seval]
 refine ZMH h fun _ m h=>Zd (Zi0 m) ?_
 simp only[*,go_sem,seval]
 refine Ze h (fun _ h=>?_) fun _ h=>?_<;>try simp only[*,go_sem,seval]
 refine ZMH h fun _ o h=>Zd (Zi0 o) ?_
 simp only[*,go_sem,seval]
 refine Ze h (fun _ h=>?_) fun _ h=>?_<;>try simp only[*,go_sem,seval]
 refine ⟨_,[],[0],(A3 h).symm,by decide,?_⟩
 iterate 3 (simp only[*,go_sem,seval];replace h:=Zn h f;cases h)
 simp only[*,go_sem,seval]
 rintro ⟨⟩ ⟨sl,ob,n⟩ d _ h
 simp only[go_sem,seval,Zc] at d
 obtain ⟨⟨_,_⟩,_,hn⟩:=d
 subst hn
 have:=Zy (b_0.reasons.length)
 simp only[*,go_sem,seval]
 refine ZMH h fun _ q h=>Zd (XU q) ?_
 simp only[*,go_sem,seval]
 refine Ze h (fun _ h=>?_) fun _ h=>?_<;>try simp only[*,go_sem,seval]
 iterate 2 (cases h;simp only[*,go_sem,seval])
theorem ZGJ {l_0:(List Zb)} {rel_1:ByteArray} {r:(List Zb)} (h:ZFU l_0 rel_1=some r):Zk prog J0 26 [(false,[.sl 45 2 (A0 Zl l_0)]),(false,[.str rel_1])] [(false,[(false,.sl 45 2 (A0 Zl r))])]:=by
 refine fnk func26 rfl ?_
 unfold ZFU at h
 simp only[fnS,f26,Zm,go_sem,seval]
 refine Zi h (fun i a st=>IV [(0,.p false [.c (.sl 45 2 (A0 Zl l_0))]),(1,.p false [.c (.str rel_1)]),(5,.p false [.row 0]),(6,.p false [.c (.int .i64 ((i:Nat):Int))])] [.row 45 2 (A0 Zl a) 2] st) [] [16] (by decide) ?_ ?_ ?_
 simp only[*,go_sem,seval]
 rintro _ _ a ⟨sl,ob,n⟩ _ b d f h _
 simp only[go_sem,seval,Zc] at d
 obtain ⟨⟨g,_,_,_⟩,_,hn⟩:=d
 subst hn
 have k:=WF.slotL f g (j:=0) rfl
 have:=ZA b
 have:=ZC b
 have:=Zj (ZB b) k
 simp only[*,go_sem,seval]
 refine Ze h (fun _ h=>?_) fun _ h=>?_<;>try simp only[*,go_sem,seval]
 refine ZMH h fun _ l h=>Zd (Xa l) ?_
 obtain ⟨m,h⟩:=Zq h
 try simp only[Nat.reduceLeDiff] at m
 simp only[*,go_sem,seval]
 refine ⟨_,[],[289],(A3 h).symm,by decide,?_⟩
 simp only[*,go_sem,seval]
 refine ⟨_,[],[0],(A3 h).symm,by decide,?_⟩
 simp only[*,go_sem,seval]
 rintro a ⟨sl,ob,n⟩ e _ h
 simp only[go_sem,seval,Zc] at e
 obtain ⟨⟨_,_,_,_⟩,_,hn⟩:=e
 subst hn
 have:=Zy (l_0.length)
 cases h
 simp only[*,go_sem,seval]
theorem ZHf {c_0:ZJ} {n_1:Int} {r:(Bool × ZJ)} (h:ZGu c_0 n_1=some r):Zbx prog J0 JF0 110 (.box 152 (Zbj c_0)) [(false,[.int .i64 n_1])] [(false,[(false,.bool r.1)])] (.box 152 (Zbj r.2)):=by
 refine fnh func110 rfl ?_
 unfold ZGu at h
 simp only[fnH,f110,Zdh,Zdg,Xp,go_sem,seval]
 obtain ⟨_,a,h⟩:=Za h
 refine QL (Q7 a) ?_
 cases h
 simp only[*,go_sem,seval]
theorem ZIJ {c_0:ZJ} {r:(ByteArray × Int × ZJ)} (h:ZG0 c_0=some r):Zbx prog J0 JF0 239 (.box 152 (Zbj c_0)) [] [(false,[(false,.str r.1)]),(false,[(false,.int .i64 r.2.1)])] (.box 152 (Zbj r.2.2)):=by
 refine fnh func239 rfl ?_
 unfold ZG0 at h
 have b:Z9 ⟨#[111,110]⟩=true:=by decide
 have c:Z9 ⟨#[112]⟩=true:=by decide
 have d:Z9 ⟨#[113]⟩=true:=by decide
 have e:Z9 ⟨#[122]⟩=true:=by decide
 have f:Z9 ⟨#[97,116]⟩=true:=by decide
 have g:Z9 ⟨#[]⟩=true:=by decide
 simp only[fnH,f239,Zdh,Zdg,Xp,go_sem,seval,b,c,d,e,f,g]
 obtain ⟨a,i,h⟩:=Za h
 refine QL (Q7 i) ?_
 obtain ⟨j,h⟩:=Zq h
 try simp only[seval] at j
 obtain ⟨k,l,h⟩:=Za h
 have m:(A0 Zx [(⟨#[111,110]⟩),(⟨#[111,110]⟩),(⟨#[97,116]⟩),(⟨#[112]⟩),(⟨#[113]⟩),(⟨#[122]⟩)])[(A6 a.1)]?=some (Zx k):=by rw [A5,l];rfl
 simp only[AG,AH,ZoT] at m
 obtain ⟨o,p,h⟩:=Za h
 have q:(A0 ZI [2,2,2,1,1,0])[(A6 a.1)]?=some (ZI o):=by rw [A5,p];rfl
 simp only[AG,AH,ZwJ] at q
 cases h
 simp only[*,go_sem,seval]
theorem ZIn {f_0:QZ} {r:Bool} (h:ZGs f_0=some r):Zk prog J0 176 [(true,ZAT f_0)] [(false,[(false,.bool r)])]:=by
 refine fnk func176 rfl ?_
 unfold ZGs at h
 simp only[fnS,f176,Zm,go_sem,seval]
 refine ZMH h fun _ e h=>Zd (ZHN e) ?_
 simp only[*,go_sem,seval]
 iterate 2 refine Ze h (fun _ h=>?_) fun _ h=>?_<;>try simp only[*,go_sem,seval]
 cases h
 simp only[*,go_sem,seval]
 refine ZMH h fun _ f h=>Zd (ZFR f) ?_
 simp only[*,go_sem,seval]
 refine Ze h (fun _ h=>?_) fun _ h=>?_<;>try simp only[*,go_sem,seval]
 refine ZMH h fun _ g h=>Zd (ZFR g) ?_
 simp only[*,go_sem,seval]
 refine Ze h (fun _ h=>?_) fun _ h=>?_<;>try simp only[*,go_sem,seval]
 refine Zi h (fun i _ st=>IV [(35,.p false [.c (.sl 199 3 (A0 ZE f_0.beliefs.reasons))]),(36,.p false [.c (.int .i64 ((f_0.beliefs.reasons.length:Nat):Int))]),(37,.p false [.c (.int .i64 ((i:Nat):Int))])] [] st) [] [] (by decide) ?_ ?_ ?_
 simp only[*,go_sem,seval]
 rintro _ _ ⟨⟩ ⟨sl,ob,n⟩ _ a b k h l
 simp only[go_sem,seval,Zc] at b
 obtain ⟨⟨m,_,_⟩,hn⟩:=b
 subst hn
 have o:=WF.slotL k m (j:=0) rfl
 have:=ZA a
 have:=ZC a
 have:=Zj (ZB a) o
 simp only[*,go_sem,seval]
 refine Ze h (fun _ h=>?_) fun _ h=>?_<;>try simp only[*,go_sem,seval]
 replace h:=Zn h l
 cases h
 simp only[*,go_sem,seval]
 refine ⟨_,[],[],(A3 h).symm,by decide,?_⟩
 simp only[*,go_sem,seval]
 rintro ⟨⟩ ⟨sl,ob,n⟩ d _ h
 simp only[go_sem,seval,Zc] at d
 obtain ⟨⟨_,_,_⟩,hn⟩:=d
 subst hn
 have:=Zy (f_0.beliefs.reasons.length)
 iterate 4 (cases h;simp only[*,go_sem,seval])
theorem ZG7 {b_0:Zr} {r:Zr} (h:ZFX b_0=some r):Zk prog J0 244 [(true,XY b_0)] [(true,[(false,.int .i64 r.nodes),(false,.sl 199 3 (A0 ZE r.reasons))])]:=by
 refine fnk func244 rfl ?_
 unfold ZFX at h
 simp only[fnS,f244,Zm,go_sem,seval]
 refine Zi h (fun i a st=>IV [(2,.bp 0 0),(3,.bp 1 0),(10,.p false [.c (.sl 199 3 (A0 ZE b_0.reasons))]),(11,.p false [.c (.int .i64 ((b_0.reasons.length:Nat):Int))]),(12,.p false [.c (.int .i64 ((i:Nat):Int))])] [.box 64 [.c (.int .i64 0),.nil 199 3],.box 64 [.c (.int .i64 b_0.nodes),.row 2],.row 199 3 (A0 ZE a) 2] st) [(true,80,1)] [16,80,176] (by decide) ?_ ?_ ?_
 simp only[*,go_sem,seval]
 rintro _ _ a ⟨sl,ob,n⟩ _ b d f h _
 simp only[go_sem,seval,Zc] at d
 obtain ⟨⟨_,_,g,_,_⟩,_,_,_,hn⟩:=d
 subst hn
 have k:=WF.slotL f g (j:=0) rfl
 have:=ZA b
 have:=ZC b
 have:=Zj (ZB b) k
 simp only[*,go_sem,seval]
 refine ZMH h fun _ l h=>Zd (ZHm l) ?_
 obtain ⟨m,h⟩:=Zq h
 try simp only[Nat.reduceLeDiff] at m
 simp only[*,go_sem,seval]
 refine ⟨_,[],[0,1,163],(A3 h).symm,by decide,?_⟩
 simp only[*,go_sem,seval]
 rintro a ⟨sl,ob,n⟩ e _ h
 simp only[go_sem,seval,Zc] at e
 obtain ⟨⟨_,_,_,_,_⟩,_,_,_,hn⟩:=e
 subst hn
 have:=Zy (b_0.reasons.length)
 cases h
 simp only[*,go_sem,seval]
theorem ZHQ {l_0:(List Zb)} {f_1:QZ} {set_2:Int} {r:(List Zb)} (h:ZGd l_0 f_1 set_2=some r):Zk prog J0 117 [(false,[.sl 45 2 (A0 Zl l_0)]),(true,ZAT f_1),(false,[.int .i64 set_2])] [(false,[(false,.sl 45 2 (A0 Zl r))])]:=by
 refine fnk func117 rfl ?_
 unfold ZGd at h
 have f:¬((0:Int)<0):=by decide
 simp only[fnS,f117,Zm,go_sem,seval,f]
 refine Zi h (fun i a st=>IV [(0,.p false [.c (.sl 45 2 (A0 Zl l_0))]),(2,.p false [.c (.int .i64 set_2)]),(4,.bp 0 0),(7,.p false [.row 1]),(8,.p false [.c (.int .i64 ((i:Nat):Int))])] [.box 67 [.c (.int .i64 f_1.beliefs.nodes),.c (.sl 199 3 (A0 ZE f_1.beliefs.reasons)),.c (.sl 3 1 (A0 ZI f_1.assumed)),.c (.sl 3 1 (A0 ZI f_1.bad))],.row 45 2 (A0 Zl a) 2] st) [] [0,32] (by decide) ?_ ?_ ?_
 simp only[*,go_sem,seval]
 rintro _ _ a ⟨sl,ob,n⟩ _ b d g h _
 simp only[go_sem,seval,Zc] at d
 obtain ⟨⟨_,_,_,_,_⟩,k,_,hn⟩:=d
 subst hn
 have l:=WF.boxL g k (j:=2) rfl
 have:=ZA b
 have:=ZC b
 have:=Zj (ZB b) l
 obtain ⟨_,h⟩:=Zq h
 simp only[*,go_sem,seval]
 refine Ze h (fun _ h=>?_) fun _ h=>?_<;>try simp only[*,go_sem,seval]
 obtain ⟨_,_,_,_,h⟩:=ZbQ h
 simp only[*,go_sem,seval]
 refine ZMH h fun _ m h=>Zd (Xa m) ?_
 obtain ⟨o,h⟩:=Zq h
 try simp only[Nat.reduceLeDiff] at o
 simp only[*,go_sem,seval]
 refine ⟨_,[],[0,338],(A3 h).symm,by decide,?_⟩
 simp only[*,go_sem,seval]
 refine ⟨_,[],[0,1],(A3 h).symm,by decide,?_⟩
 simp only[*,go_sem,seval]
 rintro a ⟨sl,ob,n⟩ e _ h
 simp only[go_sem,seval,Zc] at e
 obtain ⟨⟨_,_,_,_,_⟩,_,_,hn⟩:=e
 subst hn
 have:=Zy (f_1.assumed.length)
 cases h
 simp only[*,go_sem,seval]
end
section
set_option linter.unusedSimpArgs false
set_option linter.unusedVariables false
set_option maxRecDepth 1000000
set_option maxHeartbeats 4000000
theorem ZgV {s_0:ByteArray} {r:Bool} (h:ZdP s_0=some r):Zk prog J0 141 [(false,[.str s_0])] [(false,[(false,.bool r)])]:=by
 refine fnk func141 rfl ?_
 unfold ZdP at h
 simp only[fnS,f141,Zm,go_sem,seval]
 refine ZMH h fun _ a h=>Zd (X0 a) ?_
 simp only[*,go_sem,seval]
 refine Ze h (fun _ h=>?_) fun _ h=>?_<;>try simp only[*,go_sem,seval]
 obtain ⟨_,_,b,h⟩:=ZpS h
 try simp only[seval] at b
 simp only[*,go_sem,seval]
 refine ZMH h fun _ c h=>Zd (XU c) ?_
 iterate 2 (cases h;simp only[*,go_sem,seval])
theorem Q3 {s_0:ByteArray} {r:Bool} (h:Zaz s_0=some r):Zk prog J0 142 [(false,[.str s_0])] [(false,[(false,.bool r)])]:=by
 refine fnk func142 rfl ?_
 unfold Zaz at h
 simp only[fnS,f142,Zm,go_sem,seval]
 refine Ze h (fun _ h=>?_) fun _ h=>?_<;>try simp only[*,go_sem,seval]
 obtain ⟨_,_,a,h⟩:=ZpS h
 try simp only[seval] at a
 simp only[*,go_sem,seval]
 refine Ze h (fun _ h=>?_) fun _ h=>?_<;>try simp only[*,go_sem,seval]
 obtain ⟨_,h⟩:=Zq h
 simp only[*,go_sem,seval]
 refine ZMH h fun _ b h=>Zd (X0 b) ?_
 iterate 3 (cases h;simp only[*,go_sem,seval])
theorem Zk5 {c_0:ZJ} {list_1:(List ByteArray)} {r:(ByteArray × ZJ)} (h:Zd8 c_0 list_1=some r):Zbx prog J0 JF0 126 (.box 152 (Zbj c_0)) [(false,[.sl 9 1 (A0 Zx list_1)])] [(false,[(false,.str r.1)])] (.box 152 (Zbj r.2)):=by
 refine fnh func126 rfl ?_
 unfold Zd8 at h
 have a:Z9 ⟨#[]⟩=true:=by decide
 simp only[fnH,f126,Zdh,Zdg,Xp,go_sem,seval,a]
 obtain ⟨_,b,h⟩:=Za h
 refine QL (Q7 b) ?_
 obtain ⟨_,_,_,_,h⟩:=ZbQ h
 cases h
 simp only[*,go_sem,seval]
theorem Zej {a_0:ByteArray} {b_1:ByteArray} {r:Int} (h:Xd a_0 b_1=some r):Zk prog J0 75 [(false,[.str a_0]),(false,[.str b_1])] [(false,[(false,.int .i64 r)])]:=by
 refine fnk func75 rfl ?_
 unfold Xd at h
 simp only[fnS,f75,Zm,go_sem,seval]
 refine ZMH h fun _ a h=>Zd (Zb1 a) ?_
 simp only[*,go_sem,seval]
 refine ZMH h fun _ b h=>Zd (Zb1 b) ?_
 simp only[*,go_sem,seval]
 iterate 3 refine Ze h (fun _ h=>?_) fun _ h=>?_<;>try simp only[*,go_sem,seval]
 cases h
 simp only[*,go_sem,seval]
 refine Ze h (fun _ h=>?_) fun _ h=>?_<;>try simp only[*,go_sem,seval]
 iterate 3 (cases h;simp only[*,go_sem,seval])
 refine Ze h (fun _ h=>?_) fun _ h=>?_<;>try simp only[*,go_sem,seval]
 cases h
 simp only[*,go_sem,seval]
 refine ZMH h fun _ c h=>Zd (Zle c) ?_
 cases h
 simp only[*,go_sem,seval]
theorem Zky {f_0:Zb} {r:Bool} (h:ZeG f_0=some r):Zk prog J0 134 [(true,Zl f_0)] [(false,[(false,.bool r)])]:=by
 refine fnk func134 rfl ?_
 unfold ZeG at h
 simp only[fnS,f134,Zm,go_sem,seval]
 refine ZMH h fun _ e h=>Zd (Zgl e) ?_
 simp only[*,go_sem,seval]
 iterate 2 refine Ze h (fun _ h=>?_) fun _ h=>?_<;>try simp only[*,go_sem,seval]
 cases h
 simp only[*,go_sem,seval]
 refine Zi h (fun i _ st=>IV [(16,.p false [.c (.sl 9 1 (A0 Zx f_0.args))]),(17,.p false [.c (.int .i64 ((f_0.args.length:Nat):Int))]),(18,.p false [.c (.int .i64 ((i:Nat):Int))])] [] st) [] [] (by decide) ?_ ?_ ?_
 simp only[*,go_sem,seval]
 rintro _ _ ⟨⟩ ⟨sl,ob,n⟩ _ a b f h g
 simp only[go_sem,seval,Zc] at b
 obtain ⟨⟨k,_,_⟩,hn⟩:=b
 subst hn
 have l:=WF.slotL f k (j:=0) rfl
 have:=ZA a
 have:=ZC a
 have:=Zj (ZB a) l
 simp only[*,go_sem,seval]
 refine ZMH h fun _ m h=>Zd (X4 m) ?_
 simp only[*,go_sem,seval]
 refine Ze h (fun _ h=>?_) fun _ h=>?_<;>try simp only[*,go_sem,seval]
 refine ⟨_,[],[],(A3 h).symm,by decide,?_⟩
 simp only[*,go_sem,seval]
 replace h:=Zn h g
 cases h
 simp only[*,go_sem,seval]
 rintro ⟨⟩ ⟨sl,ob,n⟩ d _ h
 simp only[go_sem,seval,Zc] at d
 obtain ⟨⟨_,_,_⟩,hn⟩:=d
 subst hn
 have:=Zy (f_0.args.length)
 iterate 2 (cases h;simp only[*,go_sem,seval])
theorem Ziz {a_0:ByteArray} {b_1:ByteArray} {r:Int} (h:QV a_0 b_1=some r):Zk prog J0 204 [(false,[.str a_0]),(false,[.str b_1])] [(false,[(false,.int .i64 r)])]:=by
 refine fnk func204 rfl ?_
 unfold QV at h
 simp only[fnS,f204,Zm,go_sem,seval]
 refine ZMH h fun _ a h=>Zd (Zcf a) ?_
 simp only[*,go_sem,seval]
 refine ZMH h fun _ b h=>Zd (Zcf b) ?_
 simp only[*,go_sem,seval]
 iterate 2 refine Ze h (fun _ h=>?_) fun _ h=>?_<;>try simp only[*,go_sem,seval]
 refine ZMH h fun _ c h=>Zd (ZbW c) ?_
 iterate 2 (cases h;simp only[*,go_sem,seval])
 refine Ze h (fun _ h=>?_) fun _ h=>?_<;>try simp only[*,go_sem,seval]
 cases h
 simp only[*,go_sem,seval]
 refine ZMH h fun _ d h=>Zd (Zjc d) ?_
 cases h
 simp only[*,go_sem,seval]
theorem QH {s_0:ByteArray} {r:Bool} (h:QI s_0=some r):Zk prog J0 206 [(false,[.str s_0])] [(false,[(false,.bool r)])]:=by
 refine fnk func206 rfl ?_
 unfold QI at h
 simp only[fnS,f206,Zm,go_sem,seval]
 refine ZMH h fun _ a h=>Zd (X4 a) ?_
 simp only[*,go_sem,seval]
 refine Ze h (fun _ h=>?_) fun _ h=>?_<;>try simp only[*,go_sem,seval]
 cases h
 simp only[*,go_sem,seval]
 refine ZMH h fun _ b h=>Zd (Zdc b) ?_
 cases h
 simp only[*,go_sem,seval]
theorem QO {b_0:(List Zs)} {r:Bool} (h:Xz b_0=some r):Zk prog J0 137 [(false,[.sl 166 2 (A0 Z4 b_0)])] [(false,[(false,.bool r)])]:=by
 refine fnk func137 rfl ?_
 unfold Xz at h
 simp only[fnS,f137,Zm,go_sem,seval]
 refine Ze h (fun _ h=>?_) fun _ h=>?_<;>try simp only[*,go_sem,seval]
 cases h
 simp only[*,go_sem,seval]
 refine Zi h (fun i _ st=>IV [(0,.p false [.c (.sl 166 2 (A0 Z4 b_0))]),(8,.p false [.c (.sl 166 2 (A0 Z4 b_0))]),(9,.p false [.c (.int .i64 ((b_0.length:Nat):Int))]),(10,.p false [.c (.int .i64 ((i:Nat):Int))])] [] st) [] [] (by decide) ?_ ?_ ?_
 simp only[*,go_sem,seval]
 rintro _ _ ⟨⟩ ⟨sl,ob,n⟩ _ a b f h d
 simp only[go_sem,seval,Zc] at b
 obtain ⟨⟨g,_,_,_⟩,hn⟩:=b
 subst hn
 have k:=WF.slotL f g (j:=0) rfl
 have:=ZA a
 have:=ZC a
 have:=Zj (ZB a) k
 simp only[*,go_sem,seval]
 refine ZMH h fun _ l h=>Zd (Zdc l) ?_
 simp only[*,go_sem,seval]
 refine Ze h (fun _ h=>?_) fun _ h=>?_<;>try simp only[*,go_sem,seval]
 refine ZMH h fun _ m h=>Zd (X4 m) ?_
 simp only[*,go_sem,seval]
 iterate 2 refine Ze h (fun _ h=>?_) fun _ h=>?_<;>try simp only[*,go_sem,seval]
 obtain ⟨_,_,_,_,h⟩:=ZbQ h
 simp only[*,go_sem,seval]
 refine Ze h (fun _ h=>?_) fun _ h=>?_<;>try simp only[*,go_sem,seval]
 refine ⟨_,[],[],(A3 h).symm,by decide,?_⟩
 simp only[*,go_sem,seval]
 replace h:=Zn h d
 cases h
 simp only[*,go_sem,seval]
 refine ⟨_,[],[],(A3 h).symm,by decide,?_⟩
 iterate 2 (simp only[*,go_sem,seval];replace h:=Zn h d;cases h)
 simp only[*,go_sem,seval]
 rintro ⟨⟩ ⟨sl,ob,n⟩ e _ h
 simp only[go_sem,seval,Zc] at e
 obtain ⟨⟨_,_,_,_⟩,hn⟩:=e
 subst hn
 have:=Zy (b_0.length)
 cases h
 simp only[*,go_sem,seval]
theorem ZcR {b_0:(List Zs)} {term_1:ByteArray} {r:(ByteArray × Bool)} (h:ZaP b_0 term_1=some r):Zk prog J0 138 [(false,[.sl 166 2 (A0 Z4 b_0)]),(false,[.str term_1])] [(false,[(false,.str r.1)]),(false,[(false,.bool r.2)])]:=by
 refine fnk func138 rfl ?_
 unfold ZaP at h
 have e:Z9 ⟨#[]⟩=true:=by decide
 simp only[fnS,f138,Zm,go_sem,seval,e]
 refine ZMH h fun _ f h=>Zd (X4 f) ?_
 simp only[*,go_sem,seval]
 refine Ze h (fun _ h=>?_) fun _ h=>?_<;>try simp only[*,go_sem,seval]
 cases h
 simp only[*,go_sem,seval]
 refine ZMH h fun _ g h=>Zd (Zdc g) ?_
 simp only[*,go_sem,seval]
 refine Ze h (fun _ h=>?_) fun _ h=>?_<;>try simp only[*,go_sem,seval]
 refine Zi h (fun i _ st=>IV [(1,.p false [.c (.str term_1)]),(14,.p false [.c (.sl 166 2 (A0 Z4 b_0))]),(15,.p false [.c (.int .i64 ((b_0.length:Nat):Int))]),(16,.p false [.c (.int .i64 ((i:Nat):Int))])] [] st) [] [] (by decide) ?_ ?_ ?_
 simp only[*,go_sem,seval]
 rintro _ _ ⟨⟩ ⟨sl,ob,n⟩ _ a b k h l
 simp only[go_sem,seval,Zc] at b
 obtain ⟨⟨_,m,_,_⟩,hn⟩:=b
 subst hn
 have o:=WF.slotL k m (j:=0) rfl
 have:=ZA a
 have:=ZC a
 have:=Zj (ZB a) o
 simp only[*,go_sem,seval]
 refine Ze h (fun _ h=>?_) fun _ h=>?_<;>try simp only[*,go_sem,seval]
 replace h:=Zn h l
 cases h
 simp only[*,go_sem,seval]
 refine ⟨_,[],[],(A3 h).symm,by decide,?_⟩
 simp only[*,go_sem,seval]
 rintro ⟨⟩ ⟨sl,ob,n⟩ d _ h
 simp only[go_sem,seval,Zc] at d
 obtain ⟨⟨_,_,_,_⟩,hn⟩:=d
 subst hn
 have:=Zy (b_0.length)
 iterate 2 (cases h;simp only[*,go_sem,seval])
theorem Qq {l_0:(List Zb)} {f_1:Zb} {r:Int} (h:Yc l_0 f_1=some r):Zk prog J0 69 [(false,[.sl 45 2 (A0 Zl l_0)]),(true,Zl f_1)] [(false,[(false,.int .i64 r)])]:=by
 refine fnk func69 rfl ?_
 unfold Yc at h
 simp only[fnS,f69,Zm,go_sem,seval]
 refine Zi h (fun i _ st=>IV [(3,.bp 0 0),(7,.p false [.c (.sl 45 2 (A0 Zl l_0))]),(8,.p false [.c (.int .i64 ((l_0.length:Nat):Int))]),(9,.p false [.c (.int .i64 ((i:Nat):Int))])] [.box 45 [.c (.str f_1.rel),.c (.sl 9 1 (A0 Zx f_1.args))]] st) [] [0] (by decide) ?_ ?_ ?_
 simp only[*,go_sem,seval]
 rintro _ _ ⟨⟩ ⟨sl,ob,n⟩ _ a b e h f
 simp only[go_sem,seval,Zc] at b
 obtain ⟨⟨_,g,_,_⟩,_,hn⟩:=b
 subst hn
 have k:=WF.slotL e g (j:=0) rfl
 have:=ZA a
 have:=ZC a
 have:=Zj (ZB a) k
 simp only[*,go_sem,seval]
 refine ZMH h fun _ l h=>Zd (ZmL l) ?_
 simp only[*,go_sem,seval]
 refine Ze h (fun _ h=>?_) fun _ h=>?_<;>try simp only[*,go_sem,seval]
 replace h:=Zn h f
 cases h
 simp only[*,go_sem,seval]
 refine ⟨_,[],[0],(A3 h).symm,by decide,?_⟩
 simp only[*,go_sem,seval]
 rintro ⟨⟩ ⟨sl,ob,n⟩ d _ h
 simp only[go_sem,seval,Zc] at d
 obtain ⟨⟨_,_,_,_⟩,_,hn⟩:=d
 subst hn
 have:=Zy (l_0.length)
 cases h
 simp only[*,go_sem,seval]
theorem ZdX {l_0:(List ByteArray)} {r:(List ByteArray)} (h:QM l_0=some r):Zk prog J0 200 [(false,[.sl 9 1 (A0 Zx l_0)])] [(false,[(false,.sl 9 1 (A0 Zx r))])]:=by
 refine fnk func200 rfl ?_
 unfold QM at h
 simp only[fnS,f200,Zm,go_sem,seval]
 refine Zi h (fun i a st=>IV [(3,.p false [.row 0]),(6,.p false [.c (.sl 9 1 (A0 Zx l_0))]),(7,.p false [.c (.int .i64 ((l_0.length:Nat):Int))]),(8,.p false [.c (.int .i64 ((i:Nat):Int))])] [.row 9 1 (A0 Zx a) 2] st) [(false,3,0)] [80] (by decide) ?_ ?_ ?_
 simp only[*,go_sem,seval]
 rintro _ _ a ⟨sl,ob,n⟩ _ b d f h _
 simp only[go_sem,seval,Zc] at d
 obtain ⟨⟨_,g,_,_⟩,_,hn⟩:=d
 subst hn
 have k:=WF.slotL f g (j:=0) rfl
 have:=ZA b
 have:=ZC b
 have:=Zj (ZB b) k
 simp only[*,go_sem,seval]
 refine ZMH h fun _ l h=>Zd (Zdc l) ?_
 simp only[*,go_sem,seval]
 refine Ze h (fun _ h=>?_) fun _ h=>?_<;>try simp only[*,go_sem,seval]
 obtain ⟨m,h⟩:=Zq h
 try simp only[Nat.reduceLeDiff] at m
 simp only[*,go_sem,seval]
 refine ⟨_,[],[145],(A3 h).symm,by decide,?_⟩
 simp only[*,go_sem,seval]
 refine ⟨_,[],[0],(A3 h).symm,by decide,?_⟩
 simp only[*,go_sem,seval]
 rintro a ⟨sl,ob,n⟩ e _ h
 simp only[go_sem,seval,Zc] at e
 obtain ⟨⟨_,_,_,_⟩,_,hn⟩:=e
 subst hn
 have:=Zy (l_0.length)
 cases h
 simp only[*,go_sem,seval]
theorem Znl {a:(List Zg)} {a_1:ByteArray} {r:(List (ByteArray × Bool))} (h:Zde a a_1=some r):Zmx prog J0 77 [(false,[.sl 42 4 (A0 ZF a)]),(false,[.str a_1])] (.map .str .bool (A0 eSB r)):=by
 refine fnb func77 rfl ?_
 unfold Zde at h
 simp only[fnB,f77,Zm,go_sem,seval]
 refine Yo h (fun s st=>match s with | (o,q)=>IV [(0,.p false [.c (.sl 42 4 (A0 ZF a))]),(5,.p false [.row 0]),(6,.p false [.row 1])] [.map .str .bool (A0 eSB o),.row 9 1 (A0 Zx q) 2] st) [] [16,64] (by decide) ?_ ?_
 simp only[*,go_sem,seval]
 rintro ⟨o,q⟩ ⟨sl,ob,n⟩ _ t _ h z
 simp only[go_sem,seval,Zc] at t
 obtain ⟨⟨_,_,_⟩,_,_,hn⟩:=t
 subst hn
 simp only[*,go_sem,seval]
 refine Ze h (fun _ h=>?_) fun _ h=>?_<;>try simp only[*,go_sem,seval]
 obtain ⟨_,h⟩:=Zq h
 obtain ⟨u,A,h⟩:=Za h
 try simp only[seval] at A
 obtain ⟨_,h⟩:=Zq h
 simp only[*,go_sem,seval]
 refine Zi h (fun i s st=>match s with | (d,e)=>IV [(0,.p false [.c (.sl 42 4 (A0 ZF a))]),(5,.p false [.row 0]),(6,.p false [.row 1]),(7,.p false [.c (.str u)]),(23,.p false [.c (.sl 42 4 (A0 ZF a))]),(24,.p false [.c (.int .i64 ((a.length:Nat):Int))]),(25,.p false [.c (.int .i64 ((i:Nat):Int))])] [.map .str .bool (A0 eSB d),.row 9 1 (A0 Zx e) 2] st) [] [0,130] (by decide) ?_ ?_ ?_
 simp only[*,go_sem,seval]
 rintro B _ ⟨d,e⟩ ⟨sl,ob,n⟩ _ f v C h _
 simp only[go_sem,seval,Zc] at v
 obtain ⟨⟨D,_,_,_,_,_,_⟩,_,_,hn⟩:=v
 subst hn
 have E:=WF.slotL C D (j:=0) rfl
 have:=ZA f
 have:=ZC f
 have:=Zj (ZB f) E
 simp only[*,go_sem,seval]
 refine ZMH h fun _ F h=>Zd (ZhN F) ?_
 simp only[*,go_sem,seval]
 refine ZMH h fun _ G h=>Zd (Zac G) ?_
 simp only[*,go_sem,seval]
 refine Ze h (fun _ h=>?_) fun _ h=>?_<;>try simp only[*,go_sem,seval]
 refine ZMH h fun g H h=>Zd (Zo9 H) ?_
 simp only[*,go_sem,seval]
 refine Zi h (fun i s st=>match s with | (k,l)=>IV [(0,.p false [.c (.sl 42 4 (A0 ZF a))]),(5,.p false [.row 0]),(6,.p false [.row 1]),(7,.p false [.c (.str u)]),(23,.p false [.c (.sl 42 4 (A0 ZF a))]),(24,.p false [.c (.int .i64 ((a.length:Nat):Int))]),(25,.p false [.c (.int .i64 ((B:Nat):Int))]),(35,.p false [.row 2]),(36,.p false [.c (.int .i64 ((g.length:Nat):Int))]),(37,.p false [.c (.int .i64 ((i:Nat):Int))])] [.map .str .bool (A0 eSB k),.row 9 1 (A0 Zx l) 2,.row 9 1 (A0 Zx g) 2] st) [] [0,1,178] (by decide) ?_ ?_ ?_
 simp only[*,go_sem,seval]
 rintro _ _ ⟨k,l⟩ ⟨sl,ob,n⟩ _ m w I h _
 simp only[go_sem,seval,Zc] at w
 obtain ⟨⟨_,_,_,_,_,_,_,_,_,_⟩,_,_,J,hn⟩:=w
 subst hn
 have K:=WF.rowL I J
 have:=ZA m
 have:=ZC m
 have:=Zj (ZB m) K
 simp only[*,go_sem,seval]
 refine Ze h (fun _ h=>?_) fun _ h=>?_<;>try simp only[*,go_sem,seval]
 refine ⟨_,[],[0,1,2],(A3 h).symm,by decide,?_⟩
 simp only[*,go_sem,seval]
 obtain ⟨L,h⟩:=Zq h
 try simp only[Nat.reduceLeDiff] at L
 simp only[*,go_sem,seval]
 refine ⟨_,[],[0,227,2],(A3 h).symm,by decide,?_⟩
 simp only[*,go_sem,seval]
 rintro ⟨k,l⟩ ⟨sl,ob,n⟩ x _ h
 simp only[go_sem,seval,Zc] at x
 obtain ⟨⟨_,_,_,_,_,_,_,_,_,_⟩,_,_,_,hn⟩:=x
 subst hn
 have:=Zy (g.length)
 simp only[*,go_sem,seval]
 refine ⟨_,[],[0,1],(A3 h).symm,by decide,?_⟩
 simp only[*,go_sem,seval]
 refine ⟨_,[],[0,1],(A3 h).symm,by decide,?_⟩
 simp only[*,go_sem,seval]
 rintro ⟨d,e⟩ ⟨sl,ob,n⟩ y _ h
 simp only[go_sem,seval,Zc] at y
 obtain ⟨⟨_,_,_,_,_,_,_⟩,_,_,hn⟩:=y
 subst hn
 have:=Zy (a.length)
 simp only[*,go_sem,seval]
 refine ⟨_,[],[0,1],(A3 h).symm,by decide,?_⟩
 simp only[*,go_sem,seval]
 replace h:=Zn h z
 cases h
 simp only[*,go_sem,seval]
theorem ZgI {l_0:(List Zb)} {r:(List Zb)} (h:Za7 l_0=some r):Zk prog J0 83 [(false,[.sl 45 2 (A0 Zl l_0)])] [(false,[(false,.sl 45 2 (A0 Zl r))])]:=by
 refine fnk func83 rfl ?_
 unfold Za7 at h
 simp only[fnS,f83,Zm,go_sem,seval]
 refine Zi h (fun i a st=>IV [(3,.p false [.row 0]),(6,.p false [.c (.sl 45 2 (A0 Zl l_0))]),(7,.p false [.c (.int .i64 ((l_0.length:Nat):Int))]),(8,.p false [.c (.int .i64 ((i:Nat):Int))])] [.row 45 2 (A0 Zl a) 2] st) [(false,3,0)] [80] (by decide) ?_ ?_ ?_
 simp only[*,go_sem,seval]
 rintro _ _ a ⟨sl,ob,n⟩ _ b d f h _
 simp only[go_sem,seval,Zc] at d
 obtain ⟨⟨_,g,_,_⟩,_,hn⟩:=d
 subst hn
 have k:=WF.slotL f g (j:=0) rfl
 have:=ZA b
 have:=ZC b
 have:=Zj (ZB b) k
 simp only[*,go_sem,seval]
 refine ZMH h fun _ l h=>Zd (YO l) ?_
 obtain ⟨m,h⟩:=Zq h
 try simp only[Nat.reduceLeDiff] at m
 simp only[*,go_sem,seval]
 refine ⟨_,[],[145],(A3 h).symm,by decide,?_⟩
 simp only[*,go_sem,seval]
 rintro a ⟨sl,ob,n⟩ e _ h
 simp only[go_sem,seval,Zc] at e
 obtain ⟨⟨_,_,_,_⟩,_,hn⟩:=e
 subst hn
 have:=Zy (l_0.length)
 cases h
 simp only[*,go_sem,seval]
theorem Zma {l_0:(List Zf)} {r_1:Zf} {r:Bool} (h:Za5 l_0 r_1=some r):Zk prog J0 190 [(false,[.sl 199 3 (A0 ZE l_0)]),(true,ZE r_1)] [(false,[(false,.bool r)])]:=by
 refine fnk func190 rfl ?_
 unfold Za5 at h
 simp only[fnS,f190,Zm,go_sem,seval]
 refine Zi h (fun i _ st=>IV [(3,.bp 0 0),(7,.p false [.c (.sl 199 3 (A0 ZE l_0))]),(8,.p false [.c (.int .i64 ((l_0.length:Nat):Int))]),(9,.p false [.c (.int .i64 ((i:Nat):Int))])] [.box 199 [.c (.int .i64 r_1.for_),.c (.sl 3 1 (A0 ZI r_1.inn)),.c (.sl 3 1 (A0 ZI r_1.outs))]] st) [] [0] (by decide) ?_ ?_ ?_
 simp only[*,go_sem,seval]
 rintro _ _ ⟨⟩ ⟨sl,ob,n⟩ _ a b e h f
 simp only[go_sem,seval,Zc] at b
 obtain ⟨⟨_,g,_,_⟩,_,hn⟩:=b
 subst hn
 have k:=WF.slotL e g (j:=0) rfl
 have:=ZA a
 have:=ZC a
 have:=Zj (ZB a) k
 simp only[*,go_sem,seval]
 refine ZMH h fun _ l h=>Zd (ZkG l) ?_
 simp only[*,go_sem,seval]
 refine Ze h (fun _ h=>?_) fun _ h=>?_<;>try simp only[*,go_sem,seval]
 replace h:=Zn h f
 cases h
 simp only[*,go_sem,seval]
 refine ⟨_,[],[0],(A3 h).symm,by decide,?_⟩
 simp only[*,go_sem,seval]
 rintro ⟨⟩ ⟨sl,ob,n⟩ d _ h
 simp only[go_sem,seval,Zc] at d
 obtain ⟨⟨_,_,_,_⟩,_,hn⟩:=d
 subst hn
 have:=Zy (l_0.length)
 cases h
 simp only[*,go_sem,seval]
theorem Zq9 {b_0:Zr} {r:(List Bool)} (h:Zgt b_0=some r):Zk prog J0 129 [(true,XY b_0)] [(false,[(false,.sl 4 1 (A0 ZfM r))])]:=by
 refine fnk func129 rfl ?_
 unfold Zgt at h
 simp only[fnS,f129,Zm,go_sem,seval]
 refine ZMH h fun a g h=>Zd (Zqy g) ?_
 simp only[*,go_sem,seval]
 refine Zi h (fun i b st=>IV [(3,.p false [.row 0]),(7,.p false [.row 1]),(8,.p false [.c (.int .i64 ((a.length:Nat):Int))]),(9,.p false [.c (.int .i64 ((i:Nat):Int))])] [.row 4 1 (A0 ZfM b) 2,.row 3 1 (A0 ZI a) 2] st) [(false,3,0)] [112,64] (by decide) ?_ ?_ ?_
 simp only[*,go_sem,seval]
 rintro _ _ b ⟨sl,ob,n⟩ _ d e j h _
 simp only[go_sem,seval,Zc] at e
 obtain ⟨⟨_,_,_,_⟩,_,k,hn⟩:=e
 subst hn
 have l:=WF.rowL j k
 have:=ZA d
 have:=ZC d
 have:=Zj (ZB d) l
 obtain ⟨m,h⟩:=Zq h
 try simp only[Nat.reduceLeDiff] at m
 simp only[*,go_sem,seval]
 refine ⟨_,[],[130,1],(A3 h).symm,by decide,?_⟩
 simp only[*,go_sem,seval]
 rintro b ⟨sl,ob,n⟩ f _ h
 simp only[go_sem,seval,Zc] at f
 obtain ⟨⟨_,_,_,_⟩,_,_,hn⟩:=f
 subst hn
 have:=Zy (a.length)
 cases h
 simp only[*,go_sem,seval]
theorem Zb0 {l_0:(List Zb)} {f_1:Zb} {r:Int} (h:QT l_0 f_1=some r):Zk prog J0 76 [(false,[.sl 45 2 (A0 Zl l_0)]),(true,Zl f_1)] [(false,[(false,.int .i64 r)])]:=by
 refine fnk func76 rfl ?_
 unfold QT at h
 simp only[fnS,f76,Zm,go_sem,seval]
 refine Zi h (fun i _ st=>IV [(0,.p false [.c (.sl 45 2 (A0 Zl l_0))]),(3,.bp 0 0),(5,.p false [.c (.int .i64 ((i:Nat):Int))])] [.box 45 [.c (.str f_1.rel),.c (.sl 9 1 (A0 Zx f_1.args))]] st) [] [0] (by decide) ?_ ?_ ?_
 simp only[*,go_sem,seval]
 rintro _ _ ⟨⟩ ⟨sl,ob,n⟩ _ a b e h f
 simp only[go_sem,seval,Zc] at b
 obtain ⟨⟨g,_,_⟩,_,hn⟩:=b
 subst hn
 have k:=WF.slotL e g (j:=0) rfl
 have:=ZA a
 have:=ZC a
 have:=Zj (ZB a) k
 simp only[*,go_sem,seval]
 refine ZMH h fun _ l h=>Zd (Zry l) ?_
 simp only[*,go_sem,seval]
 refine Ze h (fun _ h=>?_) fun _ h=>?_<;>try simp only[*,go_sem,seval]
 replace h:=Zn h f
 cases h
 simp only[*,go_sem,seval]
 refine ⟨_,[],[0],(A3 h).symm,by decide,?_⟩
 simp only[*,go_sem,seval]
 rintro ⟨⟩ ⟨sl,ob,n⟩ d _ h
 simp only[go_sem,seval,Zc] at d
 obtain ⟨⟨_,_,_⟩,_,hn⟩:=d
 subst hn
 have:=Zy (l_0.length)
 cases h
 simp only[*,go_sem,seval]
theorem Zeq {l_0:(List Zb)} {r:(List Zb)} (h:ZaJ l_0=some r):Zk prog J0 88 [(false,[.sl 45 2 (A0 Zl l_0)])] [(false,[(false,.sl 45 2 (A0 Zl r))])]:=by
 refine fnk func88 rfl ?_
 unfold ZaJ at h
 simp only[fnS,f88,Zm,go_sem,seval]
 refine Zi h (fun i a st=>IV [(0,.p false [.c (.sl 45 2 (A0 Zl l_0))]),(3,.p false [.row 0]),(4,.p false [.c (.int .i64 ((i:Nat):Int))])] [.row 45 2 (A0 Zl a) 2] st) [] [16] (by decide) ?_ ?_ ?_
 simp only[*,go_sem,seval]
 rintro _ _ a ⟨sl,ob,n⟩ _ b d f h _
 simp only[go_sem,seval,Zc] at d
 obtain ⟨⟨g,_,_⟩,_,hn⟩:=d
 subst hn
 have k:=WF.slotL f g (j:=0) rfl
 have:=ZA b
 have:=ZC b
 have:=Zj (ZB b) k
 simp only[*,go_sem,seval]
 refine ZMH h fun _ l h=>Zd (Xa l) ?_
 obtain ⟨m,h⟩:=Zq h
 try simp only[Nat.reduceLeDiff] at m
 simp only[*,go_sem,seval]
 refine ⟨_,[],[177],(A3 h).symm,by decide,?_⟩
 simp only[*,go_sem,seval]
 rintro a ⟨sl,ob,n⟩ e _ h
 simp only[go_sem,seval,Zc] at e
 obtain ⟨⟨_,_,_⟩,_,hn⟩:=e
 subst hn
 have:=Zy (l_0.length)
 cases h
 simp only[*,go_sem,seval]
theorem ZkF {a:(List Zg)} {String_1:ByteArray} {b:ByteArray} {r:Bool} (h:Zbg a String_1 b=some r):Zk prog J0 236 [(false,[.sl 42 4 (A0 ZF a)]),(false,[.str String_1]),(false,[.str b])] [(false,[(false,.bool r)])]:=by
 refine fnk func236 rfl ?_
 unfold Zbg at h
 simp only[fnS,f236,Zm,go_sem,seval]
 refine Yo h (fun s st=>match s with | (m,e)=>IV [(0,.p false [.c (.sl 42 4 (A0 ZF a))]),(2,.p false [.c (.str b)]),(7,.p false [.row 0]),(8,.p false [.c (.int .i64 e)])] [.row 9 1 (A0 Zx m) 2] st) [] [32] (by decide) ?_ ?_
 simp only[*,go_sem,seval]
 rintro ⟨m,e⟩ ⟨sl,ob,n⟩ _ o _ h q
 simp only[go_sem,seval,Zc] at o
 obtain ⟨⟨_,_,_,_⟩,_,hn⟩:=o
 subst hn
 simp only[*,go_sem,seval]
 refine Ze h (fun _ h=>?_) fun _ h=>?_<;>try simp only[*,go_sem,seval]
 refine Zi h (fun i f st=>IV [(0,.p false [.c (.sl 42 4 (A0 ZF a))]),(2,.p false [.c (.str b)]),(7,.p false [.row 0]),(8,.p false [.c (.int .i64 e)]),(9,.p false [.c (.int .i64 ((i:Nat):Int))])] [.row 9 1 (A0 Zx f) 2] st) [] [0] (by decide) ?_ ?_ ?_
 simp only[*,go_sem,seval]
 rintro y _ f ⟨sl,ob,n⟩ _ g t z h A
 simp only[go_sem,seval,Zc] at t
 obtain ⟨⟨B,_,_,_,_⟩,_,hn⟩:=t
 subst hn
 have C:=WF.slotL z B (j:=0) rfl
 have:=ZA g
 have:=ZC g
 have:=Zj (ZB g) C
 simp only[*,go_sem,seval]
 refine ZMH h fun _ D h=>Zd (ZhE D) ?_
 obtain ⟨_,h⟩:=Zq h
 obtain ⟨_,_,h⟩:=Za h
 simp only[*,go_sem,seval]
 refine ZMH h fun _ E h=>Zd (Yz E) ?_
 simp only[*,go_sem,seval]
 refine Ze h (fun _ h=>?_) fun _ h=>?_<;>try simp only[*,go_sem,seval]
 refine ZMH h fun u F h=>Zd (Zpg F) ?_
 simp only[*,go_sem,seval]
 refine ZMH h fun _ G h=>Zd (Yz G) ?_
 simp only[*,go_sem,seval]
 refine Ze h (fun _ h=>?_) fun _ h=>?_<;>try simp only[*,go_sem,seval]
 replace h:=Zn h A
 replace h:=Zn h q
 cases h
 simp only[*,go_sem,seval]
 refine Zi h (fun i k st=>IV [(0,.p false [.c (.sl 42 4 (A0 ZF a))]),(2,.p false [.c (.str b)]),(7,.p false [.row 0]),(8,.p false [.c (.int .i64 e)]),(9,.p false [.c (.int .i64 ((y:Nat):Int))]),(10,.p false [.row 1]),(11,.p false [.c (.int .i64 ((i:Nat):Int))])] [.row 9 1 (A0 Zx k) 2,.row 9 1 (A0 Zx u) 2] st) [] [0,305] (by decide) ?_ ?_ ?_
 simp only[*,go_sem,seval]
 rintro _ _ k ⟨sl,ob,n⟩ _ l v H h _
 simp only[go_sem,seval,Zc] at v
 obtain ⟨⟨_,_,_,_,_,_,_⟩,_,I,hn⟩:=v
 subst hn
 have J:=WF.rowL H I
 have:=ZA l
 have:=ZC l
 have:=Zj (ZB l) J
 simp only[*,go_sem,seval]
 refine ZMH h fun _ K h=>Zd (Yz K) ?_
 simp only[*,go_sem,seval]
 refine Ze h (fun _ h=>?_) fun _ h=>?_<;>try simp only[*,go_sem,seval]
 refine ⟨_,[],[0,1],(A3 h).symm,by decide,?_⟩
 simp only[*,go_sem,seval]
 obtain ⟨L,h⟩:=Zq h
 try simp only[Nat.reduceLeDiff] at L
 simp only[*,go_sem,seval]
 refine ⟨_,[],[274,1],(A3 h).symm,by decide,?_⟩
 simp only[*,go_sem,seval]
 rintro k ⟨sl,ob,n⟩ w _ h
 simp only[go_sem,seval,Zc] at w
 obtain ⟨⟨_,_,_,_,_,_,_⟩,_,_,hn⟩:=w
 subst hn
 have:=Zy (u.length)
 simp only[*,go_sem,seval]
 refine ⟨_,[],[0],(A3 h).symm,by decide,?_⟩
 simp only[*,go_sem,seval]
 refine ⟨_,[],[0],(A3 h).symm,by decide,?_⟩
 simp only[*,go_sem,seval]
 rintro f ⟨sl,ob,n⟩ x _ h
 simp only[go_sem,seval,Zc] at x
 obtain ⟨⟨_,_,_,_,_⟩,_,hn⟩:=x
 subst hn
 have:=Zy (a.length)
 simp only[*,go_sem,seval]
 refine ⟨_,[],[0],(A3 h).symm,by decide,?_⟩
 simp only[*,go_sem,seval]
 replace h:=Zn h q
 cases h
 simp only[*,go_sem,seval]
theorem ZhK {s_0:ByteArray} {r:Bool} (h:ZdN s_0=some r):Zk prog J0 338 [(false,[.str s_0])] [(false,[(false,.bool r)])]:=by
 refine fnk func338 rfl ?_
 unfold ZdN at h
 simp only[fnS,f338,Zm,go_sem,seval]
 refine ZMH h fun _ a h=>Zd (Zb1 a) ?_
 cases h
 simp only[*,go_sem,seval]
end
section
set_option linter.unusedSimpArgs false
set_option linter.unusedVariables false
set_option maxRecDepth 1000000
set_option maxHeartbeats 4000000
theorem Zcw {p_0:Zv} {r:(List ByteArray)} (h:Zba p_0=some r):Zk prog J0 226 [(true,QA p_0)] [(false,[(false,.sl 9 1 (A0 Zx r))])]:=by
 refine fnk func226 rfl ?_
 unfold Zba at h
 simp only[fnS,f226,Zm,go_sem,seval]
 refine Zi h (fun i a st=>IV [(1,.bp 0 0),(3,.p false [.row 1]),(4,.p false [.c (.int .i64 ((i:Nat):Int))])] [.box 48 [.c (.str p_0.rel),.c (.sl 9 1 (A0 Zx p_0.args))],.row 9 1 (A0 Zx a) 2] st) [] [0,32] (by decide) ?_ ?_ ?_
 simp only[*,go_sem,seval]
 rintro _ _ a ⟨sl,ob,n⟩ _ b d f h _
 simp only[go_sem,seval,Zc] at d
 obtain ⟨⟨_,_,_⟩,g,_,hn⟩:=d
 subst hn
 have k:=WF.boxL f g (j:=1) rfl
 have:=ZA b
 have:=ZC b
 have:=Zj (ZB b) k
 simp only[*,go_sem,seval]
 refine ZMH h fun _ l h=>Zd (Q3 l) ?_
 simp only[*,go_sem,seval]
 refine Ze h (fun _ h=>?_) fun _ h=>?_<;>try simp only[*,go_sem,seval]
 refine ZMH h fun _ m h=>Zd (Xg m) ?_
 simp only[*,go_sem,seval]
 refine ⟨_,[],[0,274],(A3 h).symm,by decide,?_⟩
 simp only[*,go_sem,seval]
 refine ⟨_,[],[0,1],(A3 h).symm,by decide,?_⟩
 simp only[*,go_sem,seval]
 rintro a ⟨sl,ob,n⟩ e _ h
 simp only[go_sem,seval,Zc] at e
 obtain ⟨⟨_,_,_⟩,_,_,hn⟩:=e
 subst hn
 have:=Zy (p_0.args.length)
 cases h
 simp only[*,go_sem,seval]
theorem QY {s_0:ByteArray} {r:Bool} (h:QS s_0=some r):Zk prog J0 140 [(false,[.str s_0])] [(false,[(false,.bool r)])]:=by
 refine fnk func140 rfl ?_
 unfold QS at h
 simp only[fnS,f140,Zm,go_sem,seval]
 refine ZMH h fun _ a h=>Zd (X0 a) ?_
 simp only[*,go_sem,seval]
 refine Ze h (fun _ h=>?_) fun _ h=>?_<;>try simp only[*,go_sem,seval]
 cases h
 simp only[*,go_sem,seval]
 refine ZMH h fun _ b h=>Zd (Q3 b) ?_
 cases h
 simp only[*,go_sem,seval]
theorem Qv {a_0:Zb} {b_1:Zb} {r:Int} (h:Yn a_0 b_1=some r):Zk prog J0 21 [(true,Zl a_0),(true,Zl b_1)] [(false,[(false,.int .i64 r)])]:=by
 refine fnk func21 rfl ?_
 unfold Yn at h
 simp only[fnS,f21,Zm,go_sem,seval]
 refine Ze h (fun _ h=>?_) fun _ h=>?_<;>try simp only[*,go_sem,seval]
 ·refine Zi h (fun i _ st=>IV [(2,.bp 0 0),(3,.bp 1 0),(5,.p false [.c (.int .i64 ((i:Nat):Int))])] [.box 45 [.c (.str a_0.rel),.c (.sl 9 1 (A0 Zx a_0.args))],.box 45 [.c (.str b_1.rel),.c (.sl 9 1 (A0 Zx b_1.args))]] st) [] [0,16] (by decide) ?_ ?_ ?_
  ·simp only[*,go_sem,seval]
  ·rintro i8 x9 ⟨⟩ ⟨sl,ob,n⟩ y2 hx3 hI4 hW5 h hy2
   simp only[go_sem,seval,Zc] at hI4
   obtain ⟨⟨g6_2,g6_3,g6_5⟩,og6_0,og6_1,hn⟩:=hI4
   subst hn
   have hlhx3:=WF.boxL hW5 og6_0 (j:=1) rfl
   have q7:=ZA hx3
   have q8:=ZC hx3
   have q9:=Zj (ZB hx3) hlhx3
   simp only[*,go_sem,seval]
   refine Ze h (fun _ h=>?_) fun _ h=>?_<;>try simp only[*,go_sem,seval]
   ·obtain ⟨x10,a11,a12,e13,h⟩:=ZbQ h
    simp only[A4] at e13
    simp only[*,go_sem,seval]
    refine ZMH h fun v11 e14 h=>Zd (Zej e14) ?_
    simp only[*,go_sem,seval]
    refine Ze h (fun _ h=>?_) fun _ h=>?_<;>try simp only[*,go_sem,seval]
    ·replace h:=Zn h hy2
     cases h
     simp only[*,go_sem,seval]
    ·refine ⟨_,[],[0,1],(A3 h).symm,by decide,?_⟩
     simp only[*,go_sem,seval]
   ·refine Ze h (fun _ h=>?_) fun _ h=>?_<;>try simp only[*,go_sem,seval]
    ·replace h:=Zn h hy2
     cases h
     simp only[*,go_sem,seval]
    ·refine Ze h (fun _ h=>?_) fun _ h=>?_<;>try simp only[*,go_sem,seval]
     ·replace h:=Zn h hy2
      cases h
      simp only[*,go_sem,seval]
     ·replace h:=Zn h hy2
      cases h
      simp only[*,go_sem,seval]
  ·rintro ⟨⟩ ⟨sl,ob,n⟩ hI18 hW19 h
   simp only[go_sem,seval,Zc] at hI18
   obtain ⟨⟨g20_2,g20_3,g20_5⟩,og20_0,og20_1,hn⟩:=hI18
   subst hn
   have q21:=Zy (a_0.args.length)
   simp only[*,go_sem,seval]
   refine Ze h (fun _ h=>?_) fun _ h=>?_<;>try simp only[*,go_sem,seval]
   ·cases h
    simp only[*,go_sem,seval]
   ·refine Ze h (fun _ h=>?_) fun _ h=>?_<;>try simp only[*,go_sem,seval]
    ·cases h
     simp only[*,go_sem,seval]
    ·cases h
     simp only[*,go_sem,seval]
 ·refine ZMH h fun v12 e24 h=>Zd (Zle e24) ?_
  cases h
  simp only[*,go_sem,seval]
theorem Zd7 {a_0:Zb} {b_1:Zb} {r:Int} (h:XV a_0 b_1=some r):Zk prog J0 135 [(true,Zl a_0),(true,Zl b_1)] [(false,[(false,.int .i64 r)])]:=by
 refine fnk func135 rfl ?_
 unfold XV at h
 simp only[fnS,f135,Zm,go_sem,seval]
 refine ZMH h fun _ f h=>Zd (Zjc f) ?_
 simp only[*,go_sem,seval]
 refine Ze h (fun _ h=>?_) fun _ h=>?_<;>try simp only[*,go_sem,seval]
 cases h
 simp only[*,go_sem,seval]
 refine Zi h (fun i _ st=>IV [(2,.bp 0 0),(3,.bp 1 0),(6,.p false [.c (.int .i64 ((i:Nat):Int))])] [.box 45 [.c (.str a_0.rel),.c (.sl 9 1 (A0 Zx a_0.args))],.box 45 [.c (.str b_1.rel),.c (.sl 9 1 (A0 Zx b_1.args))]] st) [] [0,16] (by decide) ?_ ?_ ?_
 simp only[*,go_sem,seval]
 rintro _ _ ⟨⟩ ⟨sl,ob,n⟩ _ a b g h d
 simp only[go_sem,seval,Zc] at b
 obtain ⟨⟨_,_,_⟩,k,_,hn⟩:=b
 subst hn
 have l:=WF.boxL g k (j:=1) rfl
 have:=ZA a
 have:=ZC a
 have:=Zj (ZB a) l
 simp only[*,go_sem,seval]
 refine Ze h (fun _ h=>?_) fun _ h=>?_<;>try simp only[*,go_sem,seval]
 obtain ⟨_,_,_,m,h⟩:=ZbQ h
 simp only[A4] at m
 simp only[*,go_sem,seval]
 refine ZMH h fun _ o h=>Zd (Ziz o) ?_
 simp only[*,go_sem,seval]
 refine Ze h (fun _ h=>?_) fun _ h=>?_<;>try simp only[*,go_sem,seval]
 replace h:=Zn h d
 cases h
 simp only[*,go_sem,seval]
 refine ⟨_,[],[0,1],(A3 h).symm,by decide,?_⟩
 simp only[*,go_sem,seval]
 refine ZMH h fun _ q h=>Zd (ZbW q) ?_
 replace h:=Zn h d
 cases h
 simp only[*,go_sem,seval]
 rintro ⟨⟩ ⟨sl,ob,n⟩ e _ h
 simp only[go_sem,seval,Zc] at e
 obtain ⟨⟨_,_,_⟩,_,_,hn⟩:=e
 subst hn
 have:=Zy (a_0.args.length)
 simp only[*,go_sem,seval]
 refine ZMH h fun _ t h=>Zd (ZbW t) ?_
 cases h
 simp only[*,go_sem,seval]
theorem XQ {p_0:Zv} {r:Bool} (h:Y9 p_0=some r):Zk prog J0 136 [(true,QA p_0)] [(false,[(false,.bool r)])]:=by
 refine fnk func136 rfl ?_
 unfold Y9 at h
 simp only[fnS,f136,Zm,go_sem,seval]
 refine ZMH h fun _ e h=>Zd (Zgl e) ?_
 simp only[*,go_sem,seval]
 iterate 2 refine Ze h (fun _ h=>?_) fun _ h=>?_<;>try simp only[*,go_sem,seval]
 cases h
 simp only[*,go_sem,seval]
 refine Zi h (fun i _ st=>IV [(16,.p false [.c (.sl 9 1 (A0 Zx p_0.args))]),(17,.p false [.c (.int .i64 ((p_0.args.length:Nat):Int))]),(18,.p false [.c (.int .i64 ((i:Nat):Int))])] [] st) [] [] (by decide) ?_ ?_ ?_
 simp only[*,go_sem,seval]
 rintro _ _ ⟨⟩ ⟨sl,ob,n⟩ _ a b f h g
 simp only[go_sem,seval,Zc] at b
 obtain ⟨⟨k,_,_⟩,hn⟩:=b
 subst hn
 have l:=WF.slotL f k (j:=0) rfl
 have:=ZA a
 have:=ZC a
 have:=Zj (ZB a) l
 simp only[*,go_sem,seval]
 refine ZMH h fun _ m h=>Zd (QH m) ?_
 simp only[*,go_sem,seval]
 refine Ze h (fun _ h=>?_) fun _ h=>?_<;>try simp only[*,go_sem,seval]
 refine ⟨_,[],[],(A3 h).symm,by decide,?_⟩
 simp only[*,go_sem,seval]
 replace h:=Zn h g
 cases h
 simp only[*,go_sem,seval]
 rintro ⟨⟩ ⟨sl,ob,n⟩ d _ h
 simp only[go_sem,seval,Zc] at d
 obtain ⟨⟨_,_,_⟩,hn⟩:=d
 subst hn
 have:=Zy (p_0.args.length)
 iterate 2 (cases h;simp only[*,go_sem,seval])
theorem ZdH {r_0:Zg} {n_1:Int} {r:(List ByteArray)} (h:QN r_0 n_1=some r):Zk prog J0 198 [(true,ZF r_0),(false,[.int .i64 n_1])] [(false,[(false,.sl 9 1 (A0 Zx r))])]:=by
 refine fnk func198 rfl ?_
 unfold QN at h
 simp only[fnS,f198,Zm,go_sem,seval]
 refine Zi h (fun i a st=>IV [(1,.p false [.c (.int .i64 n_1)]),(5,.p false [.row 0]),(9,.p false [.c (.sl 173 5 (A0 ZK r_0.cond))]),(10,.p false [.c (.int .i64 ((r_0.cond.length:Nat):Int))]),(11,.p false [.c (.int .i64 ((i:Nat):Int))])] [.row 9 1 (A0 Zx a) 2] st) [(false,5,0)] [112] (by decide) ?_ ?_ ?_
 simp only[*,go_sem,seval]
 rintro _ _ a ⟨sl,ob,n⟩ _ b d f h _
 simp only[go_sem,seval,Zc] at d
 obtain ⟨⟨_,_,g,_,_⟩,_,hn⟩:=d
 subst hn
 have k:=WF.slotL f g (j:=0) rfl
 have:=ZA b
 have:=ZC b
 have:=Zj (ZB b) k
 simp only[*,go_sem,seval]
 iterate 2 refine Ze h (fun _ h=>?_) fun _ h=>?_<;>try simp only[*,go_sem,seval]
 refine ZMH h fun _ l h=>Zd (ZdX l) ?_
 obtain ⟨_,h⟩:=Zq h
 simp only[*,go_sem,seval]
 refine ⟨_,[],[321],(A3 h).symm,by decide,?_⟩
 simp only[*,go_sem,seval]
 refine ⟨_,[],[0],(A3 h).symm,by decide,?_⟩
 simp only[*,go_sem,seval]
 refine ⟨_,[],[0],(A3 h).symm,by decide,?_⟩
 simp only[*,go_sem,seval]
 rintro a ⟨sl,ob,n⟩ e _ h
 simp only[go_sem,seval,Zc] at e
 obtain ⟨⟨_,_,_,_,_⟩,_,hn⟩:=e
 subst hn
 have:=Zy (r_0.cond.length)
 simp only[*,go_sem,seval]
 refine ZMH h fun _ m h=>Zd (XX m) ?_
 cases h
 simp only[*,go_sem,seval]
theorem Zb9 {x_0:Zt} {r:(List ByteArray)} (h:Qa x_0=some r):Zk prog J0 212 [(true,ZK x_0)] [(false,[(false,.sl 9 1 (A0 Zx r))])]:=by
 refine fnk func212 rfl ?_
 unfold Qa at h
 simp only[fnS,f212,Zm,go_sem,seval]
 refine ZMH h fun _ a h=>Zd (ZpH a) ?_
 simp only[*,go_sem,seval]
 refine ZMH h fun _ b h=>Zd (ZdX b) ?_
 simp only[*,go_sem,seval]
 refine ZMH h fun _ c h=>Zd (XX c) ?_
 cases h
 simp only[*,go_sem,seval]
theorem Zq8 {a:(List Zs)} {b:ByteArray} {d:ByteArray} {r:((List Zs) × Bool)} (h:ZgK a b d=some r):Zk prog J0 216 [(false,[.sl 166 2 (A0 Z4 a)]),(false,[.str b]),(false,[.str d])] [(false,[(false,.sl 166 2 (A0 Z4 r.1))]),(false,[(false,.bool r.2)])]:=by
 refine fnk func216 rfl ?_
 unfold ZgK at h
 simp only[fnS,f216,Zm,go_sem,seval]
 refine ZMH h fun _ o h=>Zd (QO o) ?_
 simp only[*,go_sem,seval]
 refine Ze h (fun _ h=>?_) fun _ h=>?_<;>try simp only[*,go_sem,seval]
 refine ZMH h fun _ q h=>Zd (Zdc q) ?_
 simp only[*,go_sem,seval]
 refine Ze h (fun _ h=>?_) fun _ h=>?_<;>try simp only[*,go_sem,seval]
 refine ZMH h fun _ t h=>Zd (X4 t) ?_
 simp only[*,go_sem,seval]
 refine Ze h (fun _ h=>?_) fun _ h=>?_<;>try simp only[*,go_sem,seval]
 refine ZMH h fun _ u h=>Zd (ZcR u) ?_
 simp only[*,go_sem,seval]
 iterate 2 refine Ze h (fun _ h=>?_) fun _ h=>?_<;>try simp only[*,go_sem,seval]
 refine ZMH h fun _ v h=>Zd (Zgp v) ?_
 iterate 2 (cases h;simp only[*,go_sem,seval])
 refine Ze h (fun _ h=>?_) fun _ h=>?_<;>try simp only[*,go_sem,seval]
 cases h
 simp only[*,go_sem,seval]
 refine Zi h (fun i s st=>match s with | (e,f)=>IV [(1,.p false [.c (.str b)]),(2,.p false [.c (.str d)]),(10,.p false [.row 0]),(11,.p false [.c (.bool f)]),(42,.p false [.c (.sl 166 2 (A0 Z4 a))]),(43,.p false [.c (.int .i64 ((a.length:Nat):Int))]),(44,.p false [.c (.int .i64 ((i:Nat):Int))])] [.row 166 2 (A0 Z4 e) 2] st) [(false,10,0)] [512] (by decide) ?_ ?_ ?_
 simp only[*,go_sem,seval]
 rintro _ _ ⟨e,f⟩ ⟨sl,ob,n⟩ _ g l x h _
 simp only[go_sem,seval,Zc] at l
 obtain ⟨⟨_,_,_,_,y,_,_⟩,_,hn⟩:=l
 subst hn
 have z:=WF.slotL x y (j:=0) rfl
 have:=ZA g
 have:=ZC g
 have:=Zj (ZB g) z
 simp only[*,go_sem,seval]
 refine Ze h (fun _ h=>?_) fun _ h=>?_<;>try simp only[*,go_sem,seval]
 obtain ⟨A,h⟩:=Zq h
 try simp only[Nat.reduceLeDiff] at A
 simp only[*,go_sem,seval]
 refine ⟨_,[],[257],(A3 h).symm,by decide,?_⟩
 simp only[*,go_sem,seval]
 refine Ze h (fun k h=>?_) (fun k h=>?_)
 have B:=k
 obtain ⟨C,h⟩:=Zq h
 try simp only[Nat.reduceLeDiff] at C
 simp only[*,go_sem,seval]
 refine ⟨_,[],[257],(A3 h).symm,by decide,?_⟩
 simp only[*,go_sem,seval]
 have B:=k
 obtain ⟨D,h⟩:=Zq h
 try simp only[Nat.reduceLeDiff] at D
 obtain ⟨E,h⟩:=Zq h
 try simp only[Nat.reduceLeDiff] at E
 simp only[*,go_sem,seval]
 refine ⟨_,[],[385],(A3 h).symm,by decide,?_⟩
 simp only[*,go_sem,seval]
 rintro ⟨e,f⟩ ⟨sl,ob,n⟩ m _ h
 simp only[go_sem,seval,Zc] at m
 obtain ⟨⟨_,_,_,_,_,_,_⟩,_,hn⟩:=m
 subst hn
 have:=Zy (a.length)
 simp only[*,go_sem,seval]
 refine Ze h (fun _ h=>?_) fun _ h=>?_<;>try simp only[*,go_sem,seval]
 cases h
 simp only[*,go_sem,seval]
 obtain ⟨F,h⟩:=Zq h
 try simp only[Nat.reduceLeDiff] at F
 iterate 4 (cases h;simp only[*,go_sem,seval])
theorem ZiX {facts_0:(List Zb)} {l_1:(List Zb)} {r:(List Int)} (h:Zc0 facts_0 l_1=some r):Zk prog J0 95 [(false,[.sl 45 2 (A0 Zl facts_0)]),(false,[.sl 45 2 (A0 Zl l_1)])] [(false,[(false,.sl 3 1 (A0 ZI r))])]:=by
 refine fnk func95 rfl ?_
 unfold Zc0 at h
 simp only[fnS,f95,Zm,go_sem,seval]
 refine Zi h (fun i a st=>IV [(0,.p false [.c (.sl 45 2 (A0 Zl facts_0))]),(5,.p false [.row 0]),(9,.p false [.c (.sl 45 2 (A0 Zl l_1))]),(10,.p false [.c (.int .i64 ((l_1.length:Nat):Int))]),(11,.p false [.c (.int .i64 ((i:Nat):Int))])] [.row 3 1 (A0 ZI a) 2] st) [(false,5,0)] [80] (by decide) ?_ ?_ ?_
 simp only[*,go_sem,seval]
 rintro _ _ a ⟨sl,ob,n⟩ _ b d f h _
 simp only[go_sem,seval,Zc] at d
 obtain ⟨⟨_,_,g,_,_⟩,_,hn⟩:=d
 subst hn
 have k:=WF.slotL f g (j:=0) rfl
 have:=ZA b
 have:=ZC b
 have:=Zj (ZB b) k
 simp only[*,go_sem,seval]
 refine ZMH h fun _ l h=>Zd (Qq l) ?_
 simp only[*,go_sem,seval]
 refine Ze h (fun _ h=>?_) fun _ h=>?_<;>try simp only[*,go_sem,seval]
 refine ZMH h fun _ m h=>Zd (ZqS m) ?_
 simp only[*,go_sem,seval]
 refine Ze h (fun _ h=>?_) fun _ h=>?_<;>try simp only[*,go_sem,seval]
 refine ⟨_,[],[0],(A3 h).symm,by decide,?_⟩
 simp only[*,go_sem,seval]
 obtain ⟨o,h⟩:=Zq h
 try simp only[Nat.reduceLeDiff] at o
 simp only[*,go_sem,seval]
 refine ⟨_,[],[321],(A3 h).symm,by decide,?_⟩
 simp only[*,go_sem,seval]
 refine ⟨_,[],[0],(A3 h).symm,by decide,?_⟩
 simp only[*,go_sem,seval]
 rintro a ⟨sl,ob,n⟩ e _ h
 simp only[go_sem,seval,Zc] at e
 obtain ⟨⟨_,_,_,_,_⟩,_,hn⟩:=e
 subst hn
 have:=Zy (l_1.length)
 simp only[*,go_sem,seval]
 obtain ⟨_,q,h⟩:=Za h
 refine QL (ZmZ q) ?_
 cases h
 simp only[*,go_sem,seval]
theorem ZmQ {facts_0:(List Zb)} {b_1:Zr} {r:(List Zb)} (h:Zdo facts_0 b_1=some r):Zk prog J0 62 [(false,[.sl 45 2 (A0 Zl facts_0)]),(true,XY b_1)] [(false,[(false,.sl 45 2 (A0 Zl r))])]:=by
 refine fnk func62 rfl ?_
 unfold Zdo at h
 simp only[fnS,f62,Zm,go_sem,seval]
 refine ZMH h fun a g h=>Zd (Zq9 g) ?_
 simp only[*,go_sem,seval]
 refine Zi h (fun i b st=>IV [(0,.p false [.c (.sl 45 2 (A0 Zl facts_0))]),(5,.p false [.row 0]),(9,.p false [.row 1]),(10,.p false [.c (.int .i64 ((a.length:Nat):Int))]),(11,.p false [.c (.int .i64 ((i:Nat):Int))])] [.row 45 2 (A0 Zl b) 2,.row 4 1 (A0 ZfM a) 2] st) [(false,5,0)] [112,64] (by decide) ?_ ?_ ?_
 simp only[*,go_sem,seval]
 rintro _ _ b ⟨sl,ob,n⟩ _ d e j h _
 simp only[go_sem,seval,Zc] at e
 obtain ⟨⟨_,_,_,_,_⟩,_,k,hn⟩:=e
 subst hn
 have l:=WF.rowL j k
 have:=ZA d
 have:=ZC d
 have:=Zj (ZB d) l
 simp only[*,go_sem,seval]
 refine Ze h (fun _ h=>?_) fun _ h=>?_<;>try simp only[*,go_sem,seval]
 obtain ⟨_,_,_,m,h⟩:=ZbQ h
 simp only[A4] at m
 simp only[*,go_sem,seval]
 refine ZMH h fun _ o h=>Zd (YO o) ?_
 obtain ⟨q,h⟩:=Zq h
 try simp only[Nat.reduceLeDiff] at q
 simp only[*,go_sem,seval]
 refine ⟨_,[],[226,1],(A3 h).symm,by decide,?_⟩
 simp only[*,go_sem,seval]
 refine ⟨_,[],[0,1],(A3 h).symm,by decide,?_⟩
 simp only[*,go_sem,seval]
 rintro b ⟨sl,ob,n⟩ f _ h
 simp only[go_sem,seval,Zc] at f
 obtain ⟨⟨_,_,_,_,_⟩,_,_,hn⟩:=f
 subst hn
 have:=Zy (a.length)
 cases h
 simp only[*,go_sem,seval]
theorem QX {b_0:(List Zs)} {r:Bool} (h:XE b_0=some r):Zk prog J0 72 [(false,[.sl 166 2 (A0 Z4 b_0)])] [(false,[(false,.bool r)])]:=by
 refine fnk func72 rfl ?_
 unfold XE at h
 simp only[fnS,f72,Zm,go_sem,seval]
 refine Zi h (fun i _ st=>IV [(0,.p false [.c (.sl 166 2 (A0 Z4 b_0))]),(3,.p false [.c (.int .i64 ((i:Nat):Int))])] [] st) [] [] (by decide) ?_ ?_ ?_
 simp only[*,go_sem,seval]
 rintro _ _ ⟨⟩ ⟨sl,ob,n⟩ _ a b f h d
 simp only[go_sem,seval,Zc] at b
 obtain ⟨⟨g,_⟩,hn⟩:=b
 subst hn
 have k:=WF.slotL f g (j:=0) rfl
 have:=ZA a
 have:=ZC a
 have:=Zj (ZB a) k
 simp only[*,go_sem,seval]
 refine ZMH h fun _ l h=>Zd (Q3 l) ?_
 simp only[*,go_sem,seval]
 refine Ze h (fun _ h=>?_) fun _ h=>?_<;>try simp only[*,go_sem,seval]
 refine ZMH h fun _ m h=>Zd (X0 m) ?_
 simp only[*,go_sem,seval]
 iterate 2 refine Ze h (fun _ h=>?_) fun _ h=>?_<;>try simp only[*,go_sem,seval]
 obtain ⟨_,_,_,_,h⟩:=ZbQ h
 simp only[*,go_sem,seval]
 refine Ze h (fun _ h=>?_) fun _ h=>?_<;>try simp only[*,go_sem,seval]
 refine ⟨_,[],[],(A3 h).symm,by decide,?_⟩
 simp only[*,go_sem,seval]
 replace h:=Zn h d
 cases h
 simp only[*,go_sem,seval]
 refine ⟨_,[],[],(A3 h).symm,by decide,?_⟩
 iterate 2 (simp only[*,go_sem,seval];replace h:=Zn h d;cases h)
 simp only[*,go_sem,seval]
 rintro ⟨⟩ ⟨sl,ob,n⟩ e _ h
 simp only[go_sem,seval,Zc] at e
 obtain ⟨⟨_,_⟩,hn⟩:=e
 subst hn
 have:=Zy (b_0.length)
 cases h
 simp only[*,go_sem,seval]
theorem ZcO {b_0:(List Zs)} {term_1:ByteArray} {r:(ByteArray × Bool)} (h:ZaQ b_0 term_1=some r):Zk prog J0 73 [(false,[.sl 166 2 (A0 Z4 b_0)]),(false,[.str term_1])] [(false,[(false,.str r.1)]),(false,[(false,.bool r.2)])]:=by
 refine fnk func73 rfl ?_
 unfold ZaQ at h
 have e:Z9 ⟨#[]⟩=true:=by decide
 simp only[fnS,f73,Zm,go_sem,seval,e]
 refine ZMH h fun _ f h=>Zd (X0 f) ?_
 simp only[*,go_sem,seval]
 refine Ze h (fun _ h=>?_) fun _ h=>?_<;>try simp only[*,go_sem,seval]
 cases h
 simp only[*,go_sem,seval]
 refine Zi h (fun i _ st=>IV [(0,.p false [.c (.sl 166 2 (A0 Z4 b_0))]),(1,.p false [.c (.str term_1)]),(6,.p false [.c (.int .i64 ((i:Nat):Int))])] [] st) [] [] (by decide) ?_ ?_ ?_
 simp only[*,go_sem,seval]
 rintro _ _ ⟨⟩ ⟨sl,ob,n⟩ _ a b g h k
 simp only[go_sem,seval,Zc] at b
 obtain ⟨⟨l,_,_⟩,hn⟩:=b
 subst hn
 have m:=WF.slotL g l (j:=0) rfl
 have:=ZA a
 have:=ZC a
 have:=Zj (ZB a) m
 simp only[*,go_sem,seval]
 refine Ze h (fun _ h=>?_) fun _ h=>?_<;>try simp only[*,go_sem,seval]
 refine ZMH h fun _ o h=>Zd (Q3 o) ?_
 simp only[*,go_sem,seval]
 refine Ze h (fun _ h=>?_) fun _ h=>?_<;>try simp only[*,go_sem,seval]
 replace h:=Zn h k
 cases h
 simp only[*,go_sem,seval]
 refine ⟨_,[],[],(A3 h).symm,by decide,?_⟩
 simp only[*,go_sem,seval]
 refine ⟨_,[],[],(A3 h).symm,by decide,?_⟩
 simp only[*,go_sem,seval]
 rintro ⟨⟩ ⟨sl,ob,n⟩ d _ h
 simp only[go_sem,seval,Zc] at d
 obtain ⟨⟨_,_,_⟩,hn⟩:=d
 subst hn
 have:=Zy (b_0.length)
 cases h
 simp only[*,go_sem,seval]
theorem Zj9 {f_0:Zb} {r:Bool} (h:Ze7 f_0=some r):Zk prog J0 155 [(true,Zl f_0)] [(false,[(false,.bool r)])]:=by
 refine fnk func155 rfl ?_
 unfold Ze7 at h
 simp only[fnS,f155,Zm,go_sem,seval]
 refine Zi h (fun i _ st=>IV [(1,.bp 0 0),(3,.p false [.c (.int .i64 ((i:Nat):Int))])] [.box 45 [.c (.str f_0.rel),.c (.sl 9 1 (A0 Zx f_0.args))]] st) [] [0] (by decide) ?_ ?_ ?_
 simp only[*,go_sem,seval]
 rintro _ _ ⟨⟩ ⟨sl,ob,n⟩ _ a b e h f
 simp only[go_sem,seval,Zc] at b
 obtain ⟨⟨_,_⟩,g,hn⟩:=b
 subst hn
 have k:=WF.boxL e g (j:=1) rfl
 have:=ZA a
 have:=ZC a
 have:=Zj (ZB a) k
 simp only[*,go_sem,seval]
 refine ZMH h fun _ l h=>Zd (X0 l) ?_
 simp only[*,go_sem,seval]
 refine Ze h (fun _ h=>?_) fun _ h=>?_<;>try simp only[*,go_sem,seval]
 refine ⟨_,[],[0],(A3 h).symm,by decide,?_⟩
 simp only[*,go_sem,seval]
 replace h:=Zn h f
 cases h
 simp only[*,go_sem,seval]
 rintro ⟨⟩ ⟨sl,ob,n⟩ d _ h
 simp only[go_sem,seval,Zc] at d
 obtain ⟨⟨_,_⟩,_,hn⟩:=d
 subst hn
 have:=Zy (f_0.args.length)
 simp only[*,go_sem,seval]
 refine ZMH h fun _ m h=>Zd (ZgV m) ?_
 simp only[*,go_sem,seval]
 refine Ze h (fun _ h=>?_) fun _ h=>?_<;>try simp only[*,go_sem,seval]
 iterate 2 (cases h;simp only[*,go_sem,seval])
theorem ZrC {t_0:Zu} {r:Zu} (h:Zf4 t_0=some r):Zk prog J0 279 [(true,YK t_0)] [(true,[(false,.sl 45 2 (A0 Zl r.facts)),(false,.sl 166 2 (A0 Z4 r.binding))])]:=by
 refine fnk func279 rfl ?_
 unfold Zf4 at h
 simp only[fnS,f279,Zm,go_sem,seval]
 refine ZMH h fun _ a h=>Zd (Zeq a) ?_
 simp only[*,go_sem,seval]
 refine ZMH h fun _ b h=>Zd (ZgL b) ?_
 cases h
 simp only[*,go_sem,seval]
theorem ZhF {l_0:(List Zb)} {facts_1:(List Zb)} {r:(List Int)} (h:ZbP l_0 facts_1=some r):Zk prog J0 92 [(false,[.sl 45 2 (A0 Zl l_0)]),(false,[.sl 45 2 (A0 Zl facts_1)])] [(false,[(false,.sl 3 1 (A0 ZI r))])]:=by
 refine fnk func92 rfl ?_
 unfold ZbP at h
 simp only[fnS,f92,Zm,go_sem,seval]
 refine Zi h (fun i a st=>IV [(0,.p false [.c (.sl 45 2 (A0 Zl l_0))]),(1,.p false [.c (.sl 45 2 (A0 Zl facts_1))]),(5,.p false [.row 0]),(6,.p false [.c (.int .i64 ((i:Nat):Int))])] [.row 3 1 (A0 ZI a) 2] st) [] [16] (by decide) ?_ ?_ ?_
 simp only[*,go_sem,seval]
 rintro _ _ a ⟨sl,ob,n⟩ _ b d f h _
 simp only[go_sem,seval,Zc] at d
 obtain ⟨⟨_,g,_,_⟩,_,hn⟩:=d
 subst hn
 have k:=WF.slotL f g (j:=0) rfl
 have:=ZA b
 have:=ZC b
 have:=Zj (ZB b) k
 simp only[*,go_sem,seval]
 refine ZMH h fun _ l h=>Zd (Zb0 l) ?_
 simp only[*,go_sem,seval]
 refine Ze h (fun _ h=>?_) fun _ h=>?_<;>try simp only[*,go_sem,seval]
 refine ZMH h fun _ m h=>Zd (ZpR m) ?_
 simp only[*,go_sem,seval]
 refine ⟨_,[],[241],(A3 h).symm,by decide,?_⟩
 simp only[*,go_sem,seval]
 refine ⟨_,[],[0],(A3 h).symm,by decide,?_⟩
 simp only[*,go_sem,seval]
 rintro a ⟨sl,ob,n⟩ e _ h
 simp only[go_sem,seval,Zc] at e
 obtain ⟨⟨_,_,_,_⟩,_,hn⟩:=e
 subst hn
 have:=Zy (facts_1.length)
 cases h
 simp only[*,go_sem,seval]
theorem Zid {l_0:(List Zb)} {f_1:Zb} {r:Bool} (h:ZfI l_0 f_1=some r):Zk prog J0 22 [(false,[.sl 45 2 (A0 Zl l_0)]),(true,Zl f_1)] [(false,[(false,.bool r)])]:=by
 refine fnk func22 rfl ?_
 unfold ZfI at h
 simp only[fnS,f22,Zm,go_sem,seval]
 refine ZMH h fun _ a h=>Zd (Zb0 a) ?_
 cases h
 simp only[*,go_sem,seval]
end
section
set_option linter.unusedSimpArgs false
set_option linter.unusedVariables false
set_option maxRecDepth 1000000
set_option maxHeartbeats 4000000
theorem ZID {c_0:ZJ} {r:(ByteArray × ZJ)} (h:ZGv c_0=some r):Zbx prog J0 JF0 240 (.box 152 (Zbj c_0)) [] [(false,[(false,.str r.1)])] (.box 152 (Zbj r.2)):=by
 refine fnh func240 rfl ?_
 unfold ZGv at h
 have a:Z9 ⟨#[49]⟩=true:=by decide
 have b:Z9 ⟨#[50]⟩=true:=by decide
 have c:Z9 ⟨#[97]⟩=true:=by decide
 have d:Z9 ⟨#[98]⟩=true:=by decide
 have e:Z9 ⟨#[99]⟩=true:=by decide
 have f:Z9 ⟨#[]⟩=true:=by decide
 simp only[fnH,f240,Zdh,Zdg,Xp,go_sem,seval,a,b,c,d,e,f]
 obtain ⟨_,g,h⟩:=Za h
 refine QL (Zk5 g) ?_
 cases h
 simp only[*,go_sem,seval]
theorem ZHb {c_0:ZJ} {r:(ByteArray × ZJ)} (h:ZGo c_0=some r):Zbx prog J0 JF0 175 (.box 152 (Zbj c_0)) [] [(false,[(false,.str r.1)])] (.box 152 (Zbj r.2)):=by
 refine fnh func175 rfl ?_
 unfold ZGo at h
 have a:Z9 ⟨#[111,110]⟩=true:=by decide
 have b:Z9 ⟨#[120,49]⟩=true:=by decide
 have c:Z9 ⟨#[45,51]⟩=true:=by decide
 have d:Z9 ⟨#[48,48,55]⟩=true:=by decide
 have e:Z9 ⟨#[48]⟩=true:=by decide
 have f:Z9 ⟨#[49,120]⟩=true:=by decide
 have g:Z9 ⟨#[49,48,48,48,48]⟩=true:=by decide
 have i:Z9 ⟨#[49,48]⟩=true:=by decide
 have j:Z9 ⟨#[55]⟩=true:=by decide
 have k:Z9 ⟨#[57,57,57,57]⟩=true:=by decide
 have l:Z9 ⟨#[63,120]⟩=true:=by decide
 have m:Z9 ⟨#[63,63]⟩=true:=by decide
 have o:Z9 ⟨#[63,97,98,99,100,101,102,103,104]⟩=true:=by decide
 have p:Z9 ⟨#[63]⟩=true:=by decide
 have q:Z9 ⟨#[65]⟩=true:=by decide
 have t:Z9 ⟨#[97,45,98]⟩=true:=by decide
 have u:Z9 ⟨#[97,98,99,100,101,102,103,104,105]⟩=true:=by decide
 have v:Z9 ⟨#[97,98,99,100,101,102,103,104]⟩=true:=by decide
 have w:Z9 ⟨#[97]⟩=true:=by decide
 have x:Z9 ⟨#[98]⟩=true:=by decide
 have y:Z9 ⟨#[]⟩=true:=by decide
 simp only[fnH,f175,Zdh,Zdg,Xp,go_sem,seval,a,b,c,d,e,f,g,i,j,k,l,m,o,p,q,t,u,v,w,x,y]
 obtain ⟨_,z,h⟩:=Za h
 refine QL (Zk5 z) ?_
 cases h
 simp only[*,go_sem,seval]
theorem ZIH {f_0:QZ} {set_1:Int} {r:(List Bool)} (h:ZGQ f_0 set_1=some r):Zk prog J0 180 [(true,ZAT f_0),(false,[.int .i64 set_1])] [(false,[(false,.sl 4 1 (A0 ZfM r))])]:=by
 refine fnk func180 rfl ?_
 unfold ZGQ at h
 simp only[fnS,f180,Zm,go_sem,seval]
 refine ZMH h fun g j h=>Zd (ZG7 j) ?_
 simp only[*,go_sem,seval]
 refine ZMH h fun a k h=>Zd (ZHc k) ?_
 simp only[*,go_sem,seval]
 refine Zi h (fun i b st=>IV [(5,.bp 0 0),(14,.p false [.row 2]),(15,.p false [.c (.int .i64 ((a.length:Nat):Int))]),(16,.p false [.c (.int .i64 ((i:Nat):Int))])] [.box 64 [.c (.int .i64 g.nodes),.row 1],.row 199 3 (A0 ZE b) 2,.row 3 1 (A0 ZI a) 2] st) [] [80,64,160] (by decide) ?_ ?_ ?_
 simp only[*,go_sem,seval]
 rintro _ _ b ⟨sl,ob,n⟩ _ d e l h _
 simp only[go_sem,seval,Zc] at e
 obtain ⟨⟨_,_,_,_⟩,_,_,m,hn⟩:=e
 subst hn
 have o:=WF.rowL l m
 have:=ZA d
 have:=ZC d
 have:=Zj (ZB d) o
 obtain ⟨q,h⟩:=Zq h
 try simp only[Nat.reduceLeDiff] at q
 simp only[*,go_sem,seval]
 refine ⟨_,[],[0,147,2],(A3 h).symm,by decide,?_⟩
 simp only[*,go_sem,seval]
 rintro b ⟨sl,ob,n⟩ f _ h
 simp only[go_sem,seval,Zc] at f
 obtain ⟨⟨_,_,_,_⟩,_,_,_,hn⟩:=f
 subst hn
 have:=Zy (a.length)
 simp only[*,go_sem,seval]
 refine ZMH h fun _ t h=>Zd (Zq9 t) ?_
 cases h
 simp only[*,go_sem,seval]
theorem ZIe {f_0:QZ} {r:Bool} (h:ZGp f_0=some r):Zk prog J0 245 [(true,ZAT f_0)] [(false,[(false,.bool r)])]:=by
 refine fnk func245 rfl ?_
 unfold ZGp at h
 simp only[fnS,f245,Zm,go_sem,seval]
 refine Zi h (fun i _ st=>IV [(1,.bp 0 0),(3,.p false [.c (.int .i64 ((i:Nat):Int))])] [.box 67 [.c (.int .i64 f_0.beliefs.nodes),.c (.sl 199 3 (A0 ZE f_0.beliefs.reasons)),.c (.sl 3 1 (A0 ZI f_0.assumed)),.c (.sl 3 1 (A0 ZI f_0.bad))]] st) [] [0] (by decide) ?_ ?_ ?_
 simp only[*,go_sem,seval]
 rintro _ _ ⟨⟩ ⟨sl,ob,n⟩ _ a b e h f
 simp only[go_sem,seval,Zc] at b
 obtain ⟨⟨_,_⟩,g,hn⟩:=b
 subst hn
 have k:=WF.boxL e g (j:=1) rfl
 have:=ZA a
 have:=ZC a
 have:=Zj (ZB a) k
 simp only[*,go_sem,seval]
 refine Ze h (fun _ h=>?_) fun _ h=>?_<;>try simp only[*,go_sem,seval]
 replace h:=Zn h f
 cases h
 simp only[*,go_sem,seval]
 refine ⟨_,[],[0],(A3 h).symm,by decide,?_⟩
 simp only[*,go_sem,seval]
 rintro ⟨⟩ ⟨sl,ob,n⟩ d _ h
 simp only[go_sem,seval,Zc] at d
 obtain ⟨⟨_,_⟩,_,hn⟩:=d
 subst hn
 have:=Zy (f_0.beliefs.reasons.length)
 simp only[*,go_sem,seval]
 refine ZMH h fun _ l h=>Zd (Zlu l) ?_
 simp only[*,go_sem,seval]
 refine Ze h (fun _ h=>?_) fun _ h=>?_<;>try simp only[*,go_sem,seval]
 refine ZMH h fun _ m h=>Zd (Zi0 m) ?_
 simp only[*,go_sem,seval]
 iterate 2 refine Ze h (fun _ h=>?_) fun _ h=>?_<;>try simp only[*,go_sem,seval]
 refine ZMH h fun _ o h=>Zd (Zi0 o) ?_
 iterate 4 (cases h;simp only[*,go_sem,seval])
end
section
set_option linter.unusedSimpArgs false
set_option linter.unusedVariables false
set_option maxRecDepth 1000000
set_option maxHeartbeats 4000000
theorem Znd {l_0:(List Zb)} {r:Bool} (h:Zdv l_0=some r):Zk prog J0 87 [(false,[.sl 45 2 (A0 Zl l_0)])] [(false,[(false,.bool r)])]:=by
 refine fnk func87 rfl ?_
 unfold Zdv at h
 simp only[fnS,f87,Zm,go_sem,seval]
 refine Zi h (fun i _ st=>IV [(0,.p false [.c (.sl 45 2 (A0 Zl l_0))]),(3,.p false [.c (.int .i64 ((i:Nat):Int))])] [] st) [] [] (by decide) ?_ ?_ ?_
 simp only[*,go_sem,seval]
 rintro _ _ ⟨⟩ ⟨sl,ob,n⟩ _ a b f h d
 simp only[go_sem,seval,Zc] at b
 obtain ⟨⟨g,_⟩,hn⟩:=b
 subst hn
 have k:=WF.slotL f g (j:=0) rfl
 have:=ZA a
 have:=ZC a
 have:=Zj (ZB a) k
 simp only[*,go_sem,seval]
 refine ZMH h fun _ l h=>Zd (Zj9 l) ?_
 simp only[*,go_sem,seval]
 iterate 2 refine Ze h (fun _ h=>?_) fun _ h=>?_<;>try simp only[*,go_sem,seval]
 obtain ⟨_,_,_,_,h⟩:=ZbQ h
 simp only[*,go_sem,seval]
 refine ZMH h fun _ m h=>Zd (Qv m) ?_
 simp only[*,go_sem,seval]
 refine Ze h (fun _ h=>?_) fun _ h=>?_<;>try simp only[*,go_sem,seval]
 replace h:=Zn h d
 cases h
 simp only[*,go_sem,seval]
 refine ⟨_,[],[],(A3 h).symm,by decide,?_⟩
 simp only[*,go_sem,seval]
 refine ⟨_,[],[],(A3 h).symm,by decide,?_⟩
 simp only[*,go_sem,seval]
 replace h:=Zn h d
 cases h
 simp only[*,go_sem,seval]
 rintro ⟨⟩ ⟨sl,ob,n⟩ e _ h
 simp only[go_sem,seval,Zc] at e
 obtain ⟨⟨_,_⟩,hn⟩:=e
 subst hn
 have:=Zy (l_0.length)
 cases h
 simp only[*,go_sem,seval]
theorem ZqF {b_0:(List Zs)} {v_1:ByteArray} {value_2:ByteArray} {r:((List Zs) × Bool)} (h:ZgN b_0 v_1 value_2=some r):Zk prog J0 314 [(false,[.sl 166 2 (A0 Z4 b_0)]),(false,[.str v_1]),(false,[.str value_2])] [(false,[(false,.sl 166 2 (A0 Z4 r.1))]),(false,[(false,.bool r.2)])]:=by
 refine fnk func314 rfl ?_
 unfold ZgN at h
 simp only[fnS,f314,Zm,go_sem,seval]
 refine ZMH h fun _ a h=>Zd (QX a) ?_
 simp only[*,go_sem,seval]
 refine Ze h (fun _ h=>?_) fun _ h=>?_<;>try simp only[*,go_sem,seval]
 refine ZMH h fun _ b h=>Zd (Q3 b) ?_
 simp only[*,go_sem,seval]
 refine Ze h (fun _ h=>?_) fun _ h=>?_<;>try simp only[*,go_sem,seval]
 refine ZMH h fun _ c h=>Zd (X0 c) ?_
 simp only[*,go_sem,seval]
 refine Ze h (fun _ h=>?_) fun _ h=>?_<;>try simp only[*,go_sem,seval]
 refine ZMH h fun _ d h=>Zd (ZcO d) ?_
 simp only[*,go_sem,seval]
 iterate 2 refine Ze h (fun _ h=>?_) fun _ h=>?_<;>try simp only[*,go_sem,seval]
 refine ZMH h fun _ e h=>Zd (ZgL e) ?_
 iterate 2 (cases h;simp only[*,go_sem,seval])
 refine Ze h (fun _ h=>?_) fun _ h=>?_<;>try simp only[*,go_sem,seval]
 cases h
 simp only[*,go_sem,seval]
 refine ZMH h fun _ f h=>Zd (ZsA f) ?_
 iterate 4 (cases h;simp only[*,go_sem,seval])
theorem Zru {a_0:(List Zb)} {b_1:(List Zb)} {r:Bool} (h:ZeN a_0 b_1=some r):Zk prog J0 15 [(false,[.sl 45 2 (A0 Zl a_0)]),(false,[.sl 45 2 (A0 Zl b_1)])] [(false,[(false,.bool r)])]:=by
 refine fnk func15 rfl ?_
 unfold ZeN at h
 simp only[fnS,f15,Zm,go_sem,seval]
 refine Zi h (fun i _ st=>IV [(0,.p false [.c (.sl 45 2 (A0 Zl a_0))]),(1,.p false [.c (.sl 45 2 (A0 Zl b_1))]),(5,.p false [.c (.int .i64 ((i:Nat):Int))])] [] st) [] [] (by decide) ?_ ?_ ?_
 simp only[*,go_sem,seval]
 rintro _ _ ⟨⟩ ⟨sl,ob,n⟩ _ a b e h f
 simp only[go_sem,seval,Zc] at b
 obtain ⟨⟨g,_,_⟩,hn⟩:=b
 subst hn
 have k:=WF.slotL e g (j:=0) rfl
 have:=ZA a
 have:=ZC a
 have:=Zj (ZB a) k
 simp only[*,go_sem,seval]
 refine ZMH h fun _ l h=>Zd (Zid l) ?_
 simp only[*,go_sem,seval]
 refine Ze h (fun _ h=>?_) fun _ h=>?_<;>try simp only[*,go_sem,seval]
 refine ⟨_,[],[],(A3 h).symm,by decide,?_⟩
 simp only[*,go_sem,seval]
 replace h:=Zn h f
 cases h
 simp only[*,go_sem,seval]
 rintro ⟨⟩ ⟨sl,ob,n⟩ d _ h
 simp only[go_sem,seval,Zc] at d
 obtain ⟨⟨_,_,_⟩,hn⟩:=d
 subst hn
 have:=Zy (a_0.length)
 cases h
 simp only[*,go_sem,seval]
theorem ZIv {c_0:ZJ} {r:(Zb × ZJ)} (h:ZGF c_0=some r):Zbx prog J0 JF0 174 (.box 152 (Zbj c_0)) [] [(true,[(false,.str r.1.rel),(false,.sl 9 1 (A0 Zx r.1.args))])] (.box 152 (Zbj r.2)):=by
 refine ZJv [(6,[0,1,2,3,4,5,6,7],true)] func174 rfl ?_
 unfold ZGF at h
 simp only[fnH,f174,Zdh,Zdg,Xp,go_sem,ZFO,seval]
 obtain ⟨v1,e1,h⟩:=Za h
 refine QL (by have hh:=ZIJ e1;first | exact hh | (simp only[go_sem,ZFO, *] at hh;exact hh)) ?_
 simp only[go_sem,ZFO,seval, *]
 refine Yo h (fun s st=>match s with | (f_4,f_5,f_6,row_7,i_8)=>IV [(0,.bp 0 0),(2,.bp 1 0),(4,.p false [.c (.int .i64 v1.2.1)]),(5,.bp 2 0),(6,.p false [.c (.int .i64 i_8)])] [.box 152 [.c (.sl 5 1 (A0 ZeK f_4)),.c (.int .i64 f_5),.c (.int .i64 f_6)],.box 45 [.c (.str ⟨#[]⟩),.nil 9 1],.box 45 [.c (.str v1.1),.row 3],.row 9 1 (A0 Zx row_7) 2] st) [(true,161,1)] [0,1,161,209] (by decide) ?_ ?_
 ·simp only[go_sem,ZFO,seval, *]
 ·rintro ⟨f_4,f_5,f_6,row_7,i_8⟩ ⟨sl,ob,n⟩ y2 hI3 hW4 h hy2
  simp only[go_sem,ZFO,seval,Zc] at hI3
  obtain ⟨⟨g5_0,g5_2,g5_4,g5_5,g5_6⟩,og5_0,og5_1,og5_2,og5_3,hn⟩:=hI3
  subst hn
  simp only[go_sem,ZFO,seval, *]
  refine Ze h (fun c6 h=>?_) (fun c6 h=>?_)<;>try simp only[go_sem,ZFO,seval, *]
  ·obtain ⟨v9,e7,h⟩:=Za h
   refine QL (by have hh:=ZID e7;first | exact hh | (simp only[go_sem,ZFO, *] at hh;exact hh)) ?_
   obtain ⟨p8,h⟩:=Zq h
   try simp only[Nat.reduceLeDiff] at p8
   simp only[go_sem,ZFO,seval, *]
   refine ⟨_,[],[0,1,2,132],(A3 h).symm,by decide,?_⟩
   simp only[go_sem,ZFO,seval, *]
  ·replace h:=Zn h hy2
   obtain rfl:=A3 h
   simp only[go_sem,ZFO,seval, *]
theorem ZHi {set_0:Int} {cap_1:QZ} {cap_2:Int} {r:Bool} (h:ZF2 set_0 cap_1 cap_2=some r):Zk prog J0 179 [(false,[.int .i64 set_0]),(false,[.pt [.int .i64 cap_1.beliefs.nodes,.sl 199 3 (A0 ZE cap_1.beliefs.reasons),.sl 3 1 (A0 ZI cap_1.assumed),.sl 3 1 (A0 ZI cap_1.bad)]]),(false,[.pt [.int .i64 cap_2]])] [(false,[(false,.bool r)])]:=by
 refine fnk func179 rfl ?_
 unfold ZF2 at h
 simp only[fnS,f179,Zm,go_sem,seval]
 refine ZMH h fun _ a h=>Zd (ZIH a) ?_
 obtain ⟨_,h⟩:=Zq h
 obtain ⟨_,_,h⟩:=Za h
 simp only[*,go_sem,seval]
 refine Ze h (fun _ h=>?_) fun _ h=>?_<;>try simp only[*,go_sem,seval]
 refine ZMH h fun _ b h=>Zd (ZIt b) ?_
 iterate 2 (cases h;simp only[*,go_sem,seval])
theorem ZGI {f_0:QZ} {set_1:Int} {r:Bool} (h:ZF6 f_0 set_1=some r):Zk prog J0 183 [(true,ZAT f_0),(false,[.int .i64 set_1])] [(false,[(false,.bool r)])]:=by
 refine fnk func183 rfl ?_
 unfold ZF6 at h
 simp only[fnS,f183,Zm,go_sem,seval]
 refine ZMH h fun _ a h=>Zd (ZIe a) ?_
 simp only[*,go_sem,seval]
 refine Ze h (fun _ h=>?_) fun _ h=>?_<;>try simp only[*,go_sem,seval]
 obtain ⟨_,h⟩:=Zq h
 simp only[*,go_sem,seval]
 refine ZMH h fun _ b h=>Zd (XU b) ?_
 iterate 2 (cases h;simp only[*,go_sem,seval])
end
end Go.Proofs.YtfehfkfdfmcgfaaGreatDoor
