/- Texts of this proof, joined: Shelf, SortH, SortZ, LCompare, SortS, LAtoi, LItoa, Ext, Dp0, Dp1, Dp2, Dp4, Dp3, BStd, Dp5, Dp6. What each holds is said at its theorems. -/
import Derived.Shelf.Small.Strs
import Derived.Shelf.Small.Wraps
import Derived.Shelf.Strconv.Atoi
import Derived.Shelf.Strconv.Itoa0
import Derived.Shelf.Strconv.Itoa1
import Derived.Shelf.LaysM
import Derived.Shelf.Strconv.Itoa2
import Derived.Shelf.Strconv.Itoa3
import Derived.Shelf.Strconv.AtoiErrFast
import Derived.Shelf.Strconv.ParseIntEmpty
import Derived.Shelf.Strconv.AtoiFail
import Derived.Shelf.Strconv.Clone
import Derived.Shelf.Strconv.SyntaxError
import Derived.Shelf.LaysC
import Derived.Shelf.Strconv.ToError
import Derived.Shelf.Strconv.AtoiErr
import Derived.Shelf.Strconv.ErrVar
import Derived.Shelf.Sort.Plain
import Derived.Shelf.Slices.In.SortNone
import Derived.Shelf.Slices.In.SortNone2
import Derived.Test.YtekbmedphidcgaaGreatDoorProg
import Derived.Test.YtekbmedphidcgaaGreatDoorAskedQ6
import Derived.Test.YtekbmedphidcgaaGreatDoorAskedQ1
import Derived.Lib.AtoiErrMem
import Derived.Lib.AppendIntMem
import Derived.Lib.ItoaLen
import Derived.Test.YtekbmedphidcgaaGreatDoorAskedQ5
set_option linter.unusedSimpArgs false
set_option linter.unusedVariables false
open Array renaming getElem?_toList→AA,getElem?_modify→AB
open Bool renaming false_or→AE,or_false→AF
open Int renaming toNat_natCast→A4,toNat→A6
open List renaming map→A0,getElem?_map→A5,eq_nil_of_length_eq_zero→A7,getElem?_take→A8,getElem?_drop→A9,size_toArray→AC,map_map→AD,map_cons→AG,map_nil→AH
open Option.some renaming inj→A3
open Go.Proofs.Tryz
namespace Go.Proofs
open Go.Shelf
def lays106_ren:Go.Shelf.Ren:=⟨fun | 106=>250 | 213=>281 | 265=>296 | n=>n,fun | 9=>9 | 3=>3 | n=>n,fun | n=>n⟩
theorem lays106:Go.Proofs.Lays.n106 prog lays106_ren:={
 mixed:=by kernel_rfl
 f106:=func250.trans (congrArg some (by kernel_rfl))
 f213:=func281.trans (congrArg some (by kernel_rfl))
 f265:=func296.trans (congrArg some (by kernel_rfl))
 t3:=underlying3
 a3:=isAgg3
 z3:=sizeOf3
 v3:=zeroValue3
 t9:=underlying9
 a9:=isAgg9
 z9:=sizeOf9
 v9:=zeroValue9 }
open Go.RowKit in
theorem strings_Compare (a b:ByteArray) (w:World):
  Calls prog 250 #[.string a,.string b] w fun e w'=>e=.returned (.int .i64 (Lib.compareBytes a.data.toList b.data.toList))∧w'=w:=Any.strings_Compare lays106 a b w
def lays172_ren:Go.Shelf.Ren:=⟨fun | 172=>284 | 244=>298 | 245=>299 | 247=>324 | 279=>325 | 280=>326 | 281=>327 | 282=>328 | 287=>340 | 316=>341 | 171=>300 | 205=>342 | 321=>346 | 322=>347 | 243=>329 | 246=>343 | 283=>348 | 284=>349 | 285=>350 | 286=>351 | 129=>314 | 317=>352 | 318=>353 | 319=>354 | 320=>355 | 337=>356 | 338=>357 | n=>n,fun | 9=>9 | 3=>3 | 75=>264 | 76=>265 | 4=>4 | 5=>5 | 167=>297 | 37=>48 | 0=>0 | 85=>298 | 2=>2 | 168=>300 | 53=>290 | 175=>312 | 46=>250 | 210=>316 | 127=>324 | 145=>327 | 143=>325 | 21=>21 | 171=>328 | 173=>330 | 212=>334 | 51=>288 | 20=>20 | 213=>335 | 232=>336 | 233=>337 | 80=>338 | n=>n,fun | 15=>1 | 16=>2 | 17=>3 | 18=>4 | 19=>5 | n=>n⟩
theorem lays172:Go.Proofs.Lays.n172 prog lays172_ren:={
 mixed:=by kernel_rfl
 f129:=func314.trans (congrArg some (by kernel_rfl))
 f171:=func300.trans (congrArg some (by kernel_rfl))
 f172:=func284.trans (congrArg some (by kernel_rfl))
 f205:=func342.trans (congrArg some (by kernel_rfl))
 f243:=func329.trans (congrArg some (by kernel_rfl))
 f244:=func298.trans (congrArg some (by kernel_rfl))
 f245:=func299.trans (congrArg some (by kernel_rfl))
 f246:=func343.trans (congrArg some (by kernel_rfl))
 f247:=func324.trans (congrArg some (by kernel_rfl))
 f279:=func325.trans (congrArg some (by kernel_rfl))
 f280:=func326.trans (congrArg some (by kernel_rfl))
 f281:=func327.trans (congrArg some (by kernel_rfl))
 f282:=func328.trans (congrArg some (by kernel_rfl))
 f283:=func348.trans (congrArg some (by kernel_rfl))
 f284:=func349.trans (congrArg some (by kernel_rfl))
 f285:=func350.trans (congrArg some (by kernel_rfl))
 f286:=func351.trans (congrArg some (by kernel_rfl))
 f287:=func340.trans (congrArg some (by kernel_rfl))
 f316:=func341.trans (congrArg some (by kernel_rfl))
 f317:=func352.trans (congrArg some (by kernel_rfl))
 f318:=func353.trans (congrArg some (by kernel_rfl))
 f319:=func354.trans (congrArg some (by kernel_rfl))
 f320:=func355.trans (congrArg some (by kernel_rfl))
 f321:=func346.trans (congrArg some (by kernel_rfl))
 f322:=func347.trans (congrArg some (by kernel_rfl))
 f337:=func356.trans (congrArg some (by kernel_rfl))
 f338:=func357.trans (congrArg some (by kernel_rfl))
 t0:=underlying0
 a0:=isAgg0
 z0:=sizeOf0
 v0:=zeroValue0
 t2:=underlying2
 a2:=isAgg2
 z2:=sizeOf2
 v2:=zeroValue2
 t3:=underlying3
 a3:=isAgg3
 z3:=sizeOf3
 v3:=zeroValue3
 t4:=underlying4
 a4:=isAgg4
 z4:=sizeOf4
 v4:=zeroValue4
 t5:=underlying5
 a5:=isAgg5
 z5:=sizeOf5
 v5:=zeroValue5
 t9:=underlying9
 a9:=isAgg9
 z9:=sizeOf9
 v9:=zeroValue9
 t20:=underlying20
 a20:=isAgg20
 z20:=sizeOf20
 v20:=zeroValue20
 t21:=underlying21
 a21:=isAgg21
 z21:=sizeOf21
 v21:=zeroValue21
 t37:=underlying48
 a37:=isAgg48
 z37:=sizeOf48
 v37:=zeroValue48
 t46:=underlying250
 a46:=isAgg250
 z46:=sizeOf250
 v46:=zeroValue250
 t51:=underlying288
 a51:=isAgg288
 z51:=sizeOf288
 v51:=zeroValue288
 t53:=underlying290
 a53:=isAgg290
 z53:=sizeOf290
 v53:=zeroValue290
 t75:=underlying264
 a75:=isAgg264
 z75:=sizeOf264
 v75:=zeroValue264
 t76:=underlying265
 a76:=isAgg265
 z76:=sizeOf265
 v76:=zeroValue265
 t85:=underlying298
 a85:=isAgg298
 z85:=sizeOf298
 v85:=zeroValue298
 t127:=underlying324
 a127:=isAgg324
 z127:=sizeOf324
 v127:=zeroValue324
 t143:=underlying325
 a143:=isAgg325
 z143:=sizeOf325
 v143:=zeroValue325
 t145:=underlying327
 a145:=isAgg327
 z145:=sizeOf327
 v145:=zeroValue327
 t167:=underlying297
 a167:=isAgg297
 z167:=sizeOf297
 v167:=zeroValue297
 t168:=underlying300
 a168:=isAgg300
 z168:=sizeOf300
 v168:=zeroValue300
 t171:=underlying328
 a171:=isAgg328
 z171:=sizeOf328
 v171:=zeroValue328
 t173:=underlying330
 a173:=isAgg330
 z173:=sizeOf330
 v173:=zeroValue330
 t175:=underlying312
 a175:=isAgg312
 z175:=sizeOf312
 v175:=zeroValue312
 t210:=underlying316
 a210:=isAgg316
 z210:=sizeOf316
 v210:=zeroValue316
 t212:=underlying334
 a212:=isAgg334
 z212:=sizeOf334
 v212:=zeroValue334
 t213:=underlying335
 a213:=isAgg335
 z213:=sizeOf335
 t232:=underlying336
 a232:=isAgg336
 z232:=sizeOf336
 v232:=zeroValue336
 t233:=underlying337
 a233:=isAgg337
 z233:=sizeOf337
 v233:=zeroValue337
 g15:=by kernel_rfl
 g16:=by kernel_rfl
 g17:=by kernel_rfl
 g18:=by kernel_rfl
 g19:=by kernel_rfl }
open Go.RowKit in
theorem strconv_Atoi (s:ByteArray) (n:Int) (hl:s.size≤18) (h:Lib.atoi s.data.toList=some n) (w:World):
  Calls prog 284 #[.string s] w fun e w'=>e=.returned (.tuple #[.int .i64 n,.nilIface])∧∃t,w'=Lib.bytesWorld w 5 t:=Any.strconv_Atoi lays172 s n hl h w
def laysM171_ren:Go.Shelf.Ren:=⟨fun | 171=>300 | 243=>329 | 246=>343 | 283=>348 | 284=>349 | 285=>350 | 286=>351 | 129=>314 | 317=>352 | 318=>353 | 319=>354 | 320=>355 | 337=>356 | 338=>357 | n=>n,fun | 3=>3 | 9=>9 | 2=>2 | 4=>4 | 171=>328 | 0=>0 | 53=>290 | 37=>48 | 5=>5 | 173=>330 | 212=>334 | 51=>288 | 20=>20 | 213=>335 | 46=>250 | 232=>336 | 233=>337 | n=>n,fun | 17=>3 | 18=>4 | 19=>5 | n=>n⟩
theorem laysM171:Go.Proofs.LaysM.n171 prog laysM171_ren:={
 mixed:=by kernel_rfl
 f129:=func314.trans (congrArg some (by kernel_rfl))
 f171:=func300.trans (congrArg some (by kernel_rfl))
 f243:=func329.trans (congrArg some (by kernel_rfl))
 f246:=func343.trans (congrArg some (by kernel_rfl))
 f283:=func348.trans (congrArg some (by kernel_rfl))
 f284:=func349.trans (congrArg some (by kernel_rfl))
 f285:=func350.trans (congrArg some (by kernel_rfl))
 f286:=func351.trans (congrArg some (by kernel_rfl))
 f317:=func352.trans (congrArg some (by kernel_rfl))
 f318:=func353.trans (congrArg some (by kernel_rfl))
 f319:=func354.trans (congrArg some (by kernel_rfl))
 f320:=func355.trans (congrArg some (by kernel_rfl))
 f337:=func356.trans (congrArg some (by kernel_rfl))
 f338:=func357.trans (congrArg some (by kernel_rfl))
 t0:=underlying0
 a0:=isAgg0
 z0:=sizeOf0
 v0:=zeroValue0
 t2:=underlying2
 a2:=isAgg2
 z2:=sizeOf2
 v2:=zeroValue2
 t3:=underlying3
 a3:=isAgg3
 z3:=sizeOf3
 v3:=zeroValue3
 t4:=underlying4
 a4:=isAgg4
 z4:=sizeOf4
 v4:=zeroValue4
 t5:=underlying5
 a5:=isAgg5
 z5:=sizeOf5
 v5:=zeroValue5
 t9:=underlying9
 a9:=isAgg9
 z9:=sizeOf9
 v9:=zeroValue9
 t20:=underlying20
 a20:=isAgg20
 z20:=sizeOf20
 v20:=zeroValue20
 t37:=underlying48
 a37:=isAgg48
 z37:=sizeOf48
 v37:=zeroValue48
 t46:=underlying250
 a46:=isAgg250
 z46:=sizeOf250
 v46:=zeroValue250
 t51:=underlying288
 a51:=isAgg288
 z51:=sizeOf288
 v51:=zeroValue288
 t53:=underlying290
 a53:=isAgg290
 z53:=sizeOf290
 v53:=zeroValue290
 t171:=underlying328
 a171:=isAgg328
 z171:=sizeOf328
 v171:=zeroValue328
 t173:=underlying330
 a173:=isAgg330
 z173:=sizeOf330
 v173:=zeroValue330
 t212:=underlying334
 a212:=isAgg334
 z212:=sizeOf334
 v212:=zeroValue334
 t213:=underlying335
 a213:=isAgg335
 z213:=sizeOf335
 t232:=underlying336
 a232:=isAgg336
 z232:=sizeOf336
 v232:=zeroValue336
 t233:=underlying337
 a233:=isAgg337
 z233:=sizeOf337
 v233:=zeroValue337
 g17:=by kernel_rfl
 g18:=by kernel_rfl
 g19:=by kernel_rfl
 i0:=by kernel_rfl
 i2:=by kernel_rfl
 i3:=by kernel_rfl
 i4:=by kernel_rfl
 i5:=by kernel_rfl
 i9:=by kernel_rfl
 i20:=by kernel_rfl
 i37:=by kernel_rfl
 i46:=by kernel_rfl
 i51:=by kernel_rfl
 i53:=by kernel_rfl
 i171:=by kernel_rfl
 i173:=by kernel_rfl
 i212:=by kernel_rfl
 i232:=by kernel_rfl
 i233:=by kernel_rfl
 m17:=by kernel_rfl
 m18:=by kernel_rfl
 m19:=by kernel_rfl }
open Go.RowKit Go.Sort Go.Lib in
theorem strconv_Itoa (n : Int) (h0 : -9223372036854775808 ≤ n) (h1 : n ≤ 9223372036854775807) (w : World) (htab : Lib.TabIs prog w "internal/strconv.uint64pow10" .u64 Lib.pow10Tab) :
  Calls prog 300 #[.int .i64 n] w fun e w'=>e=.returned (.string ⟨(Lib.itoa n).toArray⟩)∧∃k os,w'=grow (w.drewN k) os:=Any.strconv_Itoa laysM171 n h0 h1 w htab
def laysC172_ren:Go.Shelf.Ren:=⟨fun | 172=>284 | 244=>298 | 245=>299 | 247=>324 | 279=>325 | 280=>326 | 281=>327 | 282=>328 | 287=>340 | 316=>341 | 171=>300 | 205=>342 | 321=>346 | 322=>347 | 243=>329 | 246=>343 | 283=>348 | 284=>349 | 285=>350 | 286=>351 | 129=>314 | 317=>352 | 318=>353 | 319=>354 | 320=>355 | 337=>356 | 338=>357 | n=>n,fun | 9=>9 | 3=>3 | 75=>264 | 76=>265 | 4=>4 | 5=>5 | 167=>297 | 37=>48 | 0=>0 | 85=>298 | 2=>2 | 168=>300 | 53=>290 | 175=>312 | 46=>250 | 210=>316 | 127=>324 | 145=>327 | 143=>325 | 21=>21 | 171=>328 | 173=>330 | 212=>334 | 51=>288 | 20=>20 | 213=>335 | 232=>336 | 233=>337 | 80=>338 | n=>n,fun | 15=>1 | 16=>2 | 17=>3 | 18=>4 | 19=>5 | n=>n⟩
theorem laysC172:Go.Proofs.LaysC.n172 prog laysC172_ren:={
 mixed:=by kernel_rfl
 f129:=func314.trans (congrArg some (by kernel_rfl))
 f171:=func300.trans (congrArg some (by kernel_rfl))
 f172:=func284.trans (congrArg some (by kernel_rfl))
 f205:=func342.trans (congrArg some (by kernel_rfl))
 f243:=func329.trans (congrArg some (by kernel_rfl))
 f244:=func298.trans (congrArg some (by kernel_rfl))
 f245:=func299.trans (congrArg some (by kernel_rfl))
 f246:=func343.trans (congrArg some (by kernel_rfl))
 f247:=func324.trans (congrArg some (by kernel_rfl))
 f279:=func325.trans (congrArg some (by kernel_rfl))
 f280:=func326.trans (congrArg some (by kernel_rfl))
 f281:=func327.trans (congrArg some (by kernel_rfl))
 f282:=func328.trans (congrArg some (by kernel_rfl))
 f283:=func348.trans (congrArg some (by kernel_rfl))
 f284:=func349.trans (congrArg some (by kernel_rfl))
 f285:=func350.trans (congrArg some (by kernel_rfl))
 f286:=func351.trans (congrArg some (by kernel_rfl))
 f287:=func340.trans (congrArg some (by kernel_rfl))
 f316:=func341.trans (congrArg some (by kernel_rfl))
 f317:=func352.trans (congrArg some (by kernel_rfl))
 f318:=func353.trans (congrArg some (by kernel_rfl))
 f319:=func354.trans (congrArg some (by kernel_rfl))
 f320:=func355.trans (congrArg some (by kernel_rfl))
 f321:=func346.trans (congrArg some (by kernel_rfl))
 f322:=func347.trans (congrArg some (by kernel_rfl))
 f337:=func356.trans (congrArg some (by kernel_rfl))
 f338:=func357.trans (congrArg some (by kernel_rfl))
 t0:=underlying0
 a0:=isAgg0
 z0:=sizeOf0
 v0:=zeroValue0
 t2:=underlying2
 a2:=isAgg2
 z2:=sizeOf2
 v2:=zeroValue2
 t3:=underlying3
 a3:=isAgg3
 z3:=sizeOf3
 v3:=zeroValue3
 t4:=underlying4
 a4:=isAgg4
 z4:=sizeOf4
 v4:=zeroValue4
 t5:=underlying5
 a5:=isAgg5
 z5:=sizeOf5
 v5:=zeroValue5
 t9:=underlying9
 a9:=isAgg9
 z9:=sizeOf9
 v9:=zeroValue9
 t20:=underlying20
 a20:=isAgg20
 z20:=sizeOf20
 v20:=zeroValue20
 t21:=underlying21
 a21:=isAgg21
 z21:=sizeOf21
 v21:=zeroValue21
 t37:=underlying48
 a37:=isAgg48
 z37:=sizeOf48
 v37:=zeroValue48
 t46:=underlying250
 a46:=isAgg250
 z46:=sizeOf250
 v46:=zeroValue250
 t51:=underlying288
 a51:=isAgg288
 z51:=sizeOf288
 v51:=zeroValue288
 t53:=underlying290
 a53:=isAgg290
 z53:=sizeOf290
 v53:=zeroValue290
 t75:=underlying264
 a75:=isAgg264
 z75:=sizeOf264
 v75:=zeroValue264
 t76:=underlying265
 a76:=isAgg265
 z76:=sizeOf265
 v76:=zeroValue265
 t85:=underlying298
 a85:=isAgg298
 z85:=sizeOf298
 v85:=zeroValue298
 t127:=underlying324
 a127:=isAgg324
 z127:=sizeOf324
 v127:=zeroValue324
 t143:=underlying325
 a143:=isAgg325
 z143:=sizeOf325
 v143:=zeroValue325
 t145:=underlying327
 a145:=isAgg327
 z145:=sizeOf327
 v145:=zeroValue327
 t167:=underlying297
 a167:=isAgg297
 z167:=sizeOf297
 v167:=zeroValue297
 t168:=underlying300
 a168:=isAgg300
 z168:=sizeOf300
 v168:=zeroValue300
 t171:=underlying328
 a171:=isAgg328
 z171:=sizeOf328
 v171:=zeroValue328
 t173:=underlying330
 a173:=isAgg330
 z173:=sizeOf330
 v173:=zeroValue330
 t175:=underlying312
 a175:=isAgg312
 z175:=sizeOf312
 v175:=zeroValue312
 t210:=underlying316
 a210:=isAgg316
 z210:=sizeOf316
 v210:=zeroValue316
 t212:=underlying334
 a212:=isAgg334
 z212:=sizeOf334
 v212:=zeroValue334
 t213:=underlying335
 a213:=isAgg335
 z213:=sizeOf335
 t232:=underlying336
 a232:=isAgg336
 z232:=sizeOf336
 v232:=zeroValue336
 t233:=underlying337
 a233:=isAgg337
 z233:=sizeOf337
 v233:=zeroValue337
 g15:=by kernel_rfl
 g16:=by kernel_rfl
 g17:=by kernel_rfl
 g18:=by kernel_rfl
 g19:=by kernel_rfl
 t80:=underlying338
 a80:=isAgg338
 z80:=sizeOf338
 v80:=zeroValue338
 i0:=by kernel_rfl
 i2:=by kernel_rfl
 i3:=by kernel_rfl
 i4:=by kernel_rfl
 i5:=by kernel_rfl
 i9:=by kernel_rfl
 i20:=by kernel_rfl
 i21:=by kernel_rfl
 i37:=by kernel_rfl
 i46:=by kernel_rfl
 i51:=by kernel_rfl
 i53:=by kernel_rfl
 i75:=by kernel_rfl
 i76:=by kernel_rfl
 i80:=by kernel_rfl
 i85:=by kernel_rfl
 i127:=by kernel_rfl
 i143:=by kernel_rfl
 i145:=by kernel_rfl
 i167:=by kernel_rfl
 i168:=by kernel_rfl
 i171:=by kernel_rfl
 i173:=by kernel_rfl
 i175:=by kernel_rfl
 i210:=by kernel_rfl
 i212:=by kernel_rfl
 i232:=by kernel_rfl
 i233:=by kernel_rfl
 m15:=by kernel_rfl
 m16:=by kernel_rfl
 m17:=by kernel_rfl
 m18:=by kernel_rfl
 m19:=by kernel_rfl
 c0:=by kernel_rfl
 c2:=by kernel_rfl
 c3:=by kernel_rfl
 c4:=by kernel_rfl
 c5:=by kernel_rfl
 c9:=by kernel_rfl
 c20:=by kernel_rfl
 c21:=by kernel_rfl
 c37:=by kernel_rfl
 c46:=by kernel_rfl
 c51:=by kernel_rfl
 c53:=by kernel_rfl
 c75:=by kernel_rfl
 c76:=by kernel_rfl
 c80:=by kernel_rfl
 c85:=by kernel_rfl
 c127:=by kernel_rfl
 c143:=by kernel_rfl
 c145:=by kernel_rfl
 c167:=by kernel_rfl
 c168:=by kernel_rfl
 c171:=by kernel_rfl
 c173:=by kernel_rfl
 c175:=by kernel_rfl
 c210:=by kernel_rfl
 c212:=by kernel_rfl
 c213:=by kernel_rfl
 c232:=by kernel_rfl
 c233:=by kernel_rfl }
open Go.RowKit in
theorem strconv_Atoi_err_var (s : ByteArray) (hl : s.size ≤ 18) (h : Lib.atoi s.data.toList = none) (tp : TypeId) (p : Value) (w : World) (hvar : w.var? prog "strconv.ErrSyntax" = some #[.iface tp p]) :
  Calls prog 284 #[.string s] w fun e w'=>∃N,e=.returned (.tuple #[.int .i64 0,.iface 300 (.pointer (some ⟨N,0,none⟩))])∧w.heap.size≤N∧w'.heap[N]?=some (.cells #[.string ⟨#[65,116,111,105]⟩,.string s,.iface tp p] 316 (0,0))∧Below w.heap.size w w':=Any.strconv_Atoi_err_var laysC172 s hl h tp p w hvar
def lays191_ren:Go.Shelf.Ren:=⟨fun | 191=>238 | 189=>278 | 125=>294 | 257=>293 | 128=>313 | 129=>314 | 294=>304 | 295=>305 | 296=>306 | 297=>307 | 298=>308 | 299=>309 | 216=>310 | 300=>311 | 301=>312 | 328=>330 | 329=>331 | 330=>332 | 331=>333 | 332=>334 | 215=>335 | 343=>344 | n=>n,fun | 28=>84 | 0=>0 | 3=>3 | 46=>250 | 51=>288 | 53=>290 | 4=>4 | 183=>281 | 182=>280 | 131=>216 | 5=>5 | 9=>9 | 218=>303 | 222=>307 | 228=>319 | 229=>320 | n=>n,fun | n=>n⟩
theorem lays191:Go.Proofs.Lays.n191 prog lays191_ren:={
 mixed:=by kernel_rfl
 f125:=func294.trans (congrArg some (by kernel_rfl))
 f128:=func313.trans (congrArg some (by kernel_rfl))
 f129:=func314.trans (congrArg some (by kernel_rfl))
 f189:=func278.trans (congrArg some (by kernel_rfl))
 f191:=func238.trans (congrArg some (by kernel_rfl))
 f215:=func335.trans (congrArg some (by kernel_rfl))
 f216:=func310.trans (congrArg some (by kernel_rfl))
 f257:=func293.trans (congrArg some (by kernel_rfl))
 f294:=func304.trans (congrArg some (by kernel_rfl))
 f295:=func305.trans (congrArg some (by kernel_rfl))
 f296:=func306.trans (congrArg some (by kernel_rfl))
 f297:=func307.trans (congrArg some (by kernel_rfl))
 f298:=func308.trans (congrArg some (by kernel_rfl))
 f299:=func309.trans (congrArg some (by kernel_rfl))
 f300:=func311.trans (congrArg some (by kernel_rfl))
 f301:=func312.trans (congrArg some (by kernel_rfl))
 f328:=func330.trans (congrArg some (by kernel_rfl))
 f329:=func331.trans (congrArg some (by kernel_rfl))
 f330:=func332.trans (congrArg some (by kernel_rfl))
 f331:=func333.trans (congrArg some (by kernel_rfl))
 f332:=func334.trans (congrArg some (by kernel_rfl))
 f343:=func344.trans (congrArg some (by kernel_rfl))
 t0:=underlying0
 a0:=isAgg0
 z0:=sizeOf0
 v0:=zeroValue0
 t3:=underlying3
 a3:=isAgg3
 z3:=sizeOf3
 v3:=zeroValue3
 t4:=underlying4
 a4:=isAgg4
 z4:=sizeOf4
 v4:=zeroValue4
 t5:=underlying5
 a5:=isAgg5
 z5:=sizeOf5
 v5:=zeroValue5
 t9:=underlying9
 a9:=isAgg9
 z9:=sizeOf9
 v9:=zeroValue9
 t28:=underlying84
 a28:=isAgg84
 z28:=sizeOf84
 v28:=zeroValue84
 t46:=underlying250
 a46:=isAgg250
 z46:=sizeOf250
 v46:=zeroValue250
 t51:=underlying288
 a51:=isAgg288
 z51:=sizeOf288
 v51:=zeroValue288
 t53:=underlying290
 a53:=isAgg290
 z53:=sizeOf290
 v53:=zeroValue290
 t131:=underlying216
 a131:=isAgg216
 z131:=sizeOf216
 v131:=zeroValue216
 t182:=underlying280
 a182:=isAgg280
 z182:=sizeOf280
 v182:=zeroValue280
 t183:=underlying281
 a183:=isAgg281
 z183:=sizeOf281
 v183:=zeroValue281
 t218:=underlying303
 a218:=isAgg303
 z218:=sizeOf303
 v218:=zeroValue303
 t222:=underlying307
 a222:=isAgg307
 z222:=sizeOf307
 v222:=zeroValue307
 t228:=underlying319
 a228:=isAgg319
 z228:=sizeOf319
 v228:=zeroValue319
 t229:=underlying320
 a229:=isAgg320
 z229:=sizeOf320
 v229:=zeroValue320 }
open Go.Sort Go.RowKit in
theorem sort_Ints (blk off cap:Nat) (zs:List Int) (w:World) (hH:Holds (Value.int .i64) w blk off zs.toArray) (hblk:blk<w.heap.size) (hsz:zs.length<4611686018427387904):
  Calls prog 238 #[.slice (some ⟨blk,off,none⟩) zs.length cap] w fun e w'=>
   e=.returned (.tuple #[])∧∃n os,w'=grow (putRow (Value.int .i64) (Sort.ahead w n) blk off (zs.mergeSort fun x y=>decide (x≤y)).toArray) os:=Any.sort_Ints lays191 blk off cap zs w hH hblk hsz
def lays192_ren:Go.Shelf.Ren:=⟨fun | 192=>257 | 190=>283 | 125=>294 | 258=>297 | 128=>313 | 129=>314 | 302=>315 | 303=>316 | 304=>317 | 305=>318 | 306=>319 | 307=>320 | 308=>321 | 309=>322 | 310=>323 | 333=>336 | 329=>331 | 330=>332 | 334=>337 | 335=>338 | 336=>339 | 344=>345 | n=>n,fun | 31=>56 | 0=>0 | 9=>9 | 3=>3 | 46=>250 | 51=>288 | 53=>290 | 4=>4 | 183=>281 | 182=>280 | 131=>216 | 5=>5 | 218=>303 | 222=>307 | 228=>319 | 229=>320 | n=>n,fun | n=>n⟩
theorem lays192:Go.Proofs.Lays.n192 prog lays192_ren:={
 mixed:=by kernel_rfl
 f125:=func294.trans (congrArg some (by kernel_rfl))
 f128:=func313.trans (congrArg some (by kernel_rfl))
 f129:=func314.trans (congrArg some (by kernel_rfl))
 f190:=func283.trans (congrArg some (by kernel_rfl))
 f192:=func257.trans (congrArg some (by kernel_rfl))
 f258:=func297.trans (congrArg some (by kernel_rfl))
 f302:=func315.trans (congrArg some (by kernel_rfl))
 f303:=func316.trans (congrArg some (by kernel_rfl))
 f304:=func317.trans (congrArg some (by kernel_rfl))
 f305:=func318.trans (congrArg some (by kernel_rfl))
 f306:=func319.trans (congrArg some (by kernel_rfl))
 f307:=func320.trans (congrArg some (by kernel_rfl))
 f308:=func321.trans (congrArg some (by kernel_rfl))
 f309:=func322.trans (congrArg some (by kernel_rfl))
 f310:=func323.trans (congrArg some (by kernel_rfl))
 f329:=func331.trans (congrArg some (by kernel_rfl))
 f330:=func332.trans (congrArg some (by kernel_rfl))
 f333:=func336.trans (congrArg some (by kernel_rfl))
 f334:=func337.trans (congrArg some (by kernel_rfl))
 f335:=func338.trans (congrArg some (by kernel_rfl))
 f336:=func339.trans (congrArg some (by kernel_rfl))
 f344:=func345.trans (congrArg some (by kernel_rfl))
 t0:=underlying0
 a0:=isAgg0
 z0:=sizeOf0
 v0:=zeroValue0
 t3:=underlying3
 a3:=isAgg3
 z3:=sizeOf3
 v3:=zeroValue3
 t4:=underlying4
 a4:=isAgg4
 z4:=sizeOf4
 v4:=zeroValue4
 t5:=underlying5
 a5:=isAgg5
 z5:=sizeOf5
 v5:=zeroValue5
 t9:=underlying9
 a9:=isAgg9
 z9:=sizeOf9
 v9:=zeroValue9
 t31:=underlying56
 a31:=isAgg56
 z31:=sizeOf56
 v31:=zeroValue56
 t46:=underlying250
 a46:=isAgg250
 z46:=sizeOf250
 v46:=zeroValue250
 t51:=underlying288
 a51:=isAgg288
 z51:=sizeOf288
 v51:=zeroValue288
 t53:=underlying290
 a53:=isAgg290
 z53:=sizeOf290
 v53:=zeroValue290
 t131:=underlying216
 a131:=isAgg216
 z131:=sizeOf216
 v131:=zeroValue216
 t182:=underlying280
 a182:=isAgg280
 z182:=sizeOf280
 v182:=zeroValue280
 t183:=underlying281
 a183:=isAgg281
 z183:=sizeOf281
 v183:=zeroValue281
 t218:=underlying303
 a218:=isAgg303
 z218:=sizeOf303
 v218:=zeroValue303
 t222:=underlying307
 a222:=isAgg307
 z222:=sizeOf307
 v222:=zeroValue307
 t228:=underlying319
 a228:=isAgg319
 z228:=sizeOf319
 v228:=zeroValue319
 t229:=underlying320
 a229:=isAgg320
 z229:=sizeOf320
 v229:=zeroValue320 }
open Go.Sort Go.RowKit in
theorem sort_Strings (blk off cap:Nat) (ss:List (List UInt8)) (w:World) (hH:Holds encStr w blk off ss.toArray) (hblk:blk<w.heap.size) (hsz:ss.length<4611686018427387904):
  Calls prog 257 #[.slice (some ⟨blk,off,none⟩) ss.length cap] w fun e w'=>
   e=.returned (.tuple #[])∧∃n os,w'=grow (putRow encStr (Sort.ahead w n) blk off (ss.mergeSort fun x y=>decide (x≤y)).toArray) os:=Any.sort_Strings lays192 blk off cap ss w hH hblk hsz
open Go.RowKit Go.Sort in
theorem sort_Strings_none (p:Option Addr) (cap:Nat) (w:World):
  Calls prog 257 #[.slice p 0 cap] w fun e w'=>e=.returned (.tuple #[])∧w'=w:=Any.sort_Strings_none lays192 p cap w
open Go.RowKit Go.Sort in
theorem sort_Ints_none (p:Option Addr) (cap:Nat) (w:World):
  Calls prog 238 #[.slice p 0 cap] w fun e w'=>e=.returned (.tuple #[])∧w'=w:=Any.sort_Ints_none lays191 p cap w
end Go.Proofs
namespace Go.Proofs.YtekbmedphidcgaaGreatDoor
section
open Go.RowKit Go.Sort
theorem Zmx {α:Type} [Inhabited α] {P:Program} {J:World→Prop} {JF:Nat→Prop} (enc:α→Value) (el:α→List CT) (hel:∀(w:World) x v L,RCs w (el x) v L→v=[enc x]) (hmv:∀(w w':World) x,RCs w (el x) [enc x] []→RCs w' (el x) [enc x] []) (hflat:∀l:List α,Zal (l.map el)=true) {f:FuncId} {e:TypeId} {zs d:List α} (hc:ZcX P f) (hd:d.length=zs.length) (hsub:∀x∈d,x∈zs)
  (hN:∀p cap w,Calls P f #[.slice p 0 cap] w fun e w'=>e=.returned (.tuple #[])∧w'=w)
  (hC:∀blk off cap w,Holds enc w blk off zs.toArray→blk<w.heap.size→Calls P f #[.slice (some ⟨blk,off,none⟩) zs.length cap] w fun e w'=>e=.returned (.tuple #[])∧∃n os,w'=grow (putRow enc (Sort.ahead w n) blk off d.toArray) os):
  ZaU P J JF f (.row e 1 (zs.map el)) [] [] (.row e 1 (d.map el)):=by
 refine ⟨hc,fun w z q v0 vs hj hqf hz hh ha=>?_⟩
 cases vs with
 | cons _ _=>exact ha.elim
 | nil=>
 obtain ⟨hfl,hm,hq,cs,hown,hre⟩:=hh
 have hcs:∀(l:List α) (cs:List Value) (L:List Nat),REs w 1 (l.map el) cs L→cs=l.map enc∧(L=[]→∀x∈l,RCs w (el x) [enc x] []):=by
  intro l
  induction l with
  | nil=>intro cs L h;exact ⟨h.1,fun _ x mx=>by simp at mx⟩
  | cons x l ih=>
   rintro cs L ⟨c1,c2,L1,L2,rfl,rfl,h3,h4⟩
   obtain ⟨i1,i2⟩:=ih _ _ h4
   have e1:=hel _ _ _ _ h3.1
   refine ⟨by rw [e1,i1];rfl,fun hL y my=>?_⟩
   obtain ⟨l1,l2⟩:=List.append_eq_nil_iff.1 hL
   rcases List.mem_cons.1 my with rfl | my
   ·rw [←e1,←l1];exact h3.1
   ·exact i2 l2 y my
 obtain ⟨e1,e2⟩:=hcs zs cs [] hre
 have e2:=e2 rfl
 subst e1
 have hre':∀(w':World) (l:List α),(∀x∈l,x∈zs)→REs w' 1 (l.map el) (l.map enc) []:=by
  intro w' l
  induction l with
  | nil=>intro _;exact ⟨rfl,rfl⟩
  | cons x l ih=>intro hl;exact ⟨[enc x],l.map enc,[],[],rfl,rfl,⟨hmv w w' x (e2 x (hl x (by simp))),rfl⟩,ih fun y my=>hl y (by simp [my])⟩
 have hzl:(zs.map el).length=zs.length:=by simp
 rw [hzl] at hown
 have done:∀w':World,w'.os=w.os→w'.tape=w.tape→w'.output=w.output→w.heap.size≤w'.heap.size→(∀k,k<w.heap.size→¬q=some k→w'.heap[k]?=w.heap[k]?)→w'.ownsV 0 e 1 v0 d.length (d.map enc)→∃v n,Ending.returned (.tuple #[])=.returned v∧Ziy w' w.heap.size n [] v∧(∀b,inQ z q b→n b)∧Zme w' n q (.row e 1 (d.map el)) v0∧Zyq q w w':=
  fun w' h1 h2 h3 h4 h5 h6=>⟨_,inQ z q,rfl,⟨[],[],⟨rfl,rfl⟩,Own.nil _ _,rfl⟩,fun _ h=>h,⟨hflat d,by omega,hq,d.map enc,by simpa using h6,hre' w' d hsub⟩,⟨h1,h2,h3,h4,h5⟩⟩
 rcases Nat.eq_zero_or_pos zs.length with h0 | h0
 ·have hz0:zs=[]:=A7 h0
  have hd0:d=[]:=A7 (hd.trans h0)
  obtain ⟨A,cap,hv⟩:=Q8 hown
  rw [h0] at hv
  subst hv
  refine (hN A cap w).mono ?_
  rintro e' w' ⟨rfl,rfl⟩
  exact done w' rfl rfl rfl (Nat.le_refl _) (fun _ _ _=>rfl) (by rw [hd0];rw [hz0] at hown;exact hown)
 ·rcases hown.2 with ⟨h',hl0⟩ | ⟨g,o,cap,cur,h',hb,hg,hnc,hcm,hcsz,htake⟩
  ·omega
  ·subst h'
   have hlt:g<w.heap.size:=(Array.getElem?_eq_some_iff.1 hg).1
   have hcur:∀j,j<zs.length→cur[o+j]?=some (enc zs[j]!):=fun j hj=>by
    have:=congrArg (fun l=>l[j]?) htake
    simp only[Nat.mul_one,A8,hj,if_true,A9,AA,A5] at this
    rw [this]
    simp [List.getElem!_eq_getElem?_getD,hj]
   refine (hC g o cap w (fun j hj=>?_) hlt).mono ?_
   ·have hj':j<zs.length:=by simpa using hj
    refine ⟨?_,by simp [World.frozen?,hg]⟩
    simp only[World.cell?,hg,Option.isSome_none,Bool.false_eq_true,if_false]
    rw [hcur j hj']
    simp [hj']
   ·rintro e' w' ⟨rfl,n,os,rfl⟩
    have hh:(putRow enc (Sort.ahead w n) g o d.toArray).heap[g]?=some (.cells (putCells enc o d.toArray cur) e (0,0)):=by
     simp only[putRow,mapBlock,heap_ahead,AB,if_true,hg,Option.map_some,onCells]
    refine done _ rfl rfl rfl (by simp) (fun k hk hqk=>?_) ⟨by simp,.inr ⟨g,o,cap,putCells enc o d.toArray cur,by rw [hd],by omega,?_,by omega,hcm,by simpa [putCells] using hcsz,?_⟩⟩
    ·rw [heap_grow_old _ _ (by simpa using hk)]
     simp only[putRow,mapBlock,heap_ahead,AB]
     rw [if_neg (fun e=>hqk (by rw [←hq];simp [Value.ownBlock,e]))]
    ·rw [heap_grow_old _ _ (by simpa using hlt)];exact hh
    ·apply List.ext_getElem?
     intro j
     simp only[Nat.mul_one,A8,A9,A5,AA,putCells,Array.getElem?_mapIdx,AC]
     by_cases hj:j<d.length
     ·have hjc:o+j<cur.size:=by omega
      simp [hj,hjc]
     ·simp [hj]
end
section
open Go.RowKit Go.Sort
theorem Zqj {J:World→Prop} {JF:Nat→Prop} {l r:List Int} (h:ZeC l=some r):ZaU prog J JF 238 (.row 3 1 (l.map Z5)) [] [] (.row 3 1 (r.map Z5)):=by
 obtain ⟨h1,h2⟩:=Zs h
 obtain rfl:=A3 h2
 refine Zmx (Value.int .i64) Z5 (fun w x v L h=>?_) (fun w w' x h=>h) Zmd ⟨f238,func238,by kernel_rfl,by kernel_rfl⟩ (by simp [Zjh]) (fun x hx=>by simpa [Zjh] using hx) (fun p cap w=>sort_Ints_none p cap w) (fun blk off cap w hH hb=>sort_Ints blk off cap l w hH hb (by omega))
 obtain ⟨u,vs,L1,L2,rfl,rfl,q1,rfl,rfl⟩:=h
 rw [q1.1]
end
section
open Go.RowKit
theorem Zsl {J:World→Prop} {a b:ByteArray} {r:Int} (h:Zd1 a b=some r):Zl prog J 250 [(false,[.str a]),(false,[.str b])] [(false,[(false,.int .i64 r)])]:=by
 obtain rfl:=A3 h
 refine ⟨⟨f250,func250,by kernel_rfl,by kernel_rfl⟩,fun w z vs hj hz hargs=>?_⟩
 obtain ⟨v,u,L,M,rfl,⟨rfl,_⟩,rfl,_⟩:=Zs7 hargs
 refine (strings_Compare a b w).mono ?_
 rintro e w' ⟨rfl,rfl⟩
 exact ⟨_,z,rfl,Zo0 ⟨⟨rfl,rfl⟩,rfl⟩,fun b h=>h,Below.refl _ _⟩
end
section
open Go.RowKit Go.Sort
theorem Zlz {J:World→Prop} {JF:Nat→Prop} {l r:List ByteArray} (h:ZbK l=some r):ZaU prog J JF 257 (.row 9 1 (l.map Zw)) [] [] (.row 9 1 (r.map Zw)):=by
 obtain ⟨h1,h2⟩:=Zs h
 obtain rfl:=A3 h2
 have e1:l.map Zw=(l.map toL).map fun x=>Zw (ofL x):=by rw [AD];exact List.map_congr_left fun x _=>by simp [Zh4]
 have e2:(Zeg l).map Zw=((l.map toL).mergeSort fun x y=>decide (x≤y)).map fun x=>Zw (ofL x):=by simp [Zeg,AD,Function.comp_def]
 rw [e1,e2]
 refine Zmx encStr (fun x=>Zw (ofL x)) (fun w x v L h=>?_) (fun w w' x h=>h) (fun l=>Zbi (fun _=>rfl) l) ⟨f257,func257,by kernel_rfl,by kernel_rfl⟩ (by simp) (fun x hx=>by simpa using hx) (fun p cap w=>sort_Strings_none p cap w) (fun blk off cap w hH hb=>sort_Strings blk off cap (l.map toL) w hH hb (by simp;omega))
 obtain ⟨u,vs,L1,L2,rfl,rfl,q1,rfl,rfl⟩:=h
 rw [q1.1]
 rfl
end
section
open Go.RowKit
theorem ZzG {J : World → Prop} (hJ : ∀ w, J w → ∃ tp p, w.var? prog "strconv.ErrSyntax" = some #[.iface tp p]) {s : ByteArray} {r : Int × Bool} (h : Zkj s = some r) : Zl prog J 284 [(false, [.str s])] [(false, [(false, .int .i64 r.1)]), (false, [(false, .ifc r.2)])] := by
 obtain ⟨h1,h2⟩:=Zs h
 refine ⟨⟨f284,func284,by kernel_rfl,by kernel_rfl⟩,fun w z vs hj hz hargs=>?_⟩
 obtain ⟨v,L,rfl,rfl,_⟩:=ZjO hargs
 cases ha:Lib.atoi (toL s) with
 | some n=>
  rw [ha] at h2
  obtain rfl:=A3 h2
  refine (strconv_Atoi s n h1 ha w).mono ?_
  rintro e w' ⟨rfl,t,rfl⟩
  exact ⟨_,z,rfl,ZpA ⟨⟨rfl,rfl⟩,rfl⟩ ⟨⟨rfl,rfl,rfl⟩,rfl⟩,fun b h=>h,Lib.bytesWorld_below _ _ _⟩
 | none=>
  rw [ha] at h2
  obtain rfl:=A3 h2
  obtain ⟨tp,p,hv⟩:=hJ w hj
  refine (strconv_Atoi_err_var s h1 ha tp p w hv).mono ?_
  rintro e w' ⟨N,rfl,_,_,hb⟩
  exact ⟨_,z,rfl,ZpA ⟨⟨rfl,rfl⟩,rfl⟩ ⟨⟨rfl,rfl,_,_,rfl⟩,rfl⟩,fun b h=>h,hb⟩
end
section
open Go.RowKit Go.Sort Go.Lib
theorem Zzq {J : World → Prop} (hJ : ∀ w, J w → Lib.TabIs prog w "internal/strconv.uint64pow10" .u64 Lib.pow10Tab) {n : Int} {r : ByteArray} (h : Zno n = some r) : Zl prog J 300 [(false, [.int .i64 n])] [(false, [(false, .str r)])] := by
 obtain ⟨h1,h2⟩:=Zs h
 obtain rfl:=A3 h2
 refine ⟨⟨f300,func300,by kernel_rfl,by kernel_rfl⟩,fun w z vs hj hz hargs=>?_⟩
 obtain ⟨v,L,rfl,rfl,_⟩:=ZjO hargs
 refine (strconv_Itoa n h1.1 h1.2 w (hJ w hj)).mono ?_
 rintro e w' ⟨rfl,k,os,rfl⟩
 refine ⟨_,z,rfl,Zo0 ⟨⟨rfl,rfl,?_⟩,rfl⟩,fun b h=>h,below_grow _ _ (Nat.le_refl _) _ _⟩
 have:=Lib.itoa_length_le n h1.1 h1.2
 show (Lib.itoa n).toArray.size≤_
 rw [AC]
 omega
end
theorem Zly {l r:List Int} (h:ZeC l=some r):ZaU prog J0 JF0 238 (.row 3 1 (l.map Z5)) [] [] (.row 3 1 (r.map Z5)):=Zqj h
theorem Zhw {a b:ByteArray} {r:Int} (h:Zd1 a b=some r):Zl prog J0 250 [(false,[.str a]),(false,[.str b])] [(false,[(false,.int .i64 r)])]:=Zsl h
theorem Zir {l r:List ByteArray} (h:ZbK l=some r):ZaU prog J0 JF0 257 (.row 9 1 (l.map Zw)) [] [] (.row 9 1 (r.map Zw)):=Zlz h
theorem ZsH {s:ByteArray} {r:Int × Bool} (h:Zkj s=some r):Zl prog J0 284 [(false,[.str s])] [(false,[(false,.int .i64 r.1)]),(false,[(false,.ifc r.2)])]:=ZzG Zyl h
theorem Zr1 {n:Int} {r:ByteArray} (h:Zno n=some r):Zl prog J0 300 [(false,[.int .i64 n])] [(false,[(false,.str r)])]:=Zzq ZyT h
section
set_option linter.unusedSimpArgs false
set_option linter.unusedVariables false
set_option maxRecDepth 1000000
set_option maxHeartbeats 4000000
theorem ZkF {a_0:(List ByteArray)} {b_1:(List ByteArray)} {r:Bool} (h:Zb4 a_0 b_1=some r):Zl prog J0 198 [(false,[.sl 9 1 (A0 Zw a_0)]),(false,[.sl 9 1 (A0 Zw b_1)])] [(false,[(false,.bool r)])]:=by
 refine fnk func198 rfl ?_
 unfold Zb4 at h
 simp only[fnS,f198,Zm,go_sem,seval]
 refine Ze h (fun _ h=>?_) fun _ h=>?_<;>try simp only[*,go_sem,seval]
 cases h
 simp only[*,go_sem,seval]
 refine Zh h (fun i _ st=>IV [(0,.p false [.c (.sl 9 1 (A0 Zw a_0))]),(1,.p false [.c (.sl 9 1 (A0 Zw b_1))]),(12,.p false [.c (.int .i64 ((a_0.length:Nat):Int))]),(13,.p false [.c (.int .i64 ((i:Nat):Int))])] [] st) [] [] (by decide) ?_ ?_ ?_
 simp only[*,go_sem,seval]
 rintro _ _ ⟨⟩ ⟨sl,ob,n⟩ _ a b e h f
 simp only[go_sem,seval,Zc] at b
 obtain ⟨⟨g,_,_,_⟩,hn⟩:=b
 subst hn
 have k:=WF.slotL e g (j:=0) rfl
 have:=ZB a
 have:=ZC a
 have:=Zj (ZA a) k
 obtain ⟨_,_,_,l,h⟩:=Zci h
 simp only[A4] at l
 simp only[*,go_sem,seval]
 refine Ze h (fun _ h=>?_) fun _ h=>?_<;>try simp only[*,go_sem,seval]
 refine ⟨_,[],[],(A3 h).symm,by decide,?_⟩
 simp only[*,go_sem,seval]
 replace h:=Zo h f
 cases h
 simp only[*,go_sem,seval]
 rintro ⟨⟩ ⟨sl,ob,n⟩ d _ h
 simp only[go_sem,seval,Zc] at d
 obtain ⟨⟨_,_,_,_⟩,hn⟩:=d
 subst hn
 have:=Zz (a_0.length)
 cases h
 simp only[*,go_sem,seval]
theorem ZfK {l_0:(List ByteArray)} {r:(List ByteArray)} (h:Zaw l_0=some r):Zl prog J0 179 [(false,[.sl 9 1 (A0 Zw l_0)])] [(false,[(false,.sl 9 1 (A0 Zw r))])]:=by
 refine fnk func179 rfl ?_
 unfold Zaw at h
 simp only[fnS,f179,Zm,go_sem,seval]
 obtain ⟨_,h⟩:=Zs h
 cases h
 simp only[*,go_sem,seval]
theorem XS {s_0:ByteArray} {r:Bool} (h:X5 s_0=some r):Zl prog J0 213 [(false,[.str s_0])] [(false,[(false,.bool r)])]:=by
 refine fnk func213 rfl ?_
 unfold X5 at h
 simp only[fnS,f213,Zm,go_sem,seval]
 iterate 2 ((refine Ze h (fun _ h=>?_) fun _ h=>?_<;>try simp only[*,go_sem,seval]);cases h;simp only[*,go_sem,seval])
 refine Zh h (fun i _ st=>IV [(0,.p false [.c (.str s_0)]),(3,.p false [.c (.int .i64 ((i:Nat):Int))])] [] st) [] [] (by decide) ?_ ?_ ?_
 simp only[*,go_sem,seval]
 rintro _ _ ⟨⟩ ⟨sl,ob,n⟩ _ b d f h a
 simp only[go_sem,seval,Zc] at d
 obtain ⟨⟨g,_⟩,hn⟩:=d
 subst hn
 have k:=WF.slotS f g (j:=0) rfl
 have:=Znm b
 have:=Zuf b
 have:=Zj (Zrk b) k
 simp only[*,go_sem,seval]
 iterate 2 refine Ze h (fun _ h=>?_) fun _ h=>?_<;>try simp only[*,go_sem,seval]
 replace h:=Zo h a
 cases h
 simp only[*,go_sem,seval]
 refine Ze h (fun _ h=>?_) fun _ h=>?_<;>try simp only[*,go_sem,seval]
 replace h:=Zo h a
 cases h
 simp only[*,go_sem,seval]
 refine ⟨_,[],[],(A3 h).symm,by decide,?_⟩
 simp only[*,go_sem,seval]
 iterate 2 refine Ze h (fun _ h=>?_) fun _ h=>?_<;>try simp only[*,go_sem,seval]
 replace h:=Zo h a
 cases h
 simp only[*,go_sem,seval]
 refine Ze h (fun _ h=>?_) fun _ h=>?_<;>try simp only[*,go_sem,seval]
 replace h:=Zo h a
 cases h
 simp only[*,go_sem,seval]
 refine ⟨_,[],[],(A3 h).symm,by decide,?_⟩
 simp only[*,go_sem,seval]
 refine ⟨_,[],[],(A3 h).symm,by decide,?_⟩
 simp only[*,go_sem,seval]
 rintro ⟨⟩ ⟨sl,ob,n⟩ e _ h
 simp only[go_sem,seval,Zc] at e
 obtain ⟨⟨_,_⟩,hn⟩:=e
 subst hn
 have:=Zz (s_0.size)
 cases h
 simp only[*,go_sem,seval]
theorem Zfq {b_0:(List Zp)} {r:(List Zp)} (h:ZaB b_0=some r):Zl prog J0 212 [(false,[.sl 135 2 (A0 ZZ b_0)])] [(false,[(false,.sl 135 2 (A0 ZZ r))])]:=by
 refine fnk func212 rfl ?_
 unfold ZaB at h
 simp only[fnS,f212,Zm,go_sem,seval]
 obtain ⟨_,h⟩:=Zs h
 cases h
 simp only[*,go_sem,seval]
theorem QN {p_0:Zv} {r:Bool} (h:YS p_0=some r):Zl prog J0 254 [(true,Qz p_0)] [(false,[(false,.bool r)])]:=by
 refine fnk func254 rfl ?_
 unfold YS at h
 have a:Z2 ⟨#[]⟩=true:=by decide
 simp only[fnS,f254,Zm,go_sem,seval,a]
 refine Ze h (fun _ h=>?_) fun _ h=>?_<;>try simp only[*,go_sem,seval]
 iterate 2 (cases h;simp only[*,go_sem,seval])
theorem ZjM {n_0:Int} {r:ByteArray} (h:Zav n_0=some r):Zl prog J0 285 [(false,[.int .i64 n_0])] [(false,[(false,.str r)])]:=by
 refine fnk func285 rfl ?_
 unfold Zav at h
 have a:Z2 ⟨#[]⟩=true:=by decide
 simp only[fnS,f285,Zm,go_sem,seval,a]
 refine Za h fun _ b h=>Zb (Zr1 b) ?_
 cases h
 simp only[*,go_sem,seval]
theorem Zbp {a_0:Int} {b_1:Int} {r:Int} (h:Xw a_0 b_1=some r):Zl prog J0 252 [(false,[.int .i64 a_0]),(false,[.int .i64 b_1])] [(false,[(false,.int .i64 r)])]:=by
 refine fnk func252 rfl ?_
 unfold Xw at h
 simp only[fnS,f252,Zm,go_sem,seval]
 iterate 2 ((refine Ze h (fun _ h=>?_) fun _ h=>?_<;>try simp only[*,go_sem,seval]);cases h;simp only[*,go_sem,seval])
 cases h
 simp only[*,go_sem,seval]
theorem Zeh {r_0:Zf} {r:(List Zr)} (h:YA r_0=some r):Zl prog J0 173 [(true,ZG r_0)] [(false,[(true,.sl 60 5 (A0 ZK r))])]:=by
 refine fnk func173 rfl ?_
 unfold YA at h
 simp only[fnS,f173,Zm,go_sem,seval]
 refine Zh h (fun i a st=>IV [(3,.p false [.row 0]),(7,.p false [.c (.sl 60 5 (A0 ZK r_0.cond))]),(8,.p false [.c (.int .i64 ((r_0.cond.length:Nat):Int))]),(9,.p false [.c (.int .i64 ((i:Nat):Int))])] [.row 60 5 (A0 ZK a) 1] st) [(false,3,0),(true,112,1)] [112] (by decide) ?_ ?_ ?_
 simp only[*,go_sem,seval]
 rintro _ _ a ⟨sl,ob,n⟩ _ b d f h _
 simp only[go_sem,seval,Zc] at d
 obtain ⟨⟨_,g,_,_⟩,_,hn⟩:=d
 subst hn
 have k:=WF.slotL f g (j:=0) rfl
 have:=ZB b
 have:=ZC b
 have:=Zj (ZA b) k
 simp only[*,go_sem,seval]
 refine Ze h (fun _ h=>?_) fun _ h=>?_<;>try simp only[*,go_sem,seval]
 obtain ⟨l,h⟩:=Zs h
 try simp only[Nat.reduceLeDiff] at l
 simp only[*,go_sem,seval]
 refine ⟨_,[],[177],(A3 h).symm,by decide,?_⟩
 simp only[*,go_sem,seval]
 refine ⟨_,[],[0],(A3 h).symm,by decide,?_⟩
 simp only[*,go_sem,seval]
 rintro a ⟨sl,ob,n⟩ e _ h
 simp only[go_sem,seval,Zc] at e
 obtain ⟨⟨_,_,_,_⟩,_,hn⟩:=e
 subst hn
 have:=Zz (r_0.cond.length)
 cases h
 simp only[*,go_sem,seval]
theorem XK {l_0:(List ByteArray)} {r:(List ByteArray)} (h:Yb l_0=some r):Zl prog J0 207 [(false,[.sl 9 1 (A0 Zw l_0)])] [(false,[(false,.sl 9 1 (A0 Zw r))])]:=by
 refine fnk func207 rfl ?_
 unfold Yb at h
 simp only[fnS,f207,Zm,go_sem,seval]
 obtain ⟨_,h⟩:=Zs h
 simp only[*,go_sem,seval]
 obtain ⟨a,g,h⟩:=ZJ h
 refine QC (Zir g) ?_
 simp only[*,go_sem,seval]
 refine Zh h (fun i b st=>IV [(3,.p false [.row 0]),(4,.p false [.row 1]),(11,.p false [.row 0]),(12,.p false [.c (.int .i64 ((a.length:Nat):Int))]),(13,.p false [.c (.int .i64 ((i:Nat):Int))])] [.row 9 1 (A0 Zw a) 2,.row 9 1 (A0 Zw b) 2] st) [(false,4,0)] [32,160] (by decide) ?_ ?_ ?_
 simp only[*,go_sem,seval]
 rintro _ _ b ⟨sl,ob,n⟩ _ d e j h _
 simp only[go_sem,seval,Zc] at e
 obtain ⟨⟨_,_,_,_,_⟩,k,_,hn⟩:=e
 subst hn
 have l:=WF.rowL j k
 have:=ZB d
 have:=ZC d
 have:=Zj (ZA d) l
 simp only[*,go_sem,seval]
 refine Ze h (fun _ h=>?_) fun _ h=>?_<;>try simp only[*,go_sem,seval]
 obtain ⟨m,h⟩:=Zs h
 try simp only[Nat.reduceLeDiff] at m
 simp only[*,go_sem,seval]
 refine ⟨_,[],[0,322],(A3 h).symm,by decide,?_⟩
 simp only[*,go_sem,seval]
 obtain ⟨_,h⟩:=Zs h
 obtain ⟨_,_,h⟩:=ZJ h
 simp only[*,go_sem,seval]
 refine Ze h (fun _ h=>?_) fun _ h=>?_<;>try simp only[*,go_sem,seval]
 refine ⟨_,[],[0,1],(A3 h).symm,by decide,?_⟩
 simp only[*,go_sem,seval]
 obtain ⟨o,h⟩:=Zs h
 try simp only[Nat.reduceLeDiff] at o
 simp only[*,go_sem,seval]
 refine ⟨_,[],[0,322],(A3 h).symm,by decide,?_⟩
 simp only[*,go_sem,seval]
 rintro b ⟨sl,ob,n⟩ f _ h
 simp only[go_sem,seval,Zc] at f
 obtain ⟨⟨_,_,_,_,_⟩,_,_,hn⟩:=f
 subst hn
 have:=Zz (a.length)
 cases h
 simp only[*,go_sem,seval]
theorem QT {l_0:(List ByteArray)} {s_1:ByteArray} {r:Bool} (h:YV l_0 s_1=some r):Zl prog J0 206 [(false,[.sl 9 1 (A0 Zw l_0)]),(false,[.str s_1])] [(false,[(false,.bool r)])]:=by
 refine fnk func206 rfl ?_
 unfold YV at h
 simp only[fnS,f206,Zm,go_sem,seval]
 refine Zh h (fun i _ st=>IV [(1,.p false [.c (.str s_1)]),(7,.p false [.c (.sl 9 1 (A0 Zw l_0))]),(8,.p false [.c (.int .i64 ((l_0.length:Nat):Int))]),(9,.p false [.c (.int .i64 ((i:Nat):Int))])] [] st) [] [] (by decide) ?_ ?_ ?_
 simp only[*,go_sem,seval]
 rintro _ _ ⟨⟩ ⟨sl,ob,n⟩ _ a b e h f
 simp only[go_sem,seval,Zc] at b
 obtain ⟨⟨_,g,_,_⟩,hn⟩:=b
 subst hn
 have k:=WF.slotL e g (j:=0) rfl
 have:=ZB a
 have:=ZC a
 have:=Zj (ZA a) k
 simp only[*,go_sem,seval]
 refine Ze h (fun _ h=>?_) fun _ h=>?_<;>try simp only[*,go_sem,seval]
 replace h:=Zo h f
 cases h
 simp only[*,go_sem,seval]
 refine ⟨_,[],[],(A3 h).symm,by decide,?_⟩
 simp only[*,go_sem,seval]
 rintro ⟨⟩ ⟨sl,ob,n⟩ d _ h
 simp only[go_sem,seval,Zc] at d
 obtain ⟨⟨_,_,_,_⟩,hn⟩:=d
 subst hn
 have:=Zz (l_0.length)
 cases h
 simp only[*,go_sem,seval]
theorem ZlR {l_0:(List Zf)} {name_1:ByteArray} {r:Int} (h:Zao l_0 name_1=some r):Zl prog J0 190 [(false,[.sl 104 4 (A0 ZG l_0)]),(false,[.str name_1])] [(false,[(false,.int .i64 r)])]:=by
 refine fnk func190 rfl ?_
 unfold Zao at h
 simp only[fnS,f190,Zm,go_sem,seval]
 refine Zh h (fun i _ st=>IV [(1,.p false [.c (.str name_1)]),(7,.p false [.c (.sl 104 4 (A0 ZG l_0))]),(8,.p false [.c (.int .i64 ((l_0.length:Nat):Int))]),(9,.p false [.c (.int .i64 ((i:Nat):Int))])] [] st) [] [] (by decide) ?_ ?_ ?_
 simp only[*,go_sem,seval]
 rintro _ _ ⟨⟩ ⟨sl,ob,n⟩ _ a b e h f
 simp only[go_sem,seval,Zc] at b
 obtain ⟨⟨_,g,_,_⟩,hn⟩:=b
 subst hn
 have k:=WF.slotL e g (j:=0) rfl
 have:=ZB a
 have:=ZC a
 have:=Zj (ZA a) k
 simp only[*,go_sem,seval]
 refine Ze h (fun _ h=>?_) fun _ h=>?_<;>try simp only[*,go_sem,seval]
 replace h:=Zo h f
 cases h
 simp only[*,go_sem,seval]
 refine ⟨_,[],[],(A3 h).symm,by decide,?_⟩
 simp only[*,go_sem,seval]
 rintro ⟨⟩ ⟨sl,ob,n⟩ d _ h
 simp only[go_sem,seval,Zc] at d
 obtain ⟨⟨_,_,_,_⟩,hn⟩:=d
 subst hn
 have:=Zz (l_0.length)
 cases h
 simp only[*,go_sem,seval]
theorem ZlZ {r_0:Zf} {r:Bool} (h:Zc0 r_0=some r):Zl prog J0 291 [(true,ZG r_0)] [(false,[(false,.bool r)])]:=by
 refine fnk func291 rfl ?_
 unfold Zc0 at h
 simp only[fnS,f291,Zm,go_sem,seval]
 refine Zh h (fun i _ st=>IV [(6,.p false [.c (.sl 166 3 (A0 ZD r_0.thn))]),(7,.p false [.c (.int .i64 ((r_0.thn.length:Nat):Int))]),(8,.p false [.c (.int .i64 ((i:Nat):Int))])] [] st) [] [] (by decide) ?_ ?_ ?_
 simp only[*,go_sem,seval]
 rintro _ _ ⟨⟩ ⟨sl,ob,n⟩ _ a b e h f
 simp only[go_sem,seval,Zc] at b
 obtain ⟨⟨g,_,_⟩,hn⟩:=b
 subst hn
 have k:=WF.slotL e g (j:=0) rfl
 have:=ZB a
 have:=ZC a
 have:=Zj (ZA a) k
 simp only[*,go_sem,seval]
 refine Ze h (fun _ h=>?_) fun _ h=>?_<;>try simp only[*,go_sem,seval]
 replace h:=Zo h f
 cases h
 simp only[*,go_sem,seval]
 refine ⟨_,[],[],(A3 h).symm,by decide,?_⟩
 simp only[*,go_sem,seval]
 rintro ⟨⟩ ⟨sl,ob,n⟩ d _ h
 simp only[go_sem,seval,Zc] at d
 obtain ⟨⟨_,_,_⟩,hn⟩:=d
 subst hn
 have:=Zz (r_0.thn.length)
 cases h
 simp only[*,go_sem,seval]
theorem Zph {l_0:(List Int)} {n_1:Int} {r:Bool} (h:ZfM l_0 n_1=some r):Zl prog J0 237 [(false,[.sl 3 1 (A0 Z5 l_0)]),(false,[.int .i64 n_1])] [(false,[(false,.bool r)])]:=by
 refine fnk func237 rfl ?_
 unfold ZfM at h
 simp only[fnS,f237,Zm,go_sem,seval]
 refine Zh h (fun i _ st=>IV [(1,.p false [.c (.int .i64 n_1)]),(7,.p false [.c (.sl 3 1 (A0 Z5 l_0))]),(8,.p false [.c (.int .i64 ((l_0.length:Nat):Int))]),(9,.p false [.c (.int .i64 ((i:Nat):Int))])] [] st) [] [] (by decide) ?_ ?_ ?_
 simp only[*,go_sem,seval]
 rintro _ _ ⟨⟩ ⟨sl,ob,n⟩ _ a b e h f
 simp only[go_sem,seval,Zc] at b
 obtain ⟨⟨_,g,_,_⟩,hn⟩:=b
 subst hn
 have k:=WF.slotL e g (j:=0) rfl
 have:=ZB a
 have:=ZC a
 have:=Zj (ZA a) k
 simp only[*,go_sem,seval]
 refine Ze h (fun _ h=>?_) fun _ h=>?_<;>try simp only[*,go_sem,seval]
 replace h:=Zo h f
 cases h
 simp only[*,go_sem,seval]
 refine ⟨_,[],[],(A3 h).symm,by decide,?_⟩
 simp only[*,go_sem,seval]
 rintro ⟨⟩ ⟨sl,ob,n⟩ d _ h
 simp only[go_sem,seval,Zc] at d
 obtain ⟨⟨_,_,_,_⟩,hn⟩:=d
 subst hn
 have:=Zz (l_0.length)
 cases h
 simp only[*,go_sem,seval]
theorem ZgG {a_0:(List Int)} {b_1:(List Int)} {r:Bool} (h:Zbh a_0 b_1=some r):Zl prog J0 279 [(false,[.sl 3 1 (A0 Z5 a_0)]),(false,[.sl 3 1 (A0 Z5 b_1)])] [(false,[(false,.bool r)])]:=by
 refine fnk func279 rfl ?_
 unfold Zbh at h
 simp only[fnS,f279,Zm,go_sem,seval]
 refine Ze h (fun _ h=>?_) fun _ h=>?_<;>try simp only[*,go_sem,seval]
 cases h
 simp only[*,go_sem,seval]
 refine Zh h (fun i _ st=>IV [(0,.p false [.c (.sl 3 1 (A0 Z5 a_0))]),(1,.p false [.c (.sl 3 1 (A0 Z5 b_1))]),(12,.p false [.c (.int .i64 ((a_0.length:Nat):Int))]),(13,.p false [.c (.int .i64 ((i:Nat):Int))])] [] st) [] [] (by decide) ?_ ?_ ?_
 simp only[*,go_sem,seval]
 rintro _ _ ⟨⟩ ⟨sl,ob,n⟩ _ a b e h f
 simp only[go_sem,seval,Zc] at b
 obtain ⟨⟨g,_,_,_⟩,hn⟩:=b
 subst hn
 have k:=WF.slotL e g (j:=0) rfl
 have:=ZB a
 have:=ZC a
 have:=Zj (ZA a) k
 obtain ⟨_,_,_,l,h⟩:=Zci h
 simp only[A4] at l
 simp only[*,go_sem,seval]
 refine Ze h (fun _ h=>?_) fun _ h=>?_<;>try simp only[*,go_sem,seval]
 replace h:=Zo h f
 cases h
 simp only[*,go_sem,seval]
 refine ⟨_,[],[],(A3 h).symm,by decide,?_⟩
 simp only[*,go_sem,seval]
 rintro ⟨⟩ ⟨sl,ob,n⟩ d _ h
 simp only[go_sem,seval,Zc] at d
 obtain ⟨⟨_,_,_,_⟩,hn⟩:=d
 subst hn
 have:=Zz (a_0.length)
 cases h
 simp only[*,go_sem,seval]
theorem Zoq {a:Zu} {r:(List Int)} (h:ZfS a=some r):Zl prog J0 241 [(true,Qw a)] [(false,[(false,.sl 3 1 (A0 Z5 r))])]:=by
 refine fnk func241 rfl ?_
 unfold ZfS at h
 simp only[fnS,f241,Zm,go_sem,seval]
 obtain ⟨_,h⟩:=Zs h
 simp only[*,go_sem,seval]
 refine XH h (fun s st=>match s with | (q,t)=>IV [(1,.bp 0 0),(3,.p false [.row 1]),(4,.p false [.c (.bool t)])] [.box 91 [.c (.int .i64 a.nodes),.c (.sl 144 3 (A0 ZL a.reasons))],.row 3 1 (A0 Z5 q) 2] st) [] [0,64] (by decide) ?_ ?_
 simp only[*,go_sem,seval]
 rintro ⟨q,t⟩ ⟨sl,ob,n⟩ _ u _ h C
 simp only[go_sem,seval,Zc] at u
 obtain ⟨⟨_,_,_⟩,_,_,hn⟩:=u
 subst hn
 simp only[*,go_sem,seval]
 refine Ze h (fun _ h=>?_) fun _ h=>?_<;>try simp only[*,go_sem,seval]
 refine Zh h (fun i s st=>match s with | (e,f)=>IV [(1,.bp 0 0),(3,.p false [.row 1]),(4,.p false [.c (.bool f)]),(17,.p false [.c (.sl 144 3 (A0 ZL a.reasons))]),(18,.p false [.c (.int .i64 ((a.reasons.length:Nat):Int))]),(19,.p false [.c (.int .i64 ((i:Nat):Int))])] [.box 91 [.c (.int .i64 a.nodes),.c (.sl 144 3 (A0 ZL a.reasons))],.row 3 1 (A0 Z5 e) 2] st) [] [0,1] (by decide) ?_ ?_ ?_
 simp only[*,go_sem,seval]
 rintro v d ⟨e,f⟩ ⟨sl,ob,n⟩ _ g w D h _
 simp only[go_sem,seval,Zc] at w
 obtain ⟨⟨_,_,_,E,_,_⟩,_,_,hn⟩:=w
 subst hn
 have F:=WF.slotL D E (j:=0) rfl
 have:=ZB g
 have:=ZC g
 have:=Zj (ZA g) F
 obtain ⟨_,h⟩:=Zs h
 obtain ⟨_,_,h⟩:=ZJ h
 simp only[*,go_sem,seval]
 refine Zh h (fun i k st=>IV [(1,.bp 0 0),(3,.p false [.row 1]),(4,.p false [.c (.bool f)]),(6,.bp 2 0),(7,.p false [.c (.int .i64 k)]),(17,.p false [.c (.sl 144 3 (A0 ZL a.reasons))]),(18,.p false [.c (.int .i64 ((a.reasons.length:Nat):Int))]),(19,.p false [.c (.int .i64 ((v:Nat):Int))]),(29,.p false [.c (.sl 3 1 (A0 Z5 d.inn))]),(30,.p false [.c (.int .i64 ((d.inn.length:Nat):Int))]),(31,.p false [.c (.int .i64 ((i:Nat):Int))])] [.box 91 [.c (.int .i64 a.nodes),.c (.sl 144 3 (A0 ZL a.reasons))],.row 3 1 (A0 Z5 e) 2,.box 144 [.c (.int .i64 d.for_),.c (.sl 3 1 (A0 Z5 d.inn)),.c (.sl 3 1 (A0 Z5 d.outs))]] st) [] [0,1,50] (by decide) ?_ ?_ ?_
 simp only[*,go_sem,seval]
 rintro _ _ k ⟨sl,ob,n⟩ _ l x G h _
 simp only[go_sem,seval,Zc] at x
 obtain ⟨⟨_,_,_,_,_,_,_,_,H,_,_⟩,_,_,_,hn⟩:=x
 subst hn
 have I:=WF.slotL G H (j:=0) rfl
 have:=ZB l
 have:=ZC l
 have:=Zj (ZA l) I
 obtain ⟨_,h⟩:=Zs h
 obtain ⟨_,_,h⟩:=ZJ h
 simp only[*,go_sem,seval]
 refine ⟨_,[],[0,1,2],(A3 h).symm,by decide,?_⟩
 simp only[*,go_sem,seval]
 rintro k ⟨sl,ob,n⟩ y _ h
 simp only[go_sem,seval,Zc] at y
 obtain ⟨⟨_,_,_,_,_,_,_,_,_,_,_⟩,_,_,_,hn⟩:=y
 subst hn
 have:=Zz (d.inn.length)
 simp only[*,go_sem,seval]
 refine Zh h (fun i m st=>IV [(1,.bp 0 0),(3,.p false [.row 1]),(4,.p false [.c (.bool f)]),(6,.bp 2 0),(7,.p false [.c (.int .i64 m)]),(17,.p false [.c (.sl 144 3 (A0 ZL a.reasons))]),(18,.p false [.c (.int .i64 ((a.reasons.length:Nat):Int))]),(19,.p false [.c (.int .i64 ((v:Nat):Int))]),(43,.p false [.c (.sl 3 1 (A0 Z5 d.outs))]),(44,.p false [.c (.int .i64 ((d.outs.length:Nat):Int))]),(45,.p false [.c (.int .i64 ((i:Nat):Int))])] [.box 91 [.c (.int .i64 a.nodes),.c (.sl 144 3 (A0 ZL a.reasons))],.row 3 1 (A0 Z5 e) 2,.box 144 [.c (.int .i64 d.for_),.c (.sl 3 1 (A0 Z5 d.inn)),.c (.sl 3 1 (A0 Z5 d.outs))]] st) [] [0,1,2] (by decide) ?_ ?_ ?_
 simp only[*,go_sem,seval]
 rintro _ _ m ⟨sl,ob,n⟩ _ o z J h _
 simp only[go_sem,seval,Zc] at z
 obtain ⟨⟨_,_,_,_,_,_,_,_,K,_,_⟩,_,_,_,hn⟩:=z
 subst hn
 have L:=WF.slotL J K (j:=0) rfl
 have:=ZB o
 have:=ZC o
 have:=Zj (ZA o) L
 obtain ⟨_,h⟩:=Zs h
 obtain ⟨_,_,h⟩:=ZJ h
 simp only[*,go_sem,seval]
 refine ⟨_,[],[0,1,2],(A3 h).symm,by decide,?_⟩
 simp only[*,go_sem,seval]
 rintro m ⟨sl,ob,n⟩ A _ h
 simp only[go_sem,seval,Zc] at A
 obtain ⟨⟨_,_,_,_,_,_,_,_,_,_,_⟩,_,_,_,hn⟩:=A
 subst hn
 have:=Zz (d.outs.length)
 simp only[*,go_sem,seval]
 refine Ze h (fun _ h=>?_) fun _ h=>?_<;>try simp only[*,go_sem,seval]
 refine ⟨_,[],[0,1],(A3 h).symm,by decide,?_⟩
 simp only[*,go_sem,seval]
 refine ⟨_,[],[0,1],(A3 h).symm,by decide,?_⟩
 simp only[*,go_sem,seval]
 rintro ⟨e,f⟩ ⟨sl,ob,n⟩ B _ h
 simp only[go_sem,seval,Zc] at B
 obtain ⟨⟨_,_,_,_,_,_⟩,_,_,hn⟩:=B
 subst hn
 have:=Zz (a.reasons.length)
 simp only[*,go_sem,seval]
 refine ⟨_,[],[0,1],(A3 h).symm,by decide,?_⟩
 simp only[*,go_sem,seval]
 replace h:=Zo h C
 cases h
 simp only[*,go_sem,seval]
theorem Zkh {r_0:Zg} {rounds_1:(List Int)} {before_2:Int} {r:Bool} (h:Zas r_0 rounds_1 before_2=some r):Zl prog J0 242 [(true,ZL r_0),(false,[.sl 3 1 (A0 Z5 rounds_1)]),(false,[.int .i64 before_2])] [(false,[(false,.bool r)])]:=by
 refine fnk func242 rfl ?_
 unfold Zas at h
 simp only[fnS,f242,Zm,go_sem,seval]
 refine Zh h (fun i _ st=>IV [(1,.p false [.c (.sl 3 1 (A0 Z5 rounds_1))]),(2,.p false [.c (.int .i64 before_2)]),(3,.bp 0 0),(12,.p false [.c (.sl 3 1 (A0 Z5 r_0.inn))]),(13,.p false [.c (.int .i64 ((r_0.inn.length:Nat):Int))]),(14,.p false [.c (.int .i64 ((i:Nat):Int))])] [.box 144 [.c (.int .i64 r_0.for_),.c (.sl 3 1 (A0 Z5 r_0.inn)),.c (.sl 3 1 (A0 Z5 r_0.outs))]] st) [] [0] (by decide) ?_ ?_ ?_
 simp only[*,go_sem,seval]
 rintro _ _ ⟨⟩ ⟨sl,ob,n⟩ _ a d l h e
 simp only[go_sem,seval,Zc] at d
 obtain ⟨⟨_,_,_,m,_,_⟩,_,hn⟩:=d
 subst hn
 have o:=WF.slotL l m (j:=0) rfl
 have:=ZB a
 have:=ZC a
 have:=Zj (ZA a) o
 obtain ⟨_,_,_,_,h⟩:=Zci h
 simp only[*,go_sem,seval]
 refine Ze h (fun _ h=>?_) fun _ h=>?_<;>try simp only[*,go_sem,seval]
 replace h:=Zo h e
 cases h
 simp only[*,go_sem,seval]
 refine Ze h (fun _ h=>?_) fun _ h=>?_<;>try simp only[*,go_sem,seval]
 replace h:=Zo h e
 cases h
 simp only[*,go_sem,seval]
 refine ⟨_,[],[0],(A3 h).symm,by decide,?_⟩
 simp only[*,go_sem,seval]
 rintro ⟨⟩ ⟨sl,ob,n⟩ f _ h
 simp only[go_sem,seval,Zc] at f
 obtain ⟨⟨_,_,_,_,_,_⟩,_,hn⟩:=f
 subst hn
 have:=Zz (r_0.inn.length)
 simp only[*,go_sem,seval]
 refine Zh h (fun i _ st=>IV [(1,.p false [.c (.sl 3 1 (A0 Z5 rounds_1))]),(33,.p false [.c (.sl 3 1 (A0 Z5 r_0.outs))]),(34,.p false [.c (.int .i64 ((r_0.outs.length:Nat):Int))]),(35,.p false [.c (.int .i64 ((i:Nat):Int))])] [] st) [] [] (by decide) ?_ ?_ ?_
 simp only[*,go_sem,seval]
 rintro _ _ ⟨⟩ ⟨sl,ob,n⟩ _ b g q h t
 simp only[go_sem,seval,Zc] at g
 obtain ⟨⟨_,u,_,_⟩,hn⟩:=g
 subst hn
 have v:=WF.slotL q u (j:=0) rfl
 have:=ZB b
 have:=ZC b
 have:=Zj (ZA b) v
 obtain ⟨_,_,_,_,h⟩:=Zci h
 simp only[*,go_sem,seval]
 refine Ze h (fun _ h=>?_) fun _ h=>?_<;>try simp only[*,go_sem,seval]
 replace h:=Zo h t
 cases h
 simp only[*,go_sem,seval]
 refine ⟨_,[],[],(A3 h).symm,by decide,?_⟩
 simp only[*,go_sem,seval]
 rintro ⟨⟩ ⟨sl,ob,n⟩ k _ h
 simp only[go_sem,seval,Zc] at k
 obtain ⟨⟨_,_,_,_⟩,hn⟩:=k
 subst hn
 have:=Zz (r_0.outs.length)
 cases h
 simp only[*,go_sem,seval]
theorem ZMX {l_0:(List Zr)} {r:Zf} (h:ZLU l_0=some r):Zl prog J0 136 [(false,[.sl 60 5 (A0 ZK l_0)])] [(true,[(false,.str r.name),(false,.int .i64 r.priority),(true,.sl 60 5 (A0 ZK r.cond)),(false,.sl 166 3 (A0 ZD r.thn))])]:=by
 refine fnk func136 rfl ?_
 unfold ZLU at h
 have a:Z2 ⟨#[113]⟩=true:=by decide
 simp only[fnS,f136,Zm,go_sem,seval,a]
 cases h
 simp only[*,go_sem,seval]
theorem ZMh {a_0:(List Zp)} {b_1:(List Zp)} {r:Bool} (h:ZK4 a_0 b_1=some r):Zl prog J0 78 [(false,[.sl 135 2 (A0 ZZ a_0)]),(false,[.sl 135 2 (A0 ZZ b_1)])] [(false,[(false,.bool r)])]:=by
 refine fnk func78 rfl ?_
 unfold ZK4 at h
 simp only[fnS,f78,Zm,go_sem,seval]
 refine Ze h (fun _ h=>?_) fun _ h=>?_<;>try simp only[*,go_sem,seval]
 cases h
 simp only[*,go_sem,seval]
 refine Zh h (fun i _ st=>IV [(0,.p false [.c (.sl 135 2 (A0 ZZ a_0))]),(1,.p false [.c (.sl 135 2 (A0 ZZ b_1))]),(12,.p false [.c (.int .i64 ((a_0.length:Nat):Int))]),(13,.p false [.c (.int .i64 ((i:Nat):Int))])] [] st) [] [] (by decide) ?_ ?_ ?_
 simp only[*,go_sem,seval]
 rintro _ _ ⟨⟩ ⟨sl,ob,n⟩ _ a b e h f
 simp only[go_sem,seval,Zc] at b
 obtain ⟨⟨g,_,_,_⟩,hn⟩:=b
 subst hn
 have k:=WF.slotL e g (j:=0) rfl
 have:=ZB a
 have:=ZC a
 have:=Zj (ZA a) k
 obtain ⟨_,_,_,l,h⟩:=Zci h
 simp only[A4] at l
 simp only[*,go_sem,seval]
 refine Ze h (fun _ h=>?_) fun _ h=>?_<;>try simp only[*,go_sem,seval]
 refine ⟨_,[],[],(A3 h).symm,by decide,?_⟩
 simp only[*,go_sem,seval]
 replace h:=Zo h f
 cases h
 simp only[*,go_sem,seval]
 rintro ⟨⟩ ⟨sl,ob,n⟩ d _ h
 simp only[go_sem,seval,Zc] at d
 obtain ⟨⟨_,_,_,_⟩,hn⟩:=d
 subst hn
 have:=Zz (a_0.length)
 cases h
 simp only[*,go_sem,seval]
theorem Ztt {code_0:(List Int)} {r:Bool} (h:ZqV code_0=some r):Zl prog J0 30 [(false,[.sl 5 1 (A0 Zek code_0)])] [(false,[(false,.bool r)])]:=by
 refine fnk func30 rfl ?_
 unfold ZqV at h
 simp only[fnS,f30,Zm,go_sem,seval]
 cases h
 simp only[*,go_sem,seval]
theorem Zqr {code_0:(List Int)} {r:ZF} (h:ZhL code_0=some r):Zj3 prog J0 83 [(false,[.sl 5 1 (A0 Zek code_0)])] (.box 184 (Za7 r)):=by
 refine fnb func83 rfl ?_
 unfold ZhL at h
 simp only[fnB,f83,Zm,go_sem,seval]
 refine Zh h (fun i a st=>IV [(0,.p false [.c (.sl 5 1 (A0 Zek code_0))]),(3,.p false [.c (.int .i64 a)]),(4,.p false [.c (.int .i64 ((i:Nat):Int))])] [] st) [] [] (by decide) ?_ ?_ ?_
 simp only[*,go_sem,seval]
 rintro _ _ a ⟨sl,ob,n⟩ _ b d f h g
 simp only[go_sem,seval,Zc] at d
 obtain ⟨⟨k,_,_⟩,hn⟩:=d
 subst hn
 have l:=WF.slotL f k (j:=0) rfl
 have:=ZB b
 have:=ZC b
 have:=Zj (ZA b) l
 simp only[*,go_sem,seval]
 refine Ze h (fun _ h=>?_) fun _ h=>?_<;>try simp only[*,go_sem,seval]
 refine ⟨_,[],[],(A3 h).symm,by decide,?_⟩
 simp only[*,go_sem,seval]
 replace h:=Zo h g
 cases h
 simp only[*,go_sem,seval]
 rintro a ⟨sl,ob,n⟩ e _ h
 simp only[go_sem,seval,Zc] at e
 obtain ⟨⟨_,_,_⟩,hn⟩:=e
 subst hn
 have:=Zz (code_0.length)
 cases h
 simp only[*,go_sem,seval]
theorem Zdz {c_0:ZF} {r:(Int × ZF)} (h:Zb0 c_0=some r):ZaU prog J0 JF0 215 (.box 184 (Za7 c_0)) [] [(false,[(false,.int .i64 r.1)])] (.box 184 (Za7 r.2)):=by
 refine fnh func215 rfl ?_
 unfold Zb0 at h
 have a:¬((35:Int)<0):=by decide
 have b:¬((45:Int)<0):=by decide
 simp only[fnH,f215,ZcO,ZcW,Y9,go_sem,seval,a,b]
 refine Ze h (fun _ h=>?_) fun _ h=>?_<;>try simp only[*,go_sem,seval]
 obtain ⟨_,_,_,_,h⟩:=Zci h
 iterate 2 (cases h;simp only[*,go_sem,seval])
theorem Zat {a:Int} {least_1:Int} {most_2:Int} {r:Bool} (h:Za5 a least_1 most_2=some r):Zl prog J0 132 [(false,[.int .i64 a]),(false,[.int .i64 least_1]),(false,[.int .i64 most_2])] [(false,[(false,.bool r)])]:=by
 refine fnk func132 rfl ?_
 unfold Za5 at h
 simp only[fnS,f132,Zm,go_sem,seval]
 refine Ze h (fun _ h=>?_) fun _ h=>?_<;>try simp only[*,go_sem,seval]
 iterate 2 (cases h;simp only[*,go_sem,seval])
theorem Ziu {n_0:Int} {r:ByteArray} (h:Q4 n_0=some r):Zl prog J0 182 [(false,[.int .i64 n_0])] [(false,[(false,.str r)])]:=by
 refine fnk func182 rfl ?_
 unfold Q4 at h
 have f:Z2 ⟨#[45,57,50,50,51,51,55,50,48,51,54,56,53,52,55,55,53,56,48,56]⟩=true:=by decide
 have g:Z2 ⟨#[]⟩=true:=by decide
 have i:¬((10:Int)=0):=by decide
 simp only[fnS,f182,Zm,go_sem,seval,f,g,i]
 refine Ze h (fun _ h=>?_) fun _ h=>?_<;>try simp only[*,go_sem,seval]
 cases h
 simp only[*,go_sem,seval]
 refine Ze h (fun _ h=>?_) fun _ h=>?_<;>try simp only[*,go_sem,seval]
 cases h
 refine XH h (fun s st=>match s with | (a,b)=>IV [(0,.p false [.c (.int .i64 a)]),(3,.p false [.c (.str b)])] [] st) [] [] (by decide) ?_ ?_
 simp only[*,go_sem,seval]
 rintro ⟨a,b⟩ ⟨sl,ob,n⟩ _ d _ h j
 simp only[go_sem,seval,Zc] at d
 obtain ⟨⟨_,_⟩,hn⟩:=d
 subst hn
 obtain ⟨_,h⟩:=Zs h
 simp only[*,go_sem,seval]
 refine Ze h (fun _ h=>?_) fun _ h=>?_<;>try simp only[*,go_sem,seval]
 replace h:=Zo h j
 cases h
 simp only[*,go_sem,seval]
 refine ⟨_,[],[],(A3 h).symm,by decide,?_⟩
 simp only[*,go_sem,seval]
theorem Zfs {n_0:Int} {r:ByteArray} (h:XO n_0=some r):Zl prog J0 182 [(false,[.int .i64 n_0])] [(false,[(false,.str r)])]:=by
 refine fnk func182 rfl ?_
 unfold XO at h
 have f:Z2 ⟨#[45,57,50,50,51,51,55,50,48,51,54,56,53,52,55,55,53,56,48,56]⟩=true:=by decide
 have g:Z2 ⟨#[45]⟩=true:=by decide
 have i:Z2 ⟨#[]⟩=true:=by decide
 have j:¬((10:Int)=0):=by decide
 simp only[fnS,f182,Zm,go_sem,seval,f,g,i,j]
 refine Ze h (fun _ h=>?_) fun _ h=>?_<;>try simp only[*,go_sem,seval]
 cases h
 simp only[*,go_sem,seval]
 refine Ze h (fun _ h=>?_) fun _ h=>?_<;>try simp only[*,go_sem,seval]
 refine Za h fun _ k h=>Zb (Ziu k) ?_
 obtain ⟨l,h⟩:=Zs h
 simp only[go_sem] at l
 cases h
 simp only[*,go_sem,seval]
 refine XH h (fun s st=>match s with | (a,b)=>IV [(0,.p false [.c (.int .i64 a)]),(3,.p false [.c (.str b)])] [] st) [] [] (by decide) ?_ ?_
 simp only[*,go_sem,seval]
 rintro ⟨a,b⟩ ⟨sl,ob,n⟩ _ d _ h m
 simp only[go_sem,seval,Zc] at d
 obtain ⟨⟨_,_⟩,hn⟩:=d
 subst hn
 obtain ⟨_,h⟩:=Zs h
 simp only[*,go_sem,seval]
 refine Ze h (fun _ h=>?_) fun _ h=>?_<;>try simp only[*,go_sem,seval]
 replace h:=Zo h m
 cases h
 simp only[*,go_sem,seval]
 refine ⟨_,[],[],(A3 h).symm,by decide,?_⟩
 simp only[*,go_sem,seval]
end
section
set_option linter.unusedSimpArgs false
set_option linter.unusedVariables false
set_option maxRecDepth 1000000
set_option maxHeartbeats 4000000
theorem XU {a:ByteArray} {b:ByteArray} {r:(List ByteArray)} (h:Qd a b=some r):Zl prog J0 262 [(false,[.str a]),(false,[.str b])] [(false,[(false,.sl 9 1 (A0 Zw r))])]:=by
 refine fnk func262 rfl ?_
 unfold Qd at h
 have i:Z2 ⟨#[]⟩=true:=by decide
 simp only[fnS,f262,Zm,go_sem,seval,i]
 refine Ze h (fun _ h=>?_) fun _ h=>?_<;>try simp only[*,go_sem,seval]
 cases h
 simp only[*,go_sem,seval]
 refine XH h (fun s st=>match s with | (d,e,f)=>IV [(0,.p false [.c (.str a)]),(1,.p false [.c (.str b)]),(5,.p false [.row 0]),(6,.p false [.c (.int .i64 e)]),(7,.p false [.c (.int .i64 f)])] [.row 9 1 (A0 Zw d) 2] st) [] [16] (by decide) ?_ ?_
 simp only[*,go_sem,seval]
 rintro ⟨d,e,f⟩ ⟨sl,ob,n⟩ _ g _ h k
 simp only[go_sem,seval,Zc] at g
 obtain ⟨⟨_,_,_,_,_⟩,_,hn⟩:=g
 subst hn
 simp only[*,go_sem,seval]
 refine Ze h (fun _ h=>?_) fun _ h=>?_<;>try simp only[*,go_sem,seval]
 obtain ⟨_,h⟩:=Zs h
 simp only[*,go_sem,seval]
 refine Ze h (fun _ h=>?_) fun _ h=>?_<;>try simp only[*,go_sem,seval]
 obtain ⟨_,h⟩:=Zs h
 obtain ⟨l,h⟩:=Zs h
 try simp only[Nat.reduceLeDiff] at l
 simp only[*,go_sem,seval]
 refine ⟨_,[],[353],(A3 h).symm,by decide,?_⟩
 simp only[*,go_sem,seval]
 refine ⟨_,[],[0],(A3 h).symm,by decide,?_⟩
 simp only[*,go_sem,seval]
 obtain ⟨_,h⟩:=Zs h
 obtain ⟨m,h⟩:=Zs h
 try simp only[Nat.reduceLeDiff] at m
 replace h:=Zo h k
 cases h
 simp only[*,go_sem,seval]
theorem Y1 {a:(List ByteArray)} {b:ByteArray} {r:(List ByteArray)} (h:XA a b=some r):Zl prog J0 225 [(false,[.sl 9 1 (A0 Zw a)]),(false,[.str b])] [(false,[(false,.sl 9 1 (A0 Zw r))])]:=by
 refine fnk func225 rfl ?_
 unfold XA at h
 simp only[fnS,f225,Zm,go_sem,seval]
 refine Zh h (fun i s st=>match s with | (d,e)=>IV [(0,.p false [.c (.sl 9 1 (A0 Zw a))]),(1,.p false [.c (.str b)]),(5,.p false [.row 0]),(6,.p false [.c (.bool e)]),(7,.p false [.c (.int .i64 ((i:Nat):Int))])] [.row 9 1 (A0 Zw d) 2] st) [] [16] (by decide) ?_ ?_ ?_
 simp only[*,go_sem,seval]
 rintro _ _ ⟨d,e⟩ ⟨sl,ob,n⟩ _ f g l h _
 simp only[go_sem,seval,Zc] at g
 obtain ⟨⟨m,_,_,_,_⟩,_,hn⟩:=g
 subst hn
 have o:=WF.slotL l m (j:=0) rfl
 have:=ZB f
 have:=ZC f
 have:=Zj (ZA f) o
 simp only[*,go_sem,seval]
 refine Ze h (fun _ h=>?_) fun _ h=>?_<;>try simp only[*,go_sem,seval]
 obtain ⟨q,h⟩:=Zs h
 try simp only[Nat.reduceLeDiff] at q
 simp only[*,go_sem,seval]
 refine ⟨_,[],[321],(A3 h).symm,by decide,?_⟩
 simp only[*,go_sem,seval]
 refine Ze h (fun _ h=>?_) fun _ h=>?_<;>try simp only[*,go_sem,seval]
 obtain ⟨t,h⟩:=Zs h
 try simp only[Nat.reduceLeDiff] at t
 simp only[*,go_sem,seval]
 refine ⟨_,[],[321],(A3 h).symm,by decide,?_⟩
 simp only[*,go_sem,seval]
 refine Ze h (fun _ h=>?_) fun _ h=>?_<;>try simp only[*,go_sem,seval]
 obtain ⟨u,h⟩:=Zs h
 try simp only[Nat.reduceLeDiff] at u
 simp only[*,go_sem,seval]
 refine ⟨_,[],[433],(A3 h).symm,by decide,?_⟩
 simp only[*,go_sem,seval]
 obtain ⟨v,h⟩:=Zs h
 try simp only[Nat.reduceLeDiff] at v
 obtain ⟨w,h⟩:=Zs h
 try simp only[Nat.reduceLeDiff] at w
 simp only[*,go_sem,seval]
 refine ⟨_,[],[513],(A3 h).symm,by decide,?_⟩
 simp only[*,go_sem,seval]
 rintro ⟨d,e⟩ ⟨sl,ob,n⟩ k _ h
 simp only[go_sem,seval,Zc] at k
 obtain ⟨⟨_,_,_,_,_⟩,_,hn⟩:=k
 subst hn
 have:=Zz (a.length)
 simp only[*,go_sem,seval]
 refine Ze h (fun _ h=>?_) fun _ h=>?_<;>try simp only[*,go_sem,seval]
 cases h
 simp only[*,go_sem,seval]
 obtain ⟨x,h⟩:=Zs h
 try simp only[Nat.reduceLeDiff] at x
 cases h
 simp only[*,go_sem,seval]
theorem Ym {l_0:(List ByteArray)} {s_1:ByteArray} {r:Bool} (h:ZR l_0 s_1=some r):Zl prog J0 151 [(false,[.sl 9 1 (A0 Zw l_0)]),(false,[.str s_1])] [(false,[(false,.bool r)])]:=by
 refine fnk func151 rfl ?_
 unfold ZR at h
 simp only[fnS,f151,Zm,go_sem,seval]
 refine Zh h (fun i _ st=>IV [(0,.p false [.c (.sl 9 1 (A0 Zw l_0))]),(1,.p false [.c (.str s_1)]),(5,.p false [.c (.int .i64 ((i:Nat):Int))])] [] st) [] [] (by decide) ?_ ?_ ?_
 simp only[*,go_sem,seval]
 rintro _ _ ⟨⟩ ⟨sl,ob,n⟩ _ a b e h f
 simp only[go_sem,seval,Zc] at b
 obtain ⟨⟨g,_,_⟩,hn⟩:=b
 subst hn
 have k:=WF.slotL e g (j:=0) rfl
 have:=ZB a
 have:=ZC a
 have:=Zj (ZA a) k
 simp only[*,go_sem,seval]
 refine Ze h (fun _ h=>?_) fun _ h=>?_<;>try simp only[*,go_sem,seval]
 replace h:=Zo h f
 cases h
 simp only[*,go_sem,seval]
 refine ⟨_,[],[],(A3 h).symm,by decide,?_⟩
 simp only[*,go_sem,seval]
 rintro ⟨⟩ ⟨sl,ob,n⟩ d _ h
 simp only[go_sem,seval,Zc] at d
 obtain ⟨⟨_,_,_⟩,hn⟩:=d
 subst hn
 have:=Zz (l_0.length)
 cases h
 simp only[*,go_sem,seval]
theorem Zpc {kind_0:Int} {r:ByteArray} (h:Zfu kind_0=some r):Zl prog J0 287 [(false,[.int .i64 kind_0])] [(false,[(false,.str r)])]:=by
 refine fnk func287 rfl ?_
 unfold Zfu at h
 have a:Z2 ⟨#[32,33,61,32]⟩=true:=by decide
 have b:Z2 ⟨#[32,60,32]⟩=true:=by decide
 have c:Z2 ⟨#[32,61,32]⟩=true:=by decide
 have d:Z2 ⟨#[]⟩=true:=by decide
 simp only[fnS,f287,Zm,go_sem,seval,a,b,c,d]
 iterate 2 ((refine Ze h (fun _ h=>?_) fun _ h=>?_<;>try simp only[*,go_sem,seval]);cases h;simp only[*,go_sem,seval])
 cases h
 simp only[*,go_sem,seval]
theorem Zkf {a_0:ByteArray} {b_1:ByteArray} {r:Int} (h:Zgl a_0 b_1=some r):Zl prog J0 119 [(false,[.str a_0]),(false,[.str b_1])] [(false,[(false,.int .i64 r)])]:=by
 refine fnk func119 rfl ?_
 unfold Zgl at h
 simp only[fnS,f119,Zm,go_sem,seval]
 refine Ze h (fun a h=>?_) (fun a h=>?_)<;>try simp only[*,go_sem,seval]
 cases h
 simp only[*,go_sem,seval]
 refine Ze h (fun b h=>?_) (fun b h=>?_)
 have c:=b
 try simp only[a,AE,AF] at c
 cases h
 simp only[*,go_sem,seval]
 have c:=b
 try simp only[a,AE,AF] at c
 cases h
 simp only[*,go_sem,seval]
theorem ZnT {l_0:(List ByteArray)} {r:(List ByteArray)} (h:Zeq l_0=some r):Zl prog J0 171 [(false,[.sl 9 1 (A0 Zw l_0)])] [(false,[(false,.sl 9 1 (A0 Zw r))])]:=by
 refine fnk func171 rfl ?_
 unfold Zeq at h
 simp only[fnS,f171,Zm,go_sem,seval]
 obtain ⟨_,h⟩:=Zs h
 cases h
 simp only[*,go_sem,seval]
theorem ZLh {s_0:ByteArray} {a_1:(List Zp)} {r:ByteArray} (h:ZKV s_0 a_1=some r):Zl prog J0 253 [(false,[.str s_0]),(false,[.sl 135 2 (A0 ZZ a_1)])] [(false,[(false,.str r)])]:=by
 refine fnk func253 rfl ?_
 unfold ZKV at h
 have e:Z2 ⟨#[]⟩=true:=by decide
 simp only[fnS,f253,Zm,go_sem,seval,e]
 refine Zh h (fun i _ st=>IV [(0,.p false [.c (.str s_0)]),(1,.p false [.c (.sl 135 2 (A0 ZZ a_1))]),(5,.p false [.c (.int .i64 ((i:Nat):Int))])] [] st) [] [] (by decide) ?_ ?_ ?_
 simp only[*,go_sem,seval]
 rintro _ _ ⟨⟩ ⟨sl,ob,n⟩ _ a b f h g
 simp only[go_sem,seval,Zc] at b
 obtain ⟨⟨_,k,_⟩,hn⟩:=b
 subst hn
 have l:=WF.slotL f k (j:=0) rfl
 have:=ZB a
 have:=ZC a
 have:=Zj (ZA a) l
 simp only[*,go_sem,seval]
 refine Ze h (fun _ h=>?_) fun _ h=>?_<;>try simp only[*,go_sem,seval]
 replace h:=Zo h g
 cases h
 simp only[*,go_sem,seval]
 refine ⟨_,[],[],(A3 h).symm,by decide,?_⟩
 simp only[*,go_sem,seval]
 rintro ⟨⟩ ⟨sl,ob,n⟩ d _ h
 simp only[go_sem,seval,Zc] at d
 obtain ⟨⟨_,_,_⟩,hn⟩:=d
 subst hn
 have:=Zz (a_1.length)
 cases h
 simp only[*,go_sem,seval]
theorem ZlV {l_0:(List Zf)} {name_1:ByteArray} {r:Int} (h:Zev l_0 name_1=some r):Zl prog J0 246 [(false,[.sl 104 4 (A0 ZG l_0)]),(false,[.str name_1])] [(false,[(false,.int .i64 r)])]:=by
 refine fnk func246 rfl ?_
 unfold Zev at h
 simp only[fnS,f246,Zm,go_sem,seval]
 refine Zh h (fun i _ st=>IV [(0,.p false [.c (.sl 104 4 (A0 ZG l_0))]),(1,.p false [.c (.str name_1)]),(5,.p false [.c (.int .i64 ((i:Nat):Int))])] [] st) [] [] (by decide) ?_ ?_ ?_
 simp only[*,go_sem,seval]
 rintro _ _ ⟨⟩ ⟨sl,ob,n⟩ _ a b e h f
 simp only[go_sem,seval,Zc] at b
 obtain ⟨⟨g,_,_⟩,hn⟩:=b
 subst hn
 have k:=WF.slotL e g (j:=0) rfl
 have:=ZB a
 have:=ZC a
 have:=Zj (ZA a) k
 simp only[*,go_sem,seval]
 refine Ze h (fun _ h=>?_) fun _ h=>?_<;>try simp only[*,go_sem,seval]
 replace h:=Zo h f
 cases h
 simp only[*,go_sem,seval]
 refine ⟨_,[],[],(A3 h).symm,by decide,?_⟩
 simp only[*,go_sem,seval]
 rintro ⟨⟩ ⟨sl,ob,n⟩ d _ h
 simp only[go_sem,seval,Zc] at d
 obtain ⟨⟨_,_,_⟩,hn⟩:=d
 subst hn
 have:=Zz (l_0.length)
 cases h
 simp only[*,go_sem,seval]
theorem Zf8 {b_0:(List Zp)} {r:(List Zp)} (h:Zb7 b_0=some r):Zl prog J0 74 [(false,[.sl 135 2 (A0 ZZ b_0)])] [(false,[(false,.sl 135 2 (A0 ZZ r))])]:=by
 refine fnk func74 rfl ?_
 unfold Zb7 at h
 simp only[fnS,f74,Zm,go_sem,seval]
 obtain ⟨_,h⟩:=Zs h
 cases h
 simp only[*,go_sem,seval]
theorem Zqy {a:(List Zp)} {b:ByteArray} {d:ByteArray} {r:(List Zp)} (h:Zh3 a b d=some r):Zl prog J0 268 [(false,[.sl 135 2 (A0 ZZ a)]),(false,[.str b]),(false,[.str d])] [(false,[(false,.sl 135 2 (A0 ZZ r))])]:=by
 refine fnk func268 rfl ?_
 unfold Zh3 at h
 simp only[fnS,f268,Zm,go_sem,seval]
 refine Zh h (fun i s st=>match s with | (e,f)=>IV [(0,.p false [.c (.sl 135 2 (A0 ZZ a))]),(1,.p false [.c (.str b)]),(2,.p false [.c (.str d)]),(7,.p false [.row 0]),(8,.p false [.c (.bool f)]),(9,.p false [.c (.int .i64 ((i:Nat):Int))])] [.row 135 2 (A0 ZZ e) 2] st) [] [16] (by decide) ?_ ?_ ?_
 simp only[*,go_sem,seval]
 rintro _ _ ⟨e,f⟩ ⟨sl,ob,n⟩ _ g l o h _
 simp only[go_sem,seval,Zc] at l
 obtain ⟨⟨q,_,_,_,_,_⟩,_,hn⟩:=l
 subst hn
 have t:=WF.slotL o q (j:=0) rfl
 have:=ZB g
 have:=ZC g
 have:=Zj (ZA g) t
 simp only[*,go_sem,seval]
 refine Ze h (fun _ h=>?_) fun _ h=>?_<;>try simp only[*,go_sem,seval]
 obtain ⟨u,h⟩:=Zs h
 try simp only[Nat.reduceLeDiff] at u
 simp only[*,go_sem,seval]
 refine ⟨_,[],[337],(A3 h).symm,by decide,?_⟩
 simp only[*,go_sem,seval]
 refine Ze h (fun k h=>?_) (fun k h=>?_)
 have v:=k
 obtain ⟨w,h⟩:=Zs h
 try simp only[Nat.reduceLeDiff] at w
 simp only[*,go_sem,seval]
 refine ⟨_,[],[337],(A3 h).symm,by decide,?_⟩
 simp only[*,go_sem,seval]
 have v:=k
 obtain ⟨x,h⟩:=Zs h
 try simp only[Nat.reduceLeDiff] at x
 obtain ⟨y,h⟩:=Zs h
 try simp only[Nat.reduceLeDiff] at y
 simp only[*,go_sem,seval]
 refine ⟨_,[],[465],(A3 h).symm,by decide,?_⟩
 simp only[*,go_sem,seval]
 rintro ⟨e,f⟩ ⟨sl,ob,n⟩ m _ h
 simp only[go_sem,seval,Zc] at m
 obtain ⟨⟨_,_,_,_,_,_⟩,_,hn⟩:=m
 subst hn
 have:=Zz (a.length)
 simp only[*,go_sem,seval]
 refine Ze h (fun _ h=>?_) fun _ h=>?_<;>try simp only[*,go_sem,seval]
 cases h
 simp only[*,go_sem,seval]
 obtain ⟨z,h⟩:=Zs h
 try simp only[Nat.reduceLeDiff] at z
 cases h
 simp only[*,go_sem,seval]
theorem Zee {r_0:Zf} {r:(List Zr)} (h:Xv r_0=some r):Zl prog J0 115 [(true,ZG r_0)] [(false,[(true,.sl 60 5 (A0 ZK r))])]:=by
 refine fnk func115 rfl ?_
 unfold Xv at h
 simp only[fnS,f115,Zm,go_sem,seval]
 refine Zh h (fun i a st=>IV [(1,.bp 0 0),(3,.p false [.row 1]),(4,.p false [.c (.int .i64 ((i:Nat):Int))])] [.box 104 [.c (.str r_0.name),.c (.int .i64 r_0.priority),.c (.sl 60 5 (A0 ZK r_0.cond)),.c (.sl 166 3 (A0 ZD r_0.thn))],.row 60 5 (A0 ZK a) 1] st) [(true,32,1)] [0,32] (by decide) ?_ ?_ ?_
 simp only[*,go_sem,seval]
 rintro _ _ a ⟨sl,ob,n⟩ _ b d f h _
 simp only[go_sem,seval,Zc] at d
 obtain ⟨⟨_,_,_⟩,g,_,hn⟩:=d
 subst hn
 have k:=WF.boxL f g (j:=2) rfl
 have:=ZB b
 have:=ZC b
 have:=Zj (ZA b) k
 simp only[*,go_sem,seval]
 refine Ze h (fun _ h=>?_) fun _ h=>?_<;>try simp only[*,go_sem,seval]
 obtain ⟨l,h⟩:=Zs h
 try simp only[Nat.reduceLeDiff] at l
 simp only[*,go_sem,seval]
 refine ⟨_,[],[0,306],(A3 h).symm,by decide,?_⟩
 simp only[*,go_sem,seval]
 refine ⟨_,[],[0,1],(A3 h).symm,by decide,?_⟩
 simp only[*,go_sem,seval]
 rintro a ⟨sl,ob,n⟩ e _ h
 simp only[go_sem,seval,Zc] at e
 obtain ⟨⟨_,_,_⟩,_,_,hn⟩:=e
 subst hn
 have:=Zz (r_0.cond.length)
 cases h
 simp only[*,go_sem,seval]
theorem ZiH {a_0:(List ByteArray)} {b_1:(List ByteArray)} {r:Bool} (h:ZdL a_0 b_1=some r):Zl prog J0 196 [(false,[.sl 9 1 (A0 Zw a_0)]),(false,[.sl 9 1 (A0 Zw b_1)])] [(false,[(false,.bool r)])]:=by
 refine fnk func196 rfl ?_
 unfold ZdL at h
 simp only[fnS,f196,Zm,go_sem,seval]
 refine Ze h (fun _ h=>?_) fun _ h=>?_<;>try simp only[*,go_sem,seval]
 cases h
 simp only[*,go_sem,seval]
 refine Zh h (fun i _ st=>IV [(0,.p false [.c (.sl 9 1 (A0 Zw a_0))]),(1,.p false [.c (.sl 9 1 (A0 Zw b_1))]),(5,.p false [.c (.int .i64 ((i:Nat):Int))])] [] st) [] [] (by decide) ?_ ?_ ?_
 simp only[*,go_sem,seval]
 rintro _ _ ⟨⟩ ⟨sl,ob,n⟩ _ a b e h f
 simp only[go_sem,seval,Zc] at b
 obtain ⟨⟨g,_,_⟩,hn⟩:=b
 subst hn
 have k:=WF.slotL e g (j:=0) rfl
 have:=ZB a
 have:=ZC a
 have:=Zj (ZA a) k
 obtain ⟨_,_,_,l,h⟩:=Zci h
 simp only[A4] at l
 simp only[*,go_sem,seval]
 refine Ze h (fun _ h=>?_) fun _ h=>?_<;>try simp only[*,go_sem,seval]
 refine ⟨_,[],[],(A3 h).symm,by decide,?_⟩
 simp only[*,go_sem,seval]
 replace h:=Zo h f
 cases h
 simp only[*,go_sem,seval]
 rintro ⟨⟩ ⟨sl,ob,n⟩ d _ h
 simp only[go_sem,seval,Zc] at d
 obtain ⟨⟨_,_,_⟩,hn⟩:=d
 subst hn
 have:=Zz (a_0.length)
 cases h
 simp only[*,go_sem,seval]
theorem Zpb {a:(List Int)} {b:Int} {r:(List Int)} (h:Zga a b=some r):Zl prog J0 271 [(false,[.sl 3 1 (A0 Z5 a)]),(false,[.int .i64 b])] [(false,[(false,.sl 3 1 (A0 Z5 r))])]:=by
 refine fnk func271 rfl ?_
 unfold Zga at h
 simp only[fnS,f271,Zm,go_sem,seval]
 refine Zh h (fun i s st=>match s with | (d,e)=>IV [(0,.p false [.c (.sl 3 1 (A0 Z5 a))]),(1,.p false [.c (.int .i64 b)]),(5,.p false [.row 0]),(6,.p false [.c (.bool e)]),(7,.p false [.c (.int .i64 ((i:Nat):Int))])] [.row 3 1 (A0 Z5 d) 2] st) [] [16] (by decide) ?_ ?_ ?_
 simp only[*,go_sem,seval]
 rintro _ _ ⟨d,e⟩ ⟨sl,ob,n⟩ _ f k m h _
 simp only[go_sem,seval,Zc] at k
 obtain ⟨⟨o,_,_,_,_⟩,_,hn⟩:=k
 subst hn
 have q:=WF.slotL m o (j:=0) rfl
 have:=ZB f
 have:=ZC f
 have:=Zj (ZA f) q
 simp only[*,go_sem,seval]
 refine Ze h (fun _ h=>?_) fun _ h=>?_<;>try simp only[*,go_sem,seval]
 obtain ⟨t,h⟩:=Zs h
 try simp only[Nat.reduceLeDiff] at t
 simp only[*,go_sem,seval]
 refine ⟨_,[],[321],(A3 h).symm,by decide,?_⟩
 simp only[*,go_sem,seval]
 iterate 2 refine Ze h (fun _ h=>?_) fun _ h=>?_<;>try simp only[*,go_sem,seval]
 obtain ⟨u,h⟩:=Zs h
 try simp only[Nat.reduceLeDiff] at u
 obtain ⟨v,h⟩:=Zs h
 try simp only[Nat.reduceLeDiff] at v
 simp only[*,go_sem,seval]
 refine ⟨_,[],[513],(A3 h).symm,by decide,?_⟩
 simp only[*,go_sem,seval]
 obtain ⟨w,h⟩:=Zs h
 try simp only[Nat.reduceLeDiff] at w
 simp only[*,go_sem,seval]
 refine ⟨_,[],[433],(A3 h).symm,by decide,?_⟩
 simp only[*,go_sem,seval]
 obtain ⟨x,h⟩:=Zs h
 try simp only[Nat.reduceLeDiff] at x
 simp only[*,go_sem,seval]
 refine ⟨_,[],[321],(A3 h).symm,by decide,?_⟩
 simp only[*,go_sem,seval]
 rintro ⟨d,e⟩ ⟨sl,ob,n⟩ l _ h
 simp only[go_sem,seval,Zc] at l
 obtain ⟨⟨_,_,_,_,_⟩,_,hn⟩:=l
 subst hn
 have:=Zz (a.length)
 simp only[*,go_sem,seval]
 refine Ze h (fun _ h=>?_) fun _ h=>?_<;>try simp only[*,go_sem,seval]
 cases h
 simp only[*,go_sem,seval]
 obtain ⟨y,h⟩:=Zs h
 try simp only[Nat.reduceLeDiff] at y
 cases h
 simp only[*,go_sem,seval]
theorem Ze0 {a_0:(List Int)} {b_1:(List Int)} {r:Bool} (h:ZaN a_0 b_1=some r):Zl prog J0 231 [(false,[.sl 3 1 (A0 Z5 a_0)]),(false,[.sl 3 1 (A0 Z5 b_1)])] [(false,[(false,.bool r)])]:=by
 refine fnk func231 rfl ?_
 unfold ZaN at h
 simp only[fnS,f231,Zm,go_sem,seval]
 refine Ze h (fun _ h=>?_) fun _ h=>?_<;>try simp only[*,go_sem,seval]
 cases h
 simp only[*,go_sem,seval]
 refine Zh h (fun i _ st=>IV [(0,.p false [.c (.sl 3 1 (A0 Z5 a_0))]),(1,.p false [.c (.sl 3 1 (A0 Z5 b_1))]),(5,.p false [.c (.int .i64 ((i:Nat):Int))])] [] st) [] [] (by decide) ?_ ?_ ?_
 simp only[*,go_sem,seval]
 rintro _ _ ⟨⟩ ⟨sl,ob,n⟩ _ a b e h f
 simp only[go_sem,seval,Zc] at b
 obtain ⟨⟨g,_,_⟩,hn⟩:=b
 subst hn
 have k:=WF.slotL e g (j:=0) rfl
 have:=ZB a
 have:=ZC a
 have:=Zj (ZA a) k
 obtain ⟨_,_,_,l,h⟩:=Zci h
 simp only[A4] at l
 simp only[*,go_sem,seval]
 refine Ze h (fun _ h=>?_) fun _ h=>?_<;>try simp only[*,go_sem,seval]
 replace h:=Zo h f
 cases h
 simp only[*,go_sem,seval]
 refine ⟨_,[],[],(A3 h).symm,by decide,?_⟩
 simp only[*,go_sem,seval]
 rintro ⟨⟩ ⟨sl,ob,n⟩ d _ h
 simp only[go_sem,seval,Zc] at d
 obtain ⟨⟨_,_,_⟩,hn⟩:=d
 subst hn
 have:=Zz (a_0.length)
 cases h
 simp only[*,go_sem,seval]
theorem ZHf {l_0:(List Int)} {r:(List Int)} (h:ZFr l_0=some r):Zl prog J0 303 [(false,[.sl 3 1 (A0 Z5 l_0)])] [(false,[(false,.sl 3 1 (A0 Z5 r))])]:=by
 refine fnk func303 rfl ?_
 unfold ZFr at h
 simp only[fnS,f303,Zm,go_sem,seval]
 obtain ⟨_,h⟩:=Zs h
 cases h
 simp only[*,go_sem,seval]
theorem ZEO {l_0:(List Int)} {rounds_1:(List Int)} {round_2:Int} {r:Bool} (h:ZDx l_0 rounds_1 round_2=some r):Zl prog J0 272 [(false,[.sl 3 1 (A0 Z5 l_0)]),(false,[.sl 3 1 (A0 Z5 rounds_1)]),(false,[.int .i64 round_2])] [(false,[(false,.bool r)])]:=by
 refine fnk func272 rfl ?_
 unfold ZDx at h
 simp only[fnS,f272,Zm,go_sem,seval]
 refine Zh h (fun i _ st=>IV [(0,.p false [.c (.sl 3 1 (A0 Z5 l_0))]),(1,.p false [.c (.sl 3 1 (A0 Z5 rounds_1))]),(2,.p false [.c (.int .i64 round_2)]),(7,.p false [.c (.int .i64 ((i:Nat):Int))])] [] st) [] [] (by decide) ?_ ?_ ?_
 simp only[*,go_sem,seval]
 rintro _ _ ⟨⟩ ⟨sl,ob,n⟩ _ a b f h d
 simp only[go_sem,seval,Zc] at b
 obtain ⟨⟨g,_,_,_⟩,hn⟩:=b
 subst hn
 have k:=WF.slotL f g (j:=0) rfl
 have:=ZB a
 have:=ZC a
 have:=Zj (ZA a) k
 obtain ⟨_,_,_,_,h⟩:=Zci h
 simp only[*,go_sem,seval]
 refine Ze h (fun _ h=>?_) fun _ h=>?_<;>try simp only[*,go_sem,seval]
 replace h:=Zo h d
 cases h
 simp only[*,go_sem,seval]
 refine Ze h (fun _ h=>?_) fun _ h=>?_<;>try simp only[*,go_sem,seval]
 replace h:=Zo h d
 cases h
 simp only[*,go_sem,seval]
 refine ⟨_,[],[],(A3 h).symm,by decide,?_⟩
 simp only[*,go_sem,seval]
 rintro ⟨⟩ ⟨sl,ob,n⟩ e _ h
 simp only[go_sem,seval,Zc] at e
 obtain ⟨⟨_,_,_,_⟩,hn⟩:=e
 subst hn
 have:=Zz (l_0.length)
 cases h
 simp only[*,go_sem,seval]
theorem ZFh {l_0:(List Int)} {rounds_1:(List Int)} {r:Bool} (h:ZDR l_0 rounds_1=some r):Zl prog J0 273 [(false,[.sl 3 1 (A0 Z5 l_0)]),(false,[.sl 3 1 (A0 Z5 rounds_1)])] [(false,[(false,.bool r)])]:=by
 refine fnk func273 rfl ?_
 unfold ZDR at h
 simp only[fnS,f273,Zm,go_sem,seval]
 refine Zh h (fun i _ st=>IV [(0,.p false [.c (.sl 3 1 (A0 Z5 l_0))]),(1,.p false [.c (.sl 3 1 (A0 Z5 rounds_1))]),(5,.p false [.c (.int .i64 ((i:Nat):Int))])] [] st) [] [] (by decide) ?_ ?_ ?_
 simp only[*,go_sem,seval]
 rintro _ _ ⟨⟩ ⟨sl,ob,n⟩ _ a b e h f
 simp only[go_sem,seval,Zc] at b
 obtain ⟨⟨g,_,_⟩,hn⟩:=b
 subst hn
 have k:=WF.slotL e g (j:=0) rfl
 have:=ZB a
 have:=ZC a
 have:=Zj (ZA a) k
 obtain ⟨_,_,_,_,h⟩:=Zci h
 simp only[*,go_sem,seval]
 refine Ze h (fun _ h=>?_) fun _ h=>?_<;>try simp only[*,go_sem,seval]
 replace h:=Zo h f
 cases h
 simp only[*,go_sem,seval]
 refine ⟨_,[],[],(A3 h).symm,by decide,?_⟩
 simp only[*,go_sem,seval]
 rintro ⟨⟩ ⟨sl,ob,n⟩ d _ h
 simp only[go_sem,seval,Zc] at d
 obtain ⟨⟨_,_,_⟩,hn⟩:=d
 subst hn
 have:=Zz (l_0.length)
 cases h
 simp only[*,go_sem,seval]
theorem ZMo {a_0:(List Zp)} {b_1:(List Zp)} {r:Bool} (h:ZLF a_0 b_1=some r):Zl prog J0 35 [(false,[.sl 135 2 (A0 ZZ a_0)]),(false,[.sl 135 2 (A0 ZZ b_1)])] [(false,[(false,.bool r)])]:=by
 refine fnk func35 rfl ?_
 unfold ZLF at h
 simp only[fnS,f35,Zm,go_sem,seval]
 refine Ze h (fun _ h=>?_) fun _ h=>?_<;>try simp only[*,go_sem,seval]
 cases h
 simp only[*,go_sem,seval]
 refine Zh h (fun i _ st=>IV [(0,.p false [.c (.sl 135 2 (A0 ZZ a_0))]),(1,.p false [.c (.sl 135 2 (A0 ZZ b_1))]),(5,.p false [.c (.int .i64 ((i:Nat):Int))])] [] st) [] [] (by decide) ?_ ?_ ?_
 simp only[*,go_sem,seval]
 rintro _ _ ⟨⟩ ⟨sl,ob,n⟩ _ a b e h f
 simp only[go_sem,seval,Zc] at b
 obtain ⟨⟨g,_,_⟩,hn⟩:=b
 subst hn
 have k:=WF.slotL e g (j:=0) rfl
 have:=ZB a
 have:=ZC a
 have:=Zj (ZA a) k
 obtain ⟨_,_,_,l,h⟩:=Zci h
 simp only[A4] at l
 simp only[*,go_sem,seval]
 refine Ze h (fun _ h=>?_) fun _ h=>?_<;>try simp only[*,go_sem,seval]
 refine ⟨_,[],[],(A3 h).symm,by decide,?_⟩
 simp only[*,go_sem,seval]
 replace h:=Zo h f
 cases h
 simp only[*,go_sem,seval]
 rintro ⟨⟩ ⟨sl,ob,n⟩ d _ h
 simp only[go_sem,seval,Zc] at d
 obtain ⟨⟨_,_,_⟩,hn⟩:=d
 subst hn
 have:=Zz (a_0.length)
 cases h
 simp only[*,go_sem,seval]
end
section
set_option linter.unusedSimpArgs false
set_option linter.unusedVariables false
set_option maxRecDepth 1000000
set_option maxHeartbeats 4000000
theorem ZlS {a_0:Zd} {b_1:Zd} {r:Bool} (h:Zbe a_0 b_1=some r):Zl prog J0 129 [(true,Zq a_0),(true,Zq b_1)] [(false,[(false,.bool r)])]:=by
 refine fnk func129 rfl ?_
 unfold Zbe at h
 simp only[fnS,f129,Zm,go_sem,seval]
 refine Ze h (fun _ h=>?_) fun _ h=>?_<;>try simp only[*,go_sem,seval]
 refine Za h fun _ a h=>Zb (ZkF a) ?_
 iterate 2 (cases h;simp only[*,go_sem,seval])
theorem YC {f_0:Zd} {r:Zd} (h:Yl f_0=some r):Zl prog J0 103 [(true,Zq f_0)] [(true,[(false,.str r.rel),(false,.sl 9 1 (A0 Zw r.args))])]:=by
 refine fnk func103 rfl ?_
 unfold Yl at h
 simp only[fnS,f103,Zm,go_sem,seval]
 refine Za h fun _ a h=>Zb (ZfK a) ?_
 cases h
 simp only[*,go_sem,seval]
theorem ZfA {s_0:ByteArray} {r:Bool} (h:Zdg s_0=some r):Zl prog J0 166 [(false,[.str s_0])] [(false,[(false,.bool r)])]:=by
 refine fnk func166 rfl ?_
 unfold Zdg at h
 simp only[fnS,f166,Zm,go_sem,seval]
 refine Za h fun _ a h=>Zb (XS a) ?_
 simp only[*,go_sem,seval]
 refine Ze h (fun _ h=>?_) fun _ h=>?_<;>try simp only[*,go_sem,seval]
 obtain ⟨_,_,b,h⟩:=ZpV h
 try simp only[seval] at b
 iterate 2 (cases h;simp only[*,go_sem,seval])
theorem ZcG {s_0:ByteArray} {r:Bool} (h:Zcp s_0=some r):Zl prog J0 229 [(false,[.str s_0])] [(false,[(false,.bool r)])]:=by
 refine fnk func229 rfl ?_
 unfold Zcp at h
 simp only[fnS,f229,Zm,go_sem,seval]
 refine Ze h (fun _ h=>?_) fun _ h=>?_<;>try simp only[*,go_sem,seval]
 obtain ⟨_,_,a,h⟩:=ZpV h
 try simp only[seval] at a
 simp only[*,go_sem,seval]
 refine Ze h (fun _ h=>?_) fun _ h=>?_<;>try simp only[*,go_sem,seval]
 obtain ⟨_,h⟩:=Zs h
 simp only[*,go_sem,seval]
 refine Za h fun _ b h=>Zb (XS b) ?_
 iterate 3 (cases h;simp only[*,go_sem,seval])
theorem ZbF {s_0:ByteArray} {r:(Int × Bool)} (h:QD s_0=some r):Zl prog J0 259 [(false,[.str s_0])] [(false,[(false,.int .i64 r.1)]),(false,[(false,.bool r.2)])]:=by
 refine fnk func259 rfl ?_
 unfold QD at h
 simp only[fnS,f259,Zm,go_sem,seval]
 iterate 2 ((refine Ze h (fun _ h=>?_) fun _ h=>?_<;>try simp only[*,go_sem,seval]);cases h;simp only[*,go_sem,seval])
 refine Za h fun _ a h=>Zb (ZsH a) ?_
 simp only[*,go_sem,seval]
 iterate 2 refine Ze h (fun _ h=>?_) fun _ h=>?_<;>try simp only[*,go_sem,seval]
 cases h
 simp only[*,go_sem,seval]
 refine Ze h (fun _ h=>?_) fun _ h=>?_<;>try simp only[*,go_sem,seval]
 cases h
 simp only[*,go_sem,seval]
 refine Za h fun _ b h=>Zb (ZjM b) ?_
 simp only[*,go_sem,seval]
 refine Ze h (fun _ h=>?_) fun _ h=>?_<;>try simp only[*,go_sem,seval]
 iterate 3 (cases h;simp only[*,go_sem,seval])
theorem ZnX {x_0:Zr} {r:(List ByteArray)} (h:Zgs x_0=some r):Zl prog J0 282 [(true,ZK x_0)] [(false,[(false,.sl 9 1 (A0 Zw r))])]:=by
 refine fnk func282 rfl ?_
 unfold Zgs at h
 simp only[fnS,f282,Zm,go_sem,seval]
 refine Za h fun _ a h=>Zb (ZfK a) ?_
 obtain ⟨b,h⟩:=Zs h
 try simp only[Nat.reduceLeDiff] at b
 cases h
 simp only[*,go_sem,seval]
theorem ZgC {r_0:Zf} {r:(List ByteArray)} (h:XY r_0=some r):Zl prog J0 277 [(true,ZG r_0)] [(false,[(false,.sl 9 1 (A0 Zw r))])]:=by
 refine fnk func277 rfl ?_
 unfold XY at h
 simp only[fnS,f277,Zm,go_sem,seval]
 refine Zh h (fun i a st=>IV [(3,.p false [.row 0]),(7,.p false [.c (.sl 166 3 (A0 ZD r_0.thn))]),(8,.p false [.c (.int .i64 ((r_0.thn.length:Nat):Int))]),(9,.p false [.c (.int .i64 ((i:Nat):Int))])] [.row 9 1 (A0 Zw a) 2] st) [(false,3,0)] [112] (by decide) ?_ ?_ ?_
 simp only[*,go_sem,seval]
 rintro _ _ a ⟨sl,ob,n⟩ _ b d f h _
 simp only[go_sem,seval,Zc] at d
 obtain ⟨⟨_,g,_,_⟩,_,hn⟩:=d
 subst hn
 have k:=WF.slotL f g (j:=0) rfl
 have:=ZB b
 have:=ZC b
 have:=Zj (ZA b) k
 simp only[*,go_sem,seval]
 refine Ze h (fun _ h=>?_) fun _ h=>?_<;>try simp only[*,go_sem,seval]
 obtain ⟨l,h⟩:=Zs h
 try simp only[Nat.reduceLeDiff] at l
 simp only[*,go_sem,seval]
 refine ⟨_,[],[289],(A3 h).symm,by decide,?_⟩
 simp only[*,go_sem,seval]
 refine Ze h (fun _ h=>?_) fun _ h=>?_<;>try simp only[*,go_sem,seval]
 obtain ⟨m,h⟩:=Zs h
 try simp only[Nat.reduceLeDiff] at m
 simp only[*,go_sem,seval]
 refine ⟨_,[],[289],(A3 h).symm,by decide,?_⟩
 simp only[*,go_sem,seval]
 refine ⟨_,[],[0],(A3 h).symm,by decide,?_⟩
 simp only[*,go_sem,seval]
 rintro a ⟨sl,ob,n⟩ e _ h
 simp only[go_sem,seval,Zc] at e
 obtain ⟨⟨_,_,_,_⟩,_,hn⟩:=e
 subst hn
 have:=Zz (r_0.thn.length)
 simp only[*,go_sem,seval]
 refine Za h fun _ o h=>Zb (XK o) ?_
 cases h
 simp only[*,go_sem,seval]
theorem ZnK {r_0:Zf} {r:(List ByteArray)} (h:Zbm r_0=some r):Zl prog J0 292 [(true,ZG r_0)] [(false,[(false,.sl 9 1 (A0 Zw r))])]:=by
 refine fnk func292 rfl ?_
 unfold Zbm at h
 simp only[fnS,f292,Zm,go_sem,seval]
 refine Zh h (fun i a st=>IV [(3,.p false [.row 0]),(7,.p false [.c (.sl 60 5 (A0 ZK r_0.cond))]),(8,.p false [.c (.int .i64 ((r_0.cond.length:Nat):Int))]),(9,.p false [.c (.int .i64 ((i:Nat):Int))])] [.row 9 1 (A0 Zw a) 2] st) [(false,3,0)] [112] (by decide) ?_ ?_ ?_
 simp only[*,go_sem,seval]
 rintro _ _ a ⟨sl,ob,n⟩ _ b d f h _
 simp only[go_sem,seval,Zc] at d
 obtain ⟨⟨_,g,_,_⟩,_,hn⟩:=d
 subst hn
 have k:=WF.slotL f g (j:=0) rfl
 have:=ZB b
 have:=ZC b
 have:=Zj (ZA b) k
 simp only[*,go_sem,seval]
 refine Ze h (fun _ h=>?_) fun _ h=>?_<;>try simp only[*,go_sem,seval]
 obtain ⟨l,h⟩:=Zs h
 try simp only[Nat.reduceLeDiff] at l
 simp only[*,go_sem,seval]
 refine ⟨_,[],[289],(A3 h).symm,by decide,?_⟩
 simp only[*,go_sem,seval]
 refine Ze h (fun _ h=>?_) fun _ h=>?_<;>try simp only[*,go_sem,seval]
 obtain ⟨m,h⟩:=Zs h
 try simp only[Nat.reduceLeDiff] at m
 simp only[*,go_sem,seval]
 refine ⟨_,[],[289],(A3 h).symm,by decide,?_⟩
 simp only[*,go_sem,seval]
 refine ⟨_,[],[0],(A3 h).symm,by decide,?_⟩
 simp only[*,go_sem,seval]
 rintro a ⟨sl,ob,n⟩ e _ h
 simp only[go_sem,seval,Zc] at e
 obtain ⟨⟨_,_,_,_⟩,_,hn⟩:=e
 subst hn
 have:=Zz (r_0.cond.length)
 simp only[*,go_sem,seval]
 refine Za h fun _ o h=>Zb (XK o) ?_
 cases h
 simp only[*,go_sem,seval]
theorem Zjo {a_0:Zg} {b_1:Zg} {r:Bool} (h:ZaK a_0 b_1=some r):Zl prog J0 239 [(true,ZL a_0),(true,ZL b_1)] [(false,[(false,.bool r)])]:=by
 refine fnk func239 rfl ?_
 unfold ZaK at h
 simp only[fnS,f239,Zm,go_sem,seval]
 refine Ze h (fun _ h=>?_) fun _ h=>?_<;>try simp only[*,go_sem,seval]
 refine Za h fun _ a h=>Zb (ZgG a) ?_
 simp only[*,go_sem,seval]
 refine Ze h (fun _ h=>?_) fun _ h=>?_<;>try simp only[*,go_sem,seval]
 refine Za h fun _ b h=>Zb (ZgG b) ?_
 iterate 3 (cases h;simp only[*,go_sem,seval])
theorem Zpp {b:Zu} {r:(List Int)} (h:ZfP b=some r):Zl prog J0 178 [(true,Qw b)] [(false,[(false,.sl 3 1 (A0 Z5 r))])]:=by
 refine fnk func178 rfl ?_
 unfold ZfP at h
 simp only[fnS,f178,Zm,go_sem,seval]
 refine Za h fun f B h=>Zb (Zoq B) ?_
 obtain ⟨_,h⟩:=Zs h
 simp only[*,go_sem,seval]
 refine XH h (fun s st=>match s with | (t,u,e)=>IV [(1,.bp 0 0),(3,.p false [.row 1]),(4,.p false [.row 2]),(5,.p false [.c (.int .i64 e)]),(20,.p false [.c (.int .i64 ((A6 b.nodes:Nat):Int))]),(21,.p false [.c (.int .i64 u)])] [.box 91 [.c (.int .i64 b.nodes),.c (.sl 144 3 (A0 ZL b.reasons))],.row 3 1 (A0 Z5 f) 2,.row 3 1 (A0 Z5 t) 2] st) [] [0,48,112] (by decide) ?_ ?_
 simp only[*,go_sem,seval]
 rintro ⟨t,u,e⟩ ⟨sl,ob,n⟩ _ v _ h C
 simp only[go_sem,seval,Zc] at v
 obtain ⟨⟨_,_,_,_,_,_⟩,_,_,_,hn⟩:=v
 subst hn
 simp only[*,go_sem,seval]
 refine Ze h (fun _ h=>?_) fun _ h=>?_<;>try simp only[*,go_sem,seval]
 obtain ⟨_,h⟩:=Zs h
 obtain ⟨_,_,h⟩:=ZJ h
 obtain ⟨_,h⟩:=Zs h
 obtain ⟨_,_,h⟩:=ZJ h
 simp only[*,go_sem,seval]
 refine ⟨_,[],[0,1,2],(A3 h).symm,by decide,?_⟩
 simp only[*,go_sem,seval]
 refine XH h (fun s st=>match s with | (l,g,k)=>IV [(1,.bp 0 0),(3,.p false [.row 1]),(4,.p false [.row 2]),(5,.p false [.c (.int .i64 e)]),(7,.p false [.c (.int .i64 g)]),(8,.p false [.c (.int .i64 k)])] [.box 91 [.c (.int .i64 b.nodes),.c (.sl 144 3 (A0 ZL b.reasons))],.row 3 1 (A0 Z5 f) 2,.row 3 1 (A0 Z5 l) 2] st) [] [0,1,2] (by decide) ?_ ?_
 simp only[*,go_sem,seval]
 rintro ⟨l,g,k⟩ ⟨sl,ob,n⟩ _ w _ h D
 simp only[go_sem,seval,Zc] at w
 obtain ⟨⟨_,_,_,_,_,_⟩,_,_,_,hn⟩:=w
 subst hn
 simp only[*,go_sem,seval]
 refine Ze h (fun _ h=>?_) fun _ h=>?_<;>try simp only[*,go_sem,seval]
 refine Zh h (fun i d st=>IV [(1,.bp 0 0),(3,.p false [.row 1]),(4,.p false [.row 2]),(5,.p false [.c (.int .i64 e)]),(7,.p false [.c (.int .i64 g)]),(8,.p false [.c (.int .i64 k)]),(9,.p false [.row 3]),(38,.p false [.c (.sl 144 3 (A0 ZL b.reasons))]),(39,.p false [.c (.int .i64 ((b.reasons.length:Nat):Int))]),(40,.p false [.c (.int .i64 ((i:Nat):Int))])] [.box 91 [.c (.int .i64 b.nodes),.c (.sl 144 3 (A0 ZL b.reasons))],.row 3 1 (A0 Z5 f) 2,.row 3 1 (A0 Z5 l) 2,.row 3 1 (A0 Z5 d) 2] st) [(false,9,0)] [0,1,2,131] (by decide) ?_ ?_ ?_
 simp only[*,go_sem,seval]
 rintro _ _ d ⟨sl,ob,n⟩ _ m x E h _
 simp only[go_sem,seval,Zc] at x
 obtain ⟨⟨_,_,_,_,_,_,_,F,_,_⟩,_,_,_,_,hn⟩:=x
 subst hn
 have G:=WF.slotL E F (j:=0) rfl
 have:=ZB m
 have:=ZC m
 have:=Zj (ZA m) G
 obtain ⟨_,h⟩:=Zs h
 obtain ⟨_,_,h⟩:=ZJ h
 simp only[*,go_sem,seval]
 refine Ze h (fun _ h=>?_) fun _ h=>?_<;>try simp only[*,go_sem,seval]
 obtain ⟨_,h⟩:=Zs h
 obtain ⟨_,_,h⟩:=ZJ h
 simp only[*,go_sem,seval]
 refine Ze h (fun _ h=>?_) fun _ h=>?_<;>try simp only[*,go_sem,seval]
 refine Za h fun _ H h=>Zb (Zkh H) ?_
 simp only[*,go_sem,seval]
 refine Ze h (fun _ h=>?_) fun _ h=>?_<;>try simp only[*,go_sem,seval]
 obtain ⟨I,h⟩:=Zs h
 try simp only[Nat.reduceLeDiff] at I
 simp only[*,go_sem,seval]
 refine ⟨_,[],[0,1,2,484],(A3 h).symm,by decide,?_⟩
 simp only[*,go_sem,seval]
 refine ⟨_,[],[0,1,2,3],(A3 h).symm,by decide,?_⟩
 simp only[*,go_sem,seval]
 refine ⟨_,[],[0,1,2,3],(A3 h).symm,by decide,?_⟩
 simp only[*,go_sem,seval]
 refine ⟨_,[],[0,1,2,3],(A3 h).symm,by decide,?_⟩
 simp only[*,go_sem,seval]
 rintro d ⟨sl,ob,n⟩ y _ h
 simp only[go_sem,seval,Zc] at y
 obtain ⟨⟨_,_,_,_,_,_,_,_,_,_⟩,_,_,_,_,hn⟩:=y
 subst hn
 have:=Zz (b.reasons.length)
 simp only[*,go_sem,seval]
 refine Ze h (fun _ h=>?_) fun _ h=>?_<;>try simp only[*,go_sem,seval]
 refine ⟨_,[],[0,1,2],(A3 h).symm,by decide,?_⟩
 simp only[*,go_sem,seval]
 refine Zh h (fun i o st=>IV [(1,.bp 0 0),(3,.p false [.row 1]),(4,.p false [.row 2]),(5,.p false [.c (.int .i64 e)]),(7,.p false [.c (.int .i64 g)]),(8,.p false [.c (.int .i64 k)]),(76,.p false [.row 3]),(77,.p false [.c (.int .i64 ((d.length:Nat):Int))]),(78,.p false [.c (.int .i64 ((i:Nat):Int))])] [.box 91 [.c (.int .i64 b.nodes),.c (.sl 144 3 (A0 ZL b.reasons))],.row 3 1 (A0 Z5 f) 2,.row 3 1 (A0 Z5 o) 2,.row 3 1 (A0 Z5 d) 2] st) [] [0,1,2,3] (by decide) ?_ ?_ ?_
 simp only[*,go_sem,seval]
 rintro _ _ o ⟨sl,ob,n⟩ _ q z J h _
 simp only[go_sem,seval,Zc] at z
 obtain ⟨⟨_,_,_,_,_,_,_,_,_⟩,_,_,_,K,hn⟩:=z
 subst hn
 have L:=WF.rowL J K
 have:=ZB q
 have:=ZC q
 have:=Zj (ZA q) L
 obtain ⟨_,h⟩:=Zs h
 obtain ⟨_,_,h⟩:=ZJ h
 simp only[*,go_sem,seval]
 refine ⟨_,[],[0,1,2,3],(A3 h).symm,by decide,?_⟩
 simp only[*,go_sem,seval]
 rintro o ⟨sl,ob,n⟩ A _ h
 simp only[go_sem,seval,Zc] at A
 obtain ⟨⟨_,_,_,_,_,_,_,_,_⟩,_,_,_,_,hn⟩:=A
 subst hn
 have:=Zz (d.length)
 simp only[*,go_sem,seval]
 refine ⟨_,[],[0,1,2],(A3 h).symm,by decide,?_⟩
 simp only[*,go_sem,seval]
 replace h:=Zo h D
 replace h:=Zo h C
 cases h
 simp only[*,go_sem,seval]
theorem QS {c_0:ZF} {n_1:Int} {r:(Int × ZF)} (h:Xb c_0 n_1=some r):ZaU prog J0 JF0 142 (.box 184 (Za7 c_0)) [(false,[.int .i64 n_1])] [(false,[(false,.int .i64 r.1)])] (.box 184 (Za7 r.2)):=by
 refine fnh func142 rfl ?_
 unfold Xb at h
 simp only[fnH,f142,ZcO,ZcW,Y9,go_sem,seval]
 refine Ze h (fun _ h=>?_) fun _ h=>?_<;>try simp only[*,go_sem,seval]
 cases h
 simp only[*,go_sem,seval]
 refine Ze h (fun _ h=>?_) fun _ h=>?_<;>try simp only[*,go_sem,seval]
 obtain ⟨_,a,h⟩:=ZJ h
 refine QC (Zdz a) ?_
 obtain ⟨_,h⟩:=Zs h
 cases h
 simp only[*,go_sem,seval]
 obtain ⟨_,b,h⟩:=ZJ h
 refine QC (Zdz b) ?_
 simp only[*,go_sem,seval]
 obtain ⟨_,c,h⟩:=ZJ h
 refine QC (Zdz c) ?_
 simp only[*,go_sem,seval]
 obtain ⟨_,d,h⟩:=ZJ h
 refine QC (Zdz d) ?_
 obtain ⟨_,h⟩:=Zs h
 cases h
 simp only[*,go_sem,seval]
theorem Zbv {s_0:ByteArray} {r:(Int × Bool)} (h:X0 s_0=some r):Zl prog J0 192 [(false,[.str s_0])] [(false,[(false,.int .i64 r.1)]),(false,[(false,.bool r.2)])]:=by
 refine fnk func192 rfl ?_
 unfold X0 at h
 simp only[fnS,f192,Zm,go_sem,seval]
 refine Za h fun _ g h=>Zb (Zat g) ?_
 simp only[*,go_sem,seval]
 refine Ze h (fun _ h=>?_) fun _ h=>?_<;>try simp only[*,go_sem,seval]
 refine Zh h (fun i a st=>IV [(0,.p false [.c (.str s_0)]),(4,.p false [.c (.int .i64 a)]),(5,.p false [.c (.int .i64 ((i:Nat):Int))])] [] st) [] [] (by decide) ?_ ?_ ?_
 simp only[*,go_sem,seval]
 rintro _ _ a ⟨sl,ob,n⟩ _ b d k h e
 simp only[go_sem,seval,Zc] at d
 obtain ⟨⟨l,_,_⟩,hn⟩:=d
 subst hn
 have m:=WF.slotS k l (j:=0) rfl
 have:=Znm b
 have:=Zuf b
 have:=Zj (Zrk b) m
 simp only[*,go_sem,seval]
 refine Ze h (fun _ h=>?_) fun _ h=>?_<;>try simp only[*,go_sem,seval]
 replace h:=Zo h e
 cases h
 simp only[*,go_sem,seval]
 refine Ze h (fun _ h=>?_) fun _ h=>?_<;>try simp only[*,go_sem,seval]
 replace h:=Zo h e
 cases h
 simp only[*,go_sem,seval]
 refine ⟨_,[],[],(A3 h).symm,by decide,?_⟩
 simp only[*,go_sem,seval]
 rintro a ⟨sl,ob,n⟩ f _ h
 simp only[go_sem,seval,Zc] at f
 obtain ⟨⟨_,_,_⟩,hn⟩:=f
 subst hn
 have:=Zz (s_0.size)
 simp only[*,go_sem,seval]
 refine Za h fun _ o h=>Zb (Zfs o) ?_
 simp only[*,go_sem,seval]
 refine Ze h (fun _ h=>?_) fun _ h=>?_<;>try simp only[*,go_sem,seval]
 iterate 3 (cases h;simp only[*,go_sem,seval])
theorem XR {s_0:ByteArray} {r:Bool} (h:X3 s_0=some r):Zl prog J0 160 [(false,[.str s_0])] [(false,[(false,.bool r)])]:=by
 refine fnk func160 rfl ?_
 unfold X3 at h
 simp only[fnS,f160,Zm,go_sem,seval]
 refine Zh h (fun i _ st=>IV [(0,.p false [.c (.str s_0)]),(3,.p false [.c (.int .i64 ((i:Nat):Int))])] [] st) [] [] (by decide) ?_ ?_ ?_
 simp only[*,go_sem,seval]
 rintro _ _ ⟨⟩ ⟨sl,ob,n⟩ _ a b e h f
 simp only[go_sem,seval,Zc] at b
 obtain ⟨⟨g,_⟩,hn⟩:=b
 subst hn
 have k:=WF.slotS e g (j:=0) rfl
 have:=Znm a
 have:=Zuf a
 have:=Zj (Zrk a) k
 simp only[*,go_sem,seval]
 refine Za h fun _ l h=>Zb (Zat l) ?_
 simp only[*,go_sem,seval]
 refine Ze h (fun _ h=>?_) fun _ h=>?_<;>try simp only[*,go_sem,seval]
 refine ⟨_,[],[],(A3 h).symm,by decide,?_⟩
 simp only[*,go_sem,seval]
 refine Za h fun _ m h=>Zb (Zat m) ?_
 simp only[*,go_sem,seval]
 refine Ze h (fun _ h=>?_) fun _ h=>?_<;>try simp only[*,go_sem,seval]
 refine ⟨_,[],[],(A3 h).symm,by decide,?_⟩
 simp only[*,go_sem,seval]
 replace h:=Zo h f
 cases h
 simp only[*,go_sem,seval]
 rintro ⟨⟩ ⟨sl,ob,n⟩ d _ h
 simp only[go_sem,seval,Zc] at d
 obtain ⟨⟨_,_⟩,hn⟩:=d
 subst hn
 have:=Zz (s_0.size)
 simp only[*,go_sem,seval]
 refine Za h fun _ o h=>Zb (Zat o) ?_
 cases h
 simp only[*,go_sem,seval]
theorem Znw {s_0:ByteArray} {r:(ByteArray × (List ByteArray) × Bool)} (h:Zd9 s_0=some r):Zl prog J0 301 [(false,[.str s_0])] [(false,[(false,.str r.1)]),(false,[(false,.sl 9 1 (A0 Zw r.2.1))]),(false,[(false,.bool r.2.2)])]:=by
 refine fnk func301 rfl ?_
 unfold Zd9 at h
 have a:Z2 ⟨#[40]⟩=true:=by decide
 have b:Z2 ⟨#[44]⟩=true:=by decide
 have c:Z2 ⟨#[]⟩=true:=by decide
 simp only[fnS,f301,Zm,go_sem,seval,a,b,c]
 refine Za h fun _ d h=>Zb (XU d) ?_
 simp only[*,go_sem,seval]
 refine Ze h (fun _ h=>?_) fun _ h=>?_<;>try simp only[*,go_sem,seval]
 cases h
 simp only[*,go_sem,seval]
 obtain ⟨_,h⟩:=Zs h
 obtain ⟨_,e,h⟩:=ZJ h
 try simp only[seval] at e
 simp only[*,go_sem,seval]
 refine Ze h (fun _ h=>?_) fun _ h=>?_<;>try simp only[*,go_sem,seval]
 cases h
 simp only[*,go_sem,seval]
 obtain ⟨_,_,_,h⟩:=ZpV h
 simp only[*,go_sem,seval]
 refine Ze h (fun _ h=>?_) fun _ h=>?_<;>try simp only[*,go_sem,seval]
 cases h
 simp only[*,go_sem,seval]
 obtain ⟨_,h⟩:=Zs h
 simp only[*,go_sem,seval]
 refine Ze h (fun _ h=>?_) fun _ h=>?_<;>try simp only[*,go_sem,seval]
 obtain ⟨_,h⟩:=Zs h
 obtain ⟨_,f,h⟩:=ZJ h
 try simp only[seval] at f
 cases h
 simp only[*,go_sem,seval]
 obtain ⟨_,h⟩:=Zs h
 obtain ⟨_,g,h⟩:=ZJ h
 try simp only[seval] at g
 simp only[*,go_sem,seval]
 refine Za h fun _ i h=>Zb (XU i) ?_
 cases h
 simp only[*,go_sem,seval]
theorem Xr {f_0:Zd} {r:Zd} (h:XM f_0=some r):Zl prog J0 98 [(true,Zq f_0)] [(true,[(false,.str r.rel),(false,.sl 9 1 (A0 Zw r.args))])]:=by
 refine fnk func98 rfl ?_
 unfold XM at h
 simp only[fnS,f98,Zm,go_sem,seval]
 refine Za h fun _ a h=>Zb (ZnT a) ?_
 cases h
 simp only[*,go_sem,seval]
theorem ZMf {a:Zr} {a_1:(List Zp)} {r:Zr} (h:ZKW a a_1=some r):Zl prog J0 200 [(true,ZK a),(false,[.sl 135 2 (A0 ZZ a_1)])] [(true,[(false,.int .i64 r.kind),(false,.str r.pattern.rel),(false,.sl 9 1 (A0 Zw r.pattern.args)),(false,.str r.left),(false,.str r.right)])]:=by
 refine fnk func200 rfl ?_
 unfold ZKW at h
 simp only[fnS,f200,Zm,go_sem,seval]
 refine Za h fun k l h=>Zb (ZLh l) ?_
 simp only[*,go_sem,seval]
 refine Za h fun m o h=>Zb (ZLh o) ?_
 simp only[*,go_sem,seval]
 refine Zh h (fun i d st=>IV [(1,.p false [.c (.sl 135 2 (A0 ZZ a_1))]),(2,.bp 0 0),(4,.bp 1 0),(5,.bp 2 0),(6,.p false [.c (.int .i64 ((i:Nat):Int))])] [.box 60 [.c (.int .i64 a.kind),.c (.str a.pattern.rel),.c (.sl 9 1 (A0 Zw a.pattern.args)),.c (.str a.left),.c (.str a.right)],.box 60 [.c (.int .i64 0),.c (.str ⟨#[]⟩),.nil 9 1,.c (.str ⟨#[]⟩),.c (.str ⟨#[]⟩)],.box 60 [.c (.int .i64 a.kind),.c (.str a.pattern.rel),.row 3,.c (.str k),.c (.str m)],.row 9 1 (A0 Zw d) 2] st) [(true,272,2)] [0,16,272,320] (by decide) ?_ ?_ ?_
 simp only[*,go_sem,seval]
 rintro _ _ d ⟨sl,ob,n⟩ _ e f q h _
 simp only[go_sem,seval,Zc] at f
 obtain ⟨⟨_,_,_,_,_⟩,t,_,_,_,hn⟩:=f
 subst hn
 have u:=WF.boxL q t (j:=2) rfl
 have:=ZB e
 have:=ZC e
 have:=Zj (ZA e) u
 simp only[*,go_sem,seval]
 refine Za h fun _ v h=>Zb (ZLh v) ?_
 obtain ⟨w,h⟩:=Zs h
 try simp only[Nat.reduceLeDiff] at w
 simp only[*,go_sem,seval]
 refine ⟨_,[],[0,1,2,292],(A3 h).symm,by decide,?_⟩
 simp only[*,go_sem,seval]
 rintro d ⟨sl,ob,n⟩ g _ h
 simp only[go_sem,seval,Zc] at g
 obtain ⟨⟨_,_,_,_,_⟩,_,_,_,_,hn⟩:=g
 subst hn
 have:=Zz (a.pattern.args.length)
 cases h
 simp only[*,go_sem,seval]
theorem ZlG {a_0:(List ByteArray)} {b_1:(List ByteArray)} {r:Bool} (h:ZcU a_0 b_1=some r):Zl prog J0 244 [(false,[.sl 9 1 (A0 Zw a_0)]),(false,[.sl 9 1 (A0 Zw b_1)])] [(false,[(false,.bool r)])]:=by
 refine fnk func244 rfl ?_
 unfold ZcU at h
 simp only[fnS,f244,Zm,go_sem,seval]
 refine Zh h (fun i _ st=>IV [(0,.p false [.c (.sl 9 1 (A0 Zw a_0))]),(1,.p false [.c (.sl 9 1 (A0 Zw b_1))]),(5,.p false [.c (.int .i64 ((i:Nat):Int))])] [] st) [] [] (by decide) ?_ ?_ ?_
 simp only[*,go_sem,seval]
 rintro _ _ ⟨⟩ ⟨sl,ob,n⟩ _ a b e h f
 simp only[go_sem,seval,Zc] at b
 obtain ⟨⟨g,_,_⟩,hn⟩:=b
 subst hn
 have k:=WF.slotL e g (j:=0) rfl
 have:=ZB a
 have:=ZC a
 have:=Zj (ZA a) k
 simp only[*,go_sem,seval]
 refine Za h fun _ l h=>Zb (Ym l) ?_
 simp only[*,go_sem,seval]
 refine Ze h (fun _ h=>?_) fun _ h=>?_<;>try simp only[*,go_sem,seval]
 refine ⟨_,[],[],(A3 h).symm,by decide,?_⟩
 simp only[*,go_sem,seval]
 replace h:=Zo h f
 cases h
 simp only[*,go_sem,seval]
 rintro ⟨⟩ ⟨sl,ob,n⟩ d _ h
 simp only[go_sem,seval,Zc] at d
 obtain ⟨⟨_,_,_⟩,hn⟩:=d
 subst hn
 have:=Zz (a_0.length)
 cases h
 simp only[*,go_sem,seval]
theorem ZgL {r_0:Zf} {r:(List ByteArray)} (h:QI r_0=some r):Zl prog J0 185 [(true,ZG r_0)] [(false,[(false,.sl 9 1 (A0 Zw r))])]:=by
 refine fnk func185 rfl ?_
 unfold QI at h
 simp only[fnS,f185,Zm,go_sem,seval]
 refine Zh h (fun i a st=>IV [(1,.bp 0 0),(3,.p false [.row 1]),(4,.p false [.c (.int .i64 ((i:Nat):Int))])] [.box 104 [.c (.str r_0.name),.c (.int .i64 r_0.priority),.c (.sl 60 5 (A0 ZK r_0.cond)),.c (.sl 166 3 (A0 ZD r_0.thn))],.row 9 1 (A0 Zw a) 2] st) [] [0,32] (by decide) ?_ ?_ ?_
 simp only[*,go_sem,seval]
 rintro _ _ a ⟨sl,ob,n⟩ _ b d f h _
 simp only[go_sem,seval,Zc] at d
 obtain ⟨⟨_,_,_⟩,g,_,hn⟩:=d
 subst hn
 have k:=WF.boxL f g (j:=3) rfl
 have:=ZB b
 have:=ZC b
 have:=Zj (ZA b) k
 simp only[*,go_sem,seval]
 refine Ze h (fun _ h=>?_) fun _ h=>?_<;>try simp only[*,go_sem,seval]
 refine Za h fun _ l h=>Zb (Y1 l) ?_
 simp only[*,go_sem,seval]
 refine ⟨_,[],[0,466],(A3 h).symm,by decide,?_⟩
 simp only[*,go_sem,seval]
 refine Ze h (fun _ h=>?_) fun _ h=>?_<;>try simp only[*,go_sem,seval]
 refine Za h fun _ m h=>Zb (Y1 m) ?_
 simp only[*,go_sem,seval]
 refine ⟨_,[],[0,466],(A3 h).symm,by decide,?_⟩
 simp only[*,go_sem,seval]
 refine ⟨_,[],[0,1],(A3 h).symm,by decide,?_⟩
 simp only[*,go_sem,seval]
 rintro a ⟨sl,ob,n⟩ e _ h
 simp only[go_sem,seval,Zc] at e
 obtain ⟨⟨_,_,_⟩,_,_,hn⟩:=e
 subst hn
 have:=Zz (r_0.thn.length)
 cases h
 simp only[*,go_sem,seval]
theorem ZnN {r_0:Zf} {r:(List ByteArray)} (h:Zbt r_0=some r):Zl prog J0 245 [(true,ZG r_0)] [(false,[(false,.sl 9 1 (A0 Zw r))])]:=by
 refine fnk func245 rfl ?_
 unfold Zbt at h
 simp only[fnS,f245,Zm,go_sem,seval]
 refine Zh h (fun i a st=>IV [(1,.bp 0 0),(3,.p false [.row 1]),(4,.p false [.c (.int .i64 ((i:Nat):Int))])] [.box 104 [.c (.str r_0.name),.c (.int .i64 r_0.priority),.c (.sl 60 5 (A0 ZK r_0.cond)),.c (.sl 166 3 (A0 ZD r_0.thn))],.row 9 1 (A0 Zw a) 2] st) [] [0,32] (by decide) ?_ ?_ ?_
 simp only[*,go_sem,seval]
 rintro _ _ a ⟨sl,ob,n⟩ _ b d f h _
 simp only[go_sem,seval,Zc] at d
 obtain ⟨⟨_,_,_⟩,g,_,hn⟩:=d
 subst hn
 have k:=WF.boxL f g (j:=2) rfl
 have:=ZB b
 have:=ZC b
 have:=Zj (ZA b) k
 simp only[*,go_sem,seval]
 refine Ze h (fun _ h=>?_) fun _ h=>?_<;>try simp only[*,go_sem,seval]
 refine Za h fun _ l h=>Zb (Y1 l) ?_
 simp only[*,go_sem,seval]
 refine ⟨_,[],[0,466],(A3 h).symm,by decide,?_⟩
 simp only[*,go_sem,seval]
 refine Ze h (fun _ h=>?_) fun _ h=>?_<;>try simp only[*,go_sem,seval]
 refine Za h fun _ m h=>Zb (Y1 m) ?_
 simp only[*,go_sem,seval]
 refine ⟨_,[],[0,466],(A3 h).symm,by decide,?_⟩
 simp only[*,go_sem,seval]
 refine ⟨_,[],[0,1],(A3 h).symm,by decide,?_⟩
 simp only[*,go_sem,seval]
 rintro a ⟨sl,ob,n⟩ e _ h
 simp only[go_sem,seval,Zc] at e
 obtain ⟨⟨_,_,_⟩,_,_,hn⟩:=e
 subst hn
 have:=Zz (r_0.cond.length)
 cases h
 simp only[*,go_sem,seval]
theorem Zpy {a_0:Zd} {b_1:Zd} {r:Bool} (h:Zj1 a_0 b_1=some r):Zl prog J0 127 [(true,Zq a_0),(true,Zq b_1)] [(false,[(false,.bool r)])]:=by
 refine fnk func127 rfl ?_
 unfold Zj1 at h
 simp only[fnS,f127,Zm,go_sem,seval]
 refine Ze h (fun _ h=>?_) fun _ h=>?_<;>try simp only[*,go_sem,seval]
 refine Za h fun _ a h=>Zb (ZiH a) ?_
 iterate 2 (cases h;simp only[*,go_sem,seval])
theorem ZnD {l_0:(List Zg)} {r_1:Zg} {r:Int} (h:Zd8 l_0 r_1=some r):Zl prog J0 169 [(false,[.sl 144 3 (A0 ZL l_0)]),(true,ZL r_1)] [(false,[(false,.int .i64 r)])]:=by
 refine fnk func169 rfl ?_
 unfold Zd8 at h
 simp only[fnS,f169,Zm,go_sem,seval]
 refine Zh h (fun i _ st=>IV [(0,.p false [.c (.sl 144 3 (A0 ZL l_0))]),(3,.bp 0 0),(5,.p false [.c (.int .i64 ((i:Nat):Int))])] [.box 144 [.c (.int .i64 r_1.for_),.c (.sl 3 1 (A0 Z5 r_1.inn)),.c (.sl 3 1 (A0 Z5 r_1.outs))]] st) [] [0] (by decide) ?_ ?_ ?_
 simp only[*,go_sem,seval]
 rintro _ _ ⟨⟩ ⟨sl,ob,n⟩ _ a b e h f
 simp only[go_sem,seval,Zc] at b
 obtain ⟨⟨g,_,_⟩,_,hn⟩:=b
 subst hn
 have k:=WF.slotL e g (j:=0) rfl
 have:=ZB a
 have:=ZC a
 have:=Zj (ZA a) k
 simp only[*,go_sem,seval]
 refine Ze h (fun _ h=>?_) fun _ h=>?_<;>try simp only[*,go_sem,seval]
 refine Za h fun _ l h=>Zb (Ze0 l) ?_
 simp only[*,go_sem,seval]
 refine Ze h (fun _ h=>?_) fun _ h=>?_<;>try simp only[*,go_sem,seval]
 refine Za h fun _ m h=>Zb (Ze0 m) ?_
 simp only[*,go_sem,seval]
 refine Ze h (fun _ h=>?_) fun _ h=>?_<;>try simp only[*,go_sem,seval]
 replace h:=Zo h f
 cases h
 simp only[*,go_sem,seval]
 refine ⟨_,[],[0],(A3 h).symm,by decide,?_⟩
 simp only[*,go_sem,seval]
 refine ⟨_,[],[0],(A3 h).symm,by decide,?_⟩
 simp only[*,go_sem,seval]
 refine ⟨_,[],[0],(A3 h).symm,by decide,?_⟩
 simp only[*,go_sem,seval]
 rintro ⟨⟩ ⟨sl,ob,n⟩ d _ h
 simp only[go_sem,seval,Zc] at d
 obtain ⟨⟨_,_,_⟩,_,hn⟩:=d
 subst hn
 have:=Zz (l_0.length)
 cases h
 simp only[*,go_sem,seval]
end
section
set_option linter.unusedSimpArgs false
set_option linter.unusedVariables false
set_option maxRecDepth 1000000
set_option maxHeartbeats 4000000
theorem ZbG {l_0:(List Zd)} {f_1:Zd} {r:Int} (h:Z8 l_0 f_1=some r):Zl prog J0 64 [(false,[.sl 71 2 (A0 Zq l_0)]),(true,Zq f_1)] [(false,[(false,.int .i64 r)])]:=by
 refine fnk func64 rfl ?_
 unfold Z8 at h
 simp only[fnS,f64,Zm,go_sem,seval]
 refine Zh h (fun i _ st=>IV [(3,.bp 0 0),(7,.p false [.c (.sl 71 2 (A0 Zq l_0))]),(8,.p false [.c (.int .i64 ((l_0.length:Nat):Int))]),(9,.p false [.c (.int .i64 ((i:Nat):Int))])] [.box 71 [.c (.str f_1.rel),.c (.sl 9 1 (A0 Zw f_1.args))]] st) [] [0] (by decide) ?_ ?_ ?_
 simp only[*,go_sem,seval]
 rintro _ _ ⟨⟩ ⟨sl,ob,n⟩ _ a b e h f
 simp only[go_sem,seval,Zc] at b
 obtain ⟨⟨_,g,_,_⟩,_,hn⟩:=b
 subst hn
 have k:=WF.slotL e g (j:=0) rfl
 have:=ZB a
 have:=ZC a
 have:=Zj (ZA a) k
 simp only[*,go_sem,seval]
 refine Za h fun _ l h=>Zb (ZlS l) ?_
 simp only[*,go_sem,seval]
 refine Ze h (fun _ h=>?_) fun _ h=>?_<;>try simp only[*,go_sem,seval]
 replace h:=Zo h f
 cases h
 simp only[*,go_sem,seval]
 refine ⟨_,[],[0],(A3 h).symm,by decide,?_⟩
 simp only[*,go_sem,seval]
 rintro ⟨⟩ ⟨sl,ob,n⟩ d _ h
 simp only[go_sem,seval,Zc] at d
 obtain ⟨⟨_,_,_,_⟩,_,hn⟩:=d
 subst hn
 have:=Zz (l_0.length)
 cases h
 simp only[*,go_sem,seval]
theorem QF {s_0:ByteArray} {r:Bool} (h:Qx s_0=some r):Zl prog J0 167 [(false,[.str s_0])] [(false,[(false,.bool r)])]:=by
 refine fnk func167 rfl ?_
 unfold Qx at h
 simp only[fnS,f167,Zm,go_sem,seval]
 refine Za h fun _ a h=>Zb (XS a) ?_
 simp only[*,go_sem,seval]
 refine Ze h (fun _ h=>?_) fun _ h=>?_<;>try simp only[*,go_sem,seval]
 cases h
 simp only[*,go_sem,seval]
 refine Za h fun _ b h=>Zb (ZcG b) ?_
 cases h
 simp only[*,go_sem,seval]
theorem Qk {b_0:(List Zp)} {r:Bool} (h:Xq b_0=some r):Zl prog J0 209 [(false,[.sl 135 2 (A0 ZZ b_0)])] [(false,[(false,.bool r)])]:=by
 refine fnk func209 rfl ?_
 unfold Xq at h
 simp only[fnS,f209,Zm,go_sem,seval]
 refine Ze h (fun _ h=>?_) fun _ h=>?_<;>try simp only[*,go_sem,seval]
 cases h
 simp only[*,go_sem,seval]
 refine Zh h (fun i _ st=>IV [(0,.p false [.c (.sl 135 2 (A0 ZZ b_0))]),(8,.p false [.c (.sl 135 2 (A0 ZZ b_0))]),(9,.p false [.c (.int .i64 ((b_0.length:Nat):Int))]),(10,.p false [.c (.int .i64 ((i:Nat):Int))])] [] st) [] [] (by decide) ?_ ?_ ?_
 simp only[*,go_sem,seval]
 rintro _ _ ⟨⟩ ⟨sl,ob,n⟩ _ a b f h d
 simp only[go_sem,seval,Zc] at b
 obtain ⟨⟨g,_,_,_⟩,hn⟩:=b
 subst hn
 have k:=WF.slotL f g (j:=0) rfl
 have:=ZB a
 have:=ZC a
 have:=Zj (ZA a) k
 simp only[*,go_sem,seval]
 refine Za h fun _ l h=>Zb (ZcG l) ?_
 simp only[*,go_sem,seval]
 refine Ze h (fun _ h=>?_) fun _ h=>?_<;>try simp only[*,go_sem,seval]
 refine Za h fun _ m h=>Zb (XS m) ?_
 simp only[*,go_sem,seval]
 iterate 2 refine Ze h (fun _ h=>?_) fun _ h=>?_<;>try simp only[*,go_sem,seval]
 obtain ⟨_,_,_,_,h⟩:=Zci h
 simp only[*,go_sem,seval]
 refine Ze h (fun _ h=>?_) fun _ h=>?_<;>try simp only[*,go_sem,seval]
 refine ⟨_,[],[],(A3 h).symm,by decide,?_⟩
 simp only[*,go_sem,seval]
 replace h:=Zo h d
 cases h
 simp only[*,go_sem,seval]
 refine ⟨_,[],[],(A3 h).symm,by decide,?_⟩
 iterate 2 (simp only[*,go_sem,seval];replace h:=Zo h d;cases h)
 simp only[*,go_sem,seval]
 rintro ⟨⟩ ⟨sl,ob,n⟩ e _ h
 simp only[go_sem,seval,Zc] at e
 obtain ⟨⟨_,_,_,_⟩,hn⟩:=e
 subst hn
 have:=Zz (b_0.length)
 cases h
 simp only[*,go_sem,seval]
theorem Zjf {f_0:Zd} {r:Bool} (h:Zej f_0=some r):Zl prog J0 211 [(true,Zq f_0)] [(false,[(false,.bool r)])]:=by
 refine fnk func211 rfl ?_
 unfold Zej at h
 simp only[fnS,f211,Zm,go_sem,seval]
 refine Za h fun _ e h=>Zb (ZfA e) ?_
 simp only[*,go_sem,seval]
 iterate 2 refine Ze h (fun _ h=>?_) fun _ h=>?_<;>try simp only[*,go_sem,seval]
 cases h
 simp only[*,go_sem,seval]
 refine Zh h (fun i _ st=>IV [(16,.p false [.c (.sl 9 1 (A0 Zw f_0.args))]),(17,.p false [.c (.int .i64 ((f_0.args.length:Nat):Int))]),(18,.p false [.c (.int .i64 ((i:Nat):Int))])] [] st) [] [] (by decide) ?_ ?_ ?_
 simp only[*,go_sem,seval]
 rintro _ _ ⟨⟩ ⟨sl,ob,n⟩ _ a b f h g
 simp only[go_sem,seval,Zc] at b
 obtain ⟨⟨k,_,_⟩,hn⟩:=b
 subst hn
 have l:=WF.slotL f k (j:=0) rfl
 have:=ZB a
 have:=ZC a
 have:=Zj (ZA a) l
 simp only[*,go_sem,seval]
 refine Za h fun _ m h=>Zb (XS m) ?_
 simp only[*,go_sem,seval]
 refine Ze h (fun _ h=>?_) fun _ h=>?_<;>try simp only[*,go_sem,seval]
 refine ⟨_,[],[],(A3 h).symm,by decide,?_⟩
 simp only[*,go_sem,seval]
 replace h:=Zo h g
 cases h
 simp only[*,go_sem,seval]
 rintro ⟨⟩ ⟨sl,ob,n⟩ d _ h
 simp only[go_sem,seval,Zc] at d
 obtain ⟨⟨_,_,_⟩,hn⟩:=d
 subst hn
 have:=Zz (f_0.args.length)
 iterate 2 (cases h;simp only[*,go_sem,seval])
theorem Zcn {b_0:(List Zp)} {term_1:ByteArray} {r:(ByteArray × Bool)} (h:ZaC b_0 term_1=some r):Zl prog J0 236 [(false,[.sl 135 2 (A0 ZZ b_0)]),(false,[.str term_1])] [(false,[(false,.str r.1)]),(false,[(false,.bool r.2)])]:=by
 refine fnk func236 rfl ?_
 unfold ZaC at h
 have e:Z2 ⟨#[]⟩=true:=by decide
 simp only[fnS,f236,Zm,go_sem,seval,e]
 refine Za h fun _ f h=>Zb (XS f) ?_
 simp only[*,go_sem,seval]
 refine Ze h (fun _ h=>?_) fun _ h=>?_<;>try simp only[*,go_sem,seval]
 cases h
 simp only[*,go_sem,seval]
 refine Za h fun _ g h=>Zb (ZcG g) ?_
 simp only[*,go_sem,seval]
 refine Ze h (fun _ h=>?_) fun _ h=>?_<;>try simp only[*,go_sem,seval]
 refine Zh h (fun i _ st=>IV [(1,.p false [.c (.str term_1)]),(14,.p false [.c (.sl 135 2 (A0 ZZ b_0))]),(15,.p false [.c (.int .i64 ((b_0.length:Nat):Int))]),(16,.p false [.c (.int .i64 ((i:Nat):Int))])] [] st) [] [] (by decide) ?_ ?_ ?_
 simp only[*,go_sem,seval]
 rintro _ _ ⟨⟩ ⟨sl,ob,n⟩ _ a b k h l
 simp only[go_sem,seval,Zc] at b
 obtain ⟨⟨_,m,_,_⟩,hn⟩:=b
 subst hn
 have o:=WF.slotL k m (j:=0) rfl
 have:=ZB a
 have:=ZC a
 have:=Zj (ZA a) o
 simp only[*,go_sem,seval]
 refine Ze h (fun _ h=>?_) fun _ h=>?_<;>try simp only[*,go_sem,seval]
 replace h:=Zo h l
 cases h
 simp only[*,go_sem,seval]
 refine ⟨_,[],[],(A3 h).symm,by decide,?_⟩
 simp only[*,go_sem,seval]
 rintro ⟨⟩ ⟨sl,ob,n⟩ d _ h
 simp only[go_sem,seval,Zc] at d
 obtain ⟨⟨_,_,_,_⟩,hn⟩:=d
 subst hn
 have:=Zz (b_0.length)
 iterate 2 (cases h;simp only[*,go_sem,seval])
theorem ZfY {l_0:(List Zd)} {r:(List Zd)} (h:ZaG l_0=some r):Zl prog J0 139 [(false,[.sl 71 2 (A0 Zq l_0)])] [(false,[(false,.sl 71 2 (A0 Zq r))])]:=by
 refine fnk func139 rfl ?_
 unfold ZaG at h
 simp only[fnS,f139,Zm,go_sem,seval]
 refine Zh h (fun i a st=>IV [(3,.p false [.row 0]),(6,.p false [.c (.sl 71 2 (A0 Zq l_0))]),(7,.p false [.c (.int .i64 ((l_0.length:Nat):Int))]),(8,.p false [.c (.int .i64 ((i:Nat):Int))])] [.row 71 2 (A0 Zq a) 2] st) [(false,3,0)] [80] (by decide) ?_ ?_ ?_
 simp only[*,go_sem,seval]
 rintro _ _ a ⟨sl,ob,n⟩ _ b d f h _
 simp only[go_sem,seval,Zc] at d
 obtain ⟨⟨_,g,_,_⟩,_,hn⟩:=d
 subst hn
 have k:=WF.slotL f g (j:=0) rfl
 have:=ZB b
 have:=ZC b
 have:=Zj (ZA b) k
 simp only[*,go_sem,seval]
 refine Za h fun _ l h=>Zb (YC l) ?_
 obtain ⟨m,h⟩:=Zs h
 try simp only[Nat.reduceLeDiff] at m
 simp only[*,go_sem,seval]
 refine ⟨_,[],[145],(A3 h).symm,by decide,?_⟩
 simp only[*,go_sem,seval]
 rintro a ⟨sl,ob,n⟩ e _ h
 simp only[go_sem,seval,Zc] at e
 obtain ⟨⟨_,_,_,_⟩,_,hn⟩:=e
 subst hn
 have:=Zz (l_0.length)
 cases h
 simp only[*,go_sem,seval]
theorem ZhS {a_0:ByteArray} {b_1:ByteArray} {r:Int} (h:Qj a_0 b_1=some r):Zl prog J0 251 [(false,[.str a_0]),(false,[.str b_1])] [(false,[(false,.int .i64 r)])]:=by
 refine fnk func251 rfl ?_
 unfold Qj at h
 simp only[fnS,f251,Zm,go_sem,seval]
 refine Za h fun _ a h=>Zb (ZbF a) ?_
 simp only[*,go_sem,seval]
 refine Za h fun _ b h=>Zb (ZbF b) ?_
 simp only[*,go_sem,seval]
 iterate 2 refine Ze h (fun _ h=>?_) fun _ h=>?_<;>try simp only[*,go_sem,seval]
 refine Za h fun _ c h=>Zb (Zbp c) ?_
 iterate 2 (cases h;simp only[*,go_sem,seval])
 refine Ze h (fun _ h=>?_) fun _ h=>?_<;>try simp only[*,go_sem,seval]
 cases h
 simp only[*,go_sem,seval]
 refine Za h fun _ d h=>Zb (Zhw d) ?_
 cases h
 simp only[*,go_sem,seval]
theorem Zc1 {l_0:(List ByteArray)} {r:(List ByteArray)} (h:Qn l_0=some r):Zl prog J0 205 [(false,[.sl 9 1 (A0 Zw l_0)])] [(false,[(false,.sl 9 1 (A0 Zw r))])]:=by
 refine fnk func205 rfl ?_
 unfold Qn at h
 simp only[fnS,f205,Zm,go_sem,seval]
 refine Zh h (fun i a st=>IV [(3,.p false [.row 0]),(6,.p false [.c (.sl 9 1 (A0 Zw l_0))]),(7,.p false [.c (.int .i64 ((l_0.length:Nat):Int))]),(8,.p false [.c (.int .i64 ((i:Nat):Int))])] [.row 9 1 (A0 Zw a) 2] st) [(false,3,0)] [80] (by decide) ?_ ?_ ?_
 simp only[*,go_sem,seval]
 rintro _ _ a ⟨sl,ob,n⟩ _ b d f h _
 simp only[go_sem,seval,Zc] at d
 obtain ⟨⟨_,g,_,_⟩,_,hn⟩:=d
 subst hn
 have k:=WF.slotL f g (j:=0) rfl
 have:=ZB b
 have:=ZC b
 have:=Zj (ZA b) k
 simp only[*,go_sem,seval]
 refine Za h fun _ l h=>Zb (ZcG l) ?_
 simp only[*,go_sem,seval]
 refine Ze h (fun _ h=>?_) fun _ h=>?_<;>try simp only[*,go_sem,seval]
 obtain ⟨m,h⟩:=Zs h
 try simp only[Nat.reduceLeDiff] at m
 simp only[*,go_sem,seval]
 refine ⟨_,[],[145],(A3 h).symm,by decide,?_⟩
 simp only[*,go_sem,seval]
 refine ⟨_,[],[0],(A3 h).symm,by decide,?_⟩
 simp only[*,go_sem,seval]
 rintro a ⟨sl,ob,n⟩ e _ h
 simp only[go_sem,seval,Zc] at e
 obtain ⟨⟨_,_,_,_⟩,_,hn⟩:=e
 subst hn
 have:=Zz (l_0.length)
 cases h
 simp only[*,go_sem,seval]
theorem ZlX {a:(List Zf)} {a_1:ByteArray} {r:(List (ByteArray × Bool))} (h:ZcF a a_1=some r):Zj3 prog J0 276 [(false,[.sl 104 4 (A0 ZG a)]),(false,[.str a_1])] (.map .str .bool (A0 eSB r)):=by
 refine fnb func276 rfl ?_
 unfold ZcF at h
 simp only[fnB,f276,Zm,go_sem,seval]
 refine XH h (fun s st=>match s with | (o,q)=>IV [(0,.p false [.c (.sl 104 4 (A0 ZG a))]),(5,.p false [.row 0]),(6,.p false [.row 1])] [.map .str .bool (A0 eSB o),.row 9 1 (A0 Zw q) 2] st) [] [16,64] (by decide) ?_ ?_
 simp only[*,go_sem,seval]
 rintro ⟨o,q⟩ ⟨sl,ob,n⟩ _ t _ h z
 simp only[go_sem,seval,Zc] at t
 obtain ⟨⟨_,_,_⟩,_,_,hn⟩:=t
 subst hn
 simp only[*,go_sem,seval]
 refine Ze h (fun _ h=>?_) fun _ h=>?_<;>try simp only[*,go_sem,seval]
 obtain ⟨_,h⟩:=Zs h
 obtain ⟨u,A,h⟩:=ZJ h
 try simp only[seval] at A
 obtain ⟨_,h⟩:=Zs h
 simp only[*,go_sem,seval]
 refine Zh h (fun i s st=>match s with | (d,e)=>IV [(0,.p false [.c (.sl 104 4 (A0 ZG a))]),(5,.p false [.row 0]),(6,.p false [.row 1]),(7,.p false [.c (.str u)]),(23,.p false [.c (.sl 104 4 (A0 ZG a))]),(24,.p false [.c (.int .i64 ((a.length:Nat):Int))]),(25,.p false [.c (.int .i64 ((i:Nat):Int))])] [.map .str .bool (A0 eSB d),.row 9 1 (A0 Zw e) 2] st) [] [0,130] (by decide) ?_ ?_ ?_
 simp only[*,go_sem,seval]
 rintro B _ ⟨d,e⟩ ⟨sl,ob,n⟩ _ f v C h _
 simp only[go_sem,seval,Zc] at v
 obtain ⟨⟨D,_,_,_,_,_,_⟩,_,_,hn⟩:=v
 subst hn
 have E:=WF.slotL C D (j:=0) rfl
 have:=ZB f
 have:=ZC f
 have:=Zj (ZA f) E
 simp only[*,go_sem,seval]
 refine Za h fun _ F h=>Zb (ZgC F) ?_
 simp only[*,go_sem,seval]
 refine Za h fun _ G h=>Zb (QT G) ?_
 simp only[*,go_sem,seval]
 refine Ze h (fun _ h=>?_) fun _ h=>?_<;>try simp only[*,go_sem,seval]
 refine Za h fun g H h=>Zb (ZnK H) ?_
 simp only[*,go_sem,seval]
 refine Zh h (fun i s st=>match s with | (k,l)=>IV [(0,.p false [.c (.sl 104 4 (A0 ZG a))]),(5,.p false [.row 0]),(6,.p false [.row 1]),(7,.p false [.c (.str u)]),(23,.p false [.c (.sl 104 4 (A0 ZG a))]),(24,.p false [.c (.int .i64 ((a.length:Nat):Int))]),(25,.p false [.c (.int .i64 ((B:Nat):Int))]),(35,.p false [.row 2]),(36,.p false [.c (.int .i64 ((g.length:Nat):Int))]),(37,.p false [.c (.int .i64 ((i:Nat):Int))])] [.map .str .bool (A0 eSB k),.row 9 1 (A0 Zw l) 2,.row 9 1 (A0 Zw g) 2] st) [] [0,1,178] (by decide) ?_ ?_ ?_
 simp only[*,go_sem,seval]
 rintro _ _ ⟨k,l⟩ ⟨sl,ob,n⟩ _ m w I h _
 simp only[go_sem,seval,Zc] at w
 obtain ⟨⟨_,_,_,_,_,_,_,_,_,_⟩,_,_,J,hn⟩:=w
 subst hn
 have K:=WF.rowL I J
 have:=ZB m
 have:=ZC m
 have:=Zj (ZA m) K
 simp only[*,go_sem,seval]
 refine Ze h (fun _ h=>?_) fun _ h=>?_<;>try simp only[*,go_sem,seval]
 refine ⟨_,[],[0,1,2],(A3 h).symm,by decide,?_⟩
 simp only[*,go_sem,seval]
 obtain ⟨L,h⟩:=Zs h
 try simp only[Nat.reduceLeDiff] at L
 simp only[*,go_sem,seval]
 refine ⟨_,[],[0,227,2],(A3 h).symm,by decide,?_⟩
 simp only[*,go_sem,seval]
 rintro ⟨k,l⟩ ⟨sl,ob,n⟩ x _ h
 simp only[go_sem,seval,Zc] at x
 obtain ⟨⟨_,_,_,_,_,_,_,_,_,_⟩,_,_,_,hn⟩:=x
 subst hn
 have:=Zz (g.length)
 simp only[*,go_sem,seval]
 refine ⟨_,[],[0,1],(A3 h).symm,by decide,?_⟩
 simp only[*,go_sem,seval]
 refine ⟨_,[],[0,1],(A3 h).symm,by decide,?_⟩
 simp only[*,go_sem,seval]
 rintro ⟨d,e⟩ ⟨sl,ob,n⟩ y _ h
 simp only[go_sem,seval,Zc] at y
 obtain ⟨⟨_,_,_,_,_,_,_⟩,_,_,hn⟩:=y
 subst hn
 have:=Zz (a.length)
 simp only[*,go_sem,seval]
 refine ⟨_,[],[0,1],(A3 h).symm,by decide,?_⟩
 simp only[*,go_sem,seval]
 replace h:=Zo h z
 cases h
 simp only[*,go_sem,seval]
theorem Zkz {l_0:(List Zg)} {r_1:Zg} {r:Bool} (h:ZaA l_0 r_1=some r):Zl prog J0 176 [(false,[.sl 144 3 (A0 ZL l_0)]),(true,ZL r_1)] [(false,[(false,.bool r)])]:=by
 refine fnk func176 rfl ?_
 unfold ZaA at h
 simp only[fnS,f176,Zm,go_sem,seval]
 refine Zh h (fun i _ st=>IV [(3,.bp 0 0),(7,.p false [.c (.sl 144 3 (A0 ZL l_0))]),(8,.p false [.c (.int .i64 ((l_0.length:Nat):Int))]),(9,.p false [.c (.int .i64 ((i:Nat):Int))])] [.box 144 [.c (.int .i64 r_1.for_),.c (.sl 3 1 (A0 Z5 r_1.inn)),.c (.sl 3 1 (A0 Z5 r_1.outs))]] st) [] [0] (by decide) ?_ ?_ ?_
 simp only[*,go_sem,seval]
 rintro _ _ ⟨⟩ ⟨sl,ob,n⟩ _ a b e h f
 simp only[go_sem,seval,Zc] at b
 obtain ⟨⟨_,g,_,_⟩,_,hn⟩:=b
 subst hn
 have k:=WF.slotL e g (j:=0) rfl
 have:=ZB a
 have:=ZC a
 have:=Zj (ZA a) k
 simp only[*,go_sem,seval]
 refine Za h fun _ l h=>Zb (Zjo l) ?_
 simp only[*,go_sem,seval]
 refine Ze h (fun _ h=>?_) fun _ h=>?_<;>try simp only[*,go_sem,seval]
 replace h:=Zo h f
 cases h
 simp only[*,go_sem,seval]
 refine ⟨_,[],[0],(A3 h).symm,by decide,?_⟩
 simp only[*,go_sem,seval]
 rintro ⟨⟩ ⟨sl,ob,n⟩ d _ h
 simp only[go_sem,seval,Zc] at d
 obtain ⟨⟨_,_,_,_⟩,_,hn⟩:=d
 subst hn
 have:=Zz (l_0.length)
 cases h
 simp only[*,go_sem,seval]
theorem Zjd {b_0:Zu} {r:(List Bool)} (h:ZdW b_0=some r):Zl prog J0 123 [(true,Qw b_0)] [(false,[(false,.sl 4 1 (A0 ZgO r))])]:=by
 refine fnk func123 rfl ?_
 unfold ZdW at h
 simp only[fnS,f123,Zm,go_sem,seval]
 refine Za h fun a g h=>Zb (Zpp g) ?_
 simp only[*,go_sem,seval]
 refine Zh h (fun i b st=>IV [(3,.p false [.row 0]),(7,.p false [.row 1]),(8,.p false [.c (.int .i64 ((a.length:Nat):Int))]),(9,.p false [.c (.int .i64 ((i:Nat):Int))])] [.row 4 1 (A0 ZgO b) 2,.row 3 1 (A0 Z5 a) 2] st) [(false,3,0)] [112,64] (by decide) ?_ ?_ ?_
 simp only[*,go_sem,seval]
 rintro _ _ b ⟨sl,ob,n⟩ _ d e j h _
 simp only[go_sem,seval,Zc] at e
 obtain ⟨⟨_,_,_,_⟩,_,k,hn⟩:=e
 subst hn
 have l:=WF.rowL j k
 have:=ZB d
 have:=ZC d
 have:=Zj (ZA d) l
 obtain ⟨m,h⟩:=Zs h
 try simp only[Nat.reduceLeDiff] at m
 simp only[*,go_sem,seval]
 refine ⟨_,[],[130,1],(A3 h).symm,by decide,?_⟩
 simp only[*,go_sem,seval]
 rintro b ⟨sl,ob,n⟩ f _ h
 simp only[go_sem,seval,Zc] at f
 obtain ⟨⟨_,_,_,_⟩,_,_,hn⟩:=f
 subst hn
 have:=Zz (a.length)
 cases h
 simp only[*,go_sem,seval]
theorem ZfW {s_0:ByteArray} {r:Bool} (h:ZcY s_0=some r):Zl prog J0 148 [(false,[.str s_0])] [(false,[(false,.bool r)])]:=by
 refine fnk func148 rfl ?_
 unfold ZcY at h
 simp only[fnS,f148,Zm,go_sem,seval]
 refine Za h fun _ a h=>Zb (XR a) ?_
 simp only[*,go_sem,seval]
 refine Ze h (fun _ h=>?_) fun _ h=>?_<;>try simp only[*,go_sem,seval]
 obtain ⟨_,_,b,h⟩:=ZpV h
 try simp only[seval] at b
 simp only[*,go_sem,seval]
 refine Za h fun _ c h=>Zb (Zat c) ?_
 iterate 2 (cases h;simp only[*,go_sem,seval])
theorem Qq {s_0:ByteArray} {r:Bool} (h:Zab s_0=some r):Zl prog J0 159 [(false,[.str s_0])] [(false,[(false,.bool r)])]:=by
 refine fnk func159 rfl ?_
 unfold Zab at h
 simp only[fnS,f159,Zm,go_sem,seval]
 refine Ze h (fun _ h=>?_) fun _ h=>?_<;>try simp only[*,go_sem,seval]
 obtain ⟨_,_,a,h⟩:=ZpV h
 try simp only[seval] at a
 simp only[*,go_sem,seval]
 refine Ze h (fun _ h=>?_) fun _ h=>?_<;>try simp only[*,go_sem,seval]
 obtain ⟨_,h⟩:=Zs h
 simp only[*,go_sem,seval]
 refine Za h fun _ b h=>Zb (XR b) ?_
 iterate 3 (cases h;simp only[*,go_sem,seval])
theorem Zdr {a_0:ByteArray} {b_1:ByteArray} {r:Int} (h:Y0 a_0 b_1=some r):Zl prog J0 120 [(false,[.str a_0]),(false,[.str b_1])] [(false,[(false,.int .i64 r)])]:=by
 refine fnk func120 rfl ?_
 unfold Y0 at h
 simp only[fnS,f120,Zm,go_sem,seval]
 refine Za h fun _ a h=>Zb (Zbv a) ?_
 simp only[*,go_sem,seval]
 refine Za h fun _ b h=>Zb (Zbv b) ?_
 simp only[*,go_sem,seval]
 iterate 3 refine Ze h (fun _ h=>?_) fun _ h=>?_<;>try simp only[*,go_sem,seval]
 cases h
 simp only[*,go_sem,seval]
 refine Ze h (fun _ h=>?_) fun _ h=>?_<;>try simp only[*,go_sem,seval]
 iterate 3 (cases h;simp only[*,go_sem,seval])
 refine Ze h (fun _ h=>?_) fun _ h=>?_<;>try simp only[*,go_sem,seval]
 cases h
 simp only[*,go_sem,seval]
 refine Za h fun _ c h=>Zb (Zkf c) ?_
 cases h
 simp only[*,go_sem,seval]
theorem ZjQ {c_0:ZF} {list_1:(List ByteArray)} {r:(ByteArray × ZF)} (h:Zdx c_0 list_1=some r):ZaU prog J0 JF0 183 (.box 184 (Za7 c_0)) [(false,[.sl 9 1 (A0 Zw list_1)])] [(false,[(false,.str r.1)])] (.box 184 (Za7 r.2)):=by
 refine fnh func183 rfl ?_
 unfold Zdx at h
 have a:Z2 ⟨#[]⟩=true:=by decide
 simp only[fnH,f183,ZcO,ZcW,Y9,go_sem,seval,a]
 obtain ⟨_,b,h⟩:=ZJ h
 refine QC (QS b) ?_
 obtain ⟨_,_,_,_,h⟩:=Zci h
 cases h
 simp only[*,go_sem,seval]
theorem ZLB {c_0:ZF} {n_1:Int} {r:(Bool × ZF)} (h:ZK1 c_0 n_1=some r):ZaU prog J0 JF0 269 (.box 184 (Za7 c_0)) [(false,[.int .i64 n_1])] [(false,[(false,.bool r.1)])] (.box 184 (Za7 r.2)):=by
 refine fnh func269 rfl ?_
 unfold ZK1 at h
 simp only[fnH,f269,ZcO,ZcW,Y9,go_sem,seval]
 obtain ⟨_,a,h⟩:=ZJ h
 refine QC (QS a) ?_
 cases h
 simp only[*,go_sem,seval]
theorem ZMl {c_0:ZF} {r:(ByteArray × Int × ZF)} (h:ZLI c_0=some r):ZaU prog J0 JF0 227 (.box 184 (Za7 c_0)) [] [(false,[(false,.str r.1)]),(false,[(false,.int .i64 r.2.1)])] (.box 184 (Za7 r.2.2)):=by
 refine fnh func227 rfl ?_
 unfold ZLI at h
 have b:Z2 ⟨#[111,110]⟩=true:=by decide
 have c:Z2 ⟨#[112]⟩=true:=by decide
 have d:Z2 ⟨#[113]⟩=true:=by decide
 have e:Z2 ⟨#[122]⟩=true:=by decide
 have f:Z2 ⟨#[97,116]⟩=true:=by decide
 have g:Z2 ⟨#[]⟩=true:=by decide
 simp only[fnH,f227,ZcO,ZcW,Y9,go_sem,seval,b,c,d,e,f,g]
 obtain ⟨a,i,h⟩:=ZJ h
 refine QC (QS i) ?_
 obtain ⟨j,h⟩:=Zs h
 try simp only[seval] at j
 obtain ⟨k,l,h⟩:=ZJ h
 have m:(A0 Zw [(⟨#[111,110]⟩),(⟨#[111,110]⟩),(⟨#[97,116]⟩),(⟨#[112]⟩),(⟨#[113]⟩),(⟨#[122]⟩)])[(A6 a.1)]?=some (Zw k):=by rw [A5,l];rfl
 simp only[AG,AH,Znj] at m
 obtain ⟨o,p,h⟩:=ZJ h
 have q:(A0 Z5 [2,2,2,1,1,0])[(A6 a.1)]?=some (Z5 o):=by rw [A5,p];rfl
 simp only[AG,AH,ZvT] at q
 cases h
 simp only[*,go_sem,seval]
theorem ZKQ {c_0:ZF} {list_1:(List Int)} {r:(Int × ZF)} (h:ZKN c_0 list_1=some r):ZaU prog J0 JF0 218 (.box 184 (Za7 c_0)) [(false,[.sl 3 1 (A0 Z5 list_1)])] [(false,[(false,.int .i64 r.1)])] (.box 184 (Za7 r.2)):=by
 refine fnh func218 rfl ?_
 unfold ZKN at h
 simp only[fnH,f218,ZcO,ZcW,Y9,go_sem,seval]
 obtain ⟨_,a,h⟩:=ZJ h
 refine QC (QS a) ?_
 obtain ⟨_,_,_,_,h⟩:=Zci h
 cases h
 simp only[*,go_sem,seval]
theorem ZM2 {x_0:Zr} {r:Zr} (h:ZLx x_0=some r):Zl prog J0 133 [(true,ZK x_0)] [(true,[(false,.int .i64 r.kind),(false,.str r.pattern.rel),(false,.sl 9 1 (A0 Zw r.pattern.args)),(false,.str r.left),(false,.str r.right)])]:=by
 refine fnk func133 rfl ?_
 unfold ZLx at h
 simp only[fnS,f133,Zm,go_sem,seval]
 refine Za h fun _ a h=>Zb (ZMf a) ?_
 cases h
 simp only[*,go_sem,seval]
theorem Zjm {a:(List Zf)} {String_1:ByteArray} {b:ByteArray} {r:Bool} (h:ZaO a String_1 b=some r):Zl prog J0 186 [(false,[.sl 104 4 (A0 ZG a)]),(false,[.str String_1]),(false,[.str b])] [(false,[(false,.bool r)])]:=by
 refine fnk func186 rfl ?_
 unfold ZaO at h
 simp only[fnS,f186,Zm,go_sem,seval]
 refine XH h (fun s st=>match s with | (m,e)=>IV [(0,.p false [.c (.sl 104 4 (A0 ZG a))]),(2,.p false [.c (.str b)]),(7,.p false [.row 0]),(8,.p false [.c (.int .i64 e)])] [.row 9 1 (A0 Zw m) 2] st) [] [32] (by decide) ?_ ?_
 simp only[*,go_sem,seval]
 rintro ⟨m,e⟩ ⟨sl,ob,n⟩ _ o _ h q
 simp only[go_sem,seval,Zc] at o
 obtain ⟨⟨_,_,_,_⟩,_,hn⟩:=o
 subst hn
 simp only[*,go_sem,seval]
 refine Ze h (fun _ h=>?_) fun _ h=>?_<;>try simp only[*,go_sem,seval]
 refine Zh h (fun i f st=>IV [(0,.p false [.c (.sl 104 4 (A0 ZG a))]),(2,.p false [.c (.str b)]),(7,.p false [.row 0]),(8,.p false [.c (.int .i64 e)]),(9,.p false [.c (.int .i64 ((i:Nat):Int))])] [.row 9 1 (A0 Zw f) 2] st) [] [0] (by decide) ?_ ?_ ?_
 simp only[*,go_sem,seval]
 rintro y _ f ⟨sl,ob,n⟩ _ g t z h A
 simp only[go_sem,seval,Zc] at t
 obtain ⟨⟨B,_,_,_,_⟩,_,hn⟩:=t
 subst hn
 have C:=WF.slotL z B (j:=0) rfl
 have:=ZB g
 have:=ZC g
 have:=Zj (ZA g) C
 simp only[*,go_sem,seval]
 refine Za h fun _ D h=>Zb (ZgL D) ?_
 obtain ⟨_,h⟩:=Zs h
 obtain ⟨_,_,h⟩:=ZJ h
 simp only[*,go_sem,seval]
 refine Za h fun _ E h=>Zb (Ym E) ?_
 simp only[*,go_sem,seval]
 refine Ze h (fun _ h=>?_) fun _ h=>?_<;>try simp only[*,go_sem,seval]
 refine Za h fun u F h=>Zb (ZnN F) ?_
 simp only[*,go_sem,seval]
 refine Za h fun _ G h=>Zb (Ym G) ?_
 simp only[*,go_sem,seval]
 refine Ze h (fun _ h=>?_) fun _ h=>?_<;>try simp only[*,go_sem,seval]
 replace h:=Zo h A
 replace h:=Zo h q
 cases h
 simp only[*,go_sem,seval]
 refine Zh h (fun i k st=>IV [(0,.p false [.c (.sl 104 4 (A0 ZG a))]),(2,.p false [.c (.str b)]),(7,.p false [.row 0]),(8,.p false [.c (.int .i64 e)]),(9,.p false [.c (.int .i64 ((y:Nat):Int))]),(10,.p false [.row 1]),(11,.p false [.c (.int .i64 ((i:Nat):Int))])] [.row 9 1 (A0 Zw k) 2,.row 9 1 (A0 Zw u) 2] st) [] [0,305] (by decide) ?_ ?_ ?_
 simp only[*,go_sem,seval]
 rintro _ _ k ⟨sl,ob,n⟩ _ l v H h _
 simp only[go_sem,seval,Zc] at v
 obtain ⟨⟨_,_,_,_,_,_,_⟩,_,I,hn⟩:=v
 subst hn
 have J:=WF.rowL H I
 have:=ZB l
 have:=ZC l
 have:=Zj (ZA l) J
 simp only[*,go_sem,seval]
 refine Za h fun _ K h=>Zb (Ym K) ?_
 simp only[*,go_sem,seval]
 refine Ze h (fun _ h=>?_) fun _ h=>?_<;>try simp only[*,go_sem,seval]
 refine ⟨_,[],[0,1],(A3 h).symm,by decide,?_⟩
 simp only[*,go_sem,seval]
 obtain ⟨L,h⟩:=Zs h
 try simp only[Nat.reduceLeDiff] at L
 simp only[*,go_sem,seval]
 refine ⟨_,[],[274,1],(A3 h).symm,by decide,?_⟩
 simp only[*,go_sem,seval]
 rintro k ⟨sl,ob,n⟩ w _ h
 simp only[go_sem,seval,Zc] at w
 obtain ⟨⟨_,_,_,_,_,_,_⟩,_,_,hn⟩:=w
 subst hn
 have:=Zz (u.length)
 simp only[*,go_sem,seval]
 refine ⟨_,[],[0],(A3 h).symm,by decide,?_⟩
 simp only[*,go_sem,seval]
 refine ⟨_,[],[0],(A3 h).symm,by decide,?_⟩
 simp only[*,go_sem,seval]
 rintro f ⟨sl,ob,n⟩ x _ h
 simp only[go_sem,seval,Zc] at x
 obtain ⟨⟨_,_,_,_,_⟩,_,hn⟩:=x
 subst hn
 have:=Zz (a.length)
 simp only[*,go_sem,seval]
 refine ⟨_,[],[0],(A3 h).symm,by decide,?_⟩
 simp only[*,go_sem,seval]
 replace h:=Zo h q
 cases h
 simp only[*,go_sem,seval]
theorem ZdO {l_0:(List Zd)} {r:(List Zd)} (h:Zak l_0=some r):Zl prog J0 113 [(false,[.sl 71 2 (A0 Zq l_0)])] [(false,[(false,.sl 71 2 (A0 Zq r))])]:=by
 refine fnk func113 rfl ?_
 unfold Zak at h
 simp only[fnS,f113,Zm,go_sem,seval]
 refine Zh h (fun i a st=>IV [(0,.p false [.c (.sl 71 2 (A0 Zq l_0))]),(3,.p false [.row 0]),(4,.p false [.c (.int .i64 ((i:Nat):Int))])] [.row 71 2 (A0 Zq a) 2] st) [] [16] (by decide) ?_ ?_ ?_
 simp only[*,go_sem,seval]
 rintro _ _ a ⟨sl,ob,n⟩ _ b d f h _
 simp only[go_sem,seval,Zc] at d
 obtain ⟨⟨g,_,_⟩,_,hn⟩:=d
 subst hn
 have k:=WF.slotL f g (j:=0) rfl
 have:=ZB b
 have:=ZC b
 have:=Zj (ZA b) k
 simp only[*,go_sem,seval]
 refine Za h fun _ l h=>Zb (Xr l) ?_
 obtain ⟨m,h⟩:=Zs h
 try simp only[Nat.reduceLeDiff] at m
 simp only[*,go_sem,seval]
 refine ⟨_,[],[177],(A3 h).symm,by decide,?_⟩
 simp only[*,go_sem,seval]
 rintro a ⟨sl,ob,n⟩ e _ h
 simp only[go_sem,seval,Zc] at e
 obtain ⟨⟨_,_,_⟩,_,hn⟩:=e
 subst hn
 have:=Zz (l_0.length)
 cases h
 simp only[*,go_sem,seval]
theorem ZgK {s_0:ByteArray} {r:Bool} (h:ZcE s_0=some r):Zl prog J0 163 [(false,[.str s_0])] [(false,[(false,.bool r)])]:=by
 refine fnk func163 rfl ?_
 unfold ZcE at h
 simp only[fnS,f163,Zm,go_sem,seval]
 refine Za h fun _ a h=>Zb (Zbv a) ?_
 cases h
 simp only[*,go_sem,seval]
end
section
set_option linter.unusedSimpArgs false
set_option linter.unusedVariables false
set_option maxRecDepth 1000000
set_option maxHeartbeats 4000000
theorem ZFm {l_0:(List Int)} {n_1:Int} {r:Bool} (h:ZD4 l_0 n_1=some r):Zl prog J0 302 [(false,[.sl 3 1 (A0 Z5 l_0)]),(false,[.int .i64 n_1])] [(false,[(false,.bool r)])]:=by
 refine fnk func302 rfl ?_
 unfold ZD4 at h
 simp only[fnS,f302,Zm,go_sem,seval]
 refine Zh h (fun i _ st=>IV [(0,.p false [.c (.sl 3 1 (A0 Z5 l_0))]),(1,.p false [.c (.int .i64 n_1)]),(5,.p false [.c (.int .i64 ((i:Nat):Int))])] [] st) [] [] (by decide) ?_ ?_ ?_
 simp only[*,go_sem,seval]
 rintro _ _ ⟨⟩ ⟨sl,ob,n⟩ _ a b f h d
 simp only[go_sem,seval,Zc] at b
 obtain ⟨⟨g,_,_⟩,hn⟩:=b
 subst hn
 have k:=WF.slotL f g (j:=0) rfl
 have:=ZB a
 have:=ZC a
 have:=Zj (ZA a) k
 simp only[*,go_sem,seval]
 refine Za h fun _ l h=>Zb (Zat l) ?_
 simp only[*,go_sem,seval]
 iterate 2 refine Ze h (fun _ h=>?_) fun _ h=>?_<;>try simp only[*,go_sem,seval]
 obtain ⟨_,_,_,_,h⟩:=Zci h
 simp only[*,go_sem,seval]
 refine Ze h (fun _ h=>?_) fun _ h=>?_<;>try simp only[*,go_sem,seval]
 replace h:=Zo h d
 cases h
 simp only[*,go_sem,seval]
 refine ⟨_,[],[],(A3 h).symm,by decide,?_⟩
 simp only[*,go_sem,seval]
 refine ⟨_,[],[],(A3 h).symm,by decide,?_⟩
 simp only[*,go_sem,seval]
 replace h:=Zo h d
 cases h
 simp only[*,go_sem,seval]
 rintro ⟨⟩ ⟨sl,ob,n⟩ e _ h
 simp only[go_sem,seval,Zc] at e
 obtain ⟨⟨_,_,_⟩,hn⟩:=e
 subst hn
 have:=Zz (l_0.length)
 cases h
 simp only[*,go_sem,seval]
theorem ZGl {a:Zu} {String_1:Int} {r:(List Bool)} (h:ZEk a String_1=some r):Zl prog J0 290 [(true,Qw a),(false,[.int .i64 String_1])] [(false,[(false,.sl 4 1 (A0 ZgO r))])]:=by
 refine fnk func290 rfl ?_
 unfold ZEk at h
 simp only[fnS,f290,Zm,go_sem,seval]
 obtain ⟨_,h⟩:=Zs h
 simp only[*,go_sem,seval]
 refine XH h (fun s st=>match s with | (l,m,d)=>IV [(2,.bp 0 0),(5,.p false [.row 1]),(6,.p false [.row 2]),(7,.p false [.c (.int .i64 d)])] [.box 91 [.c (.int .i64 a.nodes),.c (.sl 144 3 (A0 ZL a.reasons))],.row 4 1 (A0 ZgO l) 2,.row 3 1 (A0 Z5 m) 2] st) [] [0,64,112] (by decide) ?_ ?_
 simp only[*,go_sem,seval]
 rintro ⟨l,m,d⟩ ⟨sl,ob,n⟩ _ o _ h z
 simp only[go_sem,seval,Zc] at o
 obtain ⟨⟨_,_,_,_⟩,_,_,_,hn⟩:=o
 subst hn
 simp only[*,go_sem,seval]
 refine Ze h (fun _ h=>?_) fun _ h=>?_<;>try simp only[*,go_sem,seval]
 refine Zh h (fun i s st=>match s with | (e,f)=>IV [(2,.bp 0 0),(5,.p false [.row 1]),(6,.p false [.row 2]),(7,.p false [.c (.int .i64 d)]),(8,.p false [.c (.int .i64 ((i:Nat):Int))])] [.box 91 [.c (.int .i64 a.nodes),.c (.sl 144 3 (A0 ZL a.reasons))],.row 4 1 (A0 ZgO e) 2,.row 3 1 (A0 Z5 f) 2] st) [] [0,1,2] (by decide) ?_ ?_ ?_
 simp only[*,go_sem,seval]
 rintro A q ⟨e,f⟩ ⟨sl,ob,n⟩ _ g t B h _
 simp only[go_sem,seval,Zc] at t
 obtain ⟨⟨_,_,_,_,_⟩,C,_,_,hn⟩:=t
 subst hn
 have D:=WF.boxL B C (j:=1) rfl
 have:=ZB g
 have:=ZC g
 have:=Zj (ZA g) D
 obtain ⟨_,h⟩:=Zs h
 obtain ⟨_,_,h⟩:=ZJ h
 simp only[*,go_sem,seval]
 refine Ze h (fun _ h=>?_) fun _ h=>?_<;>try simp only[*,go_sem,seval]
 refine ⟨_,[],[0,1,2],(A3 h).symm,by decide,?_⟩
 simp only[*,go_sem,seval]
 refine Za h fun u E h=>Zb (ZHf E) ?_
 obtain ⟨_,h⟩:=Zs h
 simp only[*,go_sem,seval]
 refine XH h (fun s st=>match s with | (v,w,k)=>IV [(2,.bp 0 0),(5,.p false [.row 1]),(6,.p false [.row 2]),(7,.p false [.c (.int .i64 d)]),(8,.p false [.c (.int .i64 ((A:Nat):Int))]),(9,.p false [.row 3]),(10,.p false [.c (.int .i64 k)])] [.box 91 [.c (.int .i64 a.nodes),.c (.sl 144 3 (A0 ZL a.reasons))],.row 4 1 (A0 ZgO v) 2,.row 3 1 (A0 Z5 w) 2,.row 3 1 (A0 Z5 (u++q.outs)) 2] st) [] [0,1,2,467] (by decide) ?_ ?_
 simp only[*,go_sem,seval]
 rintro ⟨v,w,k⟩ ⟨sl,ob,n⟩ _ x _ h F
 simp only[go_sem,seval,Zc] at x
 obtain ⟨⟨_,_,_,_,_,_,_⟩,_,_,_,_,hn⟩:=x
 subst hn
 simp only[*,go_sem,seval]
 refine Ze h (fun _ h=>?_) fun _ h=>?_<;>try simp only[*,go_sem,seval]
 obtain ⟨_,h⟩:=Zs h
 obtain ⟨G,H,h⟩:=ZJ h
 have J:(A0 Z5 u++A0 Z5 q.outs)[(A6 k)]?=some (Z5 G):=by rw [←List.map_append,A5,H];rfl
 obtain ⟨_,h⟩:=Zs h
 obtain ⟨_,_,h⟩:=ZJ h
 simp only[*,go_sem,seval]
 refine Ze h (fun _ h=>?_) fun _ h=>?_<;>try simp only[*,go_sem,seval]
 refine ⟨_,[],[0,1,2,3],(A3 h).symm,by decide,?_⟩
 simp only[*,go_sem,seval]
 obtain ⟨I,h⟩:=Zs h
 try simp only[Nat.reduceLeDiff] at I
 simp only[*,go_sem,seval]
 refine ⟨_,[],[0,1,404,3],(A3 h).symm,by decide,?_⟩
 simp only[*,go_sem,seval]
 replace h:=Zo h F
 refine ⟨_,[],[0,1,2],(A3 h).symm,by decide,?_⟩
 simp only[*,go_sem,seval]
 rintro ⟨e,f⟩ ⟨sl,ob,n⟩ y _ h
 simp only[go_sem,seval,Zc] at y
 obtain ⟨⟨_,_,_,_,_⟩,_,_,_,hn⟩:=y
 subst hn
 have:=Zz (a.reasons.length)
 simp only[*,go_sem,seval]
 refine ⟨_,[],[0,1,2],(A3 h).symm,by decide,?_⟩
 simp only[*,go_sem,seval]
 replace h:=Zo h z
 cases h
 simp only[*,go_sem,seval]
theorem ZE2 {b:Zu} {e:(List Int)} {f:Int} {d:(List Int)} {g:Int} {r:(List Int)} (h:ZD5 b e f d g=some r):Zl prog J0 267 [(true,Qw b),(false,[.sl 3 1 (A0 Z5 e)]),(false,[.int .i64 f]),(false,[.sl 3 1 (A0 Z5 d)]),(false,[.int .i64 g])] [(false,[(false,.sl 3 1 (A0 Z5 r))])]:=by
 refine fnk func267 rfl ?_
 unfold ZD5 at h
 simp only[fnS,f267,Zm,go_sem,seval]
 refine XH h (fun s st=>match s with | (l,k)=>IV [(1,.p false [.c (.sl 3 1 (A0 Z5 e))]),(2,.p false [.c (.int .i64 f)]),(3,.p false [.c (.sl 3 1 (A0 Z5 d))]),(4,.p false [.c (.int .i64 g)]),(5,.bp 0 0),(11,.p false [.row 1]),(12,.p false [.c (.int .i64 k)])] [.box 91 [.c (.int .i64 b.nodes),.c (.sl 144 3 (A0 ZL b.reasons))],.row 3 1 (A0 Z5 l) 2] st) [] [0,32] (by decide) ?_ ?_
 simp only[*,go_sem,seval]
 rintro ⟨l,k⟩ ⟨sl,ob,n⟩ _ o _ h v
 simp only[go_sem,seval,Zc] at o
 obtain ⟨⟨_,_,_,_,_,_,_⟩,_,_,hn⟩:=o
 subst hn
 simp only[*,go_sem,seval]
 refine Ze h (fun _ h=>?_) fun _ h=>?_<;>try simp only[*,go_sem,seval]
 obtain ⟨_,_,_,_,h⟩:=Zci h
 simp only[*,go_sem,seval]
 refine Ze h (fun _ h=>?_) fun _ h=>?_<;>try simp only[*,go_sem,seval]
 refine ⟨_,[],[0,1],(A3 h).symm,by decide,?_⟩
 simp only[*,go_sem,seval]
 obtain ⟨q,_,_,_,h⟩:=Zci h
 simp only[*,go_sem,seval]
 refine Ze h (fun _ h=>?_) fun _ h=>?_<;>try simp only[*,go_sem,seval]
 refine ⟨_,[],[0,1],(A3 h).symm,by decide,?_⟩
 simp only[*,go_sem,seval]
 refine Zh h (fun i _ st=>IV [(1,.p false [.c (.sl 3 1 (A0 Z5 e))]),(2,.p false [.c (.int .i64 f)]),(3,.p false [.c (.sl 3 1 (A0 Z5 d))]),(4,.p false [.c (.int .i64 g)]),(5,.bp 0 0),(11,.p false [.row 1]),(12,.p false [.c (.int .i64 k)]),(13,.p false [.c (.int .i64 ((i:Nat):Int))]),(29,.p false [.c (.sl 3 1 (A0 Z5 d))]),(30,.p false [.c (.int .i64 k)]),(32,.p false [.c (.int .i64 q)]),(33,.p false [.c (.bool (decide (0≤q)))])] [.box 91 [.c (.int .i64 b.nodes),.c (.sl 144 3 (A0 ZL b.reasons))],.row 3 1 (A0 Z5 l) 2] st) [] [0,1] (by decide) ?_ ?_ ?_
 simp only[*,go_sem,seval]
 rintro _ _ ⟨⟩ ⟨sl,ob,n⟩ _ m t w h x
 simp only[go_sem,seval,Zc] at t
 obtain ⟨⟨_,_,_,_,_,_,_,_,_,_,_,_⟩,y,_,hn⟩:=t
 subst hn
 have z:=WF.boxL w y (j:=1) rfl
 have:=ZB m
 have:=ZC m
 have:=Zj (ZA m) z
 simp only[*,go_sem,seval]
 refine Ze h (fun _ h=>?_) fun _ h=>?_<;>try simp only[*,go_sem,seval]
 refine Za h fun _ A h=>Zb (ZEO A) ?_
 simp only[*,go_sem,seval]
 refine Ze h (fun _ h=>?_) fun _ h=>?_<;>try simp only[*,go_sem,seval]
 refine Za h fun _ B h=>Zb (ZFh B) ?_
 simp only[*,go_sem,seval]
 refine Ze h (fun _ h=>?_) fun _ h=>?_<;>try simp only[*,go_sem,seval]
 obtain ⟨C,h⟩:=Zs h
 try simp only[Nat.reduceLeDiff] at C
 replace h:=Zo h x
 simp only[*,go_sem,seval]
 refine ⟨_,[],[0,514],(A3 h).symm,by decide,?_⟩
 simp only[*,go_sem,seval]
 refine ⟨_,[],[0,1],(A3 h).symm,by decide,?_⟩
 simp only[*,go_sem,seval]
 refine ⟨_,[],[0,1],(A3 h).symm,by decide,?_⟩
 simp only[*,go_sem,seval]
 refine ⟨_,[],[0,1],(A3 h).symm,by decide,?_⟩
 simp only[*,go_sem,seval]
 rintro ⟨⟩ ⟨sl,ob,n⟩ u _ h
 simp only[go_sem,seval,Zc] at u
 obtain ⟨⟨_,_,_,_,_,_,_,_,_,_,_,_⟩,_,_,hn⟩:=u
 subst hn
 have:=Zz (b.reasons.length)
 simp only[*,go_sem,seval]
 refine ⟨_,[],[0,1],(A3 h).symm,by decide,?_⟩
 simp only[*,go_sem,seval]
 replace h:=Zo h v
 cases h
 simp only[*,go_sem,seval]
end
section
open Go.RowKit
structure Enc {α:Type} (c:ZaE α) (f:α→List CT):Prop where
 to:∀{w:World} {cs:List Value} {x:α} {L:List Nat},c.rep w cs x L→RCs w (f x) cs L
 of:∀{w:World} {cs:List Value} {x:α} {L:List Nat},RCs w (f x) cs L→c.rep w cs x L
section
variable {α:Type} {c:ZaE α} {f:α→List CT} {w:World}
theorem Enc.reps (h:Enc c f):∀{ds:List α} {xs:List Value} {L:List Nat},c.reps w xs ds L→REs w c.size (ds.map f) xs L
 | [],_,_,h1=>h1
 | _::_,_,_,⟨c1,c2,L1,L2,h1,h2,h3,h4⟩=>⟨c1,c2,L1,L2,h1,h2,⟨h.to h3,c.len h3⟩,h.reps h4⟩
theorem Enc.reps_of (h:Enc c f):∀{ds:List α} {xs:List Value} {L:List Nat},REs w c.size (ds.map f) xs L→c.reps w xs ds L
 | [],_,_,h1=>h1
 | _::_,_,_,⟨c1,c2,L1,L2,h1,h2,h3,h4⟩=>⟨c1,c2,L1,L2,h1,h2,h.of h3.1,h.reps_of h4⟩
theorem Enc.sl (h:Enc c f) (e:Nat) {v:Value} {ds:List α} {L:List Nat}:(ZfI c).rep w [v] ds L↔RC w (.sl e c.size (ds.map f)) v L:=by
 constructor
 ·rintro ⟨A,cap,hv,h1,h2,xs,L0,L1,hL,h3,h4⟩
  obtain rfl:v=_:=by simpa using hv
  exact ⟨A,cap,xs,L0,L1,by simp,by simpa using h1,h2,hL,c.pos,by simpa using h3,h.reps h4⟩
 ·rintro ⟨A,cap,xs,L0,L1,hv,h1,h2,hL,h0,h3,h4⟩
  exact ⟨A,cap,by simpa using hv,by simpa using h1,h2,xs,L0,L1,hL,by simpa using h3,h.reps_of h4⟩
theorem RCs.solo {x:CT} {v:Value} {L:List Nat} (h:RC w x v L):RCs w [x] [v] L:=⟨v,[],L,[],rfl,by simp,h,rfl,rfl⟩
end
theorem ZvS:Enc ZtW Zek where
 to:=fun ⟨h1,h2⟩=>by subst h1;subst h2;exact RCs.solo ⟨rfl,rfl⟩
 of:=fun ⟨v,cs',L1,L2,h1,h2,h3,h4,h5⟩=>by
  obtain ⟨rfl,rfl⟩:=h3
  subst h4;subst h5;exact ⟨h1,h2⟩
theorem encStr:Enc ZCD Zw where
 to:=fun ⟨h1,h2,h3⟩=>by subst h1;subst h2;exact RCs.solo ⟨rfl,rfl,h3⟩
 of:=fun ⟨v,cs',L1,L2,h1,h2,h3,h4,h5⟩=>by
  obtain ⟨rfl,rfl,t⟩:=h3
  subst h4;subst h5;exact ⟨h1,h2,t⟩
def ZAg (w:World):Bool × List CT→Value→Prop:=Zjv w fun _=>False
theorem ZzU {α:Type} {c:ZaE α} {f:α→List CT} (h:Enc c f) (e:Nat) {w:World} {v:Value} {ds:List α} {L:List Nat} (hr:(ZfI c).rep w [v] ds L):ZAg w (false,[.sl e c.size (ds.map f)]) v:=.inr ⟨rfl,_,L,rfl,(h.sl e).1 hr,fun _ _ h=>h⟩
section
variable {w w':World} {v:Value} {e:Ending}
theorem ZuI {B:Nat} {n:Nat→Prop} {x:RT} (h:Ziy w B n [x] v):∃F,OP w B n x v F∧Own w B F:=by
 obtain ⟨vs,F,⟨u,vs',F1,F2,rfl,rfl,h1,rfl,rfl⟩,h2,rfl⟩:=h
 rw [List.append_nil] at h2
 exact ⟨F1,by simpa using h1,h2⟩
theorem Ztf {b:Bool} {B:Nat} {m:Nat→Prop} (hr:Ziy w B m [(false,[(false,.bool b)])] v):v=.bool b:=by
 obtain ⟨F,h1,h2⟩:=ZuI hr
 rcases h1 with ⟨h1,_⟩ | ⟨_,ct,h1,h3⟩
 ·simp at h1
 ·obtain rfl:_=ct:=by simpa using h1
  exact h3.1.1
end
section
variable {P:Program} {J:World→Prop} {f:FuncId} {args:List (Bool × List CT)} {res:List RT}
theorem Zl.calls (h:Zl P J f args res) {w:World} {vs:List Value} (hj:J w) (ha:ZH (ZAg w) args vs):Calls P f vs.toArray w fun e w'=>∃v n,e=.returned v∧Ziy w' w.heap.size n res v∧Below w.heap.size w w':=
 (h.2 w (fun _=>False) vs hj (fun _ h=>h.elim) ha).mono fun _ _ ⟨v,n,h1,h2,_,h3⟩=>⟨v,n,h1,h2,h3⟩
theorem Zl.givesB {b:Bool} (h:Zl P J f args [(false,[(false,.bool b)])]) {w:World} {vs:List Value} (hj:J w) (ha:ZH (ZAg w) args vs):Calls P f vs.toArray w fun e w'=>e=.returned (.bool b)∧Below w.heap.size w w':=
 (h.calls hj ha).mono fun _ _ ⟨v,_,h1,h2,h3⟩=>⟨by rw [h1,Ztf h2],h3⟩
end
end
section
set_option linter.unusedSimpArgs false
set_option linter.unusedVariables false
set_option maxRecDepth 1000000
set_option maxHeartbeats 4000000
theorem ZbJ {l_0:(List Zd)} {f_1:Zd} {r:Int} (h:Ql l_0 f_1=some r):Zl prog J0 62 [(false,[.sl 71 2 (A0 Zq l_0)]),(true,Zq f_1)] [(false,[(false,.int .i64 r)])]:=by
 refine fnk func62 rfl ?_
 unfold Ql at h
 simp only[fnS,f62,Zm,go_sem,seval]
 refine Zh h (fun i _ st=>IV [(0,.p false [.c (.sl 71 2 (A0 Zq l_0))]),(3,.bp 0 0),(5,.p false [.c (.int .i64 ((i:Nat):Int))])] [.box 71 [.c (.str f_1.rel),.c (.sl 9 1 (A0 Zw f_1.args))]] st) [] [0] (by decide) ?_ ?_ ?_
 simp only[*,go_sem,seval]
 rintro _ _ ⟨⟩ ⟨sl,ob,n⟩ _ a b e h f
 simp only[go_sem,seval,Zc] at b
 obtain ⟨⟨g,_,_⟩,_,hn⟩:=b
 subst hn
 have k:=WF.slotL e g (j:=0) rfl
 have:=ZB a
 have:=ZC a
 have:=Zj (ZA a) k
 simp only[*,go_sem,seval]
 refine Za h fun _ l h=>Zb (Zpy l) ?_
 simp only[*,go_sem,seval]
 refine Ze h (fun _ h=>?_) fun _ h=>?_<;>try simp only[*,go_sem,seval]
 replace h:=Zo h f
 cases h
 simp only[*,go_sem,seval]
 refine ⟨_,[],[0],(A3 h).symm,by decide,?_⟩
 simp only[*,go_sem,seval]
 rintro ⟨⟩ ⟨sl,ob,n⟩ d _ h
 simp only[go_sem,seval,Zc] at d
 obtain ⟨⟨_,_,_⟩,_,hn⟩:=d
 subst hn
 have:=Zz (l_0.length)
 cases h
 simp only[*,go_sem,seval]
theorem ZF7 {b_0:Zu} {r:Bool} (h:ZEb b_0=some r):Zl prog J0 289 [(true,Qw b_0)] [(false,[(false,.bool r)])]:=by
 refine fnk func289 rfl ?_
 unfold ZEb at h
 simp only[fnS,f289,Zm,go_sem,seval]
 refine Zh h (fun i _ st=>IV [(1,.bp 0 0),(3,.p false [.c (.int .i64 ((i:Nat):Int))])] [.box 91 [.c (.int .i64 b_0.nodes),.c (.sl 144 3 (A0 ZL b_0.reasons))]] st) [] [0] (by decide) ?_ ?_ ?_
 simp only[*,go_sem,seval]
 rintro _ _ ⟨⟩ ⟨sl,ob,n⟩ _ a b e h f
 simp only[go_sem,seval,Zc] at b
 obtain ⟨⟨_,_⟩,g,hn⟩:=b
 subst hn
 have k:=WF.boxL e g (j:=1) rfl
 have:=ZB a
 have:=ZC a
 have:=Zj (ZA a) k
 simp only[*,go_sem,seval]
 refine Za h fun _ l h=>Zb (Zat l) ?_
 simp only[*,go_sem,seval]
 refine Ze h (fun _ h=>?_) fun _ h=>?_<;>try simp only[*,go_sem,seval]
 refine Za h fun _ m h=>Zb (ZFm m) ?_
 simp only[*,go_sem,seval]
 refine Ze h (fun _ h=>?_) fun _ h=>?_<;>try simp only[*,go_sem,seval]
 refine Za h fun _ o h=>Zb (ZFm o) ?_
 simp only[*,go_sem,seval]
 refine Ze h (fun _ h=>?_) fun _ h=>?_<;>try simp only[*,go_sem,seval]
 refine ⟨_,[],[0],(A3 h).symm,by decide,?_⟩
 iterate 3 (simp only[*,go_sem,seval];replace h:=Zo h f;cases h)
 simp only[*,go_sem,seval]
 rintro ⟨⟩ ⟨sl,ob,n⟩ d _ h
 simp only[go_sem,seval,Zc] at d
 obtain ⟨⟨_,_⟩,_,hn⟩:=d
 subst hn
 have:=Zz (b_0.reasons.length)
 simp only[*,go_sem,seval]
 refine Za h fun _ q h=>Zb (Zat q) ?_
 simp only[*,go_sem,seval]
 refine Ze h (fun _ h=>?_) fun _ h=>?_<;>try simp only[*,go_sem,seval]
 iterate 2 (cases h;simp only[*,go_sem,seval])
end
section
set_option linter.unusedSimpArgs false
set_option linter.unusedVariables false
set_option maxRecDepth 1000000
set_option maxHeartbeats 4000000
theorem XL {p_0:Zv} {r:Bool} (h:YR p_0=some r):Zl prog J0 93 [(true,Qz p_0)] [(false,[(false,.bool r)])]:=by
 refine fnk func93 rfl ?_
 unfold YR at h
 simp only[fnS,f93,Zm,go_sem,seval]
 refine Za h fun _ e h=>Zb (ZfA e) ?_
 simp only[*,go_sem,seval]
 iterate 2 refine Ze h (fun _ h=>?_) fun _ h=>?_<;>try simp only[*,go_sem,seval]
 cases h
 simp only[*,go_sem,seval]
 refine Zh h (fun i _ st=>IV [(16,.p false [.c (.sl 9 1 (A0 Zw p_0.args))]),(17,.p false [.c (.int .i64 ((p_0.args.length:Nat):Int))]),(18,.p false [.c (.int .i64 ((i:Nat):Int))])] [] st) [] [] (by decide) ?_ ?_ ?_
 simp only[*,go_sem,seval]
 rintro _ _ ⟨⟩ ⟨sl,ob,n⟩ _ a b f h g
 simp only[go_sem,seval,Zc] at b
 obtain ⟨⟨k,_,_⟩,hn⟩:=b
 subst hn
 have l:=WF.slotL f k (j:=0) rfl
 have:=ZB a
 have:=ZC a
 have:=Zj (ZA a) l
 simp only[*,go_sem,seval]
 refine Za h fun _ m h=>Zb (QF m) ?_
 simp only[*,go_sem,seval]
 refine Ze h (fun _ h=>?_) fun _ h=>?_<;>try simp only[*,go_sem,seval]
 refine ⟨_,[],[],(A3 h).symm,by decide,?_⟩
 simp only[*,go_sem,seval]
 replace h:=Zo h g
 cases h
 simp only[*,go_sem,seval]
 rintro ⟨⟩ ⟨sl,ob,n⟩ d _ h
 simp only[go_sem,seval,Zc] at d
 obtain ⟨⟨_,_,_⟩,hn⟩:=d
 subst hn
 have:=Zz (p_0.args.length)
 iterate 2 (cases h;simp only[*,go_sem,seval])
theorem Zo9 {a:(List Zp)} {b:ByteArray} {d:ByteArray} {r:((List Zp) × Bool)} (h:Zf0 a b d=some r):Zl prog J0 214 [(false,[.sl 135 2 (A0 ZZ a)]),(false,[.str b]),(false,[.str d])] [(false,[(false,.sl 135 2 (A0 ZZ r.1))]),(false,[(false,.bool r.2)])]:=by
 refine fnk func214 rfl ?_
 unfold Zf0 at h
 simp only[fnS,f214,Zm,go_sem,seval]
 refine Za h fun _ o h=>Zb (Qk o) ?_
 simp only[*,go_sem,seval]
 refine Ze h (fun _ h=>?_) fun _ h=>?_<;>try simp only[*,go_sem,seval]
 refine Za h fun _ q h=>Zb (ZcG q) ?_
 simp only[*,go_sem,seval]
 refine Ze h (fun _ h=>?_) fun _ h=>?_<;>try simp only[*,go_sem,seval]
 refine Za h fun _ t h=>Zb (XS t) ?_
 simp only[*,go_sem,seval]
 refine Ze h (fun _ h=>?_) fun _ h=>?_<;>try simp only[*,go_sem,seval]
 refine Za h fun _ u h=>Zb (Zcn u) ?_
 simp only[*,go_sem,seval]
 iterate 2 refine Ze h (fun _ h=>?_) fun _ h=>?_<;>try simp only[*,go_sem,seval]
 refine Za h fun _ v h=>Zb (Zfq v) ?_
 iterate 2 (cases h;simp only[*,go_sem,seval])
 refine Ze h (fun _ h=>?_) fun _ h=>?_<;>try simp only[*,go_sem,seval]
 cases h
 simp only[*,go_sem,seval]
 refine Zh h (fun i s st=>match s with | (e,f)=>IV [(1,.p false [.c (.str b)]),(2,.p false [.c (.str d)]),(10,.p false [.row 0]),(11,.p false [.c (.bool f)]),(42,.p false [.c (.sl 135 2 (A0 ZZ a))]),(43,.p false [.c (.int .i64 ((a.length:Nat):Int))]),(44,.p false [.c (.int .i64 ((i:Nat):Int))])] [.row 135 2 (A0 ZZ e) 2] st) [(false,10,0)] [512] (by decide) ?_ ?_ ?_
 simp only[*,go_sem,seval]
 rintro _ _ ⟨e,f⟩ ⟨sl,ob,n⟩ _ g l x h _
 simp only[go_sem,seval,Zc] at l
 obtain ⟨⟨_,_,_,_,y,_,_⟩,_,hn⟩:=l
 subst hn
 have z:=WF.slotL x y (j:=0) rfl
 have:=ZB g
 have:=ZC g
 have:=Zj (ZA g) z
 simp only[*,go_sem,seval]
 refine Ze h (fun _ h=>?_) fun _ h=>?_<;>try simp only[*,go_sem,seval]
 obtain ⟨A,h⟩:=Zs h
 try simp only[Nat.reduceLeDiff] at A
 simp only[*,go_sem,seval]
 refine ⟨_,[],[257],(A3 h).symm,by decide,?_⟩
 simp only[*,go_sem,seval]
 refine Ze h (fun k h=>?_) (fun k h=>?_)
 have B:=k
 obtain ⟨C,h⟩:=Zs h
 try simp only[Nat.reduceLeDiff] at C
 simp only[*,go_sem,seval]
 refine ⟨_,[],[257],(A3 h).symm,by decide,?_⟩
 simp only[*,go_sem,seval]
 have B:=k
 obtain ⟨D,h⟩:=Zs h
 try simp only[Nat.reduceLeDiff] at D
 obtain ⟨E,h⟩:=Zs h
 try simp only[Nat.reduceLeDiff] at E
 simp only[*,go_sem,seval]
 refine ⟨_,[],[385],(A3 h).symm,by decide,?_⟩
 simp only[*,go_sem,seval]
 rintro ⟨e,f⟩ ⟨sl,ob,n⟩ m _ h
 simp only[go_sem,seval,Zc] at m
 obtain ⟨⟨_,_,_,_,_,_,_⟩,_,hn⟩:=m
 subst hn
 have:=Zz (a.length)
 simp only[*,go_sem,seval]
 refine Ze h (fun _ h=>?_) fun _ h=>?_<;>try simp only[*,go_sem,seval]
 cases h
 simp only[*,go_sem,seval]
 obtain ⟨F,h⟩:=Zs h
 try simp only[Nat.reduceLeDiff] at F
 iterate 4 (cases h;simp only[*,go_sem,seval])
theorem Zdp {a_0:Zd} {b_1:Zd} {r:Int} (h:XJ a_0 b_1=some r):Zl prog J0 193 [(true,Zq a_0),(true,Zq b_1)] [(false,[(false,.int .i64 r)])]:=by
 refine fnk func193 rfl ?_
 unfold XJ at h
 simp only[fnS,f193,Zm,go_sem,seval]
 refine Za h fun _ f h=>Zb (Zhw f) ?_
 simp only[*,go_sem,seval]
 refine Ze h (fun _ h=>?_) fun _ h=>?_<;>try simp only[*,go_sem,seval]
 cases h
 simp only[*,go_sem,seval]
 refine Zh h (fun i _ st=>IV [(2,.bp 0 0),(3,.bp 1 0),(6,.p false [.c (.int .i64 ((i:Nat):Int))])] [.box 71 [.c (.str a_0.rel),.c (.sl 9 1 (A0 Zw a_0.args))],.box 71 [.c (.str b_1.rel),.c (.sl 9 1 (A0 Zw b_1.args))]] st) [] [0,16] (by decide) ?_ ?_ ?_
 simp only[*,go_sem,seval]
 rintro _ _ ⟨⟩ ⟨sl,ob,n⟩ _ a b g h d
 simp only[go_sem,seval,Zc] at b
 obtain ⟨⟨_,_,_⟩,k,_,hn⟩:=b
 subst hn
 have l:=WF.boxL g k (j:=1) rfl
 have:=ZB a
 have:=ZC a
 have:=Zj (ZA a) l
 simp only[*,go_sem,seval]
 refine Ze h (fun _ h=>?_) fun _ h=>?_<;>try simp only[*,go_sem,seval]
 obtain ⟨_,_,_,m,h⟩:=Zci h
 simp only[A4] at m
 simp only[*,go_sem,seval]
 refine Za h fun _ o h=>Zb (ZhS o) ?_
 simp only[*,go_sem,seval]
 refine Ze h (fun _ h=>?_) fun _ h=>?_<;>try simp only[*,go_sem,seval]
 replace h:=Zo h d
 cases h
 simp only[*,go_sem,seval]
 refine ⟨_,[],[0,1],(A3 h).symm,by decide,?_⟩
 simp only[*,go_sem,seval]
 refine Za h fun _ q h=>Zb (Zbp q) ?_
 replace h:=Zo h d
 cases h
 simp only[*,go_sem,seval]
 rintro ⟨⟩ ⟨sl,ob,n⟩ e _ h
 simp only[go_sem,seval,Zc] at e
 obtain ⟨⟨_,_,_⟩,_,_,hn⟩:=e
 subst hn
 have:=Zz (a_0.args.length)
 simp only[*,go_sem,seval]
 refine Za h fun _ t h=>Zb (Zbp t) ?_
 cases h
 simp only[*,go_sem,seval]
theorem ZcQ {r_0:Zf} {n_1:Int} {r:(List ByteArray)} (h:Qu r_0 n_1=some r):Zl prog J0 203 [(true,ZG r_0),(false,[.int .i64 n_1])] [(false,[(false,.sl 9 1 (A0 Zw r))])]:=by
 refine fnk func203 rfl ?_
 unfold Qu at h
 simp only[fnS,f203,Zm,go_sem,seval]
 refine Zh h (fun i a st=>IV [(1,.p false [.c (.int .i64 n_1)]),(5,.p false [.row 0]),(9,.p false [.c (.sl 60 5 (A0 ZK r_0.cond))]),(10,.p false [.c (.int .i64 ((r_0.cond.length:Nat):Int))]),(11,.p false [.c (.int .i64 ((i:Nat):Int))])] [.row 9 1 (A0 Zw a) 2] st) [(false,5,0)] [112] (by decide) ?_ ?_ ?_
 simp only[*,go_sem,seval]
 rintro _ _ a ⟨sl,ob,n⟩ _ b d f h _
 simp only[go_sem,seval,Zc] at d
 obtain ⟨⟨_,_,g,_,_⟩,_,hn⟩:=d
 subst hn
 have k:=WF.slotL f g (j:=0) rfl
 have:=ZB b
 have:=ZC b
 have:=Zj (ZA b) k
 simp only[*,go_sem,seval]
 iterate 2 refine Ze h (fun _ h=>?_) fun _ h=>?_<;>try simp only[*,go_sem,seval]
 refine Za h fun _ l h=>Zb (Zc1 l) ?_
 obtain ⟨_,h⟩:=Zs h
 simp only[*,go_sem,seval]
 refine ⟨_,[],[321],(A3 h).symm,by decide,?_⟩
 simp only[*,go_sem,seval]
 refine ⟨_,[],[0],(A3 h).symm,by decide,?_⟩
 simp only[*,go_sem,seval]
 refine ⟨_,[],[0],(A3 h).symm,by decide,?_⟩
 simp only[*,go_sem,seval]
 rintro a ⟨sl,ob,n⟩ e _ h
 simp only[go_sem,seval,Zc] at e
 obtain ⟨⟨_,_,_,_,_⟩,_,hn⟩:=e
 subst hn
 have:=Zz (r_0.cond.length)
 simp only[*,go_sem,seval]
 refine Za h fun _ m h=>Zb (XK m) ?_
 cases h
 simp only[*,go_sem,seval]
theorem ZbA {x_0:Zr} {r:(List ByteArray)} (h:X1 x_0=some r):Zl prog J0 255 [(true,ZK x_0)] [(false,[(false,.sl 9 1 (A0 Zw r))])]:=by
 refine fnk func255 rfl ?_
 unfold X1 at h
 simp only[fnS,f255,Zm,go_sem,seval]
 refine Za h fun _ a h=>Zb (ZnX a) ?_
 simp only[*,go_sem,seval]
 refine Za h fun _ b h=>Zb (Zc1 b) ?_
 simp only[*,go_sem,seval]
 refine Za h fun _ c h=>Zb (XK c) ?_
 cases h
 simp only[*,go_sem,seval]
theorem ZhC {facts_0:(List Zd)} {l_1:(List Zd)} {r:(List Int)} (h:Zcr facts_0 l_1=some r):Zl prog J0 175 [(false,[.sl 71 2 (A0 Zq facts_0)]),(false,[.sl 71 2 (A0 Zq l_1)])] [(false,[(false,.sl 3 1 (A0 Z5 r))])]:=by
 refine fnk func175 rfl ?_
 unfold Zcr at h
 simp only[fnS,f175,Zm,go_sem,seval]
 refine Zh h (fun i a st=>IV [(0,.p false [.c (.sl 71 2 (A0 Zq facts_0))]),(5,.p false [.row 0]),(9,.p false [.c (.sl 71 2 (A0 Zq l_1))]),(10,.p false [.c (.int .i64 ((l_1.length:Nat):Int))]),(11,.p false [.c (.int .i64 ((i:Nat):Int))])] [.row 3 1 (A0 Z5 a) 2] st) [(false,5,0)] [80] (by decide) ?_ ?_ ?_
 simp only[*,go_sem,seval]
 rintro _ _ a ⟨sl,ob,n⟩ _ b d f h _
 simp only[go_sem,seval,Zc] at d
 obtain ⟨⟨_,_,g,_,_⟩,_,hn⟩:=d
 subst hn
 have k:=WF.slotL f g (j:=0) rfl
 have:=ZB b
 have:=ZC b
 have:=Zj (ZA b) k
 simp only[*,go_sem,seval]
 refine Za h fun _ l h=>Zb (ZbG l) ?_
 simp only[*,go_sem,seval]
 refine Ze h (fun _ h=>?_) fun _ h=>?_<;>try simp only[*,go_sem,seval]
 refine Za h fun _ m h=>Zb (Zph m) ?_
 simp only[*,go_sem,seval]
 refine Ze h (fun _ h=>?_) fun _ h=>?_<;>try simp only[*,go_sem,seval]
 refine ⟨_,[],[0],(A3 h).symm,by decide,?_⟩
 simp only[*,go_sem,seval]
 obtain ⟨o,h⟩:=Zs h
 try simp only[Nat.reduceLeDiff] at o
 simp only[*,go_sem,seval]
 refine ⟨_,[],[321],(A3 h).symm,by decide,?_⟩
 simp only[*,go_sem,seval]
 refine ⟨_,[],[0],(A3 h).symm,by decide,?_⟩
 simp only[*,go_sem,seval]
 rintro a ⟨sl,ob,n⟩ e _ h
 simp only[go_sem,seval,Zc] at e
 obtain ⟨⟨_,_,_,_,_⟩,_,hn⟩:=e
 subst hn
 have:=Zz (l_1.length)
 simp only[*,go_sem,seval]
 obtain ⟨_,q,h⟩:=ZJ h
 refine QC (Zly q) ?_
 cases h
 simp only[*,go_sem,seval]
theorem ZlQ {facts_0:(List Zd)} {b_1:Zu} {r:(List Zd)} (h:ZcT facts_0 b_1=some r):Zl prog J0 122 [(false,[.sl 71 2 (A0 Zq facts_0)]),(true,Qw b_1)] [(false,[(false,.sl 71 2 (A0 Zq r))])]:=by
 refine fnk func122 rfl ?_
 unfold ZcT at h
 simp only[fnS,f122,Zm,go_sem,seval]
 refine Za h fun a g h=>Zb (Zjd g) ?_
 simp only[*,go_sem,seval]
 refine Zh h (fun i b st=>IV [(0,.p false [.c (.sl 71 2 (A0 Zq facts_0))]),(5,.p false [.row 0]),(9,.p false [.row 1]),(10,.p false [.c (.int .i64 ((a.length:Nat):Int))]),(11,.p false [.c (.int .i64 ((i:Nat):Int))])] [.row 71 2 (A0 Zq b) 2,.row 4 1 (A0 ZgO a) 2] st) [(false,5,0)] [112,64] (by decide) ?_ ?_ ?_
 simp only[*,go_sem,seval]
 rintro _ _ b ⟨sl,ob,n⟩ _ d e j h _
 simp only[go_sem,seval,Zc] at e
 obtain ⟨⟨_,_,_,_,_⟩,_,k,hn⟩:=e
 subst hn
 have l:=WF.rowL j k
 have:=ZB d
 have:=ZC d
 have:=Zj (ZA d) l
 simp only[*,go_sem,seval]
 refine Ze h (fun _ h=>?_) fun _ h=>?_<;>try simp only[*,go_sem,seval]
 obtain ⟨_,_,_,m,h⟩:=Zci h
 simp only[A4] at m
 simp only[*,go_sem,seval]
 refine Za h fun _ o h=>Zb (YC o) ?_
 obtain ⟨q,h⟩:=Zs h
 try simp only[Nat.reduceLeDiff] at q
 simp only[*,go_sem,seval]
 refine ⟨_,[],[226,1],(A3 h).symm,by decide,?_⟩
 simp only[*,go_sem,seval]
 refine ⟨_,[],[0,1],(A3 h).symm,by decide,?_⟩
 simp only[*,go_sem,seval]
 rintro b ⟨sl,ob,n⟩ f _ h
 simp only[go_sem,seval,Zc] at f
 obtain ⟨⟨_,_,_,_,_⟩,_,_,hn⟩:=f
 subst hn
 have:=Zz (a.length)
 cases h
 simp only[*,go_sem,seval]
theorem Qp {s_0:ByteArray} {r:Bool} (h:Qv s_0=some r):Zl prog J0 158 [(false,[.str s_0])] [(false,[(false,.bool r)])]:=by
 refine fnk func158 rfl ?_
 unfold Qv at h
 simp only[fnS,f158,Zm,go_sem,seval]
 refine Za h fun _ a h=>Zb (XR a) ?_
 simp only[*,go_sem,seval]
 refine Ze h (fun _ h=>?_) fun _ h=>?_<;>try simp only[*,go_sem,seval]
 cases h
 simp only[*,go_sem,seval]
 refine Za h fun _ b h=>Zb (Qq b) ?_
 cases h
 simp only[*,go_sem,seval]
theorem ZbQ {p_0:Zv} {r:(List ByteArray)} (h:Za0 p_0=some r):Zl prog J0 155 [(true,Qz p_0)] [(false,[(false,.sl 9 1 (A0 Zw r))])]:=by
 refine fnk func155 rfl ?_
 unfold Za0 at h
 simp only[fnS,f155,Zm,go_sem,seval]
 refine Zh h (fun i a st=>IV [(1,.bp 0 0),(3,.p false [.row 1]),(4,.p false [.c (.int .i64 ((i:Nat):Int))])] [.box 58 [.c (.str p_0.rel),.c (.sl 9 1 (A0 Zw p_0.args))],.row 9 1 (A0 Zw a) 2] st) [] [0,32] (by decide) ?_ ?_ ?_
 simp only[*,go_sem,seval]
 rintro _ _ a ⟨sl,ob,n⟩ _ b d f h _
 simp only[go_sem,seval,Zc] at d
 obtain ⟨⟨_,_,_⟩,g,_,hn⟩:=d
 subst hn
 have k:=WF.boxL f g (j:=1) rfl
 have:=ZB b
 have:=ZC b
 have:=Zj (ZA b) k
 simp only[*,go_sem,seval]
 refine Za h fun _ l h=>Zb (Qq l) ?_
 simp only[*,go_sem,seval]
 refine Ze h (fun _ h=>?_) fun _ h=>?_<;>try simp only[*,go_sem,seval]
 refine Za h fun _ m h=>Zb (Y1 m) ?_
 simp only[*,go_sem,seval]
 refine ⟨_,[],[0,274],(A3 h).symm,by decide,?_⟩
 simp only[*,go_sem,seval]
 refine ⟨_,[],[0,1],(A3 h).symm,by decide,?_⟩
 simp only[*,go_sem,seval]
 rintro a ⟨sl,ob,n⟩ e _ h
 simp only[go_sem,seval,Zc] at e
 obtain ⟨⟨_,_,_⟩,_,_,hn⟩:=e
 subst hn
 have:=Zz (p_0.args.length)
 cases h
 simp only[*,go_sem,seval]
theorem Za3 {a_0:Zd} {b_1:Zd} {r:Int} (h:YZ a_0 b_1=some r):Zl prog J0 52 [(true,Zq a_0),(true,Zq b_1)] [(false,[(false,.int .i64 r)])]:=by
 refine fnk func52 rfl ?_
 unfold YZ at h
 simp only[fnS,f52,Zm,go_sem,seval]
 refine Ze h (fun _ h=>?_) fun _ h=>?_<;>try simp only[*,go_sem,seval]
 refine Zh h (fun i _ st=>IV [(2,.bp 0 0),(3,.bp 1 0),(5,.p false [.c (.int .i64 ((i:Nat):Int))])] [.box 71 [.c (.str a_0.rel),.c (.sl 9 1 (A0 Zw a_0.args))],.box 71 [.c (.str b_1.rel),.c (.sl 9 1 (A0 Zw b_1.args))]] st) [] [0,16] (by decide) ?_ ?_ ?_
 simp only[*,go_sem,seval]
 rintro _ _ ⟨⟩ ⟨sl,ob,n⟩ _ a d f h b
 simp only[go_sem,seval,Zc] at d
 obtain ⟨⟨_,_,_⟩,g,_,hn⟩:=d
 subst hn
 have k:=WF.boxL f g (j:=1) rfl
 have:=ZB a
 have:=ZC a
 have:=Zj (ZA a) k
 simp only[*,go_sem,seval]
 refine Ze h (fun _ h=>?_) fun _ h=>?_<;>try simp only[*,go_sem,seval]
 obtain ⟨_,_,_,l,h⟩:=Zci h
 simp only[A4] at l
 simp only[*,go_sem,seval]
 refine Za h fun _ m h=>Zb (Zdr m) ?_
 simp only[*,go_sem,seval]
 refine Ze h (fun _ h=>?_) fun _ h=>?_<;>try simp only[*,go_sem,seval]
 replace h:=Zo h b
 cases h
 simp only[*,go_sem,seval]
 refine ⟨_,[],[0,1],(A3 h).symm,by decide,?_⟩
 simp only[*,go_sem,seval]
 refine Ze h (fun _ h=>?_) fun _ h=>?_<;>try simp only[*,go_sem,seval]
 replace h:=Zo h b
 cases h
 simp only[*,go_sem,seval]
 refine Ze h (fun _ h=>?_) fun _ h=>?_<;>try simp only[*,go_sem,seval]
 iterate 2 (replace h:=Zo h b;cases h;simp only[*,go_sem,seval])
 rintro ⟨⟩ ⟨sl,ob,n⟩ e _ h
 simp only[go_sem,seval,Zc] at e
 obtain ⟨⟨_,_,_⟩,_,_,hn⟩:=e
 subst hn
 have:=Zz (a_0.args.length)
 iterate 2 (simp only[*,go_sem,seval];(refine Ze h (fun _ h=>?_) fun _ h=>?_<;>try simp only[*,go_sem,seval]);cases h)
 simp only[*,go_sem,seval]
 cases h
 simp only[*,go_sem,seval]
 refine Za h fun _ o h=>Zb (Zkf o) ?_
 cases h
 simp only[*,go_sem,seval]
theorem ZLC {c_0:ZF} {r:(ByteArray × ZF)} (h:ZKY c_0=some r):ZaU prog J0 JF0 270 (.box 184 (Za7 c_0)) [] [(false,[(false,.str r.1)])] (.box 184 (Za7 r.2)):=by
 refine fnh func270 rfl ?_
 unfold ZKY at h
 have a:Z2 ⟨#[49]⟩=true:=by decide
 have b:Z2 ⟨#[50]⟩=true:=by decide
 have c:Z2 ⟨#[97]⟩=true:=by decide
 have d:Z2 ⟨#[98]⟩=true:=by decide
 have e:Z2 ⟨#[99]⟩=true:=by decide
 have f:Z2 ⟨#[]⟩=true:=by decide
 simp only[fnH,f270,ZcO,ZcW,Y9,go_sem,seval,a,b,c,d,e,f]
 obtain ⟨_,g,h⟩:=ZJ h
 refine QC (ZjQ g) ?_
 cases h
 simp only[*,go_sem,seval]
theorem ZMW {c_0:ZF} {l_1:ByteArray} {r_2:ByteArray} {r:(Zr × ZF)} (h:ZLY c_0 l_1 r_2=some r):ZaU prog J0 JF0 264 (.box 184 (Za7 c_0)) [(false,[.str l_1]),(false,[.str r_2])] [(true,[(false,.int .i64 r.1.kind),(false,.str r.1.pattern.rel),(false,.sl 9 1 (A0 Zw r.1.pattern.args)),(false,.str r.1.left),(false,.str r.1.right)])] (.box 184 (Za7 r.2)):=by
 refine fnh func264 rfl ?_
 unfold ZLY at h
 simp only[fnH,f264,ZcO,ZcW,Y9,go_sem,seval]
 obtain ⟨_,a,h⟩:=ZJ h
 refine QC (ZKQ a) ?_
 cases h
 simp only[*,go_sem,seval]
theorem ZKU {c_0:ZF} {r:(ByteArray × ZF)} (h:ZKR c_0=some r):ZaU prog J0 JF0 165 (.box 184 (Za7 c_0)) [] [(false,[(false,.str r.1)])] (.box 184 (Za7 r.2)):=by
 refine fnh func165 rfl ?_
 unfold ZKR at h
 have a:Z2 ⟨#[111,110]⟩=true:=by decide
 have b:Z2 ⟨#[120,49]⟩=true:=by decide
 have c:Z2 ⟨#[45,51]⟩=true:=by decide
 have d:Z2 ⟨#[48,48,55]⟩=true:=by decide
 have e:Z2 ⟨#[48]⟩=true:=by decide
 have f:Z2 ⟨#[49,120]⟩=true:=by decide
 have g:Z2 ⟨#[49,48,48,48,48]⟩=true:=by decide
 have i:Z2 ⟨#[49,48]⟩=true:=by decide
 have j:Z2 ⟨#[55]⟩=true:=by decide
 have k:Z2 ⟨#[57,57,57,57]⟩=true:=by decide
 have l:Z2 ⟨#[63,120]⟩=true:=by decide
 have m:Z2 ⟨#[63,63]⟩=true:=by decide
 have o:Z2 ⟨#[63,97,98,99,100,101,102,103,104]⟩=true:=by decide
 have p:Z2 ⟨#[63]⟩=true:=by decide
 have q:Z2 ⟨#[65]⟩=true:=by decide
 have t:Z2 ⟨#[97,45,98]⟩=true:=by decide
 have u:Z2 ⟨#[97,98,99,100,101,102,103,104,105]⟩=true:=by decide
 have v:Z2 ⟨#[97,98,99,100,101,102,103,104]⟩=true:=by decide
 have w:Z2 ⟨#[97]⟩=true:=by decide
 have x:Z2 ⟨#[98]⟩=true:=by decide
 have y:Z2 ⟨#[]⟩=true:=by decide
 simp only[fnH,f165,ZcO,ZcW,Y9,go_sem,seval,a,b,c,d,e,f,g,i,j,k,l,m,o,p,q,t,u,v,w,x,y]
 obtain ⟨_,z,h⟩:=ZJ h
 refine QC (ZjQ z) ?_
 cases h
 simp only[*,go_sem,seval]
theorem ZMN {l_0:(List Zr)} {r:Zf} (h:ZK9 l_0=some r):Zl prog J0 72 [(false,[.sl 60 5 (A0 ZK l_0)])] [(true,[(false,.str r.name),(false,.int .i64 r.priority),(false,.sl 60 5 (A0 ZK r.cond)),(false,.sl 166 3 (A0 ZD r.thn))])]:=by
 refine fnk func72 rfl ?_
 unfold ZK9 at h
 have f:Z2 ⟨#[97,115,107]⟩=true:=by decide
 simp only[fnS,f72,Zm,go_sem,seval,f]
 refine Zh h (fun i a st=>IV [(0,.p false [.c (.sl 60 5 (A0 ZK l_0))]),(2,.bp 0 0),(3,.bp 1 0),(4,.p false [.c (.int .i64 ((i:Nat):Int))])] [.box 104 [.c (.str ⟨#[]⟩),.c (.int .i64 0),.nil 60 5,.nil 166 3],.box 104 [.c (.str ⟨#[97,115,107]⟩),.c (.int .i64 0),.row 2,.row 3],.row 60 5 (A0 ZK a) 2,.row 166 3 (A0 ZD ([({ kind:=3,pattern:=({ rel:=(⟨#[]⟩),args:=[] }:Zv) }:Zx)])) 2] st) [(true,64,2)] [0,64,112,32] (by decide) ?_ ?_ ?_
 simp only[*,go_sem,seval]
 rintro _ _ a ⟨sl,ob,n⟩ _ b d g h _
 simp only[go_sem,seval,Zc] at d
 obtain ⟨⟨k,_,_,_⟩,_,_,_,_,hn⟩:=d
 subst hn
 have l:=WF.slotL g k (j:=0) rfl
 have:=ZB b
 have:=ZC b
 have:=Zj (ZA b) l
 simp only[*,go_sem,seval]
 refine Za h fun _ m h=>Zb (ZM2 m) ?_
 obtain ⟨o,h⟩:=Zs h
 try simp only[Nat.reduceLeDiff] at o
 simp only[*,go_sem,seval]
 refine ⟨_,[],[0,1,196,3],(A3 h).symm,by decide,?_⟩
 simp only[*,go_sem,seval]
 rintro a ⟨sl,ob,n⟩ e _ h
 simp only[go_sem,seval,Zc] at e
 obtain ⟨⟨_,_,_,_⟩,_,_,_,_,hn⟩:=e
 subst hn
 have:=Zz (l_0.length)
 cases h
 simp only[*,go_sem,seval]
theorem Zjg {f_0:Zd} {r:Bool} (h:ZdZ f_0=some r):Zl prog J0 188 [(true,Zq f_0)] [(false,[(false,.bool r)])]:=by
 refine fnk func188 rfl ?_
 unfold ZdZ at h
 simp only[fnS,f188,Zm,go_sem,seval]
 refine Zh h (fun i _ st=>IV [(1,.bp 0 0),(3,.p false [.c (.int .i64 ((i:Nat):Int))])] [.box 71 [.c (.str f_0.rel),.c (.sl 9 1 (A0 Zw f_0.args))]] st) [] [0] (by decide) ?_ ?_ ?_
 simp only[*,go_sem,seval]
 rintro _ _ ⟨⟩ ⟨sl,ob,n⟩ _ a b e h f
 simp only[go_sem,seval,Zc] at b
 obtain ⟨⟨_,_⟩,g,hn⟩:=b
 subst hn
 have k:=WF.boxL e g (j:=1) rfl
 have:=ZB a
 have:=ZC a
 have:=Zj (ZA a) k
 simp only[*,go_sem,seval]
 refine Za h fun _ l h=>Zb (XR l) ?_
 simp only[*,go_sem,seval]
 refine Ze h (fun _ h=>?_) fun _ h=>?_<;>try simp only[*,go_sem,seval]
 refine ⟨_,[],[0],(A3 h).symm,by decide,?_⟩
 simp only[*,go_sem,seval]
 replace h:=Zo h f
 cases h
 simp only[*,go_sem,seval]
 rintro ⟨⟩ ⟨sl,ob,n⟩ d _ h
 simp only[go_sem,seval,Zc] at d
 obtain ⟨⟨_,_⟩,_,hn⟩:=d
 subst hn
 have:=Zz (f_0.args.length)
 simp only[*,go_sem,seval]
 refine Za h fun _ m h=>Zb (ZfW m) ?_
 simp only[*,go_sem,seval]
 refine Ze h (fun _ h=>?_) fun _ h=>?_<;>try simp only[*,go_sem,seval]
 iterate 2 (cases h;simp only[*,go_sem,seval])
theorem Qy {b_0:(List Zp)} {r:Bool} (h:Xt b_0=some r):Zl prog J0 89 [(false,[.sl 135 2 (A0 ZZ b_0)])] [(false,[(false,.bool r)])]:=by
 refine fnk func89 rfl ?_
 unfold Xt at h
 simp only[fnS,f89,Zm,go_sem,seval]
 refine Zh h (fun i _ st=>IV [(0,.p false [.c (.sl 135 2 (A0 ZZ b_0))]),(3,.p false [.c (.int .i64 ((i:Nat):Int))])] [] st) [] [] (by decide) ?_ ?_ ?_
 simp only[*,go_sem,seval]
 rintro _ _ ⟨⟩ ⟨sl,ob,n⟩ _ a b f h d
 simp only[go_sem,seval,Zc] at b
 obtain ⟨⟨g,_⟩,hn⟩:=b
 subst hn
 have k:=WF.slotL f g (j:=0) rfl
 have:=ZB a
 have:=ZC a
 have:=Zj (ZA a) k
 simp only[*,go_sem,seval]
 refine Za h fun _ l h=>Zb (Qq l) ?_
 simp only[*,go_sem,seval]
 refine Ze h (fun _ h=>?_) fun _ h=>?_<;>try simp only[*,go_sem,seval]
 refine Za h fun _ m h=>Zb (XR m) ?_
 simp only[*,go_sem,seval]
 iterate 2 refine Ze h (fun _ h=>?_) fun _ h=>?_<;>try simp only[*,go_sem,seval]
 obtain ⟨_,_,_,_,h⟩:=Zci h
 simp only[*,go_sem,seval]
 refine Ze h (fun _ h=>?_) fun _ h=>?_<;>try simp only[*,go_sem,seval]
 refine ⟨_,[],[],(A3 h).symm,by decide,?_⟩
 simp only[*,go_sem,seval]
 replace h:=Zo h d
 cases h
 simp only[*,go_sem,seval]
 refine ⟨_,[],[],(A3 h).symm,by decide,?_⟩
 iterate 2 (simp only[*,go_sem,seval];replace h:=Zo h d;cases h)
 simp only[*,go_sem,seval]
 rintro ⟨⟩ ⟨sl,ob,n⟩ e _ h
 simp only[go_sem,seval,Zc] at e
 obtain ⟨⟨_,_⟩,hn⟩:=e
 subst hn
 have:=Zz (b_0.length)
 cases h
 simp only[*,go_sem,seval]
theorem Zcl {b_0:(List Zp)} {term_1:ByteArray} {r:(ByteArray × Bool)} (h:ZaI b_0 term_1=some r):Zl prog J0 162 [(false,[.sl 135 2 (A0 ZZ b_0)]),(false,[.str term_1])] [(false,[(false,.str r.1)]),(false,[(false,.bool r.2)])]:=by
 refine fnk func162 rfl ?_
 unfold ZaI at h
 have e:Z2 ⟨#[]⟩=true:=by decide
 simp only[fnS,f162,Zm,go_sem,seval,e]
 refine Za h fun _ f h=>Zb (XR f) ?_
 simp only[*,go_sem,seval]
 refine Ze h (fun _ h=>?_) fun _ h=>?_<;>try simp only[*,go_sem,seval]
 cases h
 simp only[*,go_sem,seval]
 refine Zh h (fun i _ st=>IV [(0,.p false [.c (.sl 135 2 (A0 ZZ b_0))]),(1,.p false [.c (.str term_1)]),(6,.p false [.c (.int .i64 ((i:Nat):Int))])] [] st) [] [] (by decide) ?_ ?_ ?_
 simp only[*,go_sem,seval]
 rintro _ _ ⟨⟩ ⟨sl,ob,n⟩ _ a b g h k
 simp only[go_sem,seval,Zc] at b
 obtain ⟨⟨l,_,_⟩,hn⟩:=b
 subst hn
 have m:=WF.slotL g l (j:=0) rfl
 have:=ZB a
 have:=ZC a
 have:=Zj (ZA a) m
 simp only[*,go_sem,seval]
 refine Ze h (fun _ h=>?_) fun _ h=>?_<;>try simp only[*,go_sem,seval]
 refine Za h fun _ o h=>Zb (Qq o) ?_
 simp only[*,go_sem,seval]
 refine Ze h (fun _ h=>?_) fun _ h=>?_<;>try simp only[*,go_sem,seval]
 replace h:=Zo h k
 cases h
 simp only[*,go_sem,seval]
 refine ⟨_,[],[],(A3 h).symm,by decide,?_⟩
 simp only[*,go_sem,seval]
 refine ⟨_,[],[],(A3 h).symm,by decide,?_⟩
 simp only[*,go_sem,seval]
 rintro ⟨⟩ ⟨sl,ob,n⟩ d _ h
 simp only[go_sem,seval,Zc] at d
 obtain ⟨⟨_,_,_⟩,hn⟩:=d
 subst hn
 have:=Zz (b_0.length)
 cases h
 simp only[*,go_sem,seval]
theorem Zoi {t_0:Zt} {r:Zt} (h:ZfQ t_0=some r):Zl prog J0 247 [(true,YE t_0)] [(true,[(false,.sl 71 2 (A0 Zq r.facts)),(false,.sl 135 2 (A0 ZZ r.binding))])]:=by
 refine fnk func247 rfl ?_
 unfold ZfQ at h
 simp only[fnS,f247,Zm,go_sem,seval]
 refine Za h fun _ a h=>Zb (ZdO a) ?_
 simp only[*,go_sem,seval]
 refine Za h fun _ b h=>Zb (Zf8 b) ?_
 cases h
 simp only[*,go_sem,seval]
theorem ZgA {l_0:(List Zd)} {facts_1:(List Zd)} {r:(List Int)} (h:Zbu l_0 facts_1=some r):Zl prog J0 230 [(false,[.sl 71 2 (A0 Zq l_0)]),(false,[.sl 71 2 (A0 Zq facts_1)])] [(false,[(false,.sl 3 1 (A0 Z5 r))])]:=by
 refine fnk func230 rfl ?_
 unfold Zbu at h
 simp only[fnS,f230,Zm,go_sem,seval]
 refine Zh h (fun i a st=>IV [(0,.p false [.c (.sl 71 2 (A0 Zq l_0))]),(1,.p false [.c (.sl 71 2 (A0 Zq facts_1))]),(5,.p false [.row 0]),(6,.p false [.c (.int .i64 ((i:Nat):Int))])] [.row 3 1 (A0 Z5 a) 2] st) [] [16] (by decide) ?_ ?_ ?_
 simp only[*,go_sem,seval]
 rintro _ _ a ⟨sl,ob,n⟩ _ b d f h _
 simp only[go_sem,seval,Zc] at d
 obtain ⟨⟨_,g,_,_⟩,_,hn⟩:=d
 subst hn
 have k:=WF.slotL f g (j:=0) rfl
 have:=ZB b
 have:=ZC b
 have:=Zj (ZA b) k
 simp only[*,go_sem,seval]
 refine Za h fun _ l h=>Zb (ZbJ l) ?_
 simp only[*,go_sem,seval]
 refine Ze h (fun _ h=>?_) fun _ h=>?_<;>try simp only[*,go_sem,seval]
 refine Za h fun _ m h=>Zb (Zpb m) ?_
 simp only[*,go_sem,seval]
 refine ⟨_,[],[241],(A3 h).symm,by decide,?_⟩
 simp only[*,go_sem,seval]
 refine ⟨_,[],[0],(A3 h).symm,by decide,?_⟩
 simp only[*,go_sem,seval]
 rintro a ⟨sl,ob,n⟩ e _ h
 simp only[go_sem,seval,Zc] at e
 obtain ⟨⟨_,_,_,_⟩,_,hn⟩:=e
 subst hn
 have:=Zz (facts_1.length)
 cases h
 simp only[*,go_sem,seval]
end
end Go.Proofs.YtekbmedphidcgaaGreatDoor
