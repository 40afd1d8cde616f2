/- Texts of this proof, joined: Shelf, SortH, SortZ, LCompare, SortS, LAtoi, LItoa, Ext, Dp0, Dp1, Dp2, Dp4, Dp3, BStd, DE, Dm, De, Dp5, Dp6. What each holds is said at its theorems. -/
import Derived.Shelf.Small.Strs
import Derived.Shelf.Small.Wraps
import Derived.Shelf.Strconv.Atoi
import Derived.Shelf.Strconv.Itoa0
import Derived.Shelf.Strconv.Itoa1
import Derived.Shelf.LaysM
import Derived.Shelf.Strconv.Itoa2
import Derived.Shelf.Strconv.Itoa3
import Derived.Shelf.Strconv.AtoiErrFast
import Derived.Shelf.Strconv.ParseIntEmpty
import Derived.Shelf.Strconv.AtoiFail
import Derived.Shelf.Strconv.Clone
import Derived.Shelf.Strconv.SyntaxError
import Derived.Shelf.LaysC
import Derived.Shelf.Strconv.ToError
import Derived.Shelf.Strconv.AtoiErr
import Derived.Shelf.Strconv.ErrVar
import Derived.Shelf.Sort.Plain
import Derived.Shelf.Slices.In.SortNone
import Derived.Shelf.Slices.In.SortNone2
import Derived.Test.YtekbmedphidcgaaGreatDoorProg
import Derived.Test.YtekbmedphidcgaaGreatDoorProofOfQ5
import Derived.Test.YtekbmedphidcgaaGreatDoorProofOfQ1
import Derived.Lib.AtoiErrMem
import Derived.Lib.AppendIntMem
import Derived.Lib.ItoaLen
import Derived.Test.YtekbmedphidcgaaGreatDoorProofOfQ4
import Derived.Test.YtekbmedphidcgaaGreatDoorProofOfQ3
import Derived.Deep.OwnRows
import Derived.OwnWalk
import Derived.Outline
import Derived.WalkSpells
import Derived.StillTailTactics
import Derived.BigGuard
open Array renaming getElem?_toList→AN,getElem?_modify→AO
open Bool renaming and_eq_true→AE,false_or→AR,or_false→AS
open Int renaming toNat_natCast→AB
open List renaming map→A0,replicate→A4,append_nil→A5,range'→A6,nil_append→A7,append_assoc→A8,getElem?_eq_getElem→AC,getElem?_map→AD,eq_nil_of_length_eq_zero→AF,getElem?_eq_some_iff→AH,all_eq_true→AI,take_of_length_le→AJ,getElem?_take→AL,getElem?_drop→AM,size_toArray→AP,map_map→AQ,getElem?_replicate→AT,mem_append→AU,mem_of_getElem?→AW,foldl_append→AX,getElem_mem→AY
open Nat renaming le_refl→A9,zero_le→AA,le_trans→AG,le_of_eq→AK
open Option.some renaming inj→A3
open Go.Proofs.Tryz
set_option linter.unusedSimpArgs false
set_option linter.unusedVariables false
set_option maxRecDepth 1000000
set_option maxHeartbeats 4000000
namespace Go.Proofs
open Go.Shelf
def lays106_ren:Go.Shelf.Ren:=⟨fun | 106=>250 | 213=>281 | 265=>296 | n=>n,fun | 9=>9 | 3=>3 | n=>n,fun | n=>n⟩
theorem lays106:Go.Proofs.Lays.n106 prog lays106_ren:={
 mixed:=by kernel_rfl
 f106:=func250.trans (congrArg some (by kernel_rfl))
 f213:=func281.trans (congrArg some (by kernel_rfl))
 f265:=func296.trans (congrArg some (by kernel_rfl))
 t3:=underlying3
 a3:=isAgg3
 z3:=sizeOf3
 v3:=zeroValue3
 t9:=underlying9
 a9:=isAgg9
 z9:=sizeOf9
 v9:=zeroValue9 }
open Go.RowKit in
theorem strings_Compare (a b:ByteArray) (w:World):
  Calls prog 250 #[.string a,.string b] w fun e w'=>e=.returned (.int .i64 (Lib.compareBytes a.data.toList b.data.toList))∧w'=w:=Any.strings_Compare lays106 a b w
def lays172_ren:Go.Shelf.Ren:=⟨fun | 172=>284 | 244=>298 | 245=>299 | 247=>324 | 279=>325 | 280=>326 | 281=>327 | 282=>328 | 287=>340 | 316=>341 | 171=>300 | 205=>342 | 321=>346 | 322=>347 | 243=>329 | 246=>343 | 283=>348 | 284=>349 | 285=>350 | 286=>351 | 129=>314 | 317=>352 | 318=>353 | 319=>354 | 320=>355 | 337=>356 | 338=>357 | n=>n,fun | 9=>9 | 3=>3 | 75=>264 | 76=>265 | 4=>4 | 5=>5 | 167=>297 | 37=>48 | 0=>0 | 85=>298 | 2=>2 | 168=>300 | 53=>290 | 175=>312 | 46=>250 | 210=>316 | 127=>324 | 145=>327 | 143=>325 | 21=>21 | 171=>328 | 173=>330 | 212=>334 | 51=>288 | 20=>20 | 213=>335 | 232=>336 | 233=>337 | 80=>338 | n=>n,fun | 15=>1 | 16=>2 | 17=>3 | 18=>4 | 19=>5 | n=>n⟩
theorem lays172:Go.Proofs.Lays.n172 prog lays172_ren:={
 mixed:=by kernel_rfl
 f129:=func314.trans (congrArg some (by kernel_rfl))
 f171:=func300.trans (congrArg some (by kernel_rfl))
 f172:=func284.trans (congrArg some (by kernel_rfl))
 f205:=func342.trans (congrArg some (by kernel_rfl))
 f243:=func329.trans (congrArg some (by kernel_rfl))
 f244:=func298.trans (congrArg some (by kernel_rfl))
 f245:=func299.trans (congrArg some (by kernel_rfl))
 f246:=func343.trans (congrArg some (by kernel_rfl))
 f247:=func324.trans (congrArg some (by kernel_rfl))
 f279:=func325.trans (congrArg some (by kernel_rfl))
 f280:=func326.trans (congrArg some (by kernel_rfl))
 f281:=func327.trans (congrArg some (by kernel_rfl))
 f282:=func328.trans (congrArg some (by kernel_rfl))
 f283:=func348.trans (congrArg some (by kernel_rfl))
 f284:=func349.trans (congrArg some (by kernel_rfl))
 f285:=func350.trans (congrArg some (by kernel_rfl))
 f286:=func351.trans (congrArg some (by kernel_rfl))
 f287:=func340.trans (congrArg some (by kernel_rfl))
 f316:=func341.trans (congrArg some (by kernel_rfl))
 f317:=func352.trans (congrArg some (by kernel_rfl))
 f318:=func353.trans (congrArg some (by kernel_rfl))
 f319:=func354.trans (congrArg some (by kernel_rfl))
 f320:=func355.trans (congrArg some (by kernel_rfl))
 f321:=func346.trans (congrArg some (by kernel_rfl))
 f322:=func347.trans (congrArg some (by kernel_rfl))
 f337:=func356.trans (congrArg some (by kernel_rfl))
 f338:=func357.trans (congrArg some (by kernel_rfl))
 t0:=underlying0
 a0:=isAgg0
 z0:=sizeOf0
 v0:=zeroValue0
 t2:=underlying2
 a2:=isAgg2
 z2:=sizeOf2
 v2:=zeroValue2
 t3:=underlying3
 a3:=isAgg3
 z3:=sizeOf3
 v3:=zeroValue3
 t4:=underlying4
 a4:=isAgg4
 z4:=sizeOf4
 v4:=zeroValue4
 t5:=underlying5
 a5:=isAgg5
 z5:=sizeOf5
 v5:=zeroValue5
 t9:=underlying9
 a9:=isAgg9
 z9:=sizeOf9
 v9:=zeroValue9
 t20:=underlying20
 a20:=isAgg20
 z20:=sizeOf20
 v20:=zeroValue20
 t21:=underlying21
 a21:=isAgg21
 z21:=sizeOf21
 v21:=zeroValue21
 t37:=underlying48
 a37:=isAgg48
 z37:=sizeOf48
 v37:=zeroValue48
 t46:=underlying250
 a46:=isAgg250
 z46:=sizeOf250
 v46:=zeroValue250
 t51:=underlying288
 a51:=isAgg288
 z51:=sizeOf288
 v51:=zeroValue288
 t53:=underlying290
 a53:=isAgg290
 z53:=sizeOf290
 v53:=zeroValue290
 t75:=underlying264
 a75:=isAgg264
 z75:=sizeOf264
 v75:=zeroValue264
 t76:=underlying265
 a76:=isAgg265
 z76:=sizeOf265
 v76:=zeroValue265
 t85:=underlying298
 a85:=isAgg298
 z85:=sizeOf298
 v85:=zeroValue298
 t127:=underlying324
 a127:=isAgg324
 z127:=sizeOf324
 v127:=zeroValue324
 t143:=underlying325
 a143:=isAgg325
 z143:=sizeOf325
 v143:=zeroValue325
 t145:=underlying327
 a145:=isAgg327
 z145:=sizeOf327
 v145:=zeroValue327
 t167:=underlying297
 a167:=isAgg297
 z167:=sizeOf297
 v167:=zeroValue297
 t168:=underlying300
 a168:=isAgg300
 z168:=sizeOf300
 v168:=zeroValue300
 t171:=underlying328
 a171:=isAgg328
 z171:=sizeOf328
 v171:=zeroValue328
 t173:=underlying330
 a173:=isAgg330
 z173:=sizeOf330
 v173:=zeroValue330
 t175:=underlying312
 a175:=isAgg312
 z175:=sizeOf312
 v175:=zeroValue312
 t210:=underlying316
 a210:=isAgg316
 z210:=sizeOf316
 v210:=zeroValue316
 t212:=underlying334
 a212:=isAgg334
 z212:=sizeOf334
 v212:=zeroValue334
 t213:=underlying335
 a213:=isAgg335
 z213:=sizeOf335
 t232:=underlying336
 a232:=isAgg336
 z232:=sizeOf336
 v232:=zeroValue336
 t233:=underlying337
 a233:=isAgg337
 z233:=sizeOf337
 v233:=zeroValue337
 g15:=by kernel_rfl
 g16:=by kernel_rfl
 g17:=by kernel_rfl
 g18:=by kernel_rfl
 g19:=by kernel_rfl }
open Go.RowKit in
theorem strconv_Atoi (s:ByteArray) (n:Int) (hl:s.size≤18) (h:Lib.atoi s.data.toList=some n) (w:World):
  Calls prog 284 #[.string s] w fun e w'=>e=.returned (.tuple #[.int .i64 n,.nilIface])∧∃t,w'=Lib.bytesWorld w 5 t:=Any.strconv_Atoi lays172 s n hl h w
def laysM171_ren:Go.Shelf.Ren:=⟨fun | 171=>300 | 243=>329 | 246=>343 | 283=>348 | 284=>349 | 285=>350 | 286=>351 | 129=>314 | 317=>352 | 318=>353 | 319=>354 | 320=>355 | 337=>356 | 338=>357 | n=>n,fun | 3=>3 | 9=>9 | 2=>2 | 4=>4 | 171=>328 | 0=>0 | 53=>290 | 37=>48 | 5=>5 | 173=>330 | 212=>334 | 51=>288 | 20=>20 | 213=>335 | 46=>250 | 232=>336 | 233=>337 | n=>n,fun | 17=>3 | 18=>4 | 19=>5 | n=>n⟩
theorem laysM171:Go.Proofs.LaysM.n171 prog laysM171_ren:={
 mixed:=by kernel_rfl
 f129:=func314.trans (congrArg some (by kernel_rfl))
 f171:=func300.trans (congrArg some (by kernel_rfl))
 f243:=func329.trans (congrArg some (by kernel_rfl))
 f246:=func343.trans (congrArg some (by kernel_rfl))
 f283:=func348.trans (congrArg some (by kernel_rfl))
 f284:=func349.trans (congrArg some (by kernel_rfl))
 f285:=func350.trans (congrArg some (by kernel_rfl))
 f286:=func351.trans (congrArg some (by kernel_rfl))
 f317:=func352.trans (congrArg some (by kernel_rfl))
 f318:=func353.trans (congrArg some (by kernel_rfl))
 f319:=func354.trans (congrArg some (by kernel_rfl))
 f320:=func355.trans (congrArg some (by kernel_rfl))
 f337:=func356.trans (congrArg some (by kernel_rfl))
 f338:=func357.trans (congrArg some (by kernel_rfl))
 t0:=underlying0
 a0:=isAgg0
 z0:=sizeOf0
 v0:=zeroValue0
 t2:=underlying2
 a2:=isAgg2
 z2:=sizeOf2
 v2:=zeroValue2
 t3:=underlying3
 a3:=isAgg3
 z3:=sizeOf3
 v3:=zeroValue3
 t4:=underlying4
 a4:=isAgg4
 z4:=sizeOf4
 v4:=zeroValue4
 t5:=underlying5
 a5:=isAgg5
 z5:=sizeOf5
 v5:=zeroValue5
 t9:=underlying9
 a9:=isAgg9
 z9:=sizeOf9
 v9:=zeroValue9
 t20:=underlying20
 a20:=isAgg20
 z20:=sizeOf20
 v20:=zeroValue20
 t37:=underlying48
 a37:=isAgg48
 z37:=sizeOf48
 v37:=zeroValue48
 t46:=underlying250
 a46:=isAgg250
 z46:=sizeOf250
 v46:=zeroValue250
 t51:=underlying288
 a51:=isAgg288
 z51:=sizeOf288
 v51:=zeroValue288
 t53:=underlying290
 a53:=isAgg290
 z53:=sizeOf290
 v53:=zeroValue290
 t171:=underlying328
 a171:=isAgg328
 z171:=sizeOf328
 v171:=zeroValue328
 t173:=underlying330
 a173:=isAgg330
 z173:=sizeOf330
 v173:=zeroValue330
 t212:=underlying334
 a212:=isAgg334
 z212:=sizeOf334
 v212:=zeroValue334
 t213:=underlying335
 a213:=isAgg335
 z213:=sizeOf335
 t232:=underlying336
 a232:=isAgg336
 z232:=sizeOf336
 v232:=zeroValue336
 t233:=underlying337
 a233:=isAgg337
 z233:=sizeOf337
 v233:=zeroValue337
 g17:=by kernel_rfl
 g18:=by kernel_rfl
 g19:=by kernel_rfl
 i0:=by kernel_rfl
 i2:=by kernel_rfl
 i3:=by kernel_rfl
 i4:=by kernel_rfl
 i5:=by kernel_rfl
 i9:=by kernel_rfl
 i20:=by kernel_rfl
 i37:=by kernel_rfl
 i46:=by kernel_rfl
 i51:=by kernel_rfl
 i53:=by kernel_rfl
 i171:=by kernel_rfl
 i173:=by kernel_rfl
 i212:=by kernel_rfl
 i232:=by kernel_rfl
 i233:=by kernel_rfl
 m17:=by kernel_rfl
 m18:=by kernel_rfl
 m19:=by kernel_rfl }
open Go.RowKit Go.Sort Go.Lib in
theorem strconv_Itoa (n : Int) (h0 : -9223372036854775808 ≤ n) (h1 : n ≤ 9223372036854775807) (w : World) (htab : Lib.TabIs prog w "internal/strconv.uint64pow10" .u64 Lib.pow10Tab) :
  Calls prog 300 #[.int .i64 n] w fun e w'=>e=.returned (.string ⟨(Lib.itoa n).toArray⟩)∧∃k os,w'=grow (w.drewN k) os:=Any.strconv_Itoa laysM171 n h0 h1 w htab
def laysC172_ren:Go.Shelf.Ren:=⟨fun | 172=>284 | 244=>298 | 245=>299 | 247=>324 | 279=>325 | 280=>326 | 281=>327 | 282=>328 | 287=>340 | 316=>341 | 171=>300 | 205=>342 | 321=>346 | 322=>347 | 243=>329 | 246=>343 | 283=>348 | 284=>349 | 285=>350 | 286=>351 | 129=>314 | 317=>352 | 318=>353 | 319=>354 | 320=>355 | 337=>356 | 338=>357 | n=>n,fun | 9=>9 | 3=>3 | 75=>264 | 76=>265 | 4=>4 | 5=>5 | 167=>297 | 37=>48 | 0=>0 | 85=>298 | 2=>2 | 168=>300 | 53=>290 | 175=>312 | 46=>250 | 210=>316 | 127=>324 | 145=>327 | 143=>325 | 21=>21 | 171=>328 | 173=>330 | 212=>334 | 51=>288 | 20=>20 | 213=>335 | 232=>336 | 233=>337 | 80=>338 | n=>n,fun | 15=>1 | 16=>2 | 17=>3 | 18=>4 | 19=>5 | n=>n⟩
theorem laysC172:Go.Proofs.LaysC.n172 prog laysC172_ren:={
 mixed:=by kernel_rfl
 f129:=func314.trans (congrArg some (by kernel_rfl))
 f171:=func300.trans (congrArg some (by kernel_rfl))
 f172:=func284.trans (congrArg some (by kernel_rfl))
 f205:=func342.trans (congrArg some (by kernel_rfl))
 f243:=func329.trans (congrArg some (by kernel_rfl))
 f244:=func298.trans (congrArg some (by kernel_rfl))
 f245:=func299.trans (congrArg some (by kernel_rfl))
 f246:=func343.trans (congrArg some (by kernel_rfl))
 f247:=func324.trans (congrArg some (by kernel_rfl))
 f279:=func325.trans (congrArg some (by kernel_rfl))
 f280:=func326.trans (congrArg some (by kernel_rfl))
 f281:=func327.trans (congrArg some (by kernel_rfl))
 f282:=func328.trans (congrArg some (by kernel_rfl))
 f283:=func348.trans (congrArg some (by kernel_rfl))
 f284:=func349.trans (congrArg some (by kernel_rfl))
 f285:=func350.trans (congrArg some (by kernel_rfl))
 f286:=func351.trans (congrArg some (by kernel_rfl))
 f287:=func340.trans (congrArg some (by kernel_rfl))
 f316:=func341.trans (congrArg some (by kernel_rfl))
 f317:=func352.trans (congrArg some (by kernel_rfl))
 f318:=func353.trans (congrArg some (by kernel_rfl))
 f319:=func354.trans (congrArg some (by kernel_rfl))
 f320:=func355.trans (congrArg some (by kernel_rfl))
 f321:=func346.trans (congrArg some (by kernel_rfl))
 f322:=func347.trans (congrArg some (by kernel_rfl))
 f337:=func356.trans (congrArg some (by kernel_rfl))
 f338:=func357.trans (congrArg some (by kernel_rfl))
 t0:=underlying0
 a0:=isAgg0
 z0:=sizeOf0
 v0:=zeroValue0
 t2:=underlying2
 a2:=isAgg2
 z2:=sizeOf2
 v2:=zeroValue2
 t3:=underlying3
 a3:=isAgg3
 z3:=sizeOf3
 v3:=zeroValue3
 t4:=underlying4
 a4:=isAgg4
 z4:=sizeOf4
 v4:=zeroValue4
 t5:=underlying5
 a5:=isAgg5
 z5:=sizeOf5
 v5:=zeroValue5
 t9:=underlying9
 a9:=isAgg9
 z9:=sizeOf9
 v9:=zeroValue9
 t20:=underlying20
 a20:=isAgg20
 z20:=sizeOf20
 v20:=zeroValue20
 t21:=underlying21
 a21:=isAgg21
 z21:=sizeOf21
 v21:=zeroValue21
 t37:=underlying48
 a37:=isAgg48
 z37:=sizeOf48
 v37:=zeroValue48
 t46:=underlying250
 a46:=isAgg250
 z46:=sizeOf250
 v46:=zeroValue250
 t51:=underlying288
 a51:=isAgg288
 z51:=sizeOf288
 v51:=zeroValue288
 t53:=underlying290
 a53:=isAgg290
 z53:=sizeOf290
 v53:=zeroValue290
 t75:=underlying264
 a75:=isAgg264
 z75:=sizeOf264
 v75:=zeroValue264
 t76:=underlying265
 a76:=isAgg265
 z76:=sizeOf265
 v76:=zeroValue265
 t85:=underlying298
 a85:=isAgg298
 z85:=sizeOf298
 v85:=zeroValue298
 t127:=underlying324
 a127:=isAgg324
 z127:=sizeOf324
 v127:=zeroValue324
 t143:=underlying325
 a143:=isAgg325
 z143:=sizeOf325
 v143:=zeroValue325
 t145:=underlying327
 a145:=isAgg327
 z145:=sizeOf327
 v145:=zeroValue327
 t167:=underlying297
 a167:=isAgg297
 z167:=sizeOf297
 v167:=zeroValue297
 t168:=underlying300
 a168:=isAgg300
 z168:=sizeOf300
 v168:=zeroValue300
 t171:=underlying328
 a171:=isAgg328
 z171:=sizeOf328
 v171:=zeroValue328
 t173:=underlying330
 a173:=isAgg330
 z173:=sizeOf330
 v173:=zeroValue330
 t175:=underlying312
 a175:=isAgg312
 z175:=sizeOf312
 v175:=zeroValue312
 t210:=underlying316
 a210:=isAgg316
 z210:=sizeOf316
 v210:=zeroValue316
 t212:=underlying334
 a212:=isAgg334
 z212:=sizeOf334
 v212:=zeroValue334
 t213:=underlying335
 a213:=isAgg335
 z213:=sizeOf335
 t232:=underlying336
 a232:=isAgg336
 z232:=sizeOf336
 v232:=zeroValue336
 t233:=underlying337
 a233:=isAgg337
 z233:=sizeOf337
 v233:=zeroValue337
 g15:=by kernel_rfl
 g16:=by kernel_rfl
 g17:=by kernel_rfl
 g18:=by kernel_rfl
 g19:=by kernel_rfl
 t80:=underlying338
 a80:=isAgg338
 z80:=sizeOf338
 v80:=zeroValue338
 i0:=by kernel_rfl
 i2:=by kernel_rfl
 i3:=by kernel_rfl
 i4:=by kernel_rfl
 i5:=by kernel_rfl
 i9:=by kernel_rfl
 i20:=by kernel_rfl
 i21:=by kernel_rfl
 i37:=by kernel_rfl
 i46:=by kernel_rfl
 i51:=by kernel_rfl
 i53:=by kernel_rfl
 i75:=by kernel_rfl
 i76:=by kernel_rfl
 i80:=by kernel_rfl
 i85:=by kernel_rfl
 i127:=by kernel_rfl
 i143:=by kernel_rfl
 i145:=by kernel_rfl
 i167:=by kernel_rfl
 i168:=by kernel_rfl
 i171:=by kernel_rfl
 i173:=by kernel_rfl
 i175:=by kernel_rfl
 i210:=by kernel_rfl
 i212:=by kernel_rfl
 i232:=by kernel_rfl
 i233:=by kernel_rfl
 m15:=by kernel_rfl
 m16:=by kernel_rfl
 m17:=by kernel_rfl
 m18:=by kernel_rfl
 m19:=by kernel_rfl
 c0:=by kernel_rfl
 c2:=by kernel_rfl
 c3:=by kernel_rfl
 c4:=by kernel_rfl
 c5:=by kernel_rfl
 c9:=by kernel_rfl
 c20:=by kernel_rfl
 c21:=by kernel_rfl
 c37:=by kernel_rfl
 c46:=by kernel_rfl
 c51:=by kernel_rfl
 c53:=by kernel_rfl
 c75:=by kernel_rfl
 c76:=by kernel_rfl
 c80:=by kernel_rfl
 c85:=by kernel_rfl
 c127:=by kernel_rfl
 c143:=by kernel_rfl
 c145:=by kernel_rfl
 c167:=by kernel_rfl
 c168:=by kernel_rfl
 c171:=by kernel_rfl
 c173:=by kernel_rfl
 c175:=by kernel_rfl
 c210:=by kernel_rfl
 c212:=by kernel_rfl
 c213:=by kernel_rfl
 c232:=by kernel_rfl
 c233:=by kernel_rfl }
open Go.RowKit in
theorem strconv_Atoi_err_var (s : ByteArray) (hl : s.size ≤ 18) (h : Lib.atoi s.data.toList = none) (tp : TypeId) (p : Value) (w : World) (hvar : w.var? prog "strconv.ErrSyntax" = some #[.iface tp p]) :
  Calls prog 284 #[.string s] w fun e w'=>∃N,e=.returned (.tuple #[.int .i64 0,.iface 300 (.pointer (some ⟨N,0,none⟩))])∧w.heap.size≤N∧w'.heap[N]?=some (.cells #[.string ⟨#[65,116,111,105]⟩,.string s,.iface tp p] 316 (0,0))∧Below w.heap.size w w':=Any.strconv_Atoi_err_var laysC172 s hl h tp p w hvar
def lays191_ren:Go.Shelf.Ren:=⟨fun | 191=>238 | 189=>278 | 125=>294 | 257=>293 | 128=>313 | 129=>314 | 294=>304 | 295=>305 | 296=>306 | 297=>307 | 298=>308 | 299=>309 | 216=>310 | 300=>311 | 301=>312 | 328=>330 | 329=>331 | 330=>332 | 331=>333 | 332=>334 | 215=>335 | 343=>344 | n=>n,fun | 28=>84 | 0=>0 | 3=>3 | 46=>250 | 51=>288 | 53=>290 | 4=>4 | 183=>281 | 182=>280 | 131=>216 | 5=>5 | 9=>9 | 218=>303 | 222=>307 | 228=>319 | 229=>320 | n=>n,fun | n=>n⟩
theorem lays191:Go.Proofs.Lays.n191 prog lays191_ren:={
 mixed:=by kernel_rfl
 f125:=func294.trans (congrArg some (by kernel_rfl))
 f128:=func313.trans (congrArg some (by kernel_rfl))
 f129:=func314.trans (congrArg some (by kernel_rfl))
 f189:=func278.trans (congrArg some (by kernel_rfl))
 f191:=func238.trans (congrArg some (by kernel_rfl))
 f215:=func335.trans (congrArg some (by kernel_rfl))
 f216:=func310.trans (congrArg some (by kernel_rfl))
 f257:=func293.trans (congrArg some (by kernel_rfl))
 f294:=func304.trans (congrArg some (by kernel_rfl))
 f295:=func305.trans (congrArg some (by kernel_rfl))
 f296:=func306.trans (congrArg some (by kernel_rfl))
 f297:=func307.trans (congrArg some (by kernel_rfl))
 f298:=func308.trans (congrArg some (by kernel_rfl))
 f299:=func309.trans (congrArg some (by kernel_rfl))
 f300:=func311.trans (congrArg some (by kernel_rfl))
 f301:=func312.trans (congrArg some (by kernel_rfl))
 f328:=func330.trans (congrArg some (by kernel_rfl))
 f329:=func331.trans (congrArg some (by kernel_rfl))
 f330:=func332.trans (congrArg some (by kernel_rfl))
 f331:=func333.trans (congrArg some (by kernel_rfl))
 f332:=func334.trans (congrArg some (by kernel_rfl))
 f343:=func344.trans (congrArg some (by kernel_rfl))
 t0:=underlying0
 a0:=isAgg0
 z0:=sizeOf0
 v0:=zeroValue0
 t3:=underlying3
 a3:=isAgg3
 z3:=sizeOf3
 v3:=zeroValue3
 t4:=underlying4
 a4:=isAgg4
 z4:=sizeOf4
 v4:=zeroValue4
 t5:=underlying5
 a5:=isAgg5
 z5:=sizeOf5
 v5:=zeroValue5
 t9:=underlying9
 a9:=isAgg9
 z9:=sizeOf9
 v9:=zeroValue9
 t28:=underlying84
 a28:=isAgg84
 z28:=sizeOf84
 v28:=zeroValue84
 t46:=underlying250
 a46:=isAgg250
 z46:=sizeOf250
 v46:=zeroValue250
 t51:=underlying288
 a51:=isAgg288
 z51:=sizeOf288
 v51:=zeroValue288
 t53:=underlying290
 a53:=isAgg290
 z53:=sizeOf290
 v53:=zeroValue290
 t131:=underlying216
 a131:=isAgg216
 z131:=sizeOf216
 v131:=zeroValue216
 t182:=underlying280
 a182:=isAgg280
 z182:=sizeOf280
 v182:=zeroValue280
 t183:=underlying281
 a183:=isAgg281
 z183:=sizeOf281
 v183:=zeroValue281
 t218:=underlying303
 a218:=isAgg303
 z218:=sizeOf303
 v218:=zeroValue303
 t222:=underlying307
 a222:=isAgg307
 z222:=sizeOf307
 v222:=zeroValue307
 t228:=underlying319
 a228:=isAgg319
 z228:=sizeOf319
 v228:=zeroValue319
 t229:=underlying320
 a229:=isAgg320
 z229:=sizeOf320
 v229:=zeroValue320 }
open Go.Sort Go.RowKit in
theorem sort_Ints (a off cap:Nat) (zs:List Int) (w:World) (hH:Holds (Value.int .i64) w a off zs.toArray) (b:a<w.heap.size) (c:zs.length<4611686018427387904):
  Calls prog 238 #[.slice (some ⟨a,off,none⟩) zs.length cap] w fun e w'=>
   e=.returned (.tuple #[])∧∃n os,w'=grow (putRow (Value.int .i64) (Sort.ahead w n) a off (zs.mergeSort fun x y=>decide (x≤y)).toArray) os:=Any.sort_Ints lays191 a off cap zs w hH b c
def lays192_ren:Go.Shelf.Ren:=⟨fun | 192=>257 | 190=>283 | 125=>294 | 258=>297 | 128=>313 | 129=>314 | 302=>315 | 303=>316 | 304=>317 | 305=>318 | 306=>319 | 307=>320 | 308=>321 | 309=>322 | 310=>323 | 333=>336 | 329=>331 | 330=>332 | 334=>337 | 335=>338 | 336=>339 | 344=>345 | n=>n,fun | 31=>56 | 0=>0 | 9=>9 | 3=>3 | 46=>250 | 51=>288 | 53=>290 | 4=>4 | 183=>281 | 182=>280 | 131=>216 | 5=>5 | 218=>303 | 222=>307 | 228=>319 | 229=>320 | n=>n,fun | n=>n⟩
theorem lays192:Go.Proofs.Lays.n192 prog lays192_ren:={
 mixed:=by kernel_rfl
 f125:=func294.trans (congrArg some (by kernel_rfl))
 f128:=func313.trans (congrArg some (by kernel_rfl))
 f129:=func314.trans (congrArg some (by kernel_rfl))
 f190:=func283.trans (congrArg some (by kernel_rfl))
 f192:=func257.trans (congrArg some (by kernel_rfl))
 f258:=func297.trans (congrArg some (by kernel_rfl))
 f302:=func315.trans (congrArg some (by kernel_rfl))
 f303:=func316.trans (congrArg some (by kernel_rfl))
 f304:=func317.trans (congrArg some (by kernel_rfl))
 f305:=func318.trans (congrArg some (by kernel_rfl))
 f306:=func319.trans (congrArg some (by kernel_rfl))
 f307:=func320.trans (congrArg some (by kernel_rfl))
 f308:=func321.trans (congrArg some (by kernel_rfl))
 f309:=func322.trans (congrArg some (by kernel_rfl))
 f310:=func323.trans (congrArg some (by kernel_rfl))
 f329:=func331.trans (congrArg some (by kernel_rfl))
 f330:=func332.trans (congrArg some (by kernel_rfl))
 f333:=func336.trans (congrArg some (by kernel_rfl))
 f334:=func337.trans (congrArg some (by kernel_rfl))
 f335:=func338.trans (congrArg some (by kernel_rfl))
 f336:=func339.trans (congrArg some (by kernel_rfl))
 f344:=func345.trans (congrArg some (by kernel_rfl))
 t0:=underlying0
 a0:=isAgg0
 z0:=sizeOf0
 v0:=zeroValue0
 t3:=underlying3
 a3:=isAgg3
 z3:=sizeOf3
 v3:=zeroValue3
 t4:=underlying4
 a4:=isAgg4
 z4:=sizeOf4
 v4:=zeroValue4
 t5:=underlying5
 a5:=isAgg5
 z5:=sizeOf5
 v5:=zeroValue5
 t9:=underlying9
 a9:=isAgg9
 z9:=sizeOf9
 v9:=zeroValue9
 t31:=underlying56
 a31:=isAgg56
 z31:=sizeOf56
 v31:=zeroValue56
 t46:=underlying250
 a46:=isAgg250
 z46:=sizeOf250
 v46:=zeroValue250
 t51:=underlying288
 a51:=isAgg288
 z51:=sizeOf288
 v51:=zeroValue288
 t53:=underlying290
 a53:=isAgg290
 z53:=sizeOf290
 v53:=zeroValue290
 t131:=underlying216
 a131:=isAgg216
 z131:=sizeOf216
 v131:=zeroValue216
 t182:=underlying280
 a182:=isAgg280
 z182:=sizeOf280
 v182:=zeroValue280
 t183:=underlying281
 a183:=isAgg281
 z183:=sizeOf281
 v183:=zeroValue281
 t218:=underlying303
 a218:=isAgg303
 z218:=sizeOf303
 v218:=zeroValue303
 t222:=underlying307
 a222:=isAgg307
 z222:=sizeOf307
 v222:=zeroValue307
 t228:=underlying319
 a228:=isAgg319
 z228:=sizeOf319
 v228:=zeroValue319
 t229:=underlying320
 a229:=isAgg320
 z229:=sizeOf320
 v229:=zeroValue320 }
open Go.Sort Go.RowKit in
theorem sort_Strings (a off cap:Nat) (ss:List (List UInt8)) (w:World) (hH:Holds encStr w a off ss.toArray) (b:a<w.heap.size) (c:ss.length<4611686018427387904):
  Calls prog 257 #[.slice (some ⟨a,off,none⟩) ss.length cap] w fun e w'=>
   e=.returned (.tuple #[])∧∃n os,w'=grow (putRow encStr (Sort.ahead w n) a off (ss.mergeSort fun x y=>decide (x≤y)).toArray) os:=Any.sort_Strings lays192 a off cap ss w hH b c
open Go.RowKit Go.Sort in
theorem sort_Strings_none (p:Option Addr) (cap:Nat) (w:World):
  Calls prog 257 #[.slice p 0 cap] w fun e w'=>e=.returned (.tuple #[])∧w'=w:=Any.sort_Strings_none lays192 p cap w
open Go.RowKit Go.Sort in
theorem sort_Ints_none (p:Option Addr) (cap:Nat) (w:World):
  Calls prog 238 #[.slice p 0 cap] w fun e w'=>e=.returned (.tuple #[])∧w'=w:=Any.sort_Ints_none lays191 p cap w
end Go.Proofs
namespace Go.Proofs.YtekbmedphidcgaaGreatDoor
section
open Go.RowKit Go.Sort
theorem Zmx {α:Type} [Inhabited α] {P:Program} {J:World→Prop} {JF:Nat→Prop} (enc:α→Value) (el:α→List CT) (hel:∀(w:World) x v L,RCs w (el x) v L→v=[enc x]) (hmv:∀(w w':World) x,RCs w (el x) [enc x] []→RCs w' (el x) [enc x] []) (hflat:∀l:List α,Zal (l.map el)=true) {f:FuncId} {e:TypeId} {zs d:List α} (hc:ZcX P f) (hd:d.length=zs.length) (hsub:∀x∈d,x∈zs)
  (hN:∀p cap w,Calls P f #[.slice p 0 cap] w fun e w'=>e=.returned (.tuple #[])∧w'=w)
  (hC:∀blk off cap w,Holds enc w blk off zs.toArray→blk<w.heap.size→Calls P f #[.slice (some ⟨blk,off,none⟩) zs.length cap] w fun e w'=>e=.returned (.tuple #[])∧∃n os,w'=grow (putRow enc (Sort.ahead w n) blk off d.toArray) os):
  ZaU P J JF f (.row e 1 (zs.map el)) [] [] (.row e 1 (d.map el)):=by
 refine ⟨hc,fun w z q v0 vs hj hqf hz hh ha=>?_⟩
 cases vs with
 | cons _ _=>exact ha.elim
 | nil=>
 obtain ⟨hfl,hm,hq,cs,hown,hre⟩:=hh
 have hcs:∀(l:List α) (cs:List Value) (L:List Nat),REs w 1 (l.map el) cs L→cs=l.map enc∧(L=[]→∀x∈l,RCs w (el x) [enc x] []):=by
  intro l
  induction l with
  | nil=>intro cs L h;exact ⟨h.1,fun _ x mx=>by simp at mx⟩
  | cons x l ih=>
   rintro cs L ⟨c1,c2,L1,L2,rfl,rfl,h3,h4⟩
   obtain ⟨i1,i2⟩:=ih _ _ h4
   have e1:=hel _ _ _ _ h3.1
   refine ⟨by rw [e1,i1];rfl,fun hL y my=>?_⟩
   obtain ⟨l1,l2⟩:=List.append_eq_nil_iff.1 hL
   rcases List.mem_cons.1 my with rfl | my
   ·rw [←e1,←l1];exact h3.1
   ·exact i2 l2 y my
 obtain ⟨e1,e2⟩:=hcs zs cs [] hre
 have e2:=e2 rfl
 subst e1
 have hre':∀(w':World) (l:List α),(∀x∈l,x∈zs)→REs w' 1 (l.map el) (l.map enc) []:=by
  intro w' l
  induction l with
  | nil=>intro _;exact ⟨rfl,rfl⟩
  | cons x l ih=>intro hl;exact ⟨[enc x],l.map enc,[],[],rfl,rfl,⟨hmv w w' x (e2 x (hl x (by simp))),rfl⟩,ih fun y my=>hl y (by simp [my])⟩
 have hzl:(zs.map el).length=zs.length:=by simp
 rw [hzl] at hown
 have done:∀w':World,w'.os=w.os→w'.tape=w.tape→w'.output=w.output→w.heap.size≤w'.heap.size→(∀k,k<w.heap.size→¬q=some k→w'.heap[k]?=w.heap[k]?)→w'.ownsV 0 e 1 v0 d.length (d.map enc)→∃v n,Ending.returned (.tuple #[])=.returned v∧Ziy w' w.heap.size n [] v∧(∀b,inQ z q b→n b)∧Zme w' n q (.row e 1 (d.map el)) v0∧Zyq q w w':=
  fun w' h1 h2 h3 h4 h5 h6=>⟨_,inQ z q,rfl,⟨[],[],⟨rfl,rfl⟩,Own.nil _ _,rfl⟩,fun _ h=>h,⟨hflat d,by omega,hq,d.map enc,by simpa using h6,hre' w' d hsub⟩,⟨h1,h2,h3,h4,h5⟩⟩
 rcases Nat.eq_zero_or_pos zs.length with h0 | h0
 ·have hz0:zs=[]:=AF h0
  have hd0:d=[]:=AF (hd.trans h0)
  obtain ⟨A,cap,hv⟩:=Q8 hown
  rw [h0] at hv
  subst hv
  refine (hN A cap w).mono ?_
  rintro e' w' ⟨rfl,rfl⟩
  exact done w' rfl rfl rfl (A9 _) (fun _ _ _=>rfl) (by rw [hd0];rw [hz0] at hown;exact hown)
 ·rcases hown.2 with ⟨h',hl0⟩ | ⟨g,o,cap,cur,h',hb,hg,hnc,hcm,hcsz,htake⟩
  ·omega
  ·subst h'
   have hlt:g<w.heap.size:=(Array.getElem?_eq_some_iff.1 hg).1
   have hcur:∀j,j<zs.length→cur[o+j]?=some (enc zs[j]!):=fun j hj=>by
    have:=congrArg (fun l=>l[j]?) htake
    simp only[Nat.mul_one,AL,hj,if_true,AM,AN,AD] at this
    rw [this]
    simp [List.getElem!_eq_getElem?_getD,hj]
   refine (hC g o cap w (fun j hj=>?_) hlt).mono ?_
   ·have hj':j<zs.length:=by simpa using hj
    refine ⟨?_,by simp [World.frozen?,hg]⟩
    simp only[World.cell?,hg,Option.isSome_none,Bool.false_eq_true,if_false]
    rw [hcur j hj']
    simp [hj']
   ·rintro e' w' ⟨rfl,n,os,rfl⟩
    have hh:(putRow enc (Sort.ahead w n) g o d.toArray).heap[g]?=some (.cells (putCells enc o d.toArray cur) e (0,0)):=by
     simp only[putRow,mapBlock,heap_ahead,AO,if_true,hg,Option.map_some,onCells]
    refine done _ rfl rfl rfl (by simp) (fun k hk hqk=>?_) ⟨by simp,.inr ⟨g,o,cap,putCells enc o d.toArray cur,by rw [hd],by omega,?_,by omega,hcm,by simpa [putCells] using hcsz,?_⟩⟩
    ·rw [heap_grow_old _ _ (by simpa using hk)]
     simp only[putRow,mapBlock,heap_ahead,AO]
     rw [if_neg (fun e=>hqk (by rw [←hq];simp [Value.ownBlock,e]))]
    ·rw [heap_grow_old _ _ (by simpa using hlt)];exact hh
    ·apply List.ext_getElem?
     intro j
     simp only[Nat.mul_one,AL,AM,AD,AN,putCells,Array.getElem?_mapIdx,AP]
     by_cases hj:j<d.length
     ·have hjc:o+j<cur.size:=by omega
      simp [hj,hjc]
     ·simp [hj]
end
section
open Go.RowKit Go.Sort
theorem Zqj {J:World→Prop} {JF:Nat→Prop} {l r:List Int} (h:ZeC l=some r):ZaU prog J JF 238 (.row 3 1 (l.map Z5)) [] [] (.row 3 1 (r.map Z5)):=by
 obtain ⟨h1,h2⟩:=Zs h
 obtain rfl:=A3 h2
 refine Zmx (Value.int .i64) Z5 (fun w x v L h=>?_) (fun w w' x h=>h) Zmd ⟨f238,func238,by kernel_rfl,by kernel_rfl⟩ (by simp [Zjh]) (fun x hx=>by simpa [Zjh] using hx) (fun p cap w=>sort_Ints_none p cap w) (fun a off cap w hH hb=>sort_Ints a off cap l w hH hb yE)
 obtain ⟨u,vs,L1,L2,rfl,rfl,q1,rfl,rfl⟩:=h
 rw [q1.1]
end
section
open Go.RowKit
theorem Zsl {J:World→Prop} {a b:ByteArray} {r:Int} (h:Zd1 a b=some r):Zl prog J 250 [(false,[.str a]),(false,[.str b])] [(false,[(false,.int .i64 r)])]:=by
 obtain rfl:=A3 h
 refine ⟨⟨f250,func250,by kernel_rfl,by kernel_rfl⟩,fun w z vs hj hz c=>?_⟩
 obtain ⟨v,u,L,M,rfl,⟨rfl,_⟩,rfl,_⟩:=Zs7 c
 refine (strings_Compare a b w).mono ?_
 rintro e w' ⟨rfl,rfl⟩
 exact ⟨_,z,rfl,Zo0 ⟨⟨rfl,rfl⟩,rfl⟩,fun b h=>h,Below.refl _ _⟩
end
section
open Go.RowKit Go.Sort
theorem Zlz {J:World→Prop} {JF:Nat→Prop} {l r:List ByteArray} (h:ZbK l=some r):ZaU prog J JF 257 (.row 9 1 (l.map Zw)) [] [] (.row 9 1 (r.map Zw)):=by
 obtain ⟨h1,h2⟩:=Zs h
 obtain rfl:=A3 h2
 have e1:l.map Zw=(l.map toL).map fun x=>Zw (ofL x):=by rw [AQ];exact List.map_congr_left fun x _=>by simp [Zh4]
 have e2:(Zeg l).map Zw=((l.map toL).mergeSort fun x y=>decide (x≤y)).map fun x=>Zw (ofL x):=by simp [Zeg,AQ,Function.comp_def]
 rw [e1,e2]
 refine Zmx encStr (fun x=>Zw (ofL x)) (fun w x v L h=>?_) (fun w w' x h=>h) (fun l=>Zbi (fun _=>rfl) l) ⟨f257,func257,by kernel_rfl,by kernel_rfl⟩ yG (fun x hx=>by simpa using hx) (fun p cap w=>sort_Strings_none p cap w) (fun a off cap w hH hb=>sort_Strings a off cap (l.map toL) w hH hb (by simp;omega))
 obtain ⟨u,vs,L1,L2,rfl,rfl,q1,rfl,rfl⟩:=h
 rw [q1.1]
 rfl
end
section
open Go.RowKit
theorem ZzG {J : World → Prop} (hJ : ∀ w, J w → ∃ tp p, w.var? prog "strconv.ErrSyntax" = some #[.iface tp p]) {s : ByteArray} {r : Int × Bool} (h : Zkj s = some r) : Zl prog J 284 [(false, [.str s])] [(false, [(false, .int .i64 r.1)]), (false, [(false, .ifc r.2)])] := by
 obtain ⟨h1,h2⟩:=Zs h
 refine ⟨⟨f284,func284,by kernel_rfl,by kernel_rfl⟩,fun w z vs hj hz hargs=>?_⟩
 obtain ⟨v,L,rfl,rfl,_⟩:=ZjO hargs
 cases ha:Lib.atoi (toL s) with
 | some n=>
  rw [ha] at h2
  obtain rfl:=A3 h2
  refine (strconv_Atoi s n h1 ha w).mono ?_
  rintro e w' ⟨rfl,t,rfl⟩
  exact ⟨_,z,rfl,ZpA ⟨⟨rfl,rfl⟩,rfl⟩ ⟨⟨rfl,rfl,rfl⟩,rfl⟩,fun b h=>h,Lib.bytesWorld_below _ _ _⟩
 | none=>
  rw [ha] at h2
  obtain rfl:=A3 h2
  obtain ⟨tp,p,hv⟩:=hJ w hj
  refine (strconv_Atoi_err_var s h1 ha tp p w hv).mono ?_
  rintro e w' ⟨N,rfl,_,_,hb⟩
  exact ⟨_,z,rfl,ZpA ⟨⟨rfl,rfl⟩,rfl⟩ ⟨⟨rfl,rfl,_,_,rfl⟩,rfl⟩,fun b h=>h,hb⟩
end
section
open Go.RowKit Go.Sort Go.Lib
theorem Zzq {J : World → Prop} (hJ : ∀ w, J w → Lib.TabIs prog w "internal/strconv.uint64pow10" .u64 Lib.pow10Tab) {n : Int} {r : ByteArray} (h : Zno n = some r) : Zl prog J 300 [(false, [.int .i64 n])] [(false, [(false, .str r)])] := by
 obtain ⟨h1,h2⟩:=Zs h
 obtain rfl:=A3 h2
 refine ⟨⟨f300,func300,by kernel_rfl,by kernel_rfl⟩,fun w z vs hj hz hargs=>?_⟩
 obtain ⟨v,L,rfl,rfl,_⟩:=ZjO hargs
 refine (strconv_Itoa n h1.1 h1.2 w (hJ w hj)).mono ?_
 rintro e w' ⟨rfl,k,os,rfl⟩
 refine ⟨_,z,rfl,Zo0 ⟨⟨rfl,rfl,?_⟩,rfl⟩,fun b h=>h,below_grow _ _ (A9 _) _ _⟩
 have:=Lib.itoa_length_le n h1.1 h1.2
 show (Lib.itoa n).toArray.size≤_
 rw [AP]
 omega
end
theorem Zly {l r:List Int} (h:ZeC l=some r):ZaU prog J0 JF0 238 (.row 3 1 (l.map Z5)) [] [] (.row 3 1 (r.map Z5)):=Zqj h
theorem Zhw {a b:ByteArray} {r:Int} (h:Zd1 a b=some r):Zl prog J0 250 [(false,[.str a]),(false,[.str b])] [(false,[(false,.int .i64 r)])]:=Zsl h
theorem Zir {l r:List ByteArray} (h:ZbK l=some r):ZaU prog J0 JF0 257 (.row 9 1 (l.map Zw)) [] [] (.row 9 1 (r.map Zw)):=Zlz h
theorem ZsH {s:ByteArray} {r:Int × Bool} (h:Zkj s=some r):Zl prog J0 284 [(false,[.str s])] [(false,[(false,.int .i64 r.1)]),(false,[(false,.ifc r.2)])]:=ZzG Zyl h
theorem Zr1 {n:Int} {r:ByteArray} (h:Zno n=some r):Zl prog J0 300 [(false,[.int .i64 n])] [(false,[(false,.str r)])]:=Zzq ZyT h
section
theorem yA{p q:Prop}(h:q)(e:p=q:=by simp only[*,go_sem,seval];try rfl):p:=e▸h
theorem yD{p:Prop}(e:p:=by simp only[*,go_sem,seval]):p:=e
theorem yB{α:Type}{G q v:Prop}{b:Bool}{x y:Option α}{r:α}(h:(if b=true then x else y)=some r)(h1:b=true→x=some r→q)(h2:b=false→y=some r→v)(e:∀(_:b=true)(_:x=some r),G=q:=by intro _ _;(try simp only[*,go_sem,seval]);try rfl)(f:∀(_:b=false)(_:y=some r),G=v:=by intro _ _;(try simp only[*,go_sem,seval]);try rfl):G:=Ze h (fun a c=>(e a c)▸h1 a c) fun a c=>(f a c)▸h2 a c
theorem yC{σ ρ:Type}{s:σ}{y:σ⊕ρ}{C:σ→List (Bool×Nat×Nat)→List Nat→Prop}(h:some (.inl s)=some y)(ms:List (Bool×Nat×Nat))(k:List Nat)(d:k.Nodup:=by decide)(e:C s ms k:=by simp only[*,go_sem,seval]):∃s' ms k,y=.inl s'∧k.Nodup∧C s' ms k:=⟨s,ms,k,(Option.some.inj h).symm,d,e⟩
def yL(n:Nat):SV:=.p false [.c (.int .i64 (n:Int))]
def yM(x:CT):SV:=.p false [.c x]
def yY(t:Nat)(l:List CT):Ob:=.box t (l.map .c)
attribute [go_sem] yL yM yY List.map_cons List.map_nil
def yO(l:List Zd):CT:=.sl 71 2 (List.map Zq l)
attribute [go_sem] yO
def yP(l:List ByteArray):CT:=.sl 9 1 (List.map Zw l)
attribute [go_sem] yP
def yQ(l:List Int):CT:=.sl 3 1 (List.map Z5 l)
attribute [go_sem] yQ
def yR(l:List Zf):CT:=.sl 104 4 (List.map ZG l)
attribute [go_sem] yR
def yS(l:List Zr):CT:=.sl 60 5 (List.map ZK l)
attribute [go_sem] yS
def yT(l:List Zp):CT:=.sl 135 2 (List.map ZZ l)
attribute [go_sem] yT
def yU(l:List Zg):CT:=.sl 144 3 (List.map ZL l)
attribute [go_sem] yU
def yV(l:List Zx):CT:=.sl 166 3 (List.map ZD l)
attribute [go_sem] yV
def yW(l:List Zt):CT:=.sl 118 2 (List.map YE l)
attribute [go_sem] yW
def yX(l:List ZvY):CT:=.sl 86 4 (List.map ZAO l)
attribute [go_sem] yX
theorem ZkF {a_0:(List ByteArray)} {b_1:(List ByteArray)} {r:Bool} (h:Zb4 a_0 b_1=some r):Zl prog J0 198 [(false,[.sl 9 1 (A0 Zw a_0)]),(false,[.sl 9 1 (A0 Zw b_1)])] [(false,[(false,.bool r)])]:=by
 refine fnk func198 rfl ?_
 unfold Zb4 at h
 simp only[fnS,f198,Zm,go_sem,seval]
 refine yB h (fun _ h=>?_) fun _ h=>?_
 cases h;exact yD
 refine Zh h (fun i _ st=>IV [(0,yM (yP a_0)),(1,yM (yP b_1)),(12,yL a_0.length),(13,yL i)] [] st) [] [] yF yD ?_ ?_
 rintro _ _ ⟨⟩ ⟨sl,ob,n⟩ _ a b e h f
 simp only[go_sem,seval,Zc] at b
 obtain ⟨⟨g,_,_,_⟩,hn⟩:=b
 subst hn
 have k:=WF.slotL e g (j:=0) rfl
 have:=ZB a
 have:=ZC a
 have:=Zj (ZA a) k
 obtain ⟨_,_,_,l,h⟩:=Zci h
 simp only[AB] at l
 simp only[*,go_sem,seval]
 refine yB h (fun _ h=>?_) fun _ h=>?_
 exact yC h [] []
 replace h:=Zo h f
 cases h;exact yD
 rintro ⟨⟩ ⟨sl,ob,n⟩ d _ h
 simp only[go_sem,seval,Zc] at d
 obtain ⟨⟨_,_,_,_⟩,hn⟩:=d
 subst hn
 have:=Zz (a_0.length)
 cases h;exact yD
theorem ZfK {l_0:(List ByteArray)} {r:(List ByteArray)} (h:Zaw l_0=some r):Zl prog J0 179 [(false,[.sl 9 1 (A0 Zw l_0)])] [(false,[(false,.sl 9 1 (A0 Zw r))])]:=by
 refine fnk func179 rfl ?_
 unfold Zaw at h
 simp only[fnS,f179,Zm,go_sem,seval]
 obtain ⟨_,h⟩:=Zs h
 cases h;exact yD
theorem XS {s_0:ByteArray} {r:Bool} (h:X5 s_0=some r):Zl prog J0 213 [(false,[.str s_0])] [(false,[(false,.bool r)])]:=by
 refine fnk func213 rfl ?_
 unfold X5 at h
 simp only[fnS,f213,Zm,go_sem,seval]
 iterate 2 ((refine Ze h (fun _ h=>?_) fun _ h=>?_<;>try simp only[*,go_sem,seval]);cases h;simp only[*,go_sem,seval])
 refine Zh h (fun i _ st=>IV [(0,yM (.str s_0)),(3,yL i)] [] st) [] [] yF yD ?_ ?_
 rintro _ _ ⟨⟩ ⟨sl,ob,n⟩ _ b d f h a
 simp only[go_sem,seval,Zc] at d
 obtain ⟨⟨g,_⟩,hn⟩:=d
 subst hn
 have k:=WF.slotS f g (j:=0) rfl
 have:=Znm b
 have:=Zuf b
 have:=Zj (Zrk b) k
 simp only[*,go_sem,seval]
 iterate 2 refine yB h (fun _ h=>?_) fun _ h=>?_
 replace h:=Zo h a
 cases h;exact yD
 refine yB h (fun _ h=>?_) fun _ h=>?_
 replace h:=Zo h a
 cases h;exact yD
 exact yC h [] []
 iterate 2 refine yB h (fun _ h=>?_) fun _ h=>?_
 replace h:=Zo h a
 cases h;exact yD
 refine yB h (fun _ h=>?_) fun _ h=>?_
 replace h:=Zo h a
 cases h;exact yD
 exact yC h [] []
 exact yC h [] []
 rintro ⟨⟩ ⟨sl,ob,n⟩ e _ h
 simp only[go_sem,seval,Zc] at e
 obtain ⟨⟨_,_⟩,hn⟩:=e
 subst hn
 have:=Zz (s_0.size)
 cases h;exact yD
theorem Zfq {b_0:(List Zp)} {r:(List Zp)} (h:ZaB b_0=some r):Zl prog J0 212 [(false,[.sl 135 2 (A0 ZZ b_0)])] [(false,[(false,.sl 135 2 (A0 ZZ r))])]:=by
 refine fnk func212 rfl ?_
 unfold ZaB at h
 simp only[fnS,f212,Zm,go_sem,seval]
 obtain ⟨_,h⟩:=Zs h
 cases h;exact yD
theorem QN {p_0:Zv} {r:Bool} (h:YS p_0=some r):Zl prog J0 254 [(true,Qz p_0)] [(false,[(false,.bool r)])]:=by
 refine fnk func254 rfl ?_
 unfold YS at h
 have a:Z2 ⟨#[]⟩=true:=by decide
 simp only[fnS,f254,Zm,go_sem,seval,a]
 refine yB h (fun _ h=>?_) fun _ h=>?_
 iterate 2 (cases h;exact yD)
theorem ZjM {n_0:Int} {r:ByteArray} (h:Zav n_0=some r):Zl prog J0 285 [(false,[.int .i64 n_0])] [(false,[(false,.str r)])]:=by
 refine fnk func285 rfl ?_
 unfold Zav at h
 have a:Z2 ⟨#[]⟩=true:=by decide
 simp only[fnS,f285,Zm,go_sem,seval,a]
 refine Za h fun v1 b h=>Zb (Zr1 b) ?_
 cases h;exact yD
theorem Zbp {a_0:Int} {b_1:Int} {r:Int} (h:Xw a_0 b_1=some r):Zl prog J0 252 [(false,[.int .i64 a_0]),(false,[.int .i64 b_1])] [(false,[(false,.int .i64 r)])]:=by
 refine fnk func252 rfl ?_
 unfold Xw at h
 simp only[fnS,f252,Zm,go_sem,seval]
 iterate 2 ((refine Ze h (fun _ h=>?_) fun _ h=>?_<;>try simp only[*,go_sem,seval]);cases h;simp only[*,go_sem,seval])
 cases h;exact yD
theorem Zeh {r_0:Zf} {r:(List Zr)} (h:YA r_0=some r):Zl prog J0 173 [(true,ZG r_0)] [(false,[(true,.sl 60 5 (A0 ZK r))])]:=by
 refine fnk func173 rfl ?_
 unfold YA at h
 simp only[fnS,f173,Zm,go_sem,seval]
 refine Zh h (fun i a st=>IV [(3,.p false [.row 0]),(7,yM (yS r_0.cond)),(8,yL r_0.cond.length),(9,yL i)] [.row 60 5 (A0 ZK a) 1] st) [(false,3,0),(true,112,1)] [112] yF yD ?_ ?_
 rintro _ _ a ⟨sl,ob,n⟩ _ b d f h _
 simp only[go_sem,seval,Zc] at d
 obtain ⟨⟨_,g,_,_⟩,_,hn⟩:=d
 subst hn
 have k:=WF.slotL f g (j:=0) rfl
 have:=ZB b
 have:=ZC b
 have:=Zj (ZA b) k
 simp only[*,go_sem,seval]
 refine yB h (fun _ h=>?_) fun _ h=>?_
 obtain ⟨l,h⟩:=Zs h
 try simp only[Nat.reduceLeDiff] at l
 simp only[*,go_sem,seval]
 exact yC h [] [177]
 exact yC h [] [0]
 rintro a ⟨sl,ob,n⟩ e _ h
 simp only[go_sem,seval,Zc] at e
 obtain ⟨⟨_,_,_,_⟩,_,hn⟩:=e
 subst hn
 have:=Zz (r_0.cond.length)
 cases h;exact yD
theorem XK {l_0:(List ByteArray)} {r:(List ByteArray)} (h:Yb l_0=some r):Zl prog J0 207 [(false,[.sl 9 1 (A0 Zw l_0)])] [(false,[(false,.sl 9 1 (A0 Zw r))])]:=by
 refine fnk func207 rfl ?_
 unfold Yb at h
 simp only[fnS,f207,Zm,go_sem,seval]
 obtain ⟨_,h⟩:=Zs h
 simp only[*,go_sem,seval]
 obtain ⟨v1,f,h⟩:=ZJ h
 refine QC (Zir f)<|yA ?_
 refine Zh h (fun i a st=>IV [(3,.p false [.row 0]),(4,.p false [.row 1]),(11,.p false [.row 0]),(12,yL v1.length),(13,yL i)] [.row 9 1 (A0 Zw v1) 2,.row 9 1 (A0 Zw a) 2] st) [(false,4,0)] [32,160] yF yD ?_ ?_
 rintro _ _ a ⟨sl,ob,n⟩ _ b d g h _
 simp only[go_sem,seval,Zc] at d
 obtain ⟨⟨_,_,_,_,_⟩,j,_,hn⟩:=d
 subst hn
 have k:=WF.rowL g j
 have:=ZB b
 have:=ZC b
 have:=Zj (ZA b) k
 simp only[*,go_sem,seval]
 refine yB h (fun _ h=>?_) fun _ h=>?_
 obtain ⟨l,h⟩:=Zs h
 try simp only[Nat.reduceLeDiff] at l
 simp only[*,go_sem,seval]
 exact yC h [] [0,322]
 obtain ⟨_,h⟩:=Zs h
 obtain ⟨_,_,h⟩:=ZJ h
 simp only[*,go_sem,seval]
 refine yB h (fun _ h=>?_) fun _ h=>?_
 exact yC h [] [0,1]
 obtain ⟨m,h⟩:=Zs h
 try simp only[Nat.reduceLeDiff] at m
 simp only[*,go_sem,seval]
 exact yC h [] [0,322]
 rintro a ⟨sl,ob,n⟩ e _ h
 simp only[go_sem,seval,Zc] at e
 obtain ⟨⟨_,_,_,_,_⟩,_,_,hn⟩:=e
 subst hn
 have:=Zz (v1.length)
 cases h;exact yD
theorem QT {l_0:(List ByteArray)} {s_1:ByteArray} {r:Bool} (h:YV l_0 s_1=some r):Zl prog J0 206 [(false,[.sl 9 1 (A0 Zw l_0)]),(false,[.str s_1])] [(false,[(false,.bool r)])]:=by
 refine fnk func206 rfl ?_
 unfold YV at h
 simp only[fnS,f206,Zm,go_sem,seval]
 refine Zh h (fun i _ st=>IV [(1,yM (.str s_1)),(7,yM (yP l_0)),(8,yL l_0.length),(9,yL i)] [] st) [] [] yF yD ?_ ?_
 rintro _ _ ⟨⟩ ⟨sl,ob,n⟩ _ a b e h f
 simp only[go_sem,seval,Zc] at b
 obtain ⟨⟨_,g,_,_⟩,hn⟩:=b
 subst hn
 have k:=WF.slotL e g (j:=0) rfl
 have:=ZB a
 have:=ZC a
 have:=Zj (ZA a) k
 simp only[*,go_sem,seval]
 refine yB h (fun _ h=>?_) fun _ h=>?_
 replace h:=Zo h f
 cases h;exact yD
 exact yC h [] []
 rintro ⟨⟩ ⟨sl,ob,n⟩ d _ h
 simp only[go_sem,seval,Zc] at d
 obtain ⟨⟨_,_,_,_⟩,hn⟩:=d
 subst hn
 have:=Zz (l_0.length)
 cases h;exact yD
theorem ZlR {l_0:(List Zf)} {name_1:ByteArray} {r:Int} (h:Zao l_0 name_1=some r):Zl prog J0 190 [(false,[.sl 104 4 (A0 ZG l_0)]),(false,[.str name_1])] [(false,[(false,.int .i64 r)])]:=by
 refine fnk func190 rfl ?_
 unfold Zao at h
 simp only[fnS,f190,Zm,go_sem,seval]
 refine Zh h (fun i _ st=>IV [(1,yM (.str name_1)),(7,yM (yR l_0)),(8,yL l_0.length),(9,yL i)] [] st) [] [] yF yD ?_ ?_
 rintro _ _ ⟨⟩ ⟨sl,ob,n⟩ _ a b e h f
 simp only[go_sem,seval,Zc] at b
 obtain ⟨⟨_,g,_,_⟩,hn⟩:=b
 subst hn
 have k:=WF.slotL e g (j:=0) rfl
 have:=ZB a
 have:=ZC a
 have:=Zj (ZA a) k
 simp only[*,go_sem,seval]
 refine yB h (fun _ h=>?_) fun _ h=>?_
 replace h:=Zo h f
 cases h;exact yD
 exact yC h [] []
 rintro ⟨⟩ ⟨sl,ob,n⟩ d _ h
 simp only[go_sem,seval,Zc] at d
 obtain ⟨⟨_,_,_,_⟩,hn⟩:=d
 subst hn
 have:=Zz (l_0.length)
 cases h;exact yD
theorem ZlZ {r_0:Zf} {r:Bool} (h:Zc0 r_0=some r):Zl prog J0 291 [(true,ZG r_0)] [(false,[(false,.bool r)])]:=by
 refine fnk func291 rfl ?_
 unfold Zc0 at h
 simp only[fnS,f291,Zm,go_sem,seval]
 refine Zh h (fun i _ st=>IV [(6,yM (yV r_0.thn)),(7,yL r_0.thn.length),(8,yL i)] [] st) [] [] yF yD ?_ ?_
 rintro _ _ ⟨⟩ ⟨sl,ob,n⟩ _ a b e h f
 simp only[go_sem,seval,Zc] at b
 obtain ⟨⟨g,_,_⟩,hn⟩:=b
 subst hn
 have k:=WF.slotL e g (j:=0) rfl
 have:=ZB a
 have:=ZC a
 have:=Zj (ZA a) k
 simp only[*,go_sem,seval]
 refine yB h (fun _ h=>?_) fun _ h=>?_
 replace h:=Zo h f
 cases h;exact yD
 exact yC h [] []
 rintro ⟨⟩ ⟨sl,ob,n⟩ d _ h
 simp only[go_sem,seval,Zc] at d
 obtain ⟨⟨_,_,_⟩,hn⟩:=d
 subst hn
 have:=Zz (r_0.thn.length)
 cases h;exact yD
theorem Zph {l_0:(List Int)} {n_1:Int} {r:Bool} (h:ZfM l_0 n_1=some r):Zl prog J0 237 [(false,[.sl 3 1 (A0 Z5 l_0)]),(false,[.int .i64 n_1])] [(false,[(false,.bool r)])]:=by
 refine fnk func237 rfl ?_
 unfold ZfM at h
 simp only[fnS,f237,Zm,go_sem,seval]
 refine Zh h (fun i _ st=>IV [(1,yM (.int .i64 n_1)),(7,yM (yQ l_0)),(8,yL l_0.length),(9,yL i)] [] st) [] [] yF yD ?_ ?_
 rintro _ _ ⟨⟩ ⟨sl,ob,n⟩ _ a b e h f
 simp only[go_sem,seval,Zc] at b
 obtain ⟨⟨_,g,_,_⟩,hn⟩:=b
 subst hn
 have k:=WF.slotL e g (j:=0) rfl
 have:=ZB a
 have:=ZC a
 have:=Zj (ZA a) k
 simp only[*,go_sem,seval]
 refine yB h (fun _ h=>?_) fun _ h=>?_
 replace h:=Zo h f
 cases h;exact yD
 exact yC h [] []
 rintro ⟨⟩ ⟨sl,ob,n⟩ d _ h
 simp only[go_sem,seval,Zc] at d
 obtain ⟨⟨_,_,_,_⟩,hn⟩:=d
 subst hn
 have:=Zz (l_0.length)
 cases h;exact yD
theorem ZgG {a_0:(List Int)} {b_1:(List Int)} {r:Bool} (h:Zbh a_0 b_1=some r):Zl prog J0 279 [(false,[.sl 3 1 (A0 Z5 a_0)]),(false,[.sl 3 1 (A0 Z5 b_1)])] [(false,[(false,.bool r)])]:=by
 refine fnk func279 rfl ?_
 unfold Zbh at h
 simp only[fnS,f279,Zm,go_sem,seval]
 refine yB h (fun _ h=>?_) fun _ h=>?_
 cases h;exact yD
 refine Zh h (fun i _ st=>IV [(0,yM (yQ a_0)),(1,yM (yQ b_1)),(12,yL a_0.length),(13,yL i)] [] st) [] [] yF yD ?_ ?_
 rintro _ _ ⟨⟩ ⟨sl,ob,n⟩ _ a b e h f
 simp only[go_sem,seval,Zc] at b
 obtain ⟨⟨g,_,_,_⟩,hn⟩:=b
 subst hn
 have k:=WF.slotL e g (j:=0) rfl
 have:=ZB a
 have:=ZC a
 have:=Zj (ZA a) k
 obtain ⟨_,_,_,l,h⟩:=Zci h
 simp only[AB] at l
 simp only[*,go_sem,seval]
 refine yB h (fun _ h=>?_) fun _ h=>?_
 replace h:=Zo h f
 cases h;exact yD
 exact yC h [] []
 rintro ⟨⟩ ⟨sl,ob,n⟩ d _ h
 simp only[go_sem,seval,Zc] at d
 obtain ⟨⟨_,_,_,_⟩,hn⟩:=d
 subst hn
 have:=Zz (a_0.length)
 cases h;exact yD
theorem Zoq {a:Zu} {r:(List Int)} (h:ZfS a=some r):Zl prog J0 241 [(true,Qw a)] [(false,[(false,.sl 3 1 (A0 Z5 r))])]:=by
 refine fnk func241 rfl ?_
 unfold ZfS at h
 simp only[fnS,f241,Zm,go_sem,seval]
 obtain ⟨_,h⟩:=Zs h
 simp only[*,go_sem,seval]
 refine XH h (fun s st=>match s with | (q,t)=>IV [(1,.bp 0 0),(3,.p false [.row 1]),(4,yM (.bool t))] [.box 91 [.c (.int .i64 a.nodes),.c (yU a.reasons)],.row 3 1 (A0 Z5 q) 2] st) [] [0,64] yF yD ?_
 rintro ⟨q,t⟩ ⟨sl,ob,n⟩ _ u _ h C
 simp only[go_sem,seval,Zc] at u
 obtain ⟨⟨_,_,_⟩,_,_,hn⟩:=u
 subst hn
 simp only[*,go_sem,seval]
 refine yB h (fun _ h=>?_) fun _ h=>?_
 refine Zh h (fun i s st=>match s with | (e,f)=>IV [(1,.bp 0 0),(3,.p false [.row 1]),(4,yM (.bool f)),(17,yM (yU a.reasons)),(18,yL a.reasons.length),(19,yL i)] [.box 91 [.c (.int .i64 a.nodes),.c (yU a.reasons)],.row 3 1 (A0 Z5 e) 2] st) [] [0,1] yF yD ?_ ?_
 rintro v d ⟨e,f⟩ ⟨sl,ob,n⟩ _ g w D h _
 simp only[go_sem,seval,Zc] at w
 obtain ⟨⟨_,_,_,E,_,_⟩,_,_,hn⟩:=w
 subst hn
 have F:=WF.slotL D E (j:=0) rfl
 have:=ZB g
 have:=ZC g
 have:=Zj (ZA g) F
 obtain ⟨_,h⟩:=Zs h
 obtain ⟨_,_,h⟩:=ZJ h
 simp only[*,go_sem,seval]
 refine Zh h (fun i k st=>IV [(1,.bp 0 0),(3,.p false [.row 1]),(4,yM (.bool f)),(6,.bp 2 0),(7,yM (.int .i64 k)),(17,yM (yU a.reasons)),(18,yL a.reasons.length),(19,yL v),(29,yM (yQ d.inn)),(30,yL d.inn.length),(31,yL i)] [.box 91 [.c (.int .i64 a.nodes),.c (yU a.reasons)],.row 3 1 (A0 Z5 e) 2,yY 144 (ZL d)] st) [] [0,1,50] yF yD ?_ ?_
 rintro _ _ k ⟨sl,ob,n⟩ _ l x G h _
 simp only[go_sem,seval,Zc] at x
 obtain ⟨⟨_,_,_,_,_,_,_,_,H,_,_⟩,_,_,_,hn⟩:=x
 subst hn
 have I:=WF.slotL G H (j:=0) rfl
 have:=ZB l
 have:=ZC l
 have:=Zj (ZA l) I
 obtain ⟨_,h⟩:=Zs h
 obtain ⟨_,_,h⟩:=ZJ h
 simp only[*,go_sem,seval]
 exact yC h [] [0,1,2]
 rintro k ⟨sl,ob,n⟩ y _ h
 simp only[go_sem,seval,Zc] at y
 obtain ⟨⟨_,_,_,_,_,_,_,_,_,_,_⟩,_,_,_,hn⟩:=y
 subst hn
 have:=Zz (d.inn.length)
 simp only[*,go_sem,seval]
 refine Zh h (fun i m st=>IV [(1,.bp 0 0),(3,.p false [.row 1]),(4,yM (.bool f)),(6,.bp 2 0),(7,yM (.int .i64 m)),(17,yM (yU a.reasons)),(18,yL a.reasons.length),(19,yL v),(43,yM (yQ d.outs)),(44,yL d.outs.length),(45,yL i)] [.box 91 [.c (.int .i64 a.nodes),.c (yU a.reasons)],.row 3 1 (A0 Z5 e) 2,yY 144 (ZL d)] st) [] [0,1,2] yF yD ?_ ?_
 rintro _ _ m ⟨sl,ob,n⟩ _ o z J h _
 simp only[go_sem,seval,Zc] at z
 obtain ⟨⟨_,_,_,_,_,_,_,_,K,_,_⟩,_,_,_,hn⟩:=z
 subst hn
 have L:=WF.slotL J K (j:=0) rfl
 have:=ZB o
 have:=ZC o
 have:=Zj (ZA o) L
 obtain ⟨_,h⟩:=Zs h
 obtain ⟨_,_,h⟩:=ZJ h
 simp only[*,go_sem,seval]
 exact yC h [] [0,1,2]
 rintro m ⟨sl,ob,n⟩ A _ h
 simp only[go_sem,seval,Zc] at A
 obtain ⟨⟨_,_,_,_,_,_,_,_,_,_,_⟩,_,_,_,hn⟩:=A
 subst hn
 have:=Zz (d.outs.length)
 simp only[*,go_sem,seval]
 refine yB h (fun _ h=>?_) fun _ h=>?_
 exact yC h [] [0,1]
 exact yC h [] [0,1]
 rintro ⟨e,f⟩ ⟨sl,ob,n⟩ B _ h
 simp only[go_sem,seval,Zc] at B
 obtain ⟨⟨_,_,_,_,_,_⟩,_,_,hn⟩:=B
 subst hn
 have:=Zz (a.reasons.length)
 simp only[*,go_sem,seval]
 exact yC h [] [0,1]
 replace h:=Zo h C
 cases h;exact yD
theorem Zkh {r_0:Zg} {rounds_1:(List Int)} {before_2:Int} {r:Bool} (h:Zas r_0 rounds_1 before_2=some r):Zl prog J0 242 [(true,ZL r_0),(false,[.sl 3 1 (A0 Z5 rounds_1)]),(false,[.int .i64 before_2])] [(false,[(false,.bool r)])]:=by
 refine fnk func242 rfl ?_
 unfold Zas at h
 simp only[fnS,f242,Zm,go_sem,seval]
 refine Zh h (fun i _ st=>IV [(1,yM (yQ rounds_1)),(2,yM (.int .i64 before_2)),(3,.bp 0 0),(12,yM (yQ r_0.inn)),(13,yL r_0.inn.length),(14,yL i)] [yY 144 (ZL r_0)] st) [] [0] yF yD ?_ ?_
 rintro _ _ ⟨⟩ ⟨sl,ob,n⟩ _ a d l h e
 simp only[go_sem,seval,Zc] at d
 obtain ⟨⟨_,_,_,m,_,_⟩,_,hn⟩:=d
 subst hn
 have o:=WF.slotL l m (j:=0) rfl
 have:=ZB a
 have:=ZC a
 have:=Zj (ZA a) o
 obtain ⟨_,_,_,_,h⟩:=Zci h
 simp only[*,go_sem,seval]
 refine yB h (fun _ h=>?_) fun _ h=>?_
 replace h:=Zo h e
 cases h;exact yD
 refine yB h (fun _ h=>?_) fun _ h=>?_
 replace h:=Zo h e
 cases h;exact yD
 exact yC h [] [0]
 rintro ⟨⟩ ⟨sl,ob,n⟩ f _ h
 simp only[go_sem,seval,Zc] at f
 obtain ⟨⟨_,_,_,_,_,_⟩,_,hn⟩:=f
 subst hn
 have:=Zz (r_0.inn.length)
 simp only[*,go_sem,seval]
 refine Zh h (fun i _ st=>IV [(1,yM (yQ rounds_1)),(33,yM (yQ r_0.outs)),(34,yL r_0.outs.length),(35,yL i)] [] st) [] [] yF yD ?_ ?_
 rintro _ _ ⟨⟩ ⟨sl,ob,n⟩ _ b g q h t
 simp only[go_sem,seval,Zc] at g
 obtain ⟨⟨_,u,_,_⟩,hn⟩:=g
 subst hn
 have v:=WF.slotL q u (j:=0) rfl
 have:=ZB b
 have:=ZC b
 have:=Zj (ZA b) v
 obtain ⟨_,_,_,_,h⟩:=Zci h
 simp only[*,go_sem,seval]
 refine yB h (fun _ h=>?_) fun _ h=>?_
 replace h:=Zo h t
 cases h;exact yD
 exact yC h [] []
 rintro ⟨⟩ ⟨sl,ob,n⟩ k _ h
 simp only[go_sem,seval,Zc] at k
 obtain ⟨⟨_,_,_,_⟩,hn⟩:=k
 subst hn
 have:=Zz (r_0.outs.length)
 cases h;exact yD
theorem Zat {a:Int} {least_1:Int} {most_2:Int} {r:Bool} (h:Za5 a least_1 most_2=some r):Zl prog J0 132 [(false,[.int .i64 a]),(false,[.int .i64 least_1]),(false,[.int .i64 most_2])] [(false,[(false,.bool r)])]:=by
 refine fnk func132 rfl ?_
 unfold Za5 at h
 simp only[fnS,f132,Zm,go_sem,seval]
 refine yB h (fun _ h=>?_) fun _ h=>?_
 iterate 2 (cases h;exact yD)
theorem Ziu {n_0:Int} {r:ByteArray} (h:Q4 n_0=some r):Zl prog J0 182 [(false,[.int .i64 n_0])] [(false,[(false,.str r)])]:=by
 refine fnk func182 rfl ?_
 unfold Q4 at h
 have f:Z2 ⟨#[45,57,50,50,51,51,55,50,48,51,54,56,53,52,55,55,53,56,48,56]⟩=true:=by decide
 have g:Z2 ⟨#[]⟩=true:=by decide
 have i:¬((10:Int)=0):=by decide
 simp only[fnS,f182,Zm,go_sem,seval,f,g,i]
 refine yB h (fun _ h=>?_) fun _ h=>?_
 cases h;exact yD
 refine yB h (fun _ h=>?_) fun _ h=>?_
 cases h
 refine XH h (fun s st=>match s with | (a,b)=>IV [(0,yM (.int .i64 a)),(3,yM (.str b))] [] st) [] [] yF yD ?_
 rintro ⟨a,b⟩ ⟨sl,ob,n⟩ _ d _ h j
 simp only[go_sem,seval,Zc] at d
 obtain ⟨⟨_,_⟩,hn⟩:=d
 subst hn
 obtain ⟨_,h⟩:=Zs h
 simp only[*,go_sem,seval]
 refine yB h (fun _ h=>?_) fun _ h=>?_
 replace h:=Zo h j
 cases h;exact yD
 exact yC h [] []
theorem Zfs {n_0:Int} {r:ByteArray} (h:XO n_0=some r):Zl prog J0 182 [(false,[.int .i64 n_0])] [(false,[(false,.str r)])]:=by
 refine fnk func182 rfl ?_
 unfold XO at h
 have f:Z2 ⟨#[45,57,50,50,51,51,55,50,48,51,54,56,53,52,55,55,53,56,48,56]⟩=true:=by decide
 have g:Z2 ⟨#[45]⟩=true:=by decide
 have i:Z2 ⟨#[]⟩=true:=by decide
 have j:¬((10:Int)=0):=by decide
 simp only[fnS,f182,Zm,go_sem,seval,f,g,i,j]
 refine yB h (fun _ h=>?_) fun _ h=>?_
 cases h;exact yD
 refine yB h (fun _ h=>?_) fun _ h=>?_
 refine Za h fun v1 k h=>Zb (Ziu k) ?_
 obtain ⟨l,h⟩:=Zs h
 simp only[go_sem] at l
 cases h;exact yD
 refine XH h (fun s st=>match s with | (a,b)=>IV [(0,yM (.int .i64 a)),(3,yM (.str b))] [] st) [] [] yF yD ?_
 rintro ⟨a,b⟩ ⟨sl,ob,n⟩ _ d _ h m
 simp only[go_sem,seval,Zc] at d
 obtain ⟨⟨_,_⟩,hn⟩:=d
 subst hn
 obtain ⟨_,h⟩:=Zs h
 simp only[*,go_sem,seval]
 refine yB h (fun _ h=>?_) fun _ h=>?_
 replace h:=Zo h m
 cases h;exact yD
 exact yC h [] []
end
section
theorem Y1 {a:(List ByteArray)} {b:ByteArray} {r:(List ByteArray)} (h:XA a b=some r):Zl prog J0 225 [(false,[.sl 9 1 (A0 Zw a)]),(false,[.str b])] [(false,[(false,.sl 9 1 (A0 Zw r))])]:=by
 refine fnk func225 rfl ?_
 unfold XA at h
 simp only[fnS,f225,Zm,go_sem,seval]
 refine Zh h (fun i s st=>match s with | (d,e)=>IV [(0,yM (yP a)),(1,yM (.str b)),(5,.p false [.row 0]),(6,yM (.bool e)),(7,yL i)] [.row 9 1 (A0 Zw d) 2] st) [] [16] yF yD ?_ ?_
 rintro _ _ ⟨d,e⟩ ⟨sl,ob,n⟩ _ f g l h _
 simp only[go_sem,seval,Zc] at g
 obtain ⟨⟨m,_,_,_,_⟩,_,hn⟩:=g
 subst hn
 have o:=WF.slotL l m (j:=0) rfl
 have:=ZB f
 have:=ZC f
 have:=Zj (ZA f) o
 simp only[*,go_sem,seval]
 refine yB h (fun _ h=>?_) fun _ h=>?_
 obtain ⟨q,h⟩:=Zs h
 try simp only[Nat.reduceLeDiff] at q
 simp only[*,go_sem,seval]
 exact yC h [] [321]
 refine yB h (fun _ h=>?_) fun _ h=>?_
 obtain ⟨t,h⟩:=Zs h
 try simp only[Nat.reduceLeDiff] at t
 simp only[*,go_sem,seval]
 exact yC h [] [321]
 refine yB h (fun _ h=>?_) fun _ h=>?_
 obtain ⟨u,h⟩:=Zs h
 try simp only[Nat.reduceLeDiff] at u
 simp only[*,go_sem,seval]
 exact yC h [] [433]
 obtain ⟨v,h⟩:=Zs h
 try simp only[Nat.reduceLeDiff] at v
 obtain ⟨w,h⟩:=Zs h
 try simp only[Nat.reduceLeDiff] at w
 simp only[*,go_sem,seval]
 exact yC h [] [513]
 rintro ⟨d,e⟩ ⟨sl,ob,n⟩ k _ h
 simp only[go_sem,seval,Zc] at k
 obtain ⟨⟨_,_,_,_,_⟩,_,hn⟩:=k
 subst hn
 have:=Zz (a.length)
 simp only[*,go_sem,seval]
 refine yB h (fun _ h=>?_) fun _ h=>?_
 cases h;exact yD
 obtain ⟨x,h⟩:=Zs h
 try simp only[Nat.reduceLeDiff] at x
 cases h;exact yD
theorem Ym {l_0:(List ByteArray)} {s_1:ByteArray} {r:Bool} (h:ZR l_0 s_1=some r):Zl prog J0 151 [(false,[.sl 9 1 (A0 Zw l_0)]),(false,[.str s_1])] [(false,[(false,.bool r)])]:=by
 refine fnk func151 rfl ?_
 unfold ZR at h
 simp only[fnS,f151,Zm,go_sem,seval]
 refine Zh h (fun i _ st=>IV [(0,yM (yP l_0)),(1,yM (.str s_1)),(5,yL i)] [] st) [] [] yF yD ?_ ?_
 rintro _ _ ⟨⟩ ⟨sl,ob,n⟩ _ a b e h f
 simp only[go_sem,seval,Zc] at b
 obtain ⟨⟨g,_,_⟩,hn⟩:=b
 subst hn
 have k:=WF.slotL e g (j:=0) rfl
 have:=ZB a
 have:=ZC a
 have:=Zj (ZA a) k
 simp only[*,go_sem,seval]
 refine yB h (fun _ h=>?_) fun _ h=>?_
 replace h:=Zo h f
 cases h;exact yD
 exact yC h [] []
 rintro ⟨⟩ ⟨sl,ob,n⟩ d _ h
 simp only[go_sem,seval,Zc] at d
 obtain ⟨⟨_,_,_⟩,hn⟩:=d
 subst hn
 have:=Zz (l_0.length)
 cases h;exact yD
theorem Zkf {a_0:ByteArray} {b_1:ByteArray} {r:Int} (h:Zgl a_0 b_1=some r):Zl prog J0 119 [(false,[.str a_0]),(false,[.str b_1])] [(false,[(false,.int .i64 r)])]:=by
 refine fnk func119 rfl ?_
 unfold Zgl at h
 simp only[fnS,f119,Zm,go_sem,seval]
 refine yB h (fun a h=>?_) fun a h=>?_
 cases h;exact yD
 refine Ze h (fun b h=>?_) (fun b h=>?_)
 have c:=b
 try simp only[a,AR,AS] at c
 cases h;exact yD
 have c:=b
 try simp only[a,AR,AS] at c
 cases h;exact yD
theorem ZnT {l_0:(List ByteArray)} {r:(List ByteArray)} (h:Zeq l_0=some r):Zl prog J0 171 [(false,[.sl 9 1 (A0 Zw l_0)])] [(false,[(false,.sl 9 1 (A0 Zw r))])]:=by
 refine fnk func171 rfl ?_
 unfold Zeq at h
 simp only[fnS,f171,Zm,go_sem,seval]
 obtain ⟨_,h⟩:=Zs h
 cases h;exact yD
theorem ZlV {l_0:(List Zf)} {name_1:ByteArray} {r:Int} (h:Zev l_0 name_1=some r):Zl prog J0 246 [(false,[.sl 104 4 (A0 ZG l_0)]),(false,[.str name_1])] [(false,[(false,.int .i64 r)])]:=by
 refine fnk func246 rfl ?_
 unfold Zev at h
 simp only[fnS,f246,Zm,go_sem,seval]
 refine Zh h (fun i _ st=>IV [(0,yM (yR l_0)),(1,yM (.str name_1)),(5,yL i)] [] st) [] [] yF yD ?_ ?_
 rintro _ _ ⟨⟩ ⟨sl,ob,n⟩ _ a b e h f
 simp only[go_sem,seval,Zc] at b
 obtain ⟨⟨g,_,_⟩,hn⟩:=b
 subst hn
 have k:=WF.slotL e g (j:=0) rfl
 have:=ZB a
 have:=ZC a
 have:=Zj (ZA a) k
 simp only[*,go_sem,seval]
 refine yB h (fun _ h=>?_) fun _ h=>?_
 replace h:=Zo h f
 cases h;exact yD
 exact yC h [] []
 rintro ⟨⟩ ⟨sl,ob,n⟩ d _ h
 simp only[go_sem,seval,Zc] at d
 obtain ⟨⟨_,_,_⟩,hn⟩:=d
 subst hn
 have:=Zz (l_0.length)
 cases h;exact yD
theorem Zf8 {b_0:(List Zp)} {r:(List Zp)} (h:Zb7 b_0=some r):Zl prog J0 74 [(false,[.sl 135 2 (A0 ZZ b_0)])] [(false,[(false,.sl 135 2 (A0 ZZ r))])]:=by
 refine fnk func74 rfl ?_
 unfold Zb7 at h
 simp only[fnS,f74,Zm,go_sem,seval]
 obtain ⟨_,h⟩:=Zs h
 cases h;exact yD
theorem Zqy {a:(List Zp)} {b:ByteArray} {d:ByteArray} {r:(List Zp)} (h:Zh3 a b d=some r):Zl prog J0 268 [(false,[.sl 135 2 (A0 ZZ a)]),(false,[.str b]),(false,[.str d])] [(false,[(false,.sl 135 2 (A0 ZZ r))])]:=by
 refine fnk func268 rfl ?_
 unfold Zh3 at h
 simp only[fnS,f268,Zm,go_sem,seval]
 refine Zh h (fun i s st=>match s with | (e,f)=>IV [(0,yM (yT a)),(1,yM (.str b)),(2,yM (.str d)),(7,.p false [.row 0]),(8,yM (.bool f)),(9,yL i)] [.row 135 2 (A0 ZZ e) 2] st) [] [16] yF yD ?_ ?_
 rintro _ _ ⟨e,f⟩ ⟨sl,ob,n⟩ _ g l o h _
 simp only[go_sem,seval,Zc] at l
 obtain ⟨⟨q,_,_,_,_,_⟩,_,hn⟩:=l
 subst hn
 have t:=WF.slotL o q (j:=0) rfl
 have:=ZB g
 have:=ZC g
 have:=Zj (ZA g) t
 simp only[*,go_sem,seval]
 refine yB h (fun _ h=>?_) fun _ h=>?_
 obtain ⟨u,h⟩:=Zs h
 try simp only[Nat.reduceLeDiff] at u
 simp only[*,go_sem,seval]
 exact yC h [] [337]
 refine Ze h (fun k h=>?_) (fun k h=>?_)
 have v:=k
 obtain ⟨w,h⟩:=Zs h
 try simp only[Nat.reduceLeDiff] at w
 simp only[*,go_sem,seval]
 exact yC h [] [337]
 have v:=k
 obtain ⟨x,h⟩:=Zs h
 try simp only[Nat.reduceLeDiff] at x
 obtain ⟨y,h⟩:=Zs h
 try simp only[Nat.reduceLeDiff] at y
 simp only[*,go_sem,seval]
 exact yC h [] [465]
 rintro ⟨e,f⟩ ⟨sl,ob,n⟩ m _ h
 simp only[go_sem,seval,Zc] at m
 obtain ⟨⟨_,_,_,_,_,_⟩,_,hn⟩:=m
 subst hn
 have:=Zz (a.length)
 simp only[*,go_sem,seval]
 refine yB h (fun _ h=>?_) fun _ h=>?_
 cases h;exact yD
 obtain ⟨z,h⟩:=Zs h
 try simp only[Nat.reduceLeDiff] at z
 cases h;exact yD
theorem Zee {r_0:Zf} {r:(List Zr)} (h:Xv r_0=some r):Zl prog J0 115 [(true,ZG r_0)] [(false,[(true,.sl 60 5 (A0 ZK r))])]:=by
 refine fnk func115 rfl ?_
 unfold Xv at h
 simp only[fnS,f115,Zm,go_sem,seval]
 refine Zh h (fun i a st=>IV [(1,.bp 0 0),(3,.p false [.row 1]),(4,yL i)] [yY 104 (ZG r_0),.row 60 5 (A0 ZK a) 1] st) [(true,32,1)] [0,32] yF yD ?_ ?_
 rintro _ _ a ⟨sl,ob,n⟩ _ b d f h _
 simp only[go_sem,seval,Zc] at d
 obtain ⟨⟨_,_,_⟩,g,_,hn⟩:=d
 subst hn
 have k:=WF.boxL f g (j:=2) rfl
 have:=ZB b
 have:=ZC b
 have:=Zj (ZA b) k
 simp only[*,go_sem,seval]
 refine yB h (fun _ h=>?_) fun _ h=>?_
 obtain ⟨l,h⟩:=Zs h
 try simp only[Nat.reduceLeDiff] at l
 simp only[*,go_sem,seval]
 exact yC h [] [0,306]
 exact yC h [] [0,1]
 rintro a ⟨sl,ob,n⟩ e _ h
 simp only[go_sem,seval,Zc] at e
 obtain ⟨⟨_,_,_⟩,_,_,hn⟩:=e
 subst hn
 have:=Zz (r_0.cond.length)
 cases h;exact yD
theorem ZiH {a_0:(List ByteArray)} {b_1:(List ByteArray)} {r:Bool} (h:ZdL a_0 b_1=some r):Zl prog J0 196 [(false,[.sl 9 1 (A0 Zw a_0)]),(false,[.sl 9 1 (A0 Zw b_1)])] [(false,[(false,.bool r)])]:=by
 refine fnk func196 rfl ?_
 unfold ZdL at h
 simp only[fnS,f196,Zm,go_sem,seval]
 refine yB h (fun _ h=>?_) fun _ h=>?_
 cases h;exact yD
 refine Zh h (fun i _ st=>IV [(0,yM (yP a_0)),(1,yM (yP b_1)),(5,yL i)] [] st) [] [] yF yD ?_ ?_
 rintro _ _ ⟨⟩ ⟨sl,ob,n⟩ _ a b e h f
 simp only[go_sem,seval,Zc] at b
 obtain ⟨⟨g,_,_⟩,hn⟩:=b
 subst hn
 have k:=WF.slotL e g (j:=0) rfl
 have:=ZB a
 have:=ZC a
 have:=Zj (ZA a) k
 obtain ⟨_,_,_,l,h⟩:=Zci h
 simp only[AB] at l
 simp only[*,go_sem,seval]
 refine yB h (fun _ h=>?_) fun _ h=>?_
 exact yC h [] []
 replace h:=Zo h f
 cases h;exact yD
 rintro ⟨⟩ ⟨sl,ob,n⟩ d _ h
 simp only[go_sem,seval,Zc] at d
 obtain ⟨⟨_,_,_⟩,hn⟩:=d
 subst hn
 have:=Zz (a_0.length)
 cases h;exact yD
theorem Zpb {a:(List Int)} {b:Int} {r:(List Int)} (h:Zga a b=some r):Zl prog J0 271 [(false,[.sl 3 1 (A0 Z5 a)]),(false,[.int .i64 b])] [(false,[(false,.sl 3 1 (A0 Z5 r))])]:=by
 refine fnk func271 rfl ?_
 unfold Zga at h
 simp only[fnS,f271,Zm,go_sem,seval]
 refine Zh h (fun i s st=>match s with | (d,e)=>IV [(0,yM (yQ a)),(1,yM (.int .i64 b)),(5,.p false [.row 0]),(6,yM (.bool e)),(7,yL i)] [.row 3 1 (A0 Z5 d) 2] st) [] [16] yF yD ?_ ?_
 rintro _ _ ⟨d,e⟩ ⟨sl,ob,n⟩ _ f k m h _
 simp only[go_sem,seval,Zc] at k
 obtain ⟨⟨o,_,_,_,_⟩,_,hn⟩:=k
 subst hn
 have q:=WF.slotL m o (j:=0) rfl
 have:=ZB f
 have:=ZC f
 have:=Zj (ZA f) q
 simp only[*,go_sem,seval]
 refine yB h (fun _ h=>?_) fun _ h=>?_
 obtain ⟨t,h⟩:=Zs h
 try simp only[Nat.reduceLeDiff] at t
 simp only[*,go_sem,seval]
 exact yC h [] [321]
 iterate 2 refine yB h (fun _ h=>?_) fun _ h=>?_
 obtain ⟨u,h⟩:=Zs h
 try simp only[Nat.reduceLeDiff] at u
 obtain ⟨v,h⟩:=Zs h
 try simp only[Nat.reduceLeDiff] at v
 simp only[*,go_sem,seval]
 exact yC h [] [513]
 obtain ⟨w,h⟩:=Zs h
 try simp only[Nat.reduceLeDiff] at w
 simp only[*,go_sem,seval]
 exact yC h [] [433]
 obtain ⟨x,h⟩:=Zs h
 try simp only[Nat.reduceLeDiff] at x
 simp only[*,go_sem,seval]
 exact yC h [] [321]
 rintro ⟨d,e⟩ ⟨sl,ob,n⟩ l _ h
 simp only[go_sem,seval,Zc] at l
 obtain ⟨⟨_,_,_,_,_⟩,_,hn⟩:=l
 subst hn
 have:=Zz (a.length)
 simp only[*,go_sem,seval]
 refine yB h (fun _ h=>?_) fun _ h=>?_
 cases h;exact yD
 obtain ⟨y,h⟩:=Zs h
 try simp only[Nat.reduceLeDiff] at y
 cases h;exact yD
theorem Ze0 {a_0:(List Int)} {b_1:(List Int)} {r:Bool} (h:ZaN a_0 b_1=some r):Zl prog J0 231 [(false,[.sl 3 1 (A0 Z5 a_0)]),(false,[.sl 3 1 (A0 Z5 b_1)])] [(false,[(false,.bool r)])]:=by
 refine fnk func231 rfl ?_
 unfold ZaN at h
 simp only[fnS,f231,Zm,go_sem,seval]
 refine yB h (fun _ h=>?_) fun _ h=>?_
 cases h;exact yD
 refine Zh h (fun i _ st=>IV [(0,yM (yQ a_0)),(1,yM (yQ b_1)),(5,yL i)] [] st) [] [] yF yD ?_ ?_
 rintro _ _ ⟨⟩ ⟨sl,ob,n⟩ _ a b e h f
 simp only[go_sem,seval,Zc] at b
 obtain ⟨⟨g,_,_⟩,hn⟩:=b
 subst hn
 have k:=WF.slotL e g (j:=0) rfl
 have:=ZB a
 have:=ZC a
 have:=Zj (ZA a) k
 obtain ⟨_,_,_,l,h⟩:=Zci h
 simp only[AB] at l
 simp only[*,go_sem,seval]
 refine yB h (fun _ h=>?_) fun _ h=>?_
 replace h:=Zo h f
 cases h;exact yD
 exact yC h [] []
 rintro ⟨⟩ ⟨sl,ob,n⟩ d _ h
 simp only[go_sem,seval,Zc] at d
 obtain ⟨⟨_,_,_⟩,hn⟩:=d
 subst hn
 have:=Zz (a_0.length)
 cases h;exact yD
theorem ZHf {l_0:(List Int)} {r:(List Int)} (h:ZFr l_0=some r):Zl prog J0 303 [(false,[.sl 3 1 (A0 Z5 l_0)])] [(false,[(false,.sl 3 1 (A0 Z5 r))])]:=by
 refine fnk func303 rfl ?_
 unfold ZFr at h
 simp only[fnS,f303,Zm,go_sem,seval]
 obtain ⟨_,h⟩:=Zs h
 cases h;exact yD
theorem ZEO {l_0:(List Int)} {rounds_1:(List Int)} {round_2:Int} {r:Bool} (h:ZDx l_0 rounds_1 round_2=some r):Zl prog J0 272 [(false,[.sl 3 1 (A0 Z5 l_0)]),(false,[.sl 3 1 (A0 Z5 rounds_1)]),(false,[.int .i64 round_2])] [(false,[(false,.bool r)])]:=by
 refine fnk func272 rfl ?_
 unfold ZDx at h
 simp only[fnS,f272,Zm,go_sem,seval]
 refine Zh h (fun i _ st=>IV [(0,yM (yQ l_0)),(1,yM (yQ rounds_1)),(2,yM (.int .i64 round_2)),(7,yL i)] [] st) [] [] yF yD ?_ ?_
 rintro _ _ ⟨⟩ ⟨sl,ob,n⟩ _ a b f h d
 simp only[go_sem,seval,Zc] at b
 obtain ⟨⟨g,_,_,_⟩,hn⟩:=b
 subst hn
 have k:=WF.slotL f g (j:=0) rfl
 have:=ZB a
 have:=ZC a
 have:=Zj (ZA a) k
 obtain ⟨_,_,_,_,h⟩:=Zci h
 simp only[*,go_sem,seval]
 refine yB h (fun _ h=>?_) fun _ h=>?_
 replace h:=Zo h d
 cases h;exact yD
 refine yB h (fun _ h=>?_) fun _ h=>?_
 replace h:=Zo h d
 cases h;exact yD
 exact yC h [] []
 rintro ⟨⟩ ⟨sl,ob,n⟩ e _ h
 simp only[go_sem,seval,Zc] at e
 obtain ⟨⟨_,_,_,_⟩,hn⟩:=e
 subst hn
 have:=Zz (l_0.length)
 cases h;exact yD
theorem ZFh {l_0:(List Int)} {rounds_1:(List Int)} {r:Bool} (h:ZDR l_0 rounds_1=some r):Zl prog J0 273 [(false,[.sl 3 1 (A0 Z5 l_0)]),(false,[.sl 3 1 (A0 Z5 rounds_1)])] [(false,[(false,.bool r)])]:=by
 refine fnk func273 rfl ?_
 unfold ZDR at h
 simp only[fnS,f273,Zm,go_sem,seval]
 refine Zh h (fun i _ st=>IV [(0,yM (yQ l_0)),(1,yM (yQ rounds_1)),(5,yL i)] [] st) [] [] yF yD ?_ ?_
 rintro _ _ ⟨⟩ ⟨sl,ob,n⟩ _ a b e h f
 simp only[go_sem,seval,Zc] at b
 obtain ⟨⟨g,_,_⟩,hn⟩:=b
 subst hn
 have k:=WF.slotL e g (j:=0) rfl
 have:=ZB a
 have:=ZC a
 have:=Zj (ZA a) k
 obtain ⟨_,_,_,_,h⟩:=Zci h
 simp only[*,go_sem,seval]
 refine yB h (fun _ h=>?_) fun _ h=>?_
 replace h:=Zo h f
 cases h;exact yD
 exact yC h [] []
 rintro ⟨⟩ ⟨sl,ob,n⟩ d _ h
 simp only[go_sem,seval,Zc] at d
 obtain ⟨⟨_,_,_⟩,hn⟩:=d
 subst hn
 have:=Zz (l_0.length)
 cases h;exact yD
theorem Zch {l_0:(List Int)} {nodes_1:Int} {r:Bool} (h:YW l_0 nodes_1=some r):Zl prog J0 194 [(false,[.sl 3 1 (A0 Z5 l_0)]),(false,[.int .i64 nodes_1])] [(false,[(false,.bool r)])]:=by
 refine fnk func194 rfl ?_
 unfold YW at h
 simp only[fnS,f194,Zm,go_sem,seval]
 refine Zh h (fun i _ st=>IV [(0,yM (yQ l_0)),(1,yM (.int .i64 nodes_1)),(7,yM (yQ l_0)),(8,yL l_0.length),(9,yL i)] [] st) [] [] yF yD ?_ ?_
 rintro _ _ ⟨⟩ ⟨sl,ob,n⟩ _ a d f h b
 simp only[go_sem,seval,Zc] at d
 obtain ⟨⟨g,_,_,_,_⟩,hn⟩:=d
 subst hn
 have k:=WF.slotL f g (j:=0) rfl
 have:=ZB a
 have:=ZC a
 have:=Zj (ZA a) k
 simp only[*,go_sem,seval]
 refine yB h (fun _ h=>?_) fun _ h=>?_
 replace h:=Zo h b
 cases h;exact yD
 refine yB h (fun _ h=>?_) fun _ h=>?_
 replace h:=Zo h b
 cases h;exact yD
 refine yB h (fun _ h=>?_) fun _ h=>?_
 obtain ⟨_,_,_,_,h⟩:=Zci h
 simp only[*,go_sem,seval]
 refine yB h (fun _ h=>?_) fun _ h=>?_
 replace h:=Zo h b
 cases h;exact yD
 exact yC h [] []
 exact yC h [] []
 rintro ⟨⟩ ⟨sl,ob,n⟩ e _ h
 simp only[go_sem,seval,Zc] at e
 obtain ⟨⟨_,_,_,_,_⟩,hn⟩:=e
 subst hn
 have:=Zz (l_0.length)
 cases h;exact yD
theorem ZH3 {l_0:(List Int)} {x_1:Int} {r:Bool} (h:ZEh l_0 x_1=some r):Zl prog J0 233 [(false,[.sl 3 1 (A0 Z5 l_0)]),(false,[.int .i64 x_1])] [(false,[(false,.bool r)])]:=by
 refine fnk func233 rfl ?_
 unfold ZEh at h
 simp only[fnS,f233,Zm,go_sem,seval]
 refine Zh h (fun i _ st=>IV [(0,yM (yQ l_0)),(1,yM (.int .i64 x_1)),(5,yL i)] [] st) [] [] yF yD ?_ ?_
 rintro _ _ ⟨⟩ ⟨sl,ob,n⟩ _ a b e h f
 simp only[go_sem,seval,Zc] at b
 obtain ⟨⟨g,_,_⟩,hn⟩:=b
 subst hn
 have k:=WF.slotL e g (j:=0) rfl
 have:=ZB a
 have:=ZC a
 have:=Zj (ZA a) k
 simp only[*,go_sem,seval]
 refine yB h (fun _ h=>?_) fun _ h=>?_
 replace h:=Zo h f
 cases h;exact yD
 exact yC h [] []
 rintro ⟨⟩ ⟨sl,ob,n⟩ d _ h
 simp only[go_sem,seval,Zc] at d
 obtain ⟨⟨_,_,_⟩,hn⟩:=d
 subst hn
 have:=Zz (l_0.length)
 cases h;exact yD
end
section
theorem ZlS {a_0:Zd} {b_1:Zd} {r:Bool} (h:Zbe a_0 b_1=some r):Zl prog J0 129 [(true,Zq a_0),(true,Zq b_1)] [(false,[(false,.bool r)])]:=by
 refine fnk func129 rfl ?_
 unfold Zbe at h
 simp only[fnS,f129,Zm,go_sem,seval]
 refine yB h (fun _ h=>?_) fun _ h=>?_
 refine Za h fun v1 a h=>Zb (ZkF a) ?_
 iterate 2 (cases h;exact yD)
theorem YC {f_0:Zd} {r:Zd} (h:Yl f_0=some r):Zl prog J0 103 [(true,Zq f_0)] [(true,[(false,.str r.rel),(false,.sl 9 1 (A0 Zw r.args))])]:=by
 refine fnk func103 rfl ?_
 unfold Yl at h
 simp only[fnS,f103,Zm,go_sem,seval]
 refine Za h fun v1 a h=>Zb (ZfK a) ?_
 cases h;exact yD
theorem ZfA {s_0:ByteArray} {r:Bool} (h:Zdg s_0=some r):Zl prog J0 166 [(false,[.str s_0])] [(false,[(false,.bool r)])]:=by
 refine fnk func166 rfl ?_
 unfold Zdg at h
 simp only[fnS,f166,Zm,go_sem,seval]
 refine Za h fun v1 a h=>Zb (XS a)<|yA ?_
 refine yB h (fun _ h=>?_) fun _ h=>?_
 obtain ⟨_,_,b,h⟩:=ZpV h
 try simp only[seval] at b
 iterate 2 (cases h;exact yD)
theorem ZcG {s_0:ByteArray} {r:Bool} (h:Zcp s_0=some r):Zl prog J0 229 [(false,[.str s_0])] [(false,[(false,.bool r)])]:=by
 refine fnk func229 rfl ?_
 unfold Zcp at h
 simp only[fnS,f229,Zm,go_sem,seval]
 refine yB h (fun _ h=>?_) fun _ h=>?_
 obtain ⟨_,_,a,h⟩:=ZpV h
 try simp only[seval] at a
 simp only[*,go_sem,seval]
 refine yB h (fun _ h=>?_) fun _ h=>?_
 obtain ⟨_,h⟩:=Zs h
 simp only[*,go_sem,seval]
 refine Za h fun _ b h=>Zb (XS b) ?_
 iterate 3 (cases h;exact yD)
theorem ZbF {s_0:ByteArray} {r:(Int × Bool)} (h:QD s_0=some r):Zl prog J0 259 [(false,[.str s_0])] [(false,[(false,.int .i64 r.1)]),(false,[(false,.bool r.2)])]:=by
 refine fnk func259 rfl ?_
 unfold QD at h
 simp only[fnS,f259,Zm,go_sem,seval]
 iterate 2 ((refine Ze h (fun _ h=>?_) fun _ h=>?_<;>try simp only[*,go_sem,seval]);cases h;simp only[*,go_sem,seval])
 refine Za h fun v1 a h=>Zb (ZsH a)<|yA ?_
 iterate 2 refine yB h (fun _ h=>?_) fun _ h=>?_
 cases h;exact yD
 refine yB h (fun _ h=>?_) fun _ h=>?_
 cases h;exact yD
 refine Za h fun _ b h=>Zb (ZjM b)<|yA ?_
 refine yB h (fun _ h=>?_) fun _ h=>?_
 iterate 3 (cases h;exact yD)
theorem ZnX {x_0:Zr} {r:(List ByteArray)} (h:Zgs x_0=some r):Zl prog J0 282 [(true,ZK x_0)] [(false,[(false,.sl 9 1 (A0 Zw r))])]:=by
 refine fnk func282 rfl ?_
 unfold Zgs at h
 simp only[fnS,f282,Zm,go_sem,seval]
 refine Za h fun v1 a h=>Zb (ZfK a) ?_
 obtain ⟨b,h⟩:=Zs h
 try simp only[Nat.reduceLeDiff] at b
 cases h;exact yD
theorem ZgC {r_0:Zf} {r:(List ByteArray)} (h:XY r_0=some r):Zl prog J0 277 [(true,ZG r_0)] [(false,[(false,.sl 9 1 (A0 Zw r))])]:=by
 refine fnk func277 rfl ?_
 unfold XY at h
 simp only[fnS,f277,Zm,go_sem,seval]
 refine Zh h (fun i a st=>IV [(3,.p false [.row 0]),(7,yM (yV r_0.thn)),(8,yL r_0.thn.length),(9,yL i)] [.row 9 1 (A0 Zw a) 2] st) [(false,3,0)] [112] yF yD ?_ ?_
 rintro _ _ a ⟨sl,ob,n⟩ _ b d f h _
 simp only[go_sem,seval,Zc] at d
 obtain ⟨⟨_,g,_,_⟩,_,hn⟩:=d
 subst hn
 have k:=WF.slotL f g (j:=0) rfl
 have:=ZB b
 have:=ZC b
 have:=Zj (ZA b) k
 simp only[*,go_sem,seval]
 refine yB h (fun _ h=>?_) fun _ h=>?_
 obtain ⟨l,h⟩:=Zs h
 try simp only[Nat.reduceLeDiff] at l
 simp only[*,go_sem,seval]
 exact yC h [] [289]
 refine yB h (fun _ h=>?_) fun _ h=>?_
 obtain ⟨m,h⟩:=Zs h
 try simp only[Nat.reduceLeDiff] at m
 simp only[*,go_sem,seval]
 exact yC h [] [289]
 exact yC h [] [0]
 rintro a ⟨sl,ob,n⟩ e _ h
 simp only[go_sem,seval,Zc] at e
 obtain ⟨⟨_,_,_,_⟩,_,hn⟩:=e
 subst hn
 have:=Zz (r_0.thn.length)
 simp only[*,go_sem,seval]
 refine Za h fun _ o h=>Zb (XK o) ?_
 cases h;exact yD
theorem ZnK {r_0:Zf} {r:(List ByteArray)} (h:Zbm r_0=some r):Zl prog J0 292 [(true,ZG r_0)] [(false,[(false,.sl 9 1 (A0 Zw r))])]:=by
 refine fnk func292 rfl ?_
 unfold Zbm at h
 simp only[fnS,f292,Zm,go_sem,seval]
 refine Zh h (fun i a st=>IV [(3,.p false [.row 0]),(7,yM (yS r_0.cond)),(8,yL r_0.cond.length),(9,yL i)] [.row 9 1 (A0 Zw a) 2] st) [(false,3,0)] [112] yF yD ?_ ?_
 rintro _ _ a ⟨sl,ob,n⟩ _ b d f h _
 simp only[go_sem,seval,Zc] at d
 obtain ⟨⟨_,g,_,_⟩,_,hn⟩:=d
 subst hn
 have k:=WF.slotL f g (j:=0) rfl
 have:=ZB b
 have:=ZC b
 have:=Zj (ZA b) k
 simp only[*,go_sem,seval]
 refine yB h (fun _ h=>?_) fun _ h=>?_
 obtain ⟨l,h⟩:=Zs h
 try simp only[Nat.reduceLeDiff] at l
 simp only[*,go_sem,seval]
 exact yC h [] [289]
 refine yB h (fun _ h=>?_) fun _ h=>?_
 obtain ⟨m,h⟩:=Zs h
 try simp only[Nat.reduceLeDiff] at m
 simp only[*,go_sem,seval]
 exact yC h [] [289]
 exact yC h [] [0]
 rintro a ⟨sl,ob,n⟩ e _ h
 simp only[go_sem,seval,Zc] at e
 obtain ⟨⟨_,_,_,_⟩,_,hn⟩:=e
 subst hn
 have:=Zz (r_0.cond.length)
 simp only[*,go_sem,seval]
 refine Za h fun _ o h=>Zb (XK o) ?_
 cases h;exact yD
theorem Zjo {a_0:Zg} {b_1:Zg} {r:Bool} (h:ZaK a_0 b_1=some r):Zl prog J0 239 [(true,ZL a_0),(true,ZL b_1)] [(false,[(false,.bool r)])]:=by
 refine fnk func239 rfl ?_
 unfold ZaK at h
 simp only[fnS,f239,Zm,go_sem,seval]
 refine yB h (fun _ h=>?_) fun _ h=>?_
 refine Za h fun v1 a h=>Zb (ZgG a)<|yA ?_
 refine yB h (fun _ h=>?_) fun _ h=>?_
 refine Za h fun _ b h=>Zb (ZgG b) ?_
 iterate 3 (cases h;exact yD)
theorem Zpp {b:Zu} {r:(List Int)} (h:ZfP b=some r):Zl prog J0 178 [(true,Qw b)] [(false,[(false,.sl 3 1 (A0 Z5 r))])]:=by
 refine fnk func178 rfl ?_
 unfold ZfP at h
 simp only[fnS,f178,Zm,go_sem,seval]
 refine Za h fun v1 A h=>Zb (Zoq A) ?_
 obtain ⟨_,h⟩:=Zs h
 simp only[*,go_sem,seval]
 refine XH h (fun s st=>match s with | (q,t,e)=>IV [(1,.bp 0 0),(3,.p false [.row 1]),(4,.p false [.row 2]),(5,yM (.int .i64 e)),(20,yM (.int .i64 ((Int.toNat b.nodes:Nat):Int))),(21,yM (.int .i64 t))] [.box 91 [.c (.int .i64 b.nodes),.c (yU b.reasons)],.row 3 1 (A0 Z5 v1) 2,.row 3 1 (A0 Z5 q) 2] st) [] [0,48,112] yF yD ?_
 rintro ⟨q,t,e⟩ ⟨sl,ob,n⟩ _ u _ h B
 simp only[go_sem,seval,Zc] at u
 obtain ⟨⟨_,_,_,_,_,_⟩,_,_,_,hn⟩:=u
 subst hn
 simp only[*,go_sem,seval]
 refine yB h (fun _ h=>?_) fun _ h=>?_
 obtain ⟨_,h⟩:=Zs h
 obtain ⟨_,_,h⟩:=ZJ h
 obtain ⟨_,h⟩:=Zs h
 obtain ⟨_,_,h⟩:=ZJ h
 simp only[*,go_sem,seval]
 exact yC h [] [0,1,2]
 refine XH h (fun s st=>match s with | (k,f,g)=>IV [(1,.bp 0 0),(3,.p false [.row 1]),(4,.p false [.row 2]),(5,yM (.int .i64 e)),(7,yM (.int .i64 f)),(8,yM (.int .i64 g))] [.box 91 [.c (.int .i64 b.nodes),.c (yU b.reasons)],.row 3 1 (A0 Z5 v1) 2,.row 3 1 (A0 Z5 k) 2] st) [] [0,1,2] yF yD ?_
 rintro ⟨k,f,g⟩ ⟨sl,ob,n⟩ _ v _ h C
 simp only[go_sem,seval,Zc] at v
 obtain ⟨⟨_,_,_,_,_,_⟩,_,_,_,hn⟩:=v
 subst hn
 simp only[*,go_sem,seval]
 refine yB h (fun _ h=>?_) fun _ h=>?_
 refine Zh h (fun i d st=>IV [(1,.bp 0 0),(3,.p false [.row 1]),(4,.p false [.row 2]),(5,yM (.int .i64 e)),(7,yM (.int .i64 f)),(8,yM (.int .i64 g)),(9,.p false [.row 3]),(38,yM (yU b.reasons)),(39,yL b.reasons.length),(40,yL i)] [.box 91 [.c (.int .i64 b.nodes),.c (yU b.reasons)],.row 3 1 (A0 Z5 v1) 2,.row 3 1 (A0 Z5 k) 2,.row 3 1 (A0 Z5 d) 2] st) [(false,9,0)] [0,1,2,131] yF yD ?_ ?_
 rintro _ _ d ⟨sl,ob,n⟩ _ l w D h _
 simp only[go_sem,seval,Zc] at w
 obtain ⟨⟨_,_,_,_,_,_,_,E,_,_⟩,_,_,_,_,hn⟩:=w
 subst hn
 have F:=WF.slotL D E (j:=0) rfl
 have:=ZB l
 have:=ZC l
 have:=Zj (ZA l) F
 obtain ⟨_,h⟩:=Zs h
 obtain ⟨_,_,h⟩:=ZJ h
 simp only[*,go_sem,seval]
 refine yB h (fun _ h=>?_) fun _ h=>?_
 obtain ⟨_,h⟩:=Zs h
 obtain ⟨_,_,h⟩:=ZJ h
 simp only[*,go_sem,seval]
 refine yB h (fun _ h=>?_) fun _ h=>?_
 refine Za h fun _ G h=>Zb (Zkh G)<|yA ?_
 refine yB h (fun _ h=>?_) fun _ h=>?_
 obtain ⟨H,h⟩:=Zs h
 try simp only[Nat.reduceLeDiff] at H
 simp only[*,go_sem,seval]
 exact yC h [] [0,1,2,484]
 exact yC h [] [0,1,2,3]
 exact yC h [] [0,1,2,3]
 exact yC h [] [0,1,2,3]
 rintro d ⟨sl,ob,n⟩ x _ h
 simp only[go_sem,seval,Zc] at x
 obtain ⟨⟨_,_,_,_,_,_,_,_,_,_⟩,_,_,_,_,hn⟩:=x
 subst hn
 have:=Zz (b.reasons.length)
 simp only[*,go_sem,seval]
 refine yB h (fun _ h=>?_) fun _ h=>?_
 exact yC h [] [0,1,2]
 refine Zh h (fun i m st=>IV [(1,.bp 0 0),(3,.p false [.row 1]),(4,.p false [.row 2]),(5,yM (.int .i64 e)),(7,yM (.int .i64 f)),(8,yM (.int .i64 g)),(76,.p false [.row 3]),(77,yL d.length),(78,yL i)] [.box 91 [.c (.int .i64 b.nodes),.c (yU b.reasons)],.row 3 1 (A0 Z5 v1) 2,.row 3 1 (A0 Z5 m) 2,.row 3 1 (A0 Z5 d) 2] st) [] [0,1,2,3] yF yD ?_ ?_
 rintro _ _ m ⟨sl,ob,n⟩ _ o y I h _
 simp only[go_sem,seval,Zc] at y
 obtain ⟨⟨_,_,_,_,_,_,_,_,_⟩,_,_,_,J,hn⟩:=y
 subst hn
 have K:=WF.rowL I J
 have:=ZB o
 have:=ZC o
 have:=Zj (ZA o) K
 obtain ⟨_,h⟩:=Zs h
 obtain ⟨_,_,h⟩:=ZJ h
 simp only[*,go_sem,seval]
 exact yC h [] [0,1,2,3]
 rintro m ⟨sl,ob,n⟩ z _ h
 simp only[go_sem,seval,Zc] at z
 obtain ⟨⟨_,_,_,_,_,_,_,_,_⟩,_,_,_,_,hn⟩:=z
 subst hn
 have:=Zz (d.length)
 simp only[*,go_sem,seval]
 exact yC h [] [0,1,2]
 replace h:=Zo h C
 replace h:=Zo h B
 cases h;exact yD
theorem Zbv {s_0:ByteArray} {r:(Int × Bool)} (h:X0 s_0=some r):Zl prog J0 192 [(false,[.str s_0])] [(false,[(false,.int .i64 r.1)]),(false,[(false,.bool r.2)])]:=by
 refine fnk func192 rfl ?_
 unfold X0 at h
 simp only[fnS,f192,Zm,go_sem,seval]
 refine Za h fun v1 g h=>Zb (Zat g)<|yA ?_
 refine yB h (fun _ h=>?_) fun _ h=>?_
 refine Zh h (fun i a st=>IV [(0,yM (.str s_0)),(4,yM (.int .i64 a)),(5,yL i)] [] st) [] [] yF yD ?_ ?_
 rintro _ _ a ⟨sl,ob,n⟩ _ b d k h e
 simp only[go_sem,seval,Zc] at d
 obtain ⟨⟨l,_,_⟩,hn⟩:=d
 subst hn
 have m:=WF.slotS k l (j:=0) rfl
 have:=Znm b
 have:=Zuf b
 have:=Zj (Zrk b) m
 simp only[*,go_sem,seval]
 refine yB h (fun _ h=>?_) fun _ h=>?_
 replace h:=Zo h e
 cases h;exact yD
 refine yB h (fun _ h=>?_) fun _ h=>?_
 replace h:=Zo h e
 cases h;exact yD
 exact yC h [] []
 rintro a ⟨sl,ob,n⟩ f _ h
 simp only[go_sem,seval,Zc] at f
 obtain ⟨⟨_,_,_⟩,hn⟩:=f
 subst hn
 have:=Zz (s_0.size)
 simp only[*,go_sem,seval]
 refine Za h fun _ o h=>Zb (Zfs o)<|yA ?_
 refine yB h (fun _ h=>?_) fun _ h=>?_
 iterate 3 (cases h;exact yD)
theorem XR {s_0:ByteArray} {r:Bool} (h:X3 s_0=some r):Zl prog J0 160 [(false,[.str s_0])] [(false,[(false,.bool r)])]:=by
 refine fnk func160 rfl ?_
 unfold X3 at h
 simp only[fnS,f160,Zm,go_sem,seval]
 refine Zh h (fun i _ st=>IV [(0,yM (.str s_0)),(3,yL i)] [] st) [] [] yF yD ?_ ?_
 rintro _ _ ⟨⟩ ⟨sl,ob,n⟩ _ a b e h f
 simp only[go_sem,seval,Zc] at b
 obtain ⟨⟨g,_⟩,hn⟩:=b
 subst hn
 have k:=WF.slotS e g (j:=0) rfl
 have:=Znm a
 have:=Zuf a
 have:=Zj (Zrk a) k
 simp only[*,go_sem,seval]
 refine Za h fun _ l h=>Zb (Zat l)<|yA ?_
 refine yB h (fun _ h=>?_) fun _ h=>?_
 exact yC h [] []
 refine Za h fun _ m h=>Zb (Zat m)<|yA ?_
 refine yB h (fun _ h=>?_) fun _ h=>?_
 exact yC h [] []
 replace h:=Zo h f
 cases h;exact yD
 rintro ⟨⟩ ⟨sl,ob,n⟩ d _ h
 simp only[go_sem,seval,Zc] at d
 obtain ⟨⟨_,_⟩,hn⟩:=d
 subst hn
 have:=Zz (s_0.size)
 simp only[*,go_sem,seval]
 refine Za h fun _ o h=>Zb (Zat o) ?_
 cases h;exact yD
theorem Xr {f_0:Zd} {r:Zd} (h:XM f_0=some r):Zl prog J0 98 [(true,Zq f_0)] [(true,[(false,.str r.rel),(false,.sl 9 1 (A0 Zw r.args))])]:=by
 refine fnk func98 rfl ?_
 unfold XM at h
 simp only[fnS,f98,Zm,go_sem,seval]
 refine Za h fun v1 a h=>Zb (ZnT a) ?_
 cases h;exact yD
theorem ZlG {a_0:(List ByteArray)} {b_1:(List ByteArray)} {r:Bool} (h:ZcU a_0 b_1=some r):Zl prog J0 244 [(false,[.sl 9 1 (A0 Zw a_0)]),(false,[.sl 9 1 (A0 Zw b_1)])] [(false,[(false,.bool r)])]:=by
 refine fnk func244 rfl ?_
 unfold ZcU at h
 simp only[fnS,f244,Zm,go_sem,seval]
 refine Zh h (fun i _ st=>IV [(0,yM (yP a_0)),(1,yM (yP b_1)),(5,yL i)] [] st) [] [] yF yD ?_ ?_
 rintro _ _ ⟨⟩ ⟨sl,ob,n⟩ _ a b e h f
 simp only[go_sem,seval,Zc] at b
 obtain ⟨⟨g,_,_⟩,hn⟩:=b
 subst hn
 have k:=WF.slotL e g (j:=0) rfl
 have:=ZB a
 have:=ZC a
 have:=Zj (ZA a) k
 simp only[*,go_sem,seval]
 refine Za h fun _ l h=>Zb (Ym l)<|yA ?_
 refine yB h (fun _ h=>?_) fun _ h=>?_
 exact yC h [] []
 replace h:=Zo h f
 cases h;exact yD
 rintro ⟨⟩ ⟨sl,ob,n⟩ d _ h
 simp only[go_sem,seval,Zc] at d
 obtain ⟨⟨_,_,_⟩,hn⟩:=d
 subst hn
 have:=Zz (a_0.length)
 cases h;exact yD
theorem ZgL {r_0:Zf} {r:(List ByteArray)} (h:QI r_0=some r):Zl prog J0 185 [(true,ZG r_0)] [(false,[(false,.sl 9 1 (A0 Zw r))])]:=by
 refine fnk func185 rfl ?_
 unfold QI at h
 simp only[fnS,f185,Zm,go_sem,seval]
 refine Zh h (fun i a st=>IV [(1,.bp 0 0),(3,.p false [.row 1]),(4,yL i)] [yY 104 (ZG r_0),.row 9 1 (A0 Zw a) 2] st) [] [0,32] yF yD ?_ ?_
 rintro _ _ a ⟨sl,ob,n⟩ _ b d f h _
 simp only[go_sem,seval,Zc] at d
 obtain ⟨⟨_,_,_⟩,g,_,hn⟩:=d
 subst hn
 have k:=WF.boxL f g (j:=3) rfl
 have:=ZB b
 have:=ZC b
 have:=Zj (ZA b) k
 simp only[*,go_sem,seval]
 refine yB h (fun _ h=>?_) fun _ h=>?_
 refine Za h fun _ l h=>Zb (Y1 l)<|yA ?_
 exact yC h [] [0,466]
 refine yB h (fun _ h=>?_) fun _ h=>?_
 refine Za h fun _ m h=>Zb (Y1 m)<|yA ?_
 exact yC h [] [0,466]
 exact yC h [] [0,1]
 rintro a ⟨sl,ob,n⟩ e _ h
 simp only[go_sem,seval,Zc] at e
 obtain ⟨⟨_,_,_⟩,_,_,hn⟩:=e
 subst hn
 have:=Zz (r_0.thn.length)
 cases h;exact yD
theorem ZnN {r_0:Zf} {r:(List ByteArray)} (h:Zbt r_0=some r):Zl prog J0 245 [(true,ZG r_0)] [(false,[(false,.sl 9 1 (A0 Zw r))])]:=by
 refine fnk func245 rfl ?_
 unfold Zbt at h
 simp only[fnS,f245,Zm,go_sem,seval]
 refine Zh h (fun i a st=>IV [(1,.bp 0 0),(3,.p false [.row 1]),(4,yL i)] [yY 104 (ZG r_0),.row 9 1 (A0 Zw a) 2] st) [] [0,32] yF yD ?_ ?_
 rintro _ _ a ⟨sl,ob,n⟩ _ b d f h _
 simp only[go_sem,seval,Zc] at d
 obtain ⟨⟨_,_,_⟩,g,_,hn⟩:=d
 subst hn
 have k:=WF.boxL f g (j:=2) rfl
 have:=ZB b
 have:=ZC b
 have:=Zj (ZA b) k
 simp only[*,go_sem,seval]
 refine yB h (fun _ h=>?_) fun _ h=>?_
 refine Za h fun _ l h=>Zb (Y1 l)<|yA ?_
 exact yC h [] [0,466]
 refine yB h (fun _ h=>?_) fun _ h=>?_
 refine Za h fun _ m h=>Zb (Y1 m)<|yA ?_
 exact yC h [] [0,466]
 exact yC h [] [0,1]
 rintro a ⟨sl,ob,n⟩ e _ h
 simp only[go_sem,seval,Zc] at e
 obtain ⟨⟨_,_,_⟩,_,_,hn⟩:=e
 subst hn
 have:=Zz (r_0.cond.length)
 cases h;exact yD
theorem Zpy {a_0:Zd} {b_1:Zd} {r:Bool} (h:Zj1 a_0 b_1=some r):Zl prog J0 127 [(true,Zq a_0),(true,Zq b_1)] [(false,[(false,.bool r)])]:=by
 refine fnk func127 rfl ?_
 unfold Zj1 at h
 simp only[fnS,f127,Zm,go_sem,seval]
 refine yB h (fun _ h=>?_) fun _ h=>?_
 refine Za h fun v1 a h=>Zb (ZiH a) ?_
 iterate 2 (cases h;exact yD)
theorem ZnD {l_0:(List Zg)} {r_1:Zg} {r:Int} (h:Zd8 l_0 r_1=some r):Zl prog J0 169 [(false,[.sl 144 3 (A0 ZL l_0)]),(true,ZL r_1)] [(false,[(false,.int .i64 r)])]:=by
 refine fnk func169 rfl ?_
 unfold Zd8 at h
 simp only[fnS,f169,Zm,go_sem,seval]
 refine Zh h (fun i _ st=>IV [(0,yM (yU l_0)),(3,.bp 0 0),(5,yL i)] [yY 144 (ZL r_1)] st) [] [0] yF yD ?_ ?_
 rintro _ _ ⟨⟩ ⟨sl,ob,n⟩ _ a b e h f
 simp only[go_sem,seval,Zc] at b
 obtain ⟨⟨g,_,_⟩,_,hn⟩:=b
 subst hn
 have k:=WF.slotL e g (j:=0) rfl
 have:=ZB a
 have:=ZC a
 have:=Zj (ZA a) k
 simp only[*,go_sem,seval]
 refine yB h (fun _ h=>?_) fun _ h=>?_
 refine Za h fun _ l h=>Zb (Ze0 l)<|yA ?_
 refine yB h (fun _ h=>?_) fun _ h=>?_
 refine Za h fun _ m h=>Zb (Ze0 m)<|yA ?_
 refine yB h (fun _ h=>?_) fun _ h=>?_
 replace h:=Zo h f
 cases h;exact yD
 exact yC h [] [0]
 exact yC h [] [0]
 exact yC h [] [0]
 rintro ⟨⟩ ⟨sl,ob,n⟩ d _ h
 simp only[go_sem,seval,Zc] at d
 obtain ⟨⟨_,_,_⟩,_,hn⟩:=d
 subst hn
 have:=Zz (l_0.length)
 cases h;exact yD
end
section
theorem ZbG {l_0:(List Zd)} {f_1:Zd} {r:Int} (h:Z8 l_0 f_1=some r):Zl prog J0 64 [(false,[.sl 71 2 (A0 Zq l_0)]),(true,Zq f_1)] [(false,[(false,.int .i64 r)])]:=by
 refine fnk func64 rfl ?_
 unfold Z8 at h
 simp only[fnS,f64,Zm,go_sem,seval]
 refine Zh h (fun i _ st=>IV [(3,.bp 0 0),(7,yM (yO l_0)),(8,yL l_0.length),(9,yL i)] [yY 71 (Zq f_1)] st) [] [0] yF yD ?_ ?_
 rintro _ _ ⟨⟩ ⟨sl,ob,n⟩ _ a b e h f
 simp only[go_sem,seval,Zc] at b
 obtain ⟨⟨_,g,_,_⟩,_,hn⟩:=b
 subst hn
 have k:=WF.slotL e g (j:=0) rfl
 have:=ZB a
 have:=ZC a
 have:=Zj (ZA a) k
 simp only[*,go_sem,seval]
 refine Za h fun _ l h=>Zb (ZlS l)<|yA ?_
 refine yB h (fun _ h=>?_) fun _ h=>?_
 replace h:=Zo h f
 cases h;exact yD
 exact yC h [] [0]
 rintro ⟨⟩ ⟨sl,ob,n⟩ d _ h
 simp only[go_sem,seval,Zc] at d
 obtain ⟨⟨_,_,_,_⟩,_,hn⟩:=d
 subst hn
 have:=Zz (l_0.length)
 cases h;exact yD
theorem QF {s_0:ByteArray} {r:Bool} (h:Qx s_0=some r):Zl prog J0 167 [(false,[.str s_0])] [(false,[(false,.bool r)])]:=by
 refine fnk func167 rfl ?_
 unfold Qx at h
 simp only[fnS,f167,Zm,go_sem,seval]
 refine Za h fun v1 a h=>Zb (XS a)<|yA ?_
 refine yB h (fun _ h=>?_) fun _ h=>?_
 cases h;exact yD
 refine Za h fun _ b h=>Zb (ZcG b) ?_
 cases h;exact yD
theorem Qk {b_0:(List Zp)} {r:Bool} (h:Xq b_0=some r):Zl prog J0 209 [(false,[.sl 135 2 (A0 ZZ b_0)])] [(false,[(false,.bool r)])]:=by
 refine fnk func209 rfl ?_
 unfold Xq at h
 simp only[fnS,f209,Zm,go_sem,seval]
 refine yB h (fun _ h=>?_) fun _ h=>?_
 cases h;exact yD
 refine Zh h (fun i _ st=>IV [(0,yM (yT b_0)),(8,yM (yT b_0)),(9,yL b_0.length),(10,yL i)] [] st) [] [] yF yD ?_ ?_
 rintro _ _ ⟨⟩ ⟨sl,ob,n⟩ _ a b f h d
 simp only[go_sem,seval,Zc] at b
 obtain ⟨⟨g,_,_,_⟩,hn⟩:=b
 subst hn
 have k:=WF.slotL f g (j:=0) rfl
 have:=ZB a
 have:=ZC a
 have:=Zj (ZA a) k
 simp only[*,go_sem,seval]
 refine Za h fun _ l h=>Zb (ZcG l)<|yA ?_
 refine yB h (fun _ h=>?_) fun _ h=>?_
 refine Za h fun _ m h=>Zb (XS m)<|yA ?_
 iterate 2 refine yB h (fun _ h=>?_) fun _ h=>?_
 obtain ⟨_,_,_,_,h⟩:=Zci h
 simp only[*,go_sem,seval]
 refine yB h (fun _ h=>?_) fun _ h=>?_
 exact yC h [] []
 replace h:=Zo h d
 cases h;exact yD
 refine ⟨_,[],[],(A3 h).symm,yF,?_⟩
 iterate 2 (simp only[*,go_sem,seval];replace h:=Zo h d;cases h)
 simp only[*,go_sem,seval]
 rintro ⟨⟩ ⟨sl,ob,n⟩ e _ h
 simp only[go_sem,seval,Zc] at e
 obtain ⟨⟨_,_,_,_⟩,hn⟩:=e
 subst hn
 have:=Zz (b_0.length)
 cases h;exact yD
theorem Zjf {f_0:Zd} {r:Bool} (h:Zej f_0=some r):Zl prog J0 211 [(true,Zq f_0)] [(false,[(false,.bool r)])]:=by
 refine fnk func211 rfl ?_
 unfold Zej at h
 simp only[fnS,f211,Zm,go_sem,seval]
 refine Za h fun v1 e h=>Zb (ZfA e)<|yA ?_
 iterate 2 refine yB h (fun _ h=>?_) fun _ h=>?_
 cases h;exact yD
 refine Zh h (fun i _ st=>IV [(16,yM (yP f_0.args)),(17,yL f_0.args.length),(18,yL i)] [] st) [] [] yF yD ?_ ?_
 rintro _ _ ⟨⟩ ⟨sl,ob,n⟩ _ a b f h g
 simp only[go_sem,seval,Zc] at b
 obtain ⟨⟨k,_,_⟩,hn⟩:=b
 subst hn
 have l:=WF.slotL f k (j:=0) rfl
 have:=ZB a
 have:=ZC a
 have:=Zj (ZA a) l
 simp only[*,go_sem,seval]
 refine Za h fun _ m h=>Zb (XS m)<|yA ?_
 refine yB h (fun _ h=>?_) fun _ h=>?_
 exact yC h [] []
 replace h:=Zo h g
 cases h;exact yD
 rintro ⟨⟩ ⟨sl,ob,n⟩ d _ h
 simp only[go_sem,seval,Zc] at d
 obtain ⟨⟨_,_,_⟩,hn⟩:=d
 subst hn
 have:=Zz (f_0.args.length)
 iterate 2 (cases h;exact yD)
theorem Zcn {b_0:(List Zp)} {term_1:ByteArray} {r:(ByteArray × Bool)} (h:ZaC b_0 term_1=some r):Zl prog J0 236 [(false,[.sl 135 2 (A0 ZZ b_0)]),(false,[.str term_1])] [(false,[(false,.str r.1)]),(false,[(false,.bool r.2)])]:=by
 refine fnk func236 rfl ?_
 unfold ZaC at h
 have e:Z2 ⟨#[]⟩=true:=by decide
 simp only[fnS,f236,Zm,go_sem,seval,e]
 refine Za h fun v1 f h=>Zb (XS f)<|yA ?_
 refine yB h (fun _ h=>?_) fun _ h=>?_
 cases h;exact yD
 refine Za h fun _ g h=>Zb (ZcG g)<|yA ?_
 refine yB h (fun _ h=>?_) fun _ h=>?_
 refine Zh h (fun i _ st=>IV [(1,yM (.str term_1)),(14,yM (yT b_0)),(15,yL b_0.length),(16,yL i)] [] st) [] [] yF yD ?_ ?_
 rintro _ _ ⟨⟩ ⟨sl,ob,n⟩ _ a b k h l
 simp only[go_sem,seval,Zc] at b
 obtain ⟨⟨_,m,_,_⟩,hn⟩:=b
 subst hn
 have o:=WF.slotL k m (j:=0) rfl
 have:=ZB a
 have:=ZC a
 have:=Zj (ZA a) o
 simp only[*,go_sem,seval]
 refine yB h (fun _ h=>?_) fun _ h=>?_
 replace h:=Zo h l
 cases h;exact yD
 exact yC h [] []
 rintro ⟨⟩ ⟨sl,ob,n⟩ d _ h
 simp only[go_sem,seval,Zc] at d
 obtain ⟨⟨_,_,_,_⟩,hn⟩:=d
 subst hn
 have:=Zz (b_0.length)
 iterate 2 (cases h;exact yD)
theorem ZfY {l_0:(List Zd)} {r:(List Zd)} (h:ZaG l_0=some r):Zl prog J0 139 [(false,[.sl 71 2 (A0 Zq l_0)])] [(false,[(false,.sl 71 2 (A0 Zq r))])]:=by
 refine fnk func139 rfl ?_
 unfold ZaG at h
 simp only[fnS,f139,Zm,go_sem,seval]
 refine Zh h (fun i a st=>IV [(3,.p false [.row 0]),(6,yM (yO l_0)),(7,yL l_0.length),(8,yL i)] [.row 71 2 (A0 Zq a) 2] st) [(false,3,0)] [80] yF yD ?_ ?_
 rintro _ _ a ⟨sl,ob,n⟩ _ b d f h _
 simp only[go_sem,seval,Zc] at d
 obtain ⟨⟨_,g,_,_⟩,_,hn⟩:=d
 subst hn
 have k:=WF.slotL f g (j:=0) rfl
 have:=ZB b
 have:=ZC b
 have:=Zj (ZA b) k
 simp only[*,go_sem,seval]
 refine Za h fun _ l h=>Zb (YC l) ?_
 obtain ⟨m,h⟩:=Zs h
 try simp only[Nat.reduceLeDiff] at m
 simp only[*,go_sem,seval]
 exact yC h [] [145]
 rintro a ⟨sl,ob,n⟩ e _ h
 simp only[go_sem,seval,Zc] at e
 obtain ⟨⟨_,_,_,_⟩,_,hn⟩:=e
 subst hn
 have:=Zz (l_0.length)
 cases h;exact yD
theorem ZhS {a_0:ByteArray} {b_1:ByteArray} {r:Int} (h:Qj a_0 b_1=some r):Zl prog J0 251 [(false,[.str a_0]),(false,[.str b_1])] [(false,[(false,.int .i64 r)])]:=by
 refine fnk func251 rfl ?_
 unfold Qj at h
 simp only[fnS,f251,Zm,go_sem,seval]
 refine Za h fun v1 a h=>Zb (ZbF a)<|yA ?_
 refine Za h fun _ b h=>Zb (ZbF b)<|yA ?_
 iterate 2 refine yB h (fun _ h=>?_) fun _ h=>?_
 refine Za h fun _ c h=>Zb (Zbp c) ?_
 iterate 2 (cases h;exact yD)
 refine yB h (fun _ h=>?_) fun _ h=>?_
 cases h;exact yD
 refine Za h fun _ d h=>Zb (Zhw d) ?_
 cases h;exact yD
theorem Zc1 {l_0:(List ByteArray)} {r:(List ByteArray)} (h:Qn l_0=some r):Zl prog J0 205 [(false,[.sl 9 1 (A0 Zw l_0)])] [(false,[(false,.sl 9 1 (A0 Zw r))])]:=by
 refine fnk func205 rfl ?_
 unfold Qn at h
 simp only[fnS,f205,Zm,go_sem,seval]
 refine Zh h (fun i a st=>IV [(3,.p false [.row 0]),(6,yM (yP l_0)),(7,yL l_0.length),(8,yL i)] [.row 9 1 (A0 Zw a) 2] st) [(false,3,0)] [80] yF yD ?_ ?_
 rintro _ _ a ⟨sl,ob,n⟩ _ b d f h _
 simp only[go_sem,seval,Zc] at d
 obtain ⟨⟨_,g,_,_⟩,_,hn⟩:=d
 subst hn
 have k:=WF.slotL f g (j:=0) rfl
 have:=ZB b
 have:=ZC b
 have:=Zj (ZA b) k
 simp only[*,go_sem,seval]
 refine Za h fun _ l h=>Zb (ZcG l)<|yA ?_
 refine yB h (fun _ h=>?_) fun _ h=>?_
 obtain ⟨m,h⟩:=Zs h
 try simp only[Nat.reduceLeDiff] at m
 simp only[*,go_sem,seval]
 exact yC h [] [145]
 exact yC h [] [0]
 rintro a ⟨sl,ob,n⟩ e _ h
 simp only[go_sem,seval,Zc] at e
 obtain ⟨⟨_,_,_,_⟩,_,hn⟩:=e
 subst hn
 have:=Zz (l_0.length)
 cases h;exact yD
theorem ZlX {a:(List Zf)} {a_1:ByteArray} {r:(List (ByteArray × Bool))} (h:ZcF a a_1=some r):Zj3 prog J0 276 [(false,[.sl 104 4 (A0 ZG a)]),(false,[.str a_1])] (.map .str .bool (A0 eSB r)):=by
 refine fnb func276 rfl ?_
 unfold ZcF at h
 simp only[fnB,f276,Zm,go_sem,seval]
 refine XH h (fun s st=>match s with | (o,q)=>IV [(0,yM (yR a)),(5,.p false [.row 0]),(6,.p false [.row 1])] [.map .str .bool (A0 eSB o),.row 9 1 (A0 Zw q) 2] st) [] [16,64] yF yD ?_
 rintro ⟨o,q⟩ ⟨sl,ob,n⟩ _ t _ h z
 simp only[go_sem,seval,Zc] at t
 obtain ⟨⟨_,_,_⟩,_,_,hn⟩:=t
 subst hn
 simp only[*,go_sem,seval]
 refine yB h (fun _ h=>?_) fun _ h=>?_
 obtain ⟨_,h⟩:=Zs h
 obtain ⟨u,A,h⟩:=ZJ h
 try simp only[seval] at A
 obtain ⟨_,h⟩:=Zs h
 simp only[*,go_sem,seval]
 refine Zh h (fun i s st=>match s with | (d,e)=>IV [(0,yM (yR a)),(5,.p false [.row 0]),(6,.p false [.row 1]),(7,yM (.str u)),(23,yM (yR a)),(24,yL a.length),(25,yL i)] [.map .str .bool (A0 eSB d),.row 9 1 (A0 Zw e) 2] st) [] [0,130] yF yD ?_ ?_
 rintro B _ ⟨d,e⟩ ⟨sl,ob,n⟩ _ f v C h _
 simp only[go_sem,seval,Zc] at v
 obtain ⟨⟨D,_,_,_,_,_,_⟩,_,_,hn⟩:=v
 subst hn
 have E:=WF.slotL C D (j:=0) rfl
 have:=ZB f
 have:=ZC f
 have:=Zj (ZA f) E
 simp only[*,go_sem,seval]
 refine Za h fun _ F h=>Zb (ZgC F)<|yA ?_
 refine Za h fun _ G h=>Zb (QT G)<|yA ?_
 refine yB h (fun _ h=>?_) fun _ h=>?_
 refine Za h fun g H h=>Zb (ZnK H)<|yA ?_
 refine Zh h (fun i s st=>match s with | (k,l)=>IV [(0,yM (yR a)),(5,.p false [.row 0]),(6,.p false [.row 1]),(7,yM (.str u)),(23,yM (yR a)),(24,yL a.length),(25,yL B),(35,.p false [.row 2]),(36,yL g.length),(37,yL i)] [.map .str .bool (A0 eSB k),.row 9 1 (A0 Zw l) 2,.row 9 1 (A0 Zw g) 2] st) [] [0,1,178] yF yD ?_ ?_
 rintro _ _ ⟨k,l⟩ ⟨sl,ob,n⟩ _ m w I h _
 simp only[go_sem,seval,Zc] at w
 obtain ⟨⟨_,_,_,_,_,_,_,_,_,_⟩,_,_,J,hn⟩:=w
 subst hn
 have K:=WF.rowL I J
 have:=ZB m
 have:=ZC m
 have:=Zj (ZA m) K
 simp only[*,go_sem,seval]
 refine yB h (fun _ h=>?_) fun _ h=>?_
 exact yC h [] [0,1,2]
 obtain ⟨L,h⟩:=Zs h
 try simp only[Nat.reduceLeDiff] at L
 simp only[*,go_sem,seval]
 exact yC h [] [0,227,2]
 rintro ⟨k,l⟩ ⟨sl,ob,n⟩ x _ h
 simp only[go_sem,seval,Zc] at x
 obtain ⟨⟨_,_,_,_,_,_,_,_,_,_⟩,_,_,_,hn⟩:=x
 subst hn
 have:=Zz (g.length)
 simp only[*,go_sem,seval]
 exact yC h [] [0,1]
 exact yC h [] [0,1]
 rintro ⟨d,e⟩ ⟨sl,ob,n⟩ y _ h
 simp only[go_sem,seval,Zc] at y
 obtain ⟨⟨_,_,_,_,_,_,_⟩,_,_,hn⟩:=y
 subst hn
 have:=Zz (a.length)
 simp only[*,go_sem,seval]
 exact yC h [] [0,1]
 replace h:=Zo h z
 cases h;exact yD
theorem Zkz {l_0:(List Zg)} {r_1:Zg} {r:Bool} (h:ZaA l_0 r_1=some r):Zl prog J0 176 [(false,[.sl 144 3 (A0 ZL l_0)]),(true,ZL r_1)] [(false,[(false,.bool r)])]:=by
 refine fnk func176 rfl ?_
 unfold ZaA at h
 simp only[fnS,f176,Zm,go_sem,seval]
 refine Zh h (fun i _ st=>IV [(3,.bp 0 0),(7,yM (yU l_0)),(8,yL l_0.length),(9,yL i)] [yY 144 (ZL r_1)] st) [] [0] yF yD ?_ ?_
 rintro _ _ ⟨⟩ ⟨sl,ob,n⟩ _ a b e h f
 simp only[go_sem,seval,Zc] at b
 obtain ⟨⟨_,g,_,_⟩,_,hn⟩:=b
 subst hn
 have k:=WF.slotL e g (j:=0) rfl
 have:=ZB a
 have:=ZC a
 have:=Zj (ZA a) k
 simp only[*,go_sem,seval]
 refine Za h fun _ l h=>Zb (Zjo l)<|yA ?_
 refine yB h (fun _ h=>?_) fun _ h=>?_
 replace h:=Zo h f
 cases h;exact yD
 exact yC h [] [0]
 rintro ⟨⟩ ⟨sl,ob,n⟩ d _ h
 simp only[go_sem,seval,Zc] at d
 obtain ⟨⟨_,_,_,_⟩,_,hn⟩:=d
 subst hn
 have:=Zz (l_0.length)
 cases h;exact yD
theorem ZfW {s_0:ByteArray} {r:Bool} (h:ZcY s_0=some r):Zl prog J0 148 [(false,[.str s_0])] [(false,[(false,.bool r)])]:=by
 refine fnk func148 rfl ?_
 unfold ZcY at h
 simp only[fnS,f148,Zm,go_sem,seval]
 refine Za h fun v1 a h=>Zb (XR a)<|yA ?_
 refine yB h (fun _ h=>?_) fun _ h=>?_
 obtain ⟨_,_,b,h⟩:=ZpV h
 try simp only[seval] at b
 simp only[*,go_sem,seval]
 refine Za h fun _ c h=>Zb (Zat c) ?_
 iterate 2 (cases h;exact yD)
theorem Qq {s_0:ByteArray} {r:Bool} (h:Zab s_0=some r):Zl prog J0 159 [(false,[.str s_0])] [(false,[(false,.bool r)])]:=by
 refine fnk func159 rfl ?_
 unfold Zab at h
 simp only[fnS,f159,Zm,go_sem,seval]
 refine yB h (fun _ h=>?_) fun _ h=>?_
 obtain ⟨_,_,a,h⟩:=ZpV h
 try simp only[seval] at a
 simp only[*,go_sem,seval]
 refine yB h (fun _ h=>?_) fun _ h=>?_
 obtain ⟨_,h⟩:=Zs h
 simp only[*,go_sem,seval]
 refine Za h fun _ b h=>Zb (XR b) ?_
 iterate 3 (cases h;exact yD)
theorem Zdr {a_0:ByteArray} {b_1:ByteArray} {r:Int} (h:Y0 a_0 b_1=some r):Zl prog J0 120 [(false,[.str a_0]),(false,[.str b_1])] [(false,[(false,.int .i64 r)])]:=by
 refine fnk func120 rfl ?_
 unfold Y0 at h
 simp only[fnS,f120,Zm,go_sem,seval]
 refine Za h fun v1 a h=>Zb (Zbv a)<|yA ?_
 refine Za h fun _ b h=>Zb (Zbv b)<|yA ?_
 iterate 3 refine yB h (fun _ h=>?_) fun _ h=>?_
 cases h;exact yD
 refine yB h (fun _ h=>?_) fun _ h=>?_
 iterate 3 (cases h;exact yD)
 refine yB h (fun _ h=>?_) fun _ h=>?_
 cases h;exact yD
 refine Za h fun _ c h=>Zb (Zkf c) ?_
 cases h;exact yD
theorem Zjm {a:(List Zf)} {String_1:ByteArray} {b:ByteArray} {r:Bool} (h:ZaO a String_1 b=some r):Zl prog J0 186 [(false,[.sl 104 4 (A0 ZG a)]),(false,[.str String_1]),(false,[.str b])] [(false,[(false,.bool r)])]:=by
 refine fnk func186 rfl ?_
 unfold ZaO at h
 simp only[fnS,f186,Zm,go_sem,seval]
 refine XH h (fun s st=>match s with | (m,e)=>IV [(0,yM (yR a)),(2,yM (.str b)),(7,.p false [.row 0]),(8,yM (.int .i64 e))] [.row 9 1 (A0 Zw m) 2] st) [] [32] yF yD ?_
 rintro ⟨m,e⟩ ⟨sl,ob,n⟩ _ o _ h q
 simp only[go_sem,seval,Zc] at o
 obtain ⟨⟨_,_,_,_⟩,_,hn⟩:=o
 subst hn
 simp only[*,go_sem,seval]
 refine yB h (fun _ h=>?_) fun _ h=>?_
 refine Zh h (fun i f st=>IV [(0,yM (yR a)),(2,yM (.str b)),(7,.p false [.row 0]),(8,yM (.int .i64 e)),(9,yL i)] [.row 9 1 (A0 Zw f) 2] st) [] [0] yF yD ?_ ?_
 rintro y _ f ⟨sl,ob,n⟩ _ g t z h A
 simp only[go_sem,seval,Zc] at t
 obtain ⟨⟨B,_,_,_,_⟩,_,hn⟩:=t
 subst hn
 have C:=WF.slotL z B (j:=0) rfl
 have:=ZB g
 have:=ZC g
 have:=Zj (ZA g) C
 simp only[*,go_sem,seval]
 refine Za h fun _ D h=>Zb (ZgL D) ?_
 obtain ⟨_,h⟩:=Zs h
 obtain ⟨_,_,h⟩:=ZJ h
 simp only[*,go_sem,seval]
 refine Za h fun _ E h=>Zb (Ym E)<|yA ?_
 refine yB h (fun _ h=>?_) fun _ h=>?_
 refine Za h fun u F h=>Zb (ZnN F)<|yA ?_
 refine Za h fun _ G h=>Zb (Ym G)<|yA ?_
 refine yB h (fun _ h=>?_) fun _ h=>?_
 replace h:=Zo h A
 replace h:=Zo h q
 cases h;exact yD
 refine Zh h (fun i k st=>IV [(0,yM (yR a)),(2,yM (.str b)),(7,.p false [.row 0]),(8,yM (.int .i64 e)),(9,yL y),(10,.p false [.row 1]),(11,yL i)] [.row 9 1 (A0 Zw k) 2,.row 9 1 (A0 Zw u) 2] st) [] [0,305] yF yD ?_ ?_
 rintro _ _ k ⟨sl,ob,n⟩ _ l v H h _
 simp only[go_sem,seval,Zc] at v
 obtain ⟨⟨_,_,_,_,_,_,_⟩,_,I,hn⟩:=v
 subst hn
 have J:=WF.rowL H I
 have:=ZB l
 have:=ZC l
 have:=Zj (ZA l) J
 simp only[*,go_sem,seval]
 refine Za h fun _ K h=>Zb (Ym K)<|yA ?_
 refine yB h (fun _ h=>?_) fun _ h=>?_
 exact yC h [] [0,1]
 obtain ⟨L,h⟩:=Zs h
 try simp only[Nat.reduceLeDiff] at L
 simp only[*,go_sem,seval]
 exact yC h [] [274,1]
 rintro k ⟨sl,ob,n⟩ w _ h
 simp only[go_sem,seval,Zc] at w
 obtain ⟨⟨_,_,_,_,_,_,_⟩,_,_,hn⟩:=w
 subst hn
 have:=Zz (u.length)
 simp only[*,go_sem,seval]
 exact yC h [] [0]
 exact yC h [] [0]
 rintro f ⟨sl,ob,n⟩ x _ h
 simp only[go_sem,seval,Zc] at x
 obtain ⟨⟨_,_,_,_,_⟩,_,hn⟩:=x
 subst hn
 have:=Zz (a.length)
 simp only[*,go_sem,seval]
 exact yC h [] [0]
 replace h:=Zo h q
 cases h;exact yD
theorem ZdO {l_0:(List Zd)} {r:(List Zd)} (h:Zak l_0=some r):Zl prog J0 113 [(false,[.sl 71 2 (A0 Zq l_0)])] [(false,[(false,.sl 71 2 (A0 Zq r))])]:=by
 refine fnk func113 rfl ?_
 unfold Zak at h
 simp only[fnS,f113,Zm,go_sem,seval]
 refine Zh h (fun i a st=>IV [(0,yM (yO l_0)),(3,.p false [.row 0]),(4,yL i)] [.row 71 2 (A0 Zq a) 2] st) [] [16] yF yD ?_ ?_
 rintro _ _ a ⟨sl,ob,n⟩ _ b d f h _
 simp only[go_sem,seval,Zc] at d
 obtain ⟨⟨g,_,_⟩,_,hn⟩:=d
 subst hn
 have k:=WF.slotL f g (j:=0) rfl
 have:=ZB b
 have:=ZC b
 have:=Zj (ZA b) k
 simp only[*,go_sem,seval]
 refine Za h fun _ l h=>Zb (Xr l) ?_
 obtain ⟨m,h⟩:=Zs h
 try simp only[Nat.reduceLeDiff] at m
 simp only[*,go_sem,seval]
 exact yC h [] [177]
 rintro a ⟨sl,ob,n⟩ e _ h
 simp only[go_sem,seval,Zc] at e
 obtain ⟨⟨_,_,_⟩,_,hn⟩:=e
 subst hn
 have:=Zz (l_0.length)
 cases h;exact yD
theorem ZgK {s_0:ByteArray} {r:Bool} (h:ZcE s_0=some r):Zl prog J0 163 [(false,[.str s_0])] [(false,[(false,.bool r)])]:=by
 refine fnk func163 rfl ?_
 unfold ZcE at h
 simp only[fnS,f163,Zm,go_sem,seval]
 refine Za h fun v1 a h=>Zb (Zbv a) ?_
 cases h;exact yD
end
section
theorem ZFm {l_0:(List Int)} {n_1:Int} {r:Bool} (h:ZD4 l_0 n_1=some r):Zl prog J0 302 [(false,[.sl 3 1 (A0 Z5 l_0)]),(false,[.int .i64 n_1])] [(false,[(false,.bool r)])]:=by
 refine fnk func302 rfl ?_
 unfold ZD4 at h
 simp only[fnS,f302,Zm,go_sem,seval]
 refine Zh h (fun i _ st=>IV [(0,yM (yQ l_0)),(1,yM (.int .i64 n_1)),(5,yL i)] [] st) [] [] yF yD ?_ ?_
 rintro _ _ ⟨⟩ ⟨sl,ob,n⟩ _ a b f h d
 simp only[go_sem,seval,Zc] at b
 obtain ⟨⟨g,_,_⟩,hn⟩:=b
 subst hn
 have k:=WF.slotL f g (j:=0) rfl
 have:=ZB a
 have:=ZC a
 have:=Zj (ZA a) k
 simp only[*,go_sem,seval]
 refine Za h fun _ l h=>Zb (Zat l)<|yA ?_
 iterate 2 refine yB h (fun _ h=>?_) fun _ h=>?_
 obtain ⟨_,_,_,_,h⟩:=Zci h
 simp only[*,go_sem,seval]
 refine yB h (fun _ h=>?_) fun _ h=>?_
 replace h:=Zo h d
 cases h;exact yD
 exact yC h [] []
 exact yC h [] []
 replace h:=Zo h d
 cases h;exact yD
 rintro ⟨⟩ ⟨sl,ob,n⟩ e _ h
 simp only[go_sem,seval,Zc] at e
 obtain ⟨⟨_,_,_⟩,hn⟩:=e
 subst hn
 have:=Zz (l_0.length)
 cases h;exact yD
theorem ZGl {a:Zu} {String_1:Int} {r:(List Bool)} (h:ZEk a String_1=some r):Zl prog J0 290 [(true,Qw a),(false,[.int .i64 String_1])] [(false,[(false,.sl 4 1 (A0 ZgO r))])]:=by
 refine fnk func290 rfl ?_
 unfold ZEk at h
 simp only[fnS,f290,Zm,go_sem,seval]
 obtain ⟨_,h⟩:=Zs h
 simp only[*,go_sem,seval]
 refine XH h (fun s st=>match s with | (l,m,d)=>IV [(2,.bp 0 0),(5,.p false [.row 1]),(6,.p false [.row 2]),(7,yM (.int .i64 d))] [.box 91 [.c (.int .i64 a.nodes),.c (yU a.reasons)],.row 4 1 (A0 ZgO l) 2,.row 3 1 (A0 Z5 m) 2] st) [] [0,64,112] yF yD ?_
 rintro ⟨l,m,d⟩ ⟨sl,ob,n⟩ _ o _ h z
 simp only[go_sem,seval,Zc] at o
 obtain ⟨⟨_,_,_,_⟩,_,_,_,hn⟩:=o
 subst hn
 simp only[*,go_sem,seval]
 refine yB h (fun _ h=>?_) fun _ h=>?_
 refine Zh h (fun i s st=>match s with | (e,f)=>IV [(2,.bp 0 0),(5,.p false [.row 1]),(6,.p false [.row 2]),(7,yM (.int .i64 d)),(8,yL i)] [.box 91 [.c (.int .i64 a.nodes),.c (yU a.reasons)],.row 4 1 (A0 ZgO e) 2,.row 3 1 (A0 Z5 f) 2] st) [] [0,1,2] yF yD ?_ ?_
 rintro A q ⟨e,f⟩ ⟨sl,ob,n⟩ _ g t B h _
 simp only[go_sem,seval,Zc] at t
 obtain ⟨⟨_,_,_,_,_⟩,C,_,_,hn⟩:=t
 subst hn
 have D:=WF.boxL B C (j:=1) rfl
 have:=ZB g
 have:=ZC g
 have:=Zj (ZA g) D
 obtain ⟨_,h⟩:=Zs h
 obtain ⟨_,_,h⟩:=ZJ h
 simp only[*,go_sem,seval]
 refine yB h (fun _ h=>?_) fun _ h=>?_
 exact yC h [] [0,1,2]
 refine Za h fun u E h=>Zb (ZHf E) ?_
 obtain ⟨_,h⟩:=Zs h
 simp only[*,go_sem,seval]
 refine XH h (fun s st=>match s with | (v,w,k)=>IV [(2,.bp 0 0),(5,.p false [.row 1]),(6,.p false [.row 2]),(7,yM (.int .i64 d)),(8,yL A),(9,.p false [.row 3]),(10,yM (.int .i64 k))] [.box 91 [.c (.int .i64 a.nodes),.c (yU a.reasons)],.row 4 1 (A0 ZgO v) 2,.row 3 1 (A0 Z5 w) 2,.row 3 1 (A0 Z5 (u++q.outs)) 2] st) [] [0,1,2,467] yF yD ?_
 rintro ⟨v,w,k⟩ ⟨sl,ob,n⟩ _ x _ h F
 simp only[go_sem,seval,Zc] at x
 obtain ⟨⟨_,_,_,_,_,_,_⟩,_,_,_,_,hn⟩:=x
 subst hn
 simp only[*,go_sem,seval]
 refine yB h (fun _ h=>?_) fun _ h=>?_
 obtain ⟨_,h⟩:=Zs h
 obtain ⟨G,H,h⟩:=ZJ h
 have J:(A0 Z5 u++A0 Z5 q.outs)[(Int.toNat k)]?=some (Z5 G):=by rw [←List.map_append,AD,H];rfl
 obtain ⟨_,h⟩:=Zs h
 obtain ⟨_,_,h⟩:=ZJ h
 simp only[*,go_sem,seval]
 refine yB h (fun _ h=>?_) fun _ h=>?_
 exact yC h [] [0,1,2,3]
 obtain ⟨I,h⟩:=Zs h
 try simp only[Nat.reduceLeDiff] at I
 simp only[*,go_sem,seval]
 exact yC h [] [0,1,404,3]
 replace h:=Zo h F
 exact yC h [] [0,1,2]
 rintro ⟨e,f⟩ ⟨sl,ob,n⟩ y _ h
 simp only[go_sem,seval,Zc] at y
 obtain ⟨⟨_,_,_,_,_⟩,_,_,_,hn⟩:=y
 subst hn
 have:=Zz (a.reasons.length)
 simp only[*,go_sem,seval]
 exact yC h [] [0,1,2]
 replace h:=Zo h z
 cases h;exact yD
theorem ZE2 {b:Zu} {e:(List Int)} {f:Int} {d:(List Int)} {g:Int} {r:(List Int)} (h:ZD5 b e f d g=some r):Zl prog J0 267 [(true,Qw b),(false,[.sl 3 1 (A0 Z5 e)]),(false,[.int .i64 f]),(false,[.sl 3 1 (A0 Z5 d)]),(false,[.int .i64 g])] [(false,[(false,.sl 3 1 (A0 Z5 r))])]:=by
 refine fnk func267 rfl ?_
 unfold ZD5 at h
 simp only[fnS,f267,Zm,go_sem,seval]
 refine XH h (fun s st=>match s with | (l,k)=>IV [(1,yM (yQ e)),(2,yM (.int .i64 f)),(3,yM (yQ d)),(4,yM (.int .i64 g)),(5,.bp 0 0),(11,.p false [.row 1]),(12,yM (.int .i64 k))] [.box 91 [.c (.int .i64 b.nodes),.c (yU b.reasons)],.row 3 1 (A0 Z5 l) 2] st) [] [0,32] yF yD ?_
 rintro ⟨l,k⟩ ⟨sl,ob,n⟩ _ o _ h v
 simp only[go_sem,seval,Zc] at o
 obtain ⟨⟨_,_,_,_,_,_,_⟩,_,_,hn⟩:=o
 subst hn
 simp only[*,go_sem,seval]
 refine yB h (fun _ h=>?_) fun _ h=>?_
 obtain ⟨_,_,_,_,h⟩:=Zci h
 simp only[*,go_sem,seval]
 refine yB h (fun _ h=>?_) fun _ h=>?_
 exact yC h [] [0,1]
 obtain ⟨q,_,_,_,h⟩:=Zci h
 simp only[*,go_sem,seval]
 refine yB h (fun _ h=>?_) fun _ h=>?_
 exact yC h [] [0,1]
 refine Zh h (fun i _ st=>IV [(1,yM (yQ e)),(2,yM (.int .i64 f)),(3,yM (yQ d)),(4,yM (.int .i64 g)),(5,.bp 0 0),(11,.p false [.row 1]),(12,yM (.int .i64 k)),(13,yL i),(29,yM (yQ d)),(30,yM (.int .i64 k)),(32,yM (.int .i64 q)),(33,yM (.bool (decide (0≤q))))] [.box 91 [.c (.int .i64 b.nodes),.c (yU b.reasons)],.row 3 1 (A0 Z5 l) 2] st) [] [0,1] yF yD ?_ ?_
 rintro _ _ ⟨⟩ ⟨sl,ob,n⟩ _ m t w h x
 simp only[go_sem,seval,Zc] at t
 obtain ⟨⟨_,_,_,_,_,_,_,_,_,_,_,_⟩,y,_,hn⟩:=t
 subst hn
 have z:=WF.boxL w y (j:=1) rfl
 have:=ZB m
 have:=ZC m
 have:=Zj (ZA m) z
 simp only[*,go_sem,seval]
 refine yB h (fun _ h=>?_) fun _ h=>?_
 refine Za h fun _ A h=>Zb (ZEO A)<|yA ?_
 refine yB h (fun _ h=>?_) fun _ h=>?_
 refine Za h fun _ B h=>Zb (ZFh B)<|yA ?_
 refine yB h (fun _ h=>?_) fun _ h=>?_
 obtain ⟨C,h⟩:=Zs h
 try simp only[Nat.reduceLeDiff] at C
 replace h:=Zo h x
 simp only[*,go_sem,seval]
 exact yC h [] [0,514]
 exact yC h [] [0,1]
 exact yC h [] [0,1]
 exact yC h [] [0,1]
 rintro ⟨⟩ ⟨sl,ob,n⟩ u _ h
 simp only[go_sem,seval,Zc] at u
 obtain ⟨⟨_,_,_,_,_,_,_,_,_,_,_,_⟩,_,_,hn⟩:=u
 subst hn
 have:=Zz (b.reasons.length)
 simp only[*,go_sem,seval]
 exact yC h [] [0,1]
 replace h:=Zo h v
 cases h;exact yD
theorem Zkn {b_0:Zu} {r:Bool} (h:ZbW b_0=some r):Zl prog J0 124 [(true,Qw b_0)] [(false,[(false,.bool r)])]:=by
 refine fnk func124 rfl ?_
 unfold ZbW at h
 simp only[fnS,f124,Zm,go_sem,seval]
 iterate 3 ((refine Ze h (fun _ h=>?_) fun _ h=>?_<;>try simp only[*,go_sem,seval]);cases h;simp only[*,go_sem,seval])
 refine Zh h (fun i _ st=>IV [(1,.bp 0 0),(20,yM (yU b_0.reasons)),(21,yL b_0.reasons.length),(22,yL i)] [.box 91 [.c (.int .i64 b_0.nodes),.c (yU b_0.reasons)]] st) [] [0] yF yD ?_ ?_
 rintro _ _ ⟨⟩ ⟨sl,ob,n⟩ _ a d f h b
 simp only[go_sem,seval,Zc] at d
 obtain ⟨⟨_,g,_,_⟩,_,hn⟩:=d
 subst hn
 have k:=WF.slotL f g (j:=0) rfl
 have:=ZB a
 have:=ZC a
 have:=Zj (ZA a) k
 simp only[*,go_sem,seval]
 refine yB h (fun _ h=>?_) fun _ h=>?_
 replace h:=Zo h b
 cases h;exact yD
 refine yB h (fun _ h=>?_) fun _ h=>?_
 replace h:=Zo h b
 cases h;exact yD
 refine Za h fun _ l h=>Zb (Zch l)<|yA ?_
 refine yB h (fun _ h=>?_) fun _ h=>?_
 refine Za h fun _ m h=>Zb (Zch m)<|yA ?_
 refine yB h (fun _ h=>?_) fun _ h=>?_
 refine ⟨_,[],[0],(A3 h).symm,yF,?_⟩
 iterate 2 (simp only[*,go_sem,seval];replace h:=Zo h b;cases h)
 simp only[*,go_sem,seval]
 rintro ⟨⟩ ⟨sl,ob,n⟩ e _ h
 simp only[go_sem,seval,Zc] at e
 obtain ⟨⟨_,_,_,_⟩,_,hn⟩:=e
 subst hn
 have:=Zz (b_0.reasons.length)
 cases h;exact yD
theorem ZGZ {b_0:Zu} {rounds_1:(List Int)} {x_2:Int} {r:Int} (h:ZDN b_0 rounds_1 x_2=some r):Zl prog J0 240 [(true,Qw b_0),(false,[.sl 3 1 (A0 Z5 rounds_1)]),(false,[.int .i64 x_2])] [(false,[(false,.int .i64 r)])]:=by
 refine fnk func240 rfl ?_
 unfold ZDN at h
 simp only[fnS,f240,Zm,go_sem,seval]
 iterate 2 ((refine Ze h (fun _ h=>?_) fun _ h=>?_<;>try simp only[*,go_sem,seval]);cases h;simp only[*,go_sem,seval])
 obtain ⟨_,_,_,_,h⟩:=Zci h
 simp only[*,go_sem,seval]
 refine yB h (fun _ h=>?_) fun _ h=>?_
 cases h;exact yD
 refine Zh h (fun i _ st=>IV [(1,yM (yQ rounds_1)),(2,yM (.int .i64 x_2)),(25,yM (yU b_0.reasons)),(26,yL b_0.reasons.length),(27,yL i)] [] st) [] [] yF yD ?_ ?_
 rintro _ _ ⟨⟩ ⟨sl,ob,n⟩ _ a b e h f
 simp only[go_sem,seval,Zc] at b
 obtain ⟨⟨_,_,g,_,_⟩,hn⟩:=b
 subst hn
 have k:=WF.slotL e g (j:=0) rfl
 have:=ZB a
 have:=ZC a
 have:=Zj (ZA a) k
 simp only[*,go_sem,seval]
 refine yB h (fun _ h=>?_) fun _ h=>?_
 refine Za h fun _ l h=>Zb (Zkh l)<|yA ?_
 refine yB h (fun _ h=>?_) fun _ h=>?_
 replace h:=Zo h f
 cases h;exact yD
 exact yC h [] []
 exact yC h [] []
 rintro ⟨⟩ ⟨sl,ob,n⟩ d _ h
 simp only[go_sem,seval,Zc] at d
 obtain ⟨⟨_,_,_,_,_⟩,hn⟩:=d
 subst hn
 have:=Zz (b_0.reasons.length)
 cases h;exact yD
end
section
open Go.RowKit
structure Enc {α:Type} (c:ZaE α) (f:α→List CT):Prop where
 to:∀{w:World} {cs:List Value} {x:α} {L:List Nat},c.rep w cs x L→RCs w (f x) cs L
 of:∀{w:World} {cs:List Value} {x:α} {L:List Nat},RCs w (f x) cs L→c.rep w cs x L
section
variable {α:Type} {c:ZaE α} {f:α→List CT} {w:World}
theorem Enc.reps (h:Enc c f):∀{ds:List α} {xs:List Value} {L:List Nat},c.reps w xs ds L→REs w c.size (ds.map f) xs L
 | [],_,_,h1=>h1
 | _::_,_,_,⟨c1,c2,L1,L2,h1,h2,h3,h4⟩=>⟨c1,c2,L1,L2,h1,h2,⟨h.to h3,c.len h3⟩,h.reps h4⟩
theorem Enc.reps_of (h:Enc c f):∀{ds:List α} {xs:List Value} {L:List Nat},REs w c.size (ds.map f) xs L→c.reps w xs ds L
 | [],_,_,h1=>h1
 | _::_,_,_,⟨c1,c2,L1,L2,h1,h2,h3,h4⟩=>⟨c1,c2,L1,L2,h1,h2,h.of h3.1,h.reps_of h4⟩
theorem Enc.sl (h:Enc c f) (e:Nat) {v:Value} {ds:List α} {L:List Nat}:(ZfI c).rep w [v] ds L↔RC w (.sl e c.size (ds.map f)) v L:=by
 constructor
 ·rintro ⟨A,cap,hv,h1,h2,xs,L0,L1,hL,h3,h4⟩
  obtain rfl:v=_:=by simpa using hv
  exact ⟨A,cap,xs,L0,L1,yG,by simpa using h1,h2,hL,c.pos,by simpa using h3,h.reps h4⟩
 ·rintro ⟨A,cap,xs,L0,L1,hv,h1,h2,hL,h0,h3,h4⟩
  exact ⟨A,cap,by simpa using hv,by simpa using h1,h2,xs,L0,L1,hL,by simpa using h3,h.reps_of h4⟩
theorem RCs.solo {x:CT} {v:Value} {L:List Nat} (h:RC w x v L):RCs w [x] [v] L:=⟨v,[],L,[],rfl,by simp,h,rfl,rfl⟩
theorem RCs.more {x:CT} {v:Value} {L M:List Nat} {r:List CT} {cs:List Value} (h:RC w x v L) (k:RCs w r cs M):RCs w (x::r) (v::cs) (L++M):=⟨v,cs,L,M,rfl,rfl,h,k⟩
theorem Enc.slice (h:Enc c f) (e:Nat):Enc (ZfI c) (fun l=>[.sl e c.size (l.map f)]) where
 to:=fun {w cs x L} hr=>by
  obtain ⟨A,cap,rfl,h1⟩:=id hr
  exact RCs.solo ((h.sl e).1 hr)
 of:=fun {w cs x L} hr=>by
  obtain ⟨v,cs',L1,L2,rfl,rfl,h1,rfl,rfl⟩:=hr
  rw [A5]
  exact (h.sl e).2 h1
end
theorem Zng:Enc Zqc Z5 where
 to:=fun ⟨h1,h2⟩=>by subst h1;subst h2;exact RCs.solo ⟨rfl,rfl⟩
 of:=fun ⟨v,cs',L1,L2,h1,h2,h3,h4,h5⟩=>by
  obtain ⟨rfl,rfl⟩:=h3
  subst h4;subst h5;exact ⟨h1,h2⟩
theorem ZvR:Enc Zq1 ZgO where
 to:=fun ⟨h1,h2⟩=>by subst h1;subst h2;exact RCs.solo ⟨rfl,rfl⟩
 of:=fun ⟨v,cs',L1,L2,h1,h2,h3,h4,h5⟩=>by
  obtain ⟨rfl,rfl⟩:=h3
  subst h4;subst h5;exact ⟨h1,h2⟩
theorem encStr:Enc ZCD Zw where
 to:=fun ⟨h1,h2,h3⟩=>by subst h1;subst h2;exact RCs.solo ⟨rfl,rfl,h3⟩
 of:=fun ⟨v,cs',L1,L2,h1,h2,h3,h4,h5⟩=>by
  obtain ⟨rfl,rfl,t⟩:=h3
  subst h4;subst h5;exact ⟨h1,h2,t⟩
def ZAg (w:World):Bool × List CT→Value→Prop:=Zjv w fun _=>False
theorem ZzU {α:Type} {c:ZaE α} {f:α→List CT} (h:Enc c f) (e:Nat) {w:World} {v:Value} {ds:List α} {L:List Nat} (hr:(ZfI c).rep w [v] ds L):ZAg w (false,[.sl e c.size (ds.map f)]) v:=.inr ⟨rfl,_,L,rfl,(h.sl e).1 hr,fun _ _ h=>h⟩
theorem ZFT (w:World) (n:Int):ZAg w (false,[.int .i64 n]) (.int .i64 n):=.inr ⟨rfl,_,[],rfl,⟨rfl,rfl⟩,fun _ _ h=>h⟩
theorem ZEU {α:Type} {c:ZaE α} {f:α→List CT} (h:Enc c f) {w:World} {vs:List Value} {x:α} {L:List Nat} (hr:c.rep w vs x L):ZAg w (true,f x) (.agg vs.toArray):=.inl ⟨rfl,vs,L,rfl,h.to hr,fun _ _ h=>h⟩
section
variable {w w':World} {v:Value} {e:Ending}
theorem ZuI {B:Nat} {n:Nat→Prop} {x:RT} (h:Ziy w B n [x] v):∃F,OP w B n x v F∧Own w B F:=by
 obtain ⟨vs,F,⟨u,vs',F1,F2,rfl,rfl,h1,rfl,rfl⟩,h2,rfl⟩:=h
 rw [A5] at h2
 exact ⟨F1,by simpa using h1,h2⟩
theorem ZIC {α:Type} {c:ZaE α} {f:α→List CT} (h:Enc c f) {t:Nat} {ds:List α} {n:Nat→Prop} (hr:Ziy w' w.heap.size n [(false,[(false,.sl t c.size (ds.map f))])] v) (hb:Below w.heap.size w w'):ZGN c t w v ds w':=by
 obtain ⟨F,h1,h2⟩:=ZuI hr
 rcases h1 with ⟨h1,_⟩ | ⟨_,ct,h1,h3⟩
 ·simp at h1
 ·obtain rfl:_=ct:=by simpa using h1
  obtain ⟨_,cs,L,h4,h5,rfl,_⟩:=h3
  exact ⟨⟨cs,L,by simpa using h4,h.reps_of h5,h2⟩,hb⟩
theorem ZIG {n:Int} {B:Nat} {m:Nat→Prop} (hr:Ziy w B m [(false,[(false,.int .i64 n)])] v):v=.int .i64 n:=by
 obtain ⟨F,h1,h2⟩:=ZuI hr
 rcases h1 with ⟨h1,_⟩ | ⟨_,ct,h1,h3⟩
 ·simp at h1
 ·obtain rfl:_=ct:=by simpa using h1
  exact h3.1.1
theorem Ztf {b:Bool} {B:Nat} {m:Nat→Prop} (hr:Ziy w B m [(false,[(false,.bool b)])] v):v=.bool b:=by
 obtain ⟨F,h1,h2⟩:=ZuI hr
 rcases h1 with ⟨h1,_⟩ | ⟨_,ct,h1,h3⟩
 ·simp at h1
 ·obtain rfl:_=ct:=by simpa using h1
  exact h3.1.1
end
section
variable {P:Program} {J:World→Prop} {f:FuncId} {args:List (Bool × List CT)} {res:List RT}
theorem Zl.calls (h:Zl P J f args res) {w:World} {vs:List Value} (hj:J w) (ha:ZH (ZAg w) args vs):Calls P f vs.toArray w fun e w'=>∃v n,e=.returned v∧Ziy w' w.heap.size n res v∧Below w.heap.size w w':=
 (h.2 w (fun _=>False) vs hj (fun _ h=>h.elim) ha).mono fun _ _ ⟨v,n,h1,h2,_,h3⟩=>⟨v,n,h1,h2,h3⟩
theorem Zl.givesS {α:Type} {c:ZaE α} {g:α→List CT} {t:Nat} {ds:List α} (h:Zl P J f args [(false,[(false,.sl t c.size (ds.map g))])]) (hg:Enc c g) {w:World} {vs:List Value} (hj:J w) (ha:ZH (ZAg w) args vs):Calls P f vs.toArray w (ZEC c t w ds):=
 (h.calls hj ha).mono fun _ _ ⟨v,_,h1,h2,h3⟩=>⟨v,h1,ZIC hg h2 h3⟩
theorem Zl.givesB {b:Bool} (h:Zl P J f args [(false,[(false,.bool b)])]) {w:World} {vs:List Value} (hj:J w) (ha:ZH (ZAg w) args vs):Calls P f vs.toArray w fun e w'=>e=.returned (.bool b)∧Below w.heap.size w w':=
 (h.calls hj ha).mono fun _ _ ⟨v,_,h1,h2,h3⟩=>⟨by rw [h1,Ztf h2],h3⟩
theorem Zl.givesI {b:Int} (h:Zl P J f args [(false,[(false,.int .i64 b)])]) {w:World} {vs:List Value} (hj:J w) (ha:ZH (ZAg w) args vs):Calls P f vs.toArray w fun e w'=>e=.returned (.int .i64 b)∧Below w.heap.size w w':=
 (h.calls hj ha).mono fun _ _ ⟨v,_,h1,h2,h3⟩=>⟨by rw [h1,ZIG h2],h3⟩
def ZG2 {α:Type} (c:ZaE α) (t:Nat) (w:World) (ds:List α) (b:Bool):Ending→World→Prop:=fun e w'=>∃v,e=.returned (.tuple #[v,.bool b])∧ZGN c t w v ds w'
theorem Zl.givesSB {α:Type} {c:ZaE α} {g:α→List CT} {t:Nat} {ds:List α} {b:Bool} (h:Zl P J f args [(false,[(false,.sl t c.size (ds.map g))]),(false,[(false,.bool b)])]) (hg:Enc c g) {w:World} {vs:List Value} (hj:J w) (ha:ZH (ZAg w) args vs):Calls P f vs.toArray w (ZG2 c t w ds b):=
 (h.calls hj ha).mono fun _ w' ⟨v,n,h1,⟨us,F,⟨u,us',F1,F2,e1,e2,p1,u2,us2,F3,F4,e3,e4,p2,e5,e6⟩,hO,e7⟩,h3⟩=>by
  subst e5 e6 e3 e4 e1 e2
  rcases p2 with ⟨p2,_⟩ | ⟨_,ct,p2,p3⟩
  ·simp at p2
  ·obtain rfl:_=ct:=by simpa using p2
   obtain ⟨⟨p4,_⟩,rfl⟩:=p3
   subst p4
   simp only[A5] at hO
   exact ⟨u,by rw [h1,e7];rfl,ZIC (n:=n) hg ⟨[u],F1,⟨u,[],F1,[],rfl,yG,p1,rfl,rfl⟩,hO,rfl⟩ h3⟩
end
end
theorem ZIc:Enc ZDC ZK where
 to:=fun {w cs x L} h=>by
  obtain ⟨A1,c1,L1,rfl,rfl,t0,t1,t2,n1,m1,s1⟩:=h
  have hh:RCs w (ZK x) _ _:=RCs.more ⟨rfl,rfl⟩ (RCs.more ⟨rfl,rfl,t0⟩ (RCs.more ((encStr.sl 9).1 ⟨A1,c1,rfl,n1,m1,s1⟩) (RCs.more ⟨rfl,rfl,t1⟩ (RCs.solo ⟨rfl,rfl,t2⟩))))
  simpa only [A7,A5,A8] using hh
 of:=fun {w cs x L} h=>by
  obtain ⟨v0,r0,K0,M0,rfl,rfl,h0,v1,r1,K1,M1,rfl,rfl,h1,v2,r2,K2,M2,rfl,rfl,h2,v3,r3,K3,M3,rfl,rfl,h3,v4,r4,K4,M4,rfl,rfl,h4,rfl,rfl⟩:=h
  obtain ⟨rfl,rfl⟩:=h0
  obtain ⟨rfl,rfl,t0⟩:=h1
  obtain ⟨A1,c1,e1,n1,m1,s1⟩:=(encStr.sl 9).2 h2
  cases e1
  obtain ⟨rfl,rfl,t1⟩:=h3
  obtain ⟨rfl,rfl,t2⟩:=h4
  exact ⟨A1,c1,_,rfl,by simp only[A7,A5,A8],t0,t1,t2,n1,m1,s1⟩
theorem ZFU:Enc ZDc Zq where
 to:=fun {w cs x L} h=>by
  obtain ⟨A1,c1,L1,rfl,rfl,t0,n1,m1,s1⟩:=h
  have hh:RCs w (Zq x) _ _:=RCs.more ⟨rfl,rfl,t0⟩ (RCs.solo ((encStr.sl 9).1 ⟨A1,c1,rfl,n1,m1,s1⟩))
  simpa only [A7,A5,A8] using hh
 of:=fun {w cs x L} h=>by
  obtain ⟨v0,r0,K0,M0,rfl,rfl,h0,v1,r1,K1,M1,rfl,rfl,h1,rfl,rfl⟩:=h
  obtain ⟨rfl,rfl,t0⟩:=h0
  obtain ⟨A1,c1,e1,n1,m1,s1⟩:=(encStr.sl 9).2 h1
  cases e1
  exact ⟨A1,c1,_,rfl,by simp only[A7,A5,A8],t0,n1,m1,s1⟩
theorem ZIj:Enc ZD3 ZAO where
 to:=fun {w cs x L} h=>by
  obtain ⟨A1,c1,L1,A2,c2,L2,rfl,rfl,t0,t1,n1,m1,s1,n2,m2,s2⟩:=h
  have hh:RCs w (ZAO x) _ _:=RCs.more ⟨rfl,rfl,t0⟩ (RCs.more ((encStr.sl 9).1 ⟨A1,c1,rfl,n1,m1,s1⟩) (RCs.more ⟨rfl,rfl,t1⟩ (RCs.solo ((Zng.sl 3).1 ⟨A2,c2,rfl,n2,m2,s2⟩))))
  simpa only [A7,A5,A8] using hh
 of:=fun {w cs x L} h=>by
  obtain ⟨v0,r0,K0,M0,rfl,rfl,h0,v1,r1,K1,M1,rfl,rfl,h1,v2,r2,K2,M2,rfl,rfl,h2,v3,r3,K3,M3,rfl,rfl,h3,rfl,rfl⟩:=h
  obtain ⟨rfl,rfl,t0⟩:=h0
  obtain ⟨A1,c1,e1,n1,m1,s1⟩:=(encStr.sl 9).2 h1
  cases e1
  obtain ⟨rfl,rfl,t1⟩:=h2
  obtain ⟨A2,c2,e2,n2,m2,s2⟩:=(Zng.sl 3).2 h3
  cases e2
  exact ⟨A1,c1,_,A2,c2,_,rfl,by simp only[A7,A5,A8],t0,t1,n1,m1,s1,n2,m2,s2⟩
theorem Zna:Enc ZnO ZL where
 to:=fun {w cs x L} h=>by
  obtain ⟨A1,c1,L1,A2,c2,L2,rfl,rfl,n1,m1,s1,n2,m2,s2⟩:=h
  have hh:RCs w (ZL x) _ _:=RCs.more ⟨rfl,rfl⟩ (RCs.more ((Zng.sl 3).1 ⟨A1,c1,rfl,n1,m1,s1⟩) (RCs.solo ((Zng.sl 3).1 ⟨A2,c2,rfl,n2,m2,s2⟩)))
  simpa only [A7,A5,A8] using hh
 of:=fun {w cs x L} h=>by
  obtain ⟨v0,r0,K0,M0,rfl,rfl,h0,v1,r1,K1,M1,rfl,rfl,h1,v2,r2,K2,M2,rfl,rfl,h2,rfl,rfl⟩:=h
  obtain ⟨rfl,rfl⟩:=h0
  obtain ⟨A1,c1,e1,n1,m1,s1⟩:=(Zng.sl 3).2 h1
  cases e1
  obtain ⟨A2,c2,e2,n2,m2,s2⟩:=(Zng.sl 3).2 h2
  cases e2
  exact ⟨A1,c1,_,A2,c2,_,rfl,by simp only[A7,A5,A8],n1,m1,s1,n2,m2,s2⟩
theorem Zqn:Enc ZoR Qw where
 to:=fun {w cs x L} h=>by
  obtain ⟨A1,c1,L1,rfl,rfl,n1,m1,s1⟩:=h
  have hh:RCs w (Qw x) _ _:=RCs.more ⟨rfl,rfl⟩ (RCs.solo ((Zna.sl 144).1 ⟨A1,c1,rfl,n1,m1,s1⟩))
  simpa only [A7,A5,A8] using hh
 of:=fun {w cs x L} h=>by
  obtain ⟨v0,r0,K0,M0,rfl,rfl,h0,v1,r1,K1,M1,rfl,rfl,h1,rfl,rfl⟩:=h
  obtain ⟨rfl,rfl⟩:=h0
  obtain ⟨A1,c1,e1,n1,m1,s1⟩:=(Zna.sl 144).2 h1
  cases e1
  exact ⟨A1,c1,_,rfl,by simp only[A7,A5,A8],n1,m1,s1⟩
theorem ZGF:Enc ZC8 ZD where
 to:=fun {w cs x L} h=>by
  obtain ⟨A1,c1,L1,rfl,rfl,t0,n1,m1,s1⟩:=h
  have hh:RCs w (ZD x) _ _:=RCs.more ⟨rfl,rfl⟩ (RCs.more ⟨rfl,rfl,t0⟩ (RCs.solo ((encStr.sl 9).1 ⟨A1,c1,rfl,n1,m1,s1⟩)))
  simpa only [A7,A5,A8] using hh
 of:=fun {w cs x L} h=>by
  obtain ⟨v0,r0,K0,M0,rfl,rfl,h0,v1,r1,K1,M1,rfl,rfl,h1,v2,r2,K2,M2,rfl,rfl,h2,rfl,rfl⟩:=h
  obtain ⟨rfl,rfl⟩:=h0
  obtain ⟨rfl,rfl,t0⟩:=h1
  obtain ⟨A1,c1,e1,n1,m1,s1⟩:=(encStr.sl 9).2 h2
  cases e1
  exact ⟨A1,c1,_,rfl,by simp only[A7,A5,A8],t0,n1,m1,s1⟩
theorem ZIg:Enc ZDB ZG where
 to:=fun {w cs x L} h=>by
  obtain ⟨A1,c1,L1,A2,c2,L2,rfl,rfl,t0,n1,m1,s1,n2,m2,s2⟩:=h
  have hh:RCs w (ZG x) _ _:=RCs.more ⟨rfl,rfl,t0⟩ (RCs.more ⟨rfl,rfl⟩ (RCs.more ((ZIc.sl 60).1 ⟨A1,c1,rfl,n1,m1,s1⟩) (RCs.solo ((ZGF.sl 166).1 ⟨A2,c2,rfl,n2,m2,s2⟩))))
  simpa only [A7,A5,A8] using hh
 of:=fun {w cs x L} h=>by
  obtain ⟨v0,r0,K0,M0,rfl,rfl,h0,v1,r1,K1,M1,rfl,rfl,h1,v2,r2,K2,M2,rfl,rfl,h2,v3,r3,K3,M3,rfl,rfl,h3,rfl,rfl⟩:=h
  obtain ⟨rfl,rfl,t0⟩:=h0
  obtain ⟨rfl,rfl⟩:=h1
  obtain ⟨A1,c1,e1,n1,m1,s1⟩:=(ZIc.sl 60).2 h2
  cases e1
  obtain ⟨A2,c2,e2,n2,m2,s2⟩:=(ZGF.sl 166).2 h3
  cases e2
  exact ⟨A1,c1,_,A2,c2,_,rfl,by simp only[A7,A5,A8],t0,n1,m1,s1,n2,m2,s2⟩
section
open Go.RowKit
structure ZoU (w wr:World) (n r:Nat):Prop where
 below:Below w.heap.size w wr
 size:wr.heap.size=w.heap.size+1+r
 top:wr.rowIs w.heap.size 94 n (fun j=>if j<r then .slice (some ⟨w.heap.size+1+j,0,none⟩) n n else .slice none 0 0)
 row:∀j,j<r→wr.rowIs (w.heap.size+1+j) 4 n (fun _=>.bool false)
structure Qf (w wr:World) (n:Nat) (d:List (List Bool)):Prop where
 below:Below w.heap.size w wr
 size:w.heap.size+1+n≤wr.heap.size
 top:wr.rowIs w.heap.size 94 n (fun j=>.slice (some ⟨w.heap.size+1+j,0,none⟩) n n)
 row:∀j,j<n→wr.rowIs (w.heap.size+1+j) 4 n (fun c=>.bool (Zb9 d j c))
 sq:SqM n d
theorem Zqz (w:World) (n:Nat):ZoU w (w.alloc (.cells (madeCells #[.slice none 0 0] n) 94)) n 0:=
 ⟨(Below.refl _ w).alloc (A9 _) _,yG,(World.rowIs_made w _ n 94).congr (fun j _=>by simp),fun j hj=>absurd hj (Nat.not_lt_zero _)⟩
theorem ZoU.next {w wr:World} {n r:Nat} (h:ZoU w wr n r):ZoU w ((wr.alloc (.cells (madeCells #[.bool false] n) 4)).setCell ⟨w.heap.size,r,none⟩ (.slice (some ⟨wr.heap.size,0,none⟩) n n)) n (r+1):=by
 have a:=World.rowIs_made wr (.bool false) n 4
 rw [h.size] at a ⊢
 refine ⟨(h.below.alloc (by rw [h.size];omega) _).setCell (A9 _) _,by simp [h.size];omega,((h.top.alloc _).set r _).congr (fun j _=>?_),fun j hj=>?_⟩
 ·by_cases e:j=r
  ·subst e;simp
  ·rw [if_neg e]
   by_cases b:j<r
   ·rw [if_pos b,if_pos yE]
   ·rw [if_neg b,if_neg yE]
 ·by_cases e:j=r
  ·subst e
   exact a.setOther (by show w.heap.size+1+j≠w.heap.size;omega) _
  ·exact ((h.row j yE).alloc _).setOther (by show w.heap.size+1+j≠w.heap.size;omega) _
theorem Zsi (n i j:Nat):Zb9 (A4 n (A4 n false)) i j=false:=by
 unfold Zb9
 rw [AT]
 split
 ·rename_i r e
  split at e
  ·simp at e;subst e
   rw [AT]
   split
   ·rename_i v e2
    split at e2
    ·simp at e2;exact e2
    ·simp at e2
   ·rfl
  ·simp at e
 ·rfl
theorem ZoU.done {w wr:World} {n:Nat} (h:ZoU w wr n n):Qf w wr n (A4 n (A4 n false)):=
 ⟨h.below,by rw [h.size];omega,h.top.congr (fun j hj=>by rw [if_pos hj]),fun j hj=>(h.row j hj).congr (fun c _=>by rw [Zsi]),SqM.new n⟩
theorem Qf.later {w wr w':World} {n:Nat} {d:List (List Bool)} (h:Qf w wr n d) (hb:Below wr.heap.size wr w'):Qf w w' n d:=
 ⟨h.below.trans (hb.mono h.below.size),AG h.size hb.size,h.top.of_block (hb.block _ h.top.lt),fun j hj=>(h.row j hj).of_block (hb.block _ (h.row j hj).lt),h.sq⟩
theorem Qf.set {w wr:World} {n:Nat} {d:List (List Bool)} (h:Qf w wr n d) {i j:Nat} (hi:i<n) (hj:j<n) (v:Bool):Qf w (wr.setCell ⟨w.heap.size+1+i,j,none⟩ (.bool v)) n (Zjq d i j v):=by
 refine ⟨h.below.setCell (by show w.heap.size≤w.heap.size+1+i;omega) _,by simpa using h.size,h.top.setOther (by show w.heap.size≠w.heap.size+1+i;omega) _,fun q hq=>?_,h.sq.set i j v⟩
 by_cases e:q=i
 ·subst e
  refine ((h.row q hq).set j (.bool v)).congr (fun c hc=>?_)
  rw [Zny h.sq hi hj]
  by_cases e2:c=j
  ·rw [if_pos e2,if_pos ⟨rfl,e2⟩]
  ·rw [if_neg e2,if_neg (fun hh=>e2 hh.2)]
 ·refine ((h.row q hq).setOther (by show w.heap.size+1+q≠w.heap.size+1+i;omega) _).congr (fun c _=>?_)
  rw [Zny h.sq hi hj,if_neg (fun hh=>e hh.1)]
theorem Qf.drew {w wr:World} {n:Nat} {d:List (List Bool)} (h:Qf w wr n d):Qf w wr.drew n d:=⟨h.below.drew,h.size,h.top.drew,fun j hj=>(h.row j hj).drew,h.sq⟩
theorem Zmb {w:World} {b t n:Nat} {f:Nat→Value} {xs:List Value} (h:w.rowIs b t n f) (hx:xs.length=n) (he:∀i,i<n→xs[i]?=some (f i)):∃L,Sl w 1 (some ⟨b,0,none⟩) n xs L∧∀y∈L,y=b:=by
 by_cases hn:n=0
 ·subst hn
  exact ⟨[],⟨by simpa using hx,.inl ⟨rfl,rfl⟩⟩,yG⟩
 ·refine ⟨[b],⟨by simpa using hx,.inr ⟨yE,b,0,rfl,rfl,fun j u hu=>?_⟩⟩,yG⟩
  have hj:j<n:=by rw [←hx];exact (AH.1 hu).1
  rw [he j hj] at hu
  obtain rfl:=A3 hu
  rw [Nat.zero_add]
  exact h.cell hj
theorem ZjP (w:World):∀l:List Bool,Zq1.reps w (l.map Value.bool) l []
 | []=>⟨rfl,rfl⟩
 | x::l=>⟨[.bool x],l.map Value.bool,[],[],rfl,rfl,⟨rfl,rfl⟩,ZjP w l⟩
theorem Zrg {α:Type} {c:ZaE α} {w:World} {B:Nat}:∀{ds:List α} {cells:List Value},cells.length=ds.length→(∀(i:Nat) (d:α) (v:Value),ds[i]?=some d→cells[i]?=some v→∃L,c.rep w [v] d L∧∀y∈L,B≤y)→∃L,c.reps w cells ds L∧∀y∈L,B≤y
 | [],cells,hl,_=>⟨[],⟨AF hl,rfl⟩,yG⟩
 | d::ds,[],hl,_=>by simp at hl
 | d::ds,v::cells,hl,h=>by
  obtain ⟨L1,h1,g1⟩:=h 0 d v rfl rfl
  obtain ⟨L2,h2,g2⟩:=Zrg (ds:=ds) (cells:=cells) (by simpa using hl) (fun i e u he hu=>h (i+1) e u (by simpa using he) (by simpa using hu))
  refine ⟨L1++L2,⟨[v],cells,L1,L2,rfl,rfl,h1,h2⟩,fun y my=>?_⟩
  rcases AU.1 my with m | m
  ·exact g1 y m
  ·exact g2 y m
theorem Qf.rep {w wr:World} {n:Nat} {d:List (List Bool)} (h:Qf w wr n d) (hn:n≤24):∃L,(ZfI (ZfI Zq1)).rep wr [.slice (some ⟨w.heap.size,0,none⟩) n n] d L∧∀y∈L,w.heap.size≤y:=by
 have hd:=h.sq.len
 obtain ⟨L0,hs,b⟩:=Zmb (xs:=(List.range n).map fun j=>.slice (some ⟨w.heap.size+1+j,0,none⟩) n n) h.top yG (fun i hi=>by simp [hi])
 obtain ⟨L1,hr,e⟩:=Zrg (c:=ZfI Zq1) (w:=wr) (B:=w.heap.size) (ds:=d) (cells:=(List.range n).map fun j=>.slice (some ⟨w.heap.size+1+j,0,none⟩) n n) (by simp [hd]) (fun i r v hr hv=>by
  have hi:i<n:=by rw [←hd];exact (AH.1 hr).1
  have a:r.length=n:=h.sq.row r (AW hr)
  have f:v=.slice (some ⟨w.heap.size+1+i,0,none⟩) n n:=by simp [hi] at hv;exact hv.symm
  subst f
  obtain ⟨L,hl,hL⟩:=Zmb (xs:=r.map Value.bool) (h.row i hi) (by simp [a]) (fun j hj=>by
   have g:j<r.length:=by omega
   unfold Zb9
   rw [hr]
   simp only
   rw [AD,AC g]
   rfl)
  refine ⟨L++[],⟨some ⟨w.heap.size+1+i,0,none⟩,n,by rw [a],yE,by unfold maxLen;omega,r.map Value.bool,L,[],rfl,by rw [a];exact hl,ZjP wr r⟩,fun y my=>?_⟩
  rw [A5] at my
  rw [hL y my];omega)
 refine ⟨L0++L1,⟨some ⟨w.heap.size,0,none⟩,n,by rw [hd],yE,by unfold maxLen;omega,_,L0,L1,rfl,by rw [hd];exact hs,hr⟩,fun y my=>?_⟩
 rcases AU.1 my with m | m
 ·rw [b y m];exact A9 _
 ·exact e y m
end
section
open Go.RowKit
theorem ZsB:(prog.info? 4).map (fun i=>(i.zero,i.size,i.bytes))=some (some (.bool false),1,1):=by kernel_rfl
theorem Zp2:(prog.info? 94).map (fun i=>(i.zero,i.size,i.bytes))=some (some (.slice none 0 0),1,24):=by kernel_rfl
theorem Zca {α β:Type} {f:β→α→β} {l:List α} {k:Nat} {x:α} {b:β} (h:l[k]?=some x):(l.take (k+1)).foldl f b=f ((l.take k).foldl f b) x:=by
 rw [List.take_add_one,h,AX];rfl
theorem Zbq {β:Type} {f:β→Nat→β} {k:Nat} {b:β}:(A6 0 (k+1)).foldl f b=f ((A6 0 k).foldl f b) k:=by
 rw [List.range'_concat,AX];simp
theorem ZqN {b:Zu} (S:Zl9 b=true) (w:World) (cs:List Value) (L:List Nat) (hb:ZoR.rep w cs b L) :
  Calls prog 125 #[.agg cs.toArray] w (fun e w'=>∃w0,Below w.heap.size w w0∧e=.returned (.slice (some ⟨w0.heap.size,0,none⟩) b.nodes.toNat b.nodes.toNat)∧Qf w0 w' b.nodes.toNat (Zfc b.nodes.toNat b.reasons)):=by
 obtain ⟨A1,c1,L1,e1,e2,n1,m1,s1⟩:=hb
 subst e1 e2
 unfold Zl9 at S
 rw [AE,decide_eq_true_iff] at S
 obtain ⟨⟨h0,an,ao⟩,hr⟩:=S
 have HR:Hid (∀r∈b.reasons,(0≤r.for_∧r.for_.toNat<b.nodes.toNat)∧(∀y∈r.inn,0≤y∧y.toNat<b.nodes.toNat)∧∀y∈r.outs,0≤y∧y.toNat<b.nodes.toNat):=fun r mr=>by
  have:=AI.1 hr r mr
  rw [AE,AE,decide_eq_true_iff,AI,AI] at this
  obtain ⟨⟨a1,a2⟩,a3⟩:=this
  refine ⟨yE,fun y my=>?_,fun y my=>?_⟩
  ·have:=of_decide_eq_true (a2 y my);omega
  ·have:=of_decide_eq_true (a3 y my);omega
 clear hr
 have HS:Hid (Sli ZnO w A1 b.reasons _):=s1
 clear s1
 have T:b.nodes=((b.nodes.toNat:Nat):Int):=by omega
 obtain ⟨n,hn⟩:∃n,b.nodes.toNat=n:=⟨_,rfl⟩
 have HN:Hid (b.nodes.toNat=n):=hn
 rw [hn] at T ⊢
 rw [T]
 obtain ⟨m,hm⟩:∃m,b.reasons.length=m:=⟨_,rfl⟩
 have HM:Hid (b.reasons.length=m):=hm
 rw [hm] at n1 ao ⊢
 have hn24:n≤24:=by omega
 clear hm hn T h0 an
 have ah:∀w:World,_:=run_make_row' (P:=prog) 170 94 (.slice none 0 0) 24 underlying170 Zp2 rfl .i64 .i64 n yE yE
 go_enter func125,ntmps125
 go_wp2
 clear ah
 obtain ⟨w0,A⟩:∃w0,w0=w.alloc (.cells #[.int .i64 ((n:Nat):Int),.slice A1 m c1] 91):=⟨_,rfl⟩
 have U:w0.heap.size=w.heap.size + 1:=by rw [A];simp
 have HB:Hid (Below w.heap.size w w0):=by rw [A];exact (Below.refl _ w).alloc (A9 _) _
 have K0:Hid (Blk w0 w.heap.size 91 #[.int .i64 ((n:Nat):Int),.slice A1 m c1]):=by rw [A];exact Blk.new _ _ _
 rw [←A,←U]
 have H0:Hid (w0.heap.size=w.heap.size + 1):=U
 have f:Hid (ZoU w0 (w0.alloc (.cells (madeCells #[.slice none 0 0] n) 94)) n 0):=Zqz w0 n
 clear A U
 go_loopw [19] (fun i wr=>∃(k:Nat),k≤n∧i=.int .i64 k∧Hid (ZoU w0 wr n k)) (fun i _=>n - (intOf i).toNat)
 case atStart=>exact ⟨0,AA _,rfl,f⟩
 case round =>
  clear f
  obtain ⟨k,hk,rfl,HA⟩:=hrel
  by_cases M:k<n
  ·have q0:wr.cell? ⟨w.heap.size,0,none⟩=some (.int .i64 ((n:Nat):Int)):=(HA.out.below.cell (p:=⟨w.heap.size,0,none⟩) (by show w.heap.size<w0.heap.size;rw [H0.out];omega)).trans (K0.out.at rfl)
   have ah:∀w:World,_:=run_make_row' (P:=prog) 94 4 (.bool false) 1 underlying94 ZsB rfl .i64 .i64 n yE yE
   have hst1:∀o,(wr.alloc o).cell? ⟨w0.heap.size,k,none⟩=some (.slice none 0 0):=fun o=>by
    have:=(HA.out.top.alloc o).cell M
    simpa using this
   have hst2:∀o,(wr.alloc o).frozen? ⟨w0.heap.size,k,none⟩=false:=fun o=>(HA.out.top.alloc o).frozen k
   go_wp2
   exact ⟨⟨k + 1,yE,yG,HA.out.next⟩,by simp [intOf];omega⟩
  ·obtain rfl:k=n:=by omega
   have HD:Hid (Qf w0 wr k (A4 k (A4 k false))):=HA.out.done
   clear HA
   have q1:wr.cell? ⟨w.heap.size,1,none⟩=some (.slice A1 m c1):=(HD.out.below.cell (p:=⟨w.heap.size,1,none⟩) (by show w.heap.size<w0.heap.size;rw [H0.out];omega)).trans (K0.out.at rfl)
   go_wp2
   clear q1 M hk
   have f:Hid (Qf w0 wr k ((b.reasons.take 0).foldl Zic (A4 k (A4 k false)))):=HD
   clear HD
   go_loopw [32] (fun i wr=>∃(q:Nat),q≤m∧i=.int .i64 q∧Hid (Qf w0 wr k ((b.reasons.take q).foldl Zic (A4 k (A4 k false))))) (fun i _=>m - (intOf i).toNat)
   case atStart=>exact ⟨0,AA _,rfl,f⟩
   case round =>
    clear f
    obtain ⟨q,hq,rfl,HA⟩:=hrel
    by_cases M:q<m
    ·obtain ⟨r,hr⟩:∃r,b.reasons[q]?=some r:=⟨_,AC (by have:=HM.out;omega)⟩
     have ai:q<b.reasons.length:=(AH.1 hr).1
     obtain ⟨bb,off,cs,Lk,rfl,ap,hLk,Q,hc⟩:=HS.out.at_ ai
     have aj:b.reasons[q]=r:=by rw [AC ai] at hr;exact A3 hr
     rw [aj] at Q
     obtain ⟨Ai,ci,Li,Ao,co,Lo,e1,e2,ni,mi,si,no,mo,so⟩:=Q
     subst e1
     have V:bb<w.heap.size:=HS.out.lt _ ap
     have l:∀{a:Addr},a.block<w.heap.size→wr.cell? a=w.cell? a:=fun {a} ha=>(HA.out.below.cell (p:=a) (by rw [H0.out];omega)).trans (HB.out.cell ha)
     have mr:=AW hr
     obtain ⟨⟨f0,f1⟩,f2,f3⟩:=HR.out r mr
     simp only[HN.out] at f1 f2 f3
     obtain ⟨x,hx⟩:∃x:Nat,r.for_=x:=⟨r.for_.toNat,yE⟩
     have t:x<k:=by omega
     have HX:Hid (r.for_.toNat=x):=by show r.for_.toNat=x;omega
     have HIF:Hid (∀y∈r.inn,0≤y∧y.toNat<k):=f2
     have HOF:Hid (∀y∈r.outs,0≤y∧y.toNat<k):=f3
     have HI:Hid (Sli Zqc w Ai r.inn _):=si
     have HO:Hid (Sli Zqc w Ao r.outs _):=so
     have HQ:Hid (b.reasons[q]?=some r):=hr
     have p0:wr.cell? ⟨bb,off + q * 3,none⟩=some (.int .i64 r.for_):=(l V).trans (hc 0 _ rfl)
     have p1:wr.cell? ⟨bb,off + q * 3 + 1,none⟩=some (.slice Ai r.inn.length ci):=(l V).trans (hc 1 _ rfl)
     have p2:wr.cell? ⟨bb,off + q * 3 + 2,none⟩=some (.slice Ao r.outs.length co):=(l V).trans (hc 2 _ rfl)
     rw [hx] at p0
     obtain ⟨pi,W⟩:∃pi,r.inn.length=pi:=⟨_,rfl⟩
     obtain ⟨po,X⟩:∃po,r.outs.length=po:=⟨_,rfl⟩
     rw [W] at p1 ni
     rw [X] at p2 no
     have hpb:pi≤9223372036854775807:=AG ni (by unfold maxLen at mi;omega)
     have hpc:po≤9223372036854775807:=AG no (by unfold maxLen at mo;omega)
     have HIL:Hid (r.inn.length=pi):=W
     have HOL:Hid (r.outs.length=po):=X
     clear hc l W X hx f0 f1 f2 f3 si so hr mr aj
     go_wp2
     obtain ⟨D,hD⟩:∃D,D=(b.reasons.take q).foldl Zic (A4 k (A4 k false)):=⟨_,rfl⟩
     obtain ⟨w1,N⟩:∃w1,w1=wr.alloc (.cells #[.int .i64 ((x:Nat):Int),.slice Ai pi ci,.slice Ao po co] 144):=⟨_,rfl⟩
     obtain ⟨g,hg⟩:∃g,g=wr.heap.size:=⟨_,rfl⟩
     have B:Hid (Qf w0 w1 k ((r.inn.take 0).foldl (Zah r.for_.toNat) D)):=by rw [N,hD];exact HA.out.later ((Below.refl _ _).alloc (A9 _) _)
     have C:Hid (Blk w1 g 144 #[.int .i64 ((x:Nat):Int),.slice Ai pi ci,.slice Ao po co]):=by rw [N,hg];exact Blk.new _ _ _
     have HG:Hid (w0.heap.size + 1 + k≤g):=by rw [hg];exact HA.out.size
     rw [←N,←hg]
     have HD0:Hid (D=(b.reasons.take q).foldl Zic (A4 k (A4 k false))):=hD
     clear HA N hg p0 p1 p2 hD
     go_loopw [39] (fun i wr=>∃(j:Nat),j≤pi∧i=.int .i64 j∧Hid (Qf w0 wr k ((r.inn.take j).foldl (Zah r.for_.toNat) D))∧Hid (Blk wr g 144 #[.int .i64 ((x:Nat):Int),.slice Ai pi ci,.slice Ao po co])) (fun i _=>pi - (intOf i).toNat)
     case atStart=>exact ⟨0,AA _,rfl,B,C⟩
     case round =>
      clear B C
      obtain ⟨j,hj,rfl,HW,HK⟩:=hrel
      by_cases R:j<pi
      ·have u:j<r.inn.length:=by have:=HIL.out;omega
       obtain ⟨bi,oi,aq,Lk2,rfl,F,_,z,G⟩:=HI.out.at_ u
       obtain ⟨e3,_⟩:=z
       subst e3
       have hy:=AC u
       obtain ⟨y0,y1⟩:=HIF.out _ (AY u)
       obtain ⟨yn,H⟩:∃yn:Nat,r.inn[j]=yn:=⟨r.inn[j].toNat,yE⟩
       have I:r.inn[j].toNat=yn:=by omega
       have J:yn<k:=by omega
       have Y:bi<w.heap.size:=HI.out.lt _ F
       have p3:wr.cell? ⟨bi,oi + j,none⟩=some (.int .i64 ((yn:Nat):Int)):=by
        have h:=G 0 _ rfl
        rw [show oi + (j * Zqc.size + 0)=oi + j from by show oi + (j * 1 + 0)=_;omega,H] at h
        exact ((HW.out.below.cell (p:=⟨bi,oi + j,none⟩) (by show bi<w0.heap.size;rw [H0.out];omega)).trans (HB.out.cell (p:=⟨bi,oi + j,none⟩) Y)).trans h
       have s0:wr.cell? ⟨g,0,none⟩=some (.int .i64 ((x:Nat):Int)):=HK.out.at rfl
       have s1:wr.cell? ⟨w0.heap.size,x,none⟩=some (.slice (some ⟨w0.heap.size + 1 + x,0,none⟩) k k):=HW.out.top.cell t
       have s2:=(HW.out.row x t).cell J
       have s3:=(HW.out.row x t).frozen yn
       have HY:Hid (r.inn[j]?=some r.inn[j]∧r.inn[j].toNat=yn):=⟨hy,I⟩
       clear G hy I H y0 y1
       go_wp2
       refine ⟨⟨j + 1,yE,yG,?_,HK.out.far (by show g ≠ w0.heap.size + 1 + x;have:=HG.out;omega) _⟩,by simp [intOf];omega⟩
       show Qf w0 _ k _
       rw [Zca HY.out.1]
       have e:∀d,Zah r.for_.toNat d r.inn[j]=Zjq d x yn true:=fun d=>by unfold Zah;rw [HX.out,HY.out.2]
       rw [e]
       exact HW.out.set t J true
      ·have O:j=pi:=by omega
       have q2:wr.cell? ⟨g,2,none⟩=some (.slice Ao po co):=HK.out.at rfl
       go_wp2
       clear q2 R hj
       have B:Hid (Qf w0 wr k ((r.outs.take 0).foldl (Zah r.for_.toNat) ((r.inn.take pi).foldl (Zah r.for_.toNat) D))):=by rw [←O];exact HW
       have C:=HK
       clear HW HK O
       go_loopw [54] (fun i wr=>∃(j:Nat),j≤po∧i=.int .i64 j∧Hid (Qf w0 wr k ((r.outs.take j).foldl (Zah r.for_.toNat) ((r.inn.take pi).foldl (Zah r.for_.toNat) D)))∧Hid (Blk wr g 144 #[.int .i64 ((x:Nat):Int),.slice Ai pi ci,.slice Ao po co])) (fun i _=>po - (intOf i).toNat)
       case atStart=>exact ⟨0,AA _,rfl,B,C⟩
       case round =>
        clear B C
        obtain ⟨j,hj,rfl,HW,HK⟩:=hrel
        by_cases R:j<po
        ·have u:j<r.outs.length:=by have:=HOL.out;omega
         obtain ⟨bi,oi,aq,Lk2,rfl,F,_,z,G⟩:=HO.out.at_ u
         obtain ⟨e3,_⟩:=z
         subst e3
         have hy:=AC u
         obtain ⟨y0,y1⟩:=HOF.out _ (AY u)
         obtain ⟨yn,H⟩:∃yn:Nat,r.outs[j]=yn:=⟨r.outs[j].toNat,yE⟩
         have I:r.outs[j].toNat=yn:=by omega
         have J:yn<k:=by omega
         have Y:bi<w.heap.size:=HO.out.lt _ F
         have p3:wr.cell? ⟨bi,oi + j,none⟩=some (.int .i64 ((yn:Nat):Int)):=by
          have h:=G 0 _ rfl
          rw [show oi + (j * Zqc.size + 0)=oi + j from by show oi + (j * 1 + 0)=_;omega,H] at h
          exact ((HW.out.below.cell (p:=⟨bi,oi + j,none⟩) (by show bi<w0.heap.size;rw [H0.out];omega)).trans (HB.out.cell (p:=⟨bi,oi + j,none⟩) Y)).trans h
         have s0:wr.cell? ⟨g,0,none⟩=some (.int .i64 ((x:Nat):Int)):=HK.out.at rfl
         have s1:wr.cell? ⟨w0.heap.size,x,none⟩=some (.slice (some ⟨w0.heap.size + 1 + x,0,none⟩) k k):=HW.out.top.cell t
         have s2:=(HW.out.row x t).cell J
         have s3:=(HW.out.row x t).frozen yn
         have HY:Hid (r.outs[j]?=some r.outs[j]∧r.outs[j].toNat=yn):=⟨hy,I⟩
         clear G hy I H y0 y1
         go_wp2
         refine ⟨⟨j + 1,yE,yG,?_,HK.out.far (by show g ≠ w0.heap.size + 1 + x;have:=HG.out;omega) _⟩,by simp [intOf];omega⟩
         show Qf w0 _ k _
         rw [Zca HY.out.1]
         have e:∀d,Zah r.for_.toNat d r.outs[j]=Zjq d x yn true:=fun d=>by unfold Zah;rw [HX.out,HY.out.2]
         rw [e]
         exact HW.out.set t J true
        ·have O:j=po:=by omega
         go_wp2
         refine ⟨⟨q + 1,yE,yG,?_⟩,by simp [intOf];omega⟩
         show Qf w0 _ k _
         rw [Zca HQ.out,←HD0.out]
         have h:=HW.out
         rw [O,AJ (AK HOL.out),AJ (AK HIL.out)] at h
         exact h
    ·have ak:q=m:=by omega
     have HD:Hid (Qf w0 wr k (b.reasons.foldl Zic (A4 k (A4 k false)))):=by
      have h:=HA.out
      rw [ak,AJ (AK HM.out)] at h
      exact h
     clear HA ak
     go_wp2
     obtain ⟨E,hE⟩:∃E,E=b.reasons.foldl Zic (A4 k (A4 k false)):=⟨_,rfl⟩
     have HE:Hid (E=b.reasons.foldl Zic (A4 k (A4 k false))):=hE
     have f:Hid (Qf w0 wr k ((A6 0 0).foldl (ZmX k) E)):=by rw [hE];exact HD
     clear HD hE M hq
     go_loopw [69] (fun i wr=>∃(a:Nat),a≤k∧i=.int .i64 a∧Hid (Qf w0 wr k ((A6 0 a).foldl (ZmX k) E))) (fun i _=>k - (intOf i).toNat)
     case atStart=>exact ⟨0,AA _,rfl,f⟩
     case round =>
      clear f
      obtain ⟨a,ha,rfl,HA⟩:=hrel
      by_cases Z:a<k
      ·go_wp2
       obtain ⟨E1,aa⟩:∃E1,E1=(A6 0 a).foldl (ZmX k) E:=⟨_,rfl⟩
       have HE1:Hid (E1=(A6 0 a).foldl (ZmX k) E):=aa
       have f:Hid (Qf w0 wr k ((A6 0 0).foldl (Zm6 k a) E1)):=by rw [aa];exact HA
       clear HA aa
       go_loopw [74] (fun i wr=>∃(c:Nat),c≤k∧i=.int .i64 c∧Hid (Qf w0 wr k ((A6 0 c).foldl (Zm6 k a) E1))) (fun i _=>k - (intOf i).toNat)
       case atStart=>exact ⟨0,AA _,rfl,f⟩
       case round =>
        clear f
        obtain ⟨c,hc,rfl,HA⟩:=hrel
        by_cases K:c<k
        ·go_wp2
         obtain ⟨E2,ab⟩:∃E2,E2=(A6 0 c).foldl (Zm6 k a) E1:=⟨_,rfl⟩
         have HE2:Hid (E2=(A6 0 c).foldl (Zm6 k a) E1):=ab
         have f:Hid (Qf w0 wr k ((A6 0 0).foldl (ZkT a c) E2)):=by rw [ab];exact HA
         clear HA ab
         go_loopw [79] (fun i wr=>∃(e:Nat),e≤k∧i=.int .i64 e∧Hid (Qf w0 wr k ((A6 0 e).foldl (ZkT a c) E2))) (fun i _=>k - (intOf i).toNat)
         case atStart=>exact ⟨0,AA _,rfl,f⟩
         case round =>
          clear f
          obtain ⟨e,he,rfl,HA⟩:=hrel
          by_cases ac:e<k
          ·obtain ⟨E3,ad⟩:∃E3,E3=(A6 0 e).foldl (ZkT a c) E2:=⟨_,rfl⟩
           have HE3:Hid (E3=(A6 0 e).foldl (ZkT a c) E2):=ad
           have HW:Hid (Qf w0 wr k E3):=by rw [ad];exact HA
           clear HA ad
           have s1:wr.cell? ⟨w0.heap.size,c,none⟩=some (.slice (some ⟨w0.heap.size + 1 + c,0,none⟩) k k):=HW.out.top.cell K
           have s2:wr.cell? ⟨w0.heap.size,a,none⟩=some (.slice (some ⟨w0.heap.size + 1 + a,0,none⟩) k k):=HW.out.top.cell Z
           obtain ⟨v1,ae⟩:∃v,Zb9 E3 c e=v:=⟨_,rfl⟩
           obtain ⟨v2,af⟩:∃v,Zb9 E3 c a=v:=⟨_,rfl⟩
           obtain ⟨v3,ag⟩:∃v,Zb9 E3 a e=v:=⟨_,rfl⟩
           have u1:wr.cell? ⟨w0.heap.size + 1 + c,e,none⟩=some (.bool v1):=by rw [←ae];exact (HW.out.row c K).cell ac
           have u2:wr.cell? ⟨w0.heap.size + 1 + c,a,none⟩=some (.bool v2):=by rw [←af];exact (HW.out.row c K).cell Z
           have u3:wr.cell? ⟨w0.heap.size + 1 + a,e,none⟩=some (.bool v3):=by rw [←ag];exact (HW.out.row a Z).cell ac
           have u4':wr.frozen? ⟨w0.heap.size + 1 + c,e,none⟩=false:=(HW.out.row c K).frozen e
           have al:Hid (Qf w0 (wr.setCell ⟨w0.heap.size + 1 + c,e,none⟩ (.bool (v1 || (v2 && v3)))).drew k ((A6 0 (e + 1)).foldl (ZkT a c) E2)):=by
            show Qf w0 _ k _
            rw [Zbq,←HE3.out]
            unfold ZkT
            rw [ae,af,ag]
            exact (HW.out.set K ac _).drew
           clear ae af ag
           go_wp2_with fail
           cases v1<;>cases v2<;>cases v3 <;>
            (go_big_region
             go_wp2
             exact ⟨⟨e + 1,yE,yG,al⟩,by simp [intOf];omega⟩)
          ·have ar:e=k:=by omega
           go_wp2
           refine ⟨⟨c + 1,yE,yG,?_⟩,by simp [intOf];omega⟩
           show Qf w0 _ k _
           rw [Zbq,←HE2.out]
           have h:=HA.out
           rw [ar] at h
           exact h
        ·have au:c=k:=by omega
         go_wp2
         refine ⟨⟨a + 1,yE,yG,?_⟩,by simp [intOf];omega⟩
         show Qf w0 _ k _
         rw [Zbq,←HE1.out]
         have h:=HA.out
         rw [au] at h
         exact h
      ·have am:a=k:=by omega
       have HF:Hid (Qf w0 wr k (Zfc k b.reasons)):=by
        have h:=HA.out
        rw [am,HE.out] at h
        exact h
       clear HA am
       go_wp2
       go_ret
       exact ⟨w0,HB.out,rfl,HF.out⟩
theorem ZhX {b_0:Zu} {r:List (List Bool)} (h:ZaL b_0=some r):Zl prog J0 125 [(true,Qw b_0)] [(false,[(true,.sl 94 1 (A0 Zge r))])]:=by
 unfold ZaL at h
 split at h
 ·rename_i hok
  obtain rfl:=A3 h
  refine ⟨⟨f125,func125,by kernel_rfl,by kernel_rfl⟩,fun w z vs hj hz ha=>?_⟩
  cases vs with
  | nil=>exact ha.elim
  | cons v vs=>
   obtain ⟨ha,hr⟩:=ha
   cases vs with
   | cons _ _=>exact hr.elim
   | nil=>
    rcases ha with ⟨_,cs,L,rfl,hR,_⟩ | ⟨hf,_⟩
    ·refine (ZqN hok w cs L (Zqn.of hR)).mono ?_
     rintro e w' ⟨w0,hB,rfl,hM⟩
     have h24:b_0.nodes.toNat≤24:=by
      unfold Zl9 at hok
      rw [AE,decide_eq_true_iff] at hok
      omega
     obtain ⟨L2,hrep,hL2⟩:=hM.rep h24
     have hrc:=((ZvR.slice 4).sl 94).1 hrep
     have hno:∀y∈L2,¬z y:=fun y my hzy=>by
      have h1:=hz y hzy
      have h2:=hL2 y my
      have h3:=hB.size
      omega
     exact ⟨_,z,rfl,⟨[_],[],⟨_,[],[],[],rfl,rfl,.inr ⟨rfl,_,rfl,rfl,L2,hrc,hno⟩,rfl,rfl⟩,Own.nil _ _,rfl⟩,fun _ h=>h,hB.trans (hM.below.mono hB.size)⟩
    ·simp at hf
 ·cases h
end
section
theorem ZbJ {l_0:(List Zd)} {f_1:Zd} {r:Int} (h:Ql l_0 f_1=some r):Zl prog J0 62 [(false,[.sl 71 2 (A0 Zq l_0)]),(true,Zq f_1)] [(false,[(false,.int .i64 r)])]:=by
 refine fnk func62 rfl ?_
 unfold Ql at h
 simp only[fnS,f62,Zm,go_sem,seval]
 refine Zh h (fun i _ st=>IV [(0,yM (yO l_0)),(3,.bp 0 0),(5,yL i)] [yY 71 (Zq f_1)] st) [] [0] yF yD ?_ ?_
 rintro _ _ ⟨⟩ ⟨sl,ob,n⟩ _ a b e h f
 simp only[go_sem,seval,Zc] at b
 obtain ⟨⟨g,_,_⟩,_,hn⟩:=b
 subst hn
 have k:=WF.slotL e g (j:=0) rfl
 have:=ZB a
 have:=ZC a
 have:=Zj (ZA a) k
 simp only[*,go_sem,seval]
 refine Za h fun _ l h=>Zb (Zpy l)<|yA ?_
 refine yB h (fun _ h=>?_) fun _ h=>?_
 replace h:=Zo h f
 cases h;exact yD
 exact yC h [] [0]
 rintro ⟨⟩ ⟨sl,ob,n⟩ d _ h
 simp only[go_sem,seval,Zc] at d
 obtain ⟨⟨_,_,_⟩,_,hn⟩:=d
 subst hn
 have:=Zz (l_0.length)
 cases h;exact yD
theorem ZF7 {b_0:Zu} {r:Bool} (h:ZEb b_0=some r):Zl prog J0 289 [(true,Qw b_0)] [(false,[(false,.bool r)])]:=by
 refine fnk func289 rfl ?_
 unfold ZEb at h
 simp only[fnS,f289,Zm,go_sem,seval]
 refine Zh h (fun i _ st=>IV [(1,.bp 0 0),(3,yL i)] [.box 91 [.c (.int .i64 b_0.nodes),.c (yU b_0.reasons)]] st) [] [0] yF yD ?_ ?_
 rintro _ _ ⟨⟩ ⟨sl,ob,n⟩ _ a b e h f
 simp only[go_sem,seval,Zc] at b
 obtain ⟨⟨_,_⟩,g,hn⟩:=b
 subst hn
 have k:=WF.boxL e g (j:=1) rfl
 have:=ZB a
 have:=ZC a
 have:=Zj (ZA a) k
 simp only[*,go_sem,seval]
 refine Za h fun _ l h=>Zb (Zat l)<|yA ?_
 refine yB h (fun _ h=>?_) fun _ h=>?_
 refine Za h fun _ m h=>Zb (ZFm m)<|yA ?_
 refine yB h (fun _ h=>?_) fun _ h=>?_
 refine Za h fun _ o h=>Zb (ZFm o)<|yA ?_
 refine yB h (fun _ h=>?_) fun _ h=>?_
 refine ⟨_,[],[0],(A3 h).symm,yF,?_⟩
 iterate 3 (simp only[*,go_sem,seval];replace h:=Zo h f;cases h)
 simp only[*,go_sem,seval]
 rintro ⟨⟩ ⟨sl,ob,n⟩ d _ h
 simp only[go_sem,seval,Zc] at d
 obtain ⟨⟨_,_⟩,_,hn⟩:=d
 subst hn
 have:=Zz (b_0.reasons.length)
 simp only[*,go_sem,seval]
 refine Za h fun _ q h=>Zb (Zat q)<|yA ?_
 refine yB h (fun _ h=>?_) fun _ h=>?_
 iterate 2 (cases h;exact yD)
theorem ZdB {b_0:Zu} {r:Bool} (h:XI b_0=some r):Zl prog J0 60 [(true,Qw b_0)] [(false,[(false,.bool r)])]:=by
 refine fnk func60 rfl ?_
 unfold XI at h
 simp only[fnS,f60,Zm,go_sem,seval]
 refine Za h fun v1 q h=>Zb (Zkn q)<|yA ?_
 refine yB h (fun _ h=>?_) fun _ h=>?_
 obtain ⟨e,t,h⟩:=ZJ h
 refine ZkJ (ZhX t)<|yA ?_
 refine Zh h (fun i _ st=>IV [(3,yM (.sl 94 1 (A0 Zge e))),(14,yM (yU b_0.reasons)),(15,yL b_0.reasons.length),(16,yL i)] [] st) [] [] yF yD ?_ ?_
 rintro u a ⟨⟩ ⟨sl,ob,n⟩ _ b f v h g
 simp only[go_sem,seval,Zc] at f
 obtain ⟨⟨_,w,_,_⟩,hn⟩:=f
 subst hn
 have x:=WF.slotL v w (j:=0) rfl
 have:=ZB b
 have:=ZC b
 have:=Zj (ZA b) x
 simp only[*,go_sem,seval]
 refine Zh h (fun i _ st=>IV [(3,yM (.sl 94 1 (A0 Zge e))),(5,.bp 0 0),(14,yM (yU b_0.reasons)),(15,yL b_0.reasons.length),(16,yL u),(21,yM (yQ a.outs)),(22,yL a.outs.length),(23,yL i)] [yY 144 (ZL a)] st) [] [48] yF yD ?_ ?_
 rintro _ _ ⟨⟩ ⟨sl,ob,n⟩ _ d k y h l
 simp only[go_sem,seval,Zc] at k
 obtain ⟨⟨_,_,_,_,_,z,_,_⟩,_,hn⟩:=k
 subst hn
 have A:=WF.slotL y z (j:=0) rfl
 have:=ZB d
 have:=ZC d
 have:=Zj (ZA d) A
 simp only[*,go_sem,seval]
 refine yB h (fun _ h=>?_) fun _ h=>?_
 replace h:=Zo h l
 replace h:=Zo h g
 cases h;exact yD
 obtain ⟨_,_,_,_,h⟩:=Zci h
 obtain ⟨_,_,_,_,h⟩:=Zci h
 simp only[*,go_sem,seval]
 refine yB h (fun _ h=>?_) fun _ h=>?_
 replace h:=Zo h l
 replace h:=Zo h g
 cases h;exact yD
 exact yC h [] [0]
 rintro ⟨⟩ ⟨sl,ob,n⟩ m _ h
 simp only[go_sem,seval,Zc] at m
 obtain ⟨⟨_,_,_,_,_,_,_,_⟩,_,hn⟩:=m
 subst hn
 have:=Zz (a.outs.length)
 simp only[*,go_sem,seval]
 exact yC h [] []
 rintro ⟨⟩ ⟨sl,ob,n⟩ o _ h
 simp only[go_sem,seval,Zc] at o
 obtain ⟨⟨_,_,_,_⟩,hn⟩:=o
 subst hn
 have:=Zz (b_0.reasons.length)
 iterate 2 (cases h;exact yD)
theorem ZF2 {steps_0:(List ZvY)} {f_1:Zd} {r:Int} (h:ZEa steps_0 f_1=some r):Zl prog J0 104 [(false,[.sl 86 4 (A0 ZAO steps_0)]),(true,Zq f_1)] [(false,[(false,.int .i64 r)])]:=by
 refine fnk func104 rfl ?_
 unfold ZEa at h
 simp only[fnS,f104,Zm,go_sem,seval]
 refine Zh h (fun i _ st=>IV [(3,.bp 0 0),(7,yM (yX steps_0)),(8,yL steps_0.length),(9,yL i)] [yY 71 (Zq f_1)] st) [] [0] yF yD ?_ ?_
 rintro _ _ ⟨⟩ ⟨sl,ob,n⟩ _ a b e h f
 simp only[go_sem,seval,Zc] at b
 obtain ⟨⟨_,g,_,_⟩,_,hn⟩:=b
 subst hn
 have k:=WF.slotL e g (j:=0) rfl
 have:=ZB a
 have:=ZC a
 have:=Zj (ZA a) k
 simp only[*,go_sem,seval]
 refine Za h fun _ l h=>Zb (ZlS l)<|yA ?_
 refine yB h (fun _ h=>?_) fun _ h=>?_
 replace h:=Zo h f
 cases h;exact yD
 exact yC h [] [0]
 rintro ⟨⟩ ⟨sl,ob,n⟩ d _ h
 simp only[go_sem,seval,Zc] at d
 obtain ⟨⟨_,_,_,_⟩,_,hn⟩:=d
 subst hn
 have:=Zz (steps_0.length)
 cases h;exact yD
theorem ZGk {steps_0:(List ZvY)} {f_1:Zd} {r:Int} (h:ZEo steps_0 f_1=some r):Zl prog J0 99 [(false,[.sl 86 4 (A0 ZAO steps_0)]),(true,Zq f_1)] [(false,[(false,.int .i64 r)])]:=by
 refine fnk func99 rfl ?_
 unfold ZEo at h
 simp only[fnS,f99,Zm,go_sem,seval]
 refine Zh h (fun i _ st=>IV [(0,yM (yX steps_0)),(3,.bp 0 0),(5,yL i)] [yY 71 (Zq f_1)] st) [] [0] yF yD ?_ ?_
 rintro _ _ ⟨⟩ ⟨sl,ob,n⟩ _ a b e h f
 simp only[go_sem,seval,Zc] at b
 obtain ⟨⟨g,_,_⟩,_,hn⟩:=b
 subst hn
 have k:=WF.slotL e g (j:=0) rfl
 have:=ZB a
 have:=ZC a
 have:=Zj (ZA a) k
 simp only[*,go_sem,seval]
 refine Za h fun _ l h=>Zb (Zpy l)<|yA ?_
 refine yB h (fun _ h=>?_) fun _ h=>?_
 replace h:=Zo h f
 cases h;exact yD
 exact yC h [] [0]
 rintro ⟨⟩ ⟨sl,ob,n⟩ d _ h
 simp only[go_sem,seval,Zc] at d
 obtain ⟨⟨_,_,_⟩,_,hn⟩:=d
 subst hn
 have:=Zz (steps_0.length)
 cases h;exact yD
end
section
theorem XL {p_0:Zv} {r:Bool} (h:YR p_0=some r):Zl prog J0 93 [(true,Qz p_0)] [(false,[(false,.bool r)])]:=by
 refine fnk func93 rfl ?_
 unfold YR at h
 simp only[fnS,f93,Zm,go_sem,seval]
 refine Za h fun v1 e h=>Zb (ZfA e)<|yA ?_
 iterate 2 refine yB h (fun _ h=>?_) fun _ h=>?_
 cases h;exact yD
 refine Zh h (fun i _ st=>IV [(16,yM (yP p_0.args)),(17,yL p_0.args.length),(18,yL i)] [] st) [] [] yF yD ?_ ?_
 rintro _ _ ⟨⟩ ⟨sl,ob,n⟩ _ a b f h g
 simp only[go_sem,seval,Zc] at b
 obtain ⟨⟨k,_,_⟩,hn⟩:=b
 subst hn
 have l:=WF.slotL f k (j:=0) rfl
 have:=ZB a
 have:=ZC a
 have:=Zj (ZA a) l
 simp only[*,go_sem,seval]
 refine Za h fun _ m h=>Zb (QF m)<|yA ?_
 refine yB h (fun _ h=>?_) fun _ h=>?_
 exact yC h [] []
 replace h:=Zo h g
 cases h;exact yD
 rintro ⟨⟩ ⟨sl,ob,n⟩ d _ h
 simp only[go_sem,seval,Zc] at d
 obtain ⟨⟨_,_,_⟩,hn⟩:=d
 subst hn
 have:=Zz (p_0.args.length)
 iterate 2 (cases h;exact yD)
theorem Zo9 {a:(List Zp)} {b:ByteArray} {d:ByteArray} {r:((List Zp) × Bool)} (h:Zf0 a b d=some r):Zl prog J0 214 [(false,[.sl 135 2 (A0 ZZ a)]),(false,[.str b]),(false,[.str d])] [(false,[(false,.sl 135 2 (A0 ZZ r.1))]),(false,[(false,.bool r.2)])]:=by
 refine fnk func214 rfl ?_
 unfold Zf0 at h
 simp only[fnS,f214,Zm,go_sem,seval]
 refine Za h fun v1 o h=>Zb (Qk o)<|yA ?_
 refine yB h (fun _ h=>?_) fun _ h=>?_
 refine Za h fun _ q h=>Zb (ZcG q)<|yA ?_
 refine yB h (fun _ h=>?_) fun _ h=>?_
 refine Za h fun _ t h=>Zb (XS t)<|yA ?_
 refine yB h (fun _ h=>?_) fun _ h=>?_
 refine Za h fun _ u h=>Zb (Zcn u)<|yA ?_
 iterate 2 refine yB h (fun _ h=>?_) fun _ h=>?_
 refine Za h fun _ v h=>Zb (Zfq v) ?_
 iterate 2 (cases h;exact yD)
 refine yB h (fun _ h=>?_) fun _ h=>?_
 cases h;exact yD
 refine Zh h (fun i s st=>match s with | (e,f)=>IV [(1,yM (.str b)),(2,yM (.str d)),(10,.p false [.row 0]),(11,yM (.bool f)),(42,yM (yT a)),(43,yL a.length),(44,yL i)] [.row 135 2 (A0 ZZ e) 2] st) [(false,10,0)] [512] yF yD ?_ ?_
 rintro _ _ ⟨e,f⟩ ⟨sl,ob,n⟩ _ g l x h _
 simp only[go_sem,seval,Zc] at l
 obtain ⟨⟨_,_,_,_,y,_,_⟩,_,hn⟩:=l
 subst hn
 have z:=WF.slotL x y (j:=0) rfl
 have:=ZB g
 have:=ZC g
 have:=Zj (ZA g) z
 simp only[*,go_sem,seval]
 refine yB h (fun _ h=>?_) fun _ h=>?_
 obtain ⟨A,h⟩:=Zs h
 try simp only[Nat.reduceLeDiff] at A
 simp only[*,go_sem,seval]
 exact yC h [] [257]
 refine Ze h (fun k h=>?_) (fun k h=>?_)
 have B:=k
 obtain ⟨C,h⟩:=Zs h
 try simp only[Nat.reduceLeDiff] at C
 simp only[*,go_sem,seval]
 exact yC h [] [257]
 have B:=k
 obtain ⟨D,h⟩:=Zs h
 try simp only[Nat.reduceLeDiff] at D
 obtain ⟨E,h⟩:=Zs h
 try simp only[Nat.reduceLeDiff] at E
 simp only[*,go_sem,seval]
 exact yC h [] [385]
 rintro ⟨e,f⟩ ⟨sl,ob,n⟩ m _ h
 simp only[go_sem,seval,Zc] at m
 obtain ⟨⟨_,_,_,_,_,_,_⟩,_,hn⟩:=m
 subst hn
 have:=Zz (a.length)
 simp only[*,go_sem,seval]
 refine yB h (fun _ h=>?_) fun _ h=>?_
 cases h;exact yD
 obtain ⟨F,h⟩:=Zs h
 try simp only[Nat.reduceLeDiff] at F
 iterate 4 (cases h;exact yD)
theorem Zdp {a_0:Zd} {b_1:Zd} {r:Int} (h:XJ a_0 b_1=some r):Zl prog J0 193 [(true,Zq a_0),(true,Zq b_1)] [(false,[(false,.int .i64 r)])]:=by
 refine fnk func193 rfl ?_
 unfold XJ at h
 simp only[fnS,f193,Zm,go_sem,seval]
 refine Za h fun v1 f h=>Zb (Zhw f)<|yA ?_
 refine yB h (fun _ h=>?_) fun _ h=>?_
 cases h;exact yD
 refine Zh h (fun i _ st=>IV [(2,.bp 0 0),(3,.bp 1 0),(6,yL i)] [yY 71 (Zq a_0),yY 71 (Zq b_1)] st) [] [0,16] yF yD ?_ ?_
 rintro _ _ ⟨⟩ ⟨sl,ob,n⟩ _ a b g h d
 simp only[go_sem,seval,Zc] at b
 obtain ⟨⟨_,_,_⟩,k,_,hn⟩:=b
 subst hn
 have l:=WF.boxL g k (j:=1) rfl
 have:=ZB a
 have:=ZC a
 have:=Zj (ZA a) l
 simp only[*,go_sem,seval]
 refine yB h (fun _ h=>?_) fun _ h=>?_
 obtain ⟨_,_,_,m,h⟩:=Zci h
 simp only[AB] at m
 simp only[*,go_sem,seval]
 refine Za h fun _ o h=>Zb (ZhS o)<|yA ?_
 refine yB h (fun _ h=>?_) fun _ h=>?_
 replace h:=Zo h d
 cases h;exact yD
 exact yC h [] [0,1]
 refine Za h fun _ q h=>Zb (Zbp q) ?_
 replace h:=Zo h d
 cases h;exact yD
 rintro ⟨⟩ ⟨sl,ob,n⟩ e _ h
 simp only[go_sem,seval,Zc] at e
 obtain ⟨⟨_,_,_⟩,_,_,hn⟩:=e
 subst hn
 have:=Zz (a_0.args.length)
 simp only[*,go_sem,seval]
 refine Za h fun _ t h=>Zb (Zbp t) ?_
 cases h;exact yD
theorem ZcQ {r_0:Zf} {n_1:Int} {r:(List ByteArray)} (h:Qu r_0 n_1=some r):Zl prog J0 203 [(true,ZG r_0),(false,[.int .i64 n_1])] [(false,[(false,.sl 9 1 (A0 Zw r))])]:=by
 refine fnk func203 rfl ?_
 unfold Qu at h
 simp only[fnS,f203,Zm,go_sem,seval]
 refine Zh h (fun i a st=>IV [(1,yM (.int .i64 n_1)),(5,.p false [.row 0]),(9,yM (yS r_0.cond)),(10,yL r_0.cond.length),(11,yL i)] [.row 9 1 (A0 Zw a) 2] st) [(false,5,0)] [112] yF yD ?_ ?_
 rintro _ _ a ⟨sl,ob,n⟩ _ b d f h _
 simp only[go_sem,seval,Zc] at d
 obtain ⟨⟨_,_,g,_,_⟩,_,hn⟩:=d
 subst hn
 have k:=WF.slotL f g (j:=0) rfl
 have:=ZB b
 have:=ZC b
 have:=Zj (ZA b) k
 simp only[*,go_sem,seval]
 iterate 2 refine yB h (fun _ h=>?_) fun _ h=>?_
 refine Za h fun _ l h=>Zb (Zc1 l) ?_
 obtain ⟨_,h⟩:=Zs h
 simp only[*,go_sem,seval]
 exact yC h [] [321]
 exact yC h [] [0]
 exact yC h [] [0]
 rintro a ⟨sl,ob,n⟩ e _ h
 simp only[go_sem,seval,Zc] at e
 obtain ⟨⟨_,_,_,_,_⟩,_,hn⟩:=e
 subst hn
 have:=Zz (r_0.cond.length)
 simp only[*,go_sem,seval]
 refine Za h fun _ m h=>Zb (XK m) ?_
 cases h;exact yD
theorem ZbA {x_0:Zr} {r:(List ByteArray)} (h:X1 x_0=some r):Zl prog J0 255 [(true,ZK x_0)] [(false,[(false,.sl 9 1 (A0 Zw r))])]:=by
 refine fnk func255 rfl ?_
 unfold X1 at h
 simp only[fnS,f255,Zm,go_sem,seval]
 refine Za h fun v1 a h=>Zb (ZnX a)<|yA ?_
 refine Za h fun _ b h=>Zb (Zc1 b)<|yA ?_
 refine Za h fun _ c h=>Zb (XK c) ?_
 cases h;exact yD
theorem ZhC {facts_0:(List Zd)} {l_1:(List Zd)} {r:(List Int)} (h:Zcr facts_0 l_1=some r):Zl prog J0 175 [(false,[.sl 71 2 (A0 Zq facts_0)]),(false,[.sl 71 2 (A0 Zq l_1)])] [(false,[(false,.sl 3 1 (A0 Z5 r))])]:=by
 refine fnk func175 rfl ?_
 unfold Zcr at h
 simp only[fnS,f175,Zm,go_sem,seval]
 refine Zh h (fun i a st=>IV [(0,yM (yO facts_0)),(5,.p false [.row 0]),(9,yM (yO l_1)),(10,yL l_1.length),(11,yL i)] [.row 3 1 (A0 Z5 a) 2] st) [(false,5,0)] [80] yF yD ?_ ?_
 rintro _ _ a ⟨sl,ob,n⟩ _ b d f h _
 simp only[go_sem,seval,Zc] at d
 obtain ⟨⟨_,_,g,_,_⟩,_,hn⟩:=d
 subst hn
 have k:=WF.slotL f g (j:=0) rfl
 have:=ZB b
 have:=ZC b
 have:=Zj (ZA b) k
 simp only[*,go_sem,seval]
 refine Za h fun _ l h=>Zb (ZbG l)<|yA ?_
 refine yB h (fun _ h=>?_) fun _ h=>?_
 refine Za h fun _ m h=>Zb (Zph m)<|yA ?_
 refine yB h (fun _ h=>?_) fun _ h=>?_
 exact yC h [] [0]
 obtain ⟨o,h⟩:=Zs h
 try simp only[Nat.reduceLeDiff] at o
 simp only[*,go_sem,seval]
 exact yC h [] [321]
 exact yC h [] [0]
 rintro a ⟨sl,ob,n⟩ e _ h
 simp only[go_sem,seval,Zc] at e
 obtain ⟨⟨_,_,_,_,_⟩,_,hn⟩:=e
 subst hn
 have:=Zz (l_1.length)
 simp only[*,go_sem,seval]
 obtain ⟨_,q,h⟩:=ZJ h
 refine QC (Zly q) ?_
 cases h;exact yD
theorem Qp {s_0:ByteArray} {r:Bool} (h:Qv s_0=some r):Zl prog J0 158 [(false,[.str s_0])] [(false,[(false,.bool r)])]:=by
 refine fnk func158 rfl ?_
 unfold Qv at h
 simp only[fnS,f158,Zm,go_sem,seval]
 refine Za h fun v1 a h=>Zb (XR a)<|yA ?_
 refine yB h (fun _ h=>?_) fun _ h=>?_
 cases h;exact yD
 refine Za h fun _ b h=>Zb (Qq b) ?_
 cases h;exact yD
theorem ZbQ {p_0:Zv} {r:(List ByteArray)} (h:Za0 p_0=some r):Zl prog J0 155 [(true,Qz p_0)] [(false,[(false,.sl 9 1 (A0 Zw r))])]:=by
 refine fnk func155 rfl ?_
 unfold Za0 at h
 simp only[fnS,f155,Zm,go_sem,seval]
 refine Zh h (fun i a st=>IV [(1,.bp 0 0),(3,.p false [.row 1]),(4,yL i)] [.box 58 [.c (.str p_0.rel),.c (yP p_0.args)],.row 9 1 (A0 Zw a) 2] st) [] [0,32] yF yD ?_ ?_
 rintro _ _ a ⟨sl,ob,n⟩ _ b d f h _
 simp only[go_sem,seval,Zc] at d
 obtain ⟨⟨_,_,_⟩,g,_,hn⟩:=d
 subst hn
 have k:=WF.boxL f g (j:=1) rfl
 have:=ZB b
 have:=ZC b
 have:=Zj (ZA b) k
 simp only[*,go_sem,seval]
 refine Za h fun _ l h=>Zb (Qq l)<|yA ?_
 refine yB h (fun _ h=>?_) fun _ h=>?_
 refine Za h fun _ m h=>Zb (Y1 m)<|yA ?_
 exact yC h [] [0,274]
 exact yC h [] [0,1]
 rintro a ⟨sl,ob,n⟩ e _ h
 simp only[go_sem,seval,Zc] at e
 obtain ⟨⟨_,_,_⟩,_,_,hn⟩:=e
 subst hn
 have:=Zz (p_0.args.length)
 cases h;exact yD
theorem Za3 {a_0:Zd} {b_1:Zd} {r:Int} (h:YZ a_0 b_1=some r):Zl prog J0 52 [(true,Zq a_0),(true,Zq b_1)] [(false,[(false,.int .i64 r)])]:=by
 refine fnk func52 rfl ?_
 unfold YZ at h
 simp only[fnS,f52,Zm,go_sem,seval]
 refine yB h (fun _ h=>?_) fun _ h=>?_
 refine Zh h (fun i _ st=>IV [(2,.bp 0 0),(3,.bp 1 0),(5,yL i)] [yY 71 (Zq a_0),yY 71 (Zq b_1)] st) [] [0,16] yF yD ?_ ?_
 rintro _ _ ⟨⟩ ⟨sl,ob,n⟩ _ a d f h b
 simp only[go_sem,seval,Zc] at d
 obtain ⟨⟨_,_,_⟩,g,_,hn⟩:=d
 subst hn
 have k:=WF.boxL f g (j:=1) rfl
 have:=ZB a
 have:=ZC a
 have:=Zj (ZA a) k
 simp only[*,go_sem,seval]
 refine yB h (fun _ h=>?_) fun _ h=>?_
 obtain ⟨_,_,_,l,h⟩:=Zci h
 simp only[AB] at l
 simp only[*,go_sem,seval]
 refine Za h fun _ m h=>Zb (Zdr m)<|yA ?_
 refine yB h (fun _ h=>?_) fun _ h=>?_
 replace h:=Zo h b
 cases h;exact yD
 exact yC h [] [0,1]
 refine yB h (fun _ h=>?_) fun _ h=>?_
 replace h:=Zo h b
 cases h;exact yD
 refine yB h (fun _ h=>?_) fun _ h=>?_
 iterate 2 (replace h:=Zo h b;cases h;simp only[*,go_sem,seval])
 rintro ⟨⟩ ⟨sl,ob,n⟩ e _ h
 simp only[go_sem,seval,Zc] at e
 obtain ⟨⟨_,_,_⟩,_,_,hn⟩:=e
 subst hn
 have:=Zz (a_0.args.length)
 iterate 2 (simp only[*,go_sem,seval];(refine Ze h (fun _ h=>?_) fun _ h=>?_<;>try simp only[*,go_sem,seval]);cases h)
 simp only[*,go_sem,seval]
 cases h;exact yD
 refine Za h fun _ o h=>Zb (Zkf o) ?_
 cases h;exact yD
theorem Zjg {f_0:Zd} {r:Bool} (h:ZdZ f_0=some r):Zl prog J0 188 [(true,Zq f_0)] [(false,[(false,.bool r)])]:=by
 refine fnk func188 rfl ?_
 unfold ZdZ at h
 simp only[fnS,f188,Zm,go_sem,seval]
 refine Zh h (fun i _ st=>IV [(1,.bp 0 0),(3,yL i)] [yY 71 (Zq f_0)] st) [] [0] yF yD ?_ ?_
 rintro _ _ ⟨⟩ ⟨sl,ob,n⟩ _ a b e h f
 simp only[go_sem,seval,Zc] at b
 obtain ⟨⟨_,_⟩,g,hn⟩:=b
 subst hn
 have k:=WF.boxL e g (j:=1) rfl
 have:=ZB a
 have:=ZC a
 have:=Zj (ZA a) k
 simp only[*,go_sem,seval]
 refine Za h fun _ l h=>Zb (XR l)<|yA ?_
 refine yB h (fun _ h=>?_) fun _ h=>?_
 exact yC h [] [0]
 replace h:=Zo h f
 cases h;exact yD
 rintro ⟨⟩ ⟨sl,ob,n⟩ d _ h
 simp only[go_sem,seval,Zc] at d
 obtain ⟨⟨_,_⟩,_,hn⟩:=d
 subst hn
 have:=Zz (f_0.args.length)
 simp only[*,go_sem,seval]
 refine Za h fun _ m h=>Zb (ZfW m)<|yA ?_
 refine yB h (fun _ h=>?_) fun _ h=>?_
 iterate 2 (cases h;exact yD)
theorem Qy {b_0:(List Zp)} {r:Bool} (h:Xt b_0=some r):Zl prog J0 89 [(false,[.sl 135 2 (A0 ZZ b_0)])] [(false,[(false,.bool r)])]:=by
 refine fnk func89 rfl ?_
 unfold Xt at h
 simp only[fnS,f89,Zm,go_sem,seval]
 refine Zh h (fun i _ st=>IV [(0,yM (yT b_0)),(3,yL i)] [] st) [] [] yF yD ?_ ?_
 rintro _ _ ⟨⟩ ⟨sl,ob,n⟩ _ a b f h d
 simp only[go_sem,seval,Zc] at b
 obtain ⟨⟨g,_⟩,hn⟩:=b
 subst hn
 have k:=WF.slotL f g (j:=0) rfl
 have:=ZB a
 have:=ZC a
 have:=Zj (ZA a) k
 simp only[*,go_sem,seval]
 refine Za h fun _ l h=>Zb (Qq l)<|yA ?_
 refine yB h (fun _ h=>?_) fun _ h=>?_
 refine Za h fun _ m h=>Zb (XR m)<|yA ?_
 iterate 2 refine yB h (fun _ h=>?_) fun _ h=>?_
 obtain ⟨_,_,_,_,h⟩:=Zci h
 simp only[*,go_sem,seval]
 refine yB h (fun _ h=>?_) fun _ h=>?_
 exact yC h [] []
 replace h:=Zo h d
 cases h;exact yD
 refine ⟨_,[],[],(A3 h).symm,yF,?_⟩
 iterate 2 (simp only[*,go_sem,seval];replace h:=Zo h d;cases h)
 simp only[*,go_sem,seval]
 rintro ⟨⟩ ⟨sl,ob,n⟩ e _ h
 simp only[go_sem,seval,Zc] at e
 obtain ⟨⟨_,_⟩,hn⟩:=e
 subst hn
 have:=Zz (b_0.length)
 cases h;exact yD
theorem Zcl {b_0:(List Zp)} {term_1:ByteArray} {r:(ByteArray × Bool)} (h:ZaI b_0 term_1=some r):Zl prog J0 162 [(false,[.sl 135 2 (A0 ZZ b_0)]),(false,[.str term_1])] [(false,[(false,.str r.1)]),(false,[(false,.bool r.2)])]:=by
 refine fnk func162 rfl ?_
 unfold ZaI at h
 have e:Z2 ⟨#[]⟩=true:=by decide
 simp only[fnS,f162,Zm,go_sem,seval,e]
 refine Za h fun v1 f h=>Zb (XR f)<|yA ?_
 refine yB h (fun _ h=>?_) fun _ h=>?_
 cases h;exact yD
 refine Zh h (fun i _ st=>IV [(0,yM (yT b_0)),(1,yM (.str term_1)),(6,yL i)] [] st) [] [] yF yD ?_ ?_
 rintro _ _ ⟨⟩ ⟨sl,ob,n⟩ _ a b g h k
 simp only[go_sem,seval,Zc] at b
 obtain ⟨⟨l,_,_⟩,hn⟩:=b
 subst hn
 have m:=WF.slotL g l (j:=0) rfl
 have:=ZB a
 have:=ZC a
 have:=Zj (ZA a) m
 simp only[*,go_sem,seval]
 refine yB h (fun _ h=>?_) fun _ h=>?_
 refine Za h fun _ o h=>Zb (Qq o)<|yA ?_
 refine yB h (fun _ h=>?_) fun _ h=>?_
 replace h:=Zo h k
 cases h;exact yD
 exact yC h [] []
 exact yC h [] []
 rintro ⟨⟩ ⟨sl,ob,n⟩ d _ h
 simp only[go_sem,seval,Zc] at d
 obtain ⟨⟨_,_,_⟩,hn⟩:=d
 subst hn
 have:=Zz (b_0.length)
 cases h;exact yD
theorem Zoi {t_0:Zt} {r:Zt} (h:ZfQ t_0=some r):Zl prog J0 247 [(true,YE t_0)] [(true,[(false,.sl 71 2 (A0 Zq r.facts)),(false,.sl 135 2 (A0 ZZ r.binding))])]:=by
 refine fnk func247 rfl ?_
 unfold ZfQ at h
 simp only[fnS,f247,Zm,go_sem,seval]
 refine Za h fun v1 a h=>Zb (ZdO a)<|yA ?_
 refine Za h fun _ b h=>Zb (Zf8 b) ?_
 cases h;exact yD
theorem ZgA {l_0:(List Zd)} {facts_1:(List Zd)} {r:(List Int)} (h:Zbu l_0 facts_1=some r):Zl prog J0 230 [(false,[.sl 71 2 (A0 Zq l_0)]),(false,[.sl 71 2 (A0 Zq facts_1)])] [(false,[(false,.sl 3 1 (A0 Z5 r))])]:=by
 refine fnk func230 rfl ?_
 unfold Zbu at h
 simp only[fnS,f230,Zm,go_sem,seval]
 refine Zh h (fun i a st=>IV [(0,yM (yO l_0)),(1,yM (yO facts_1)),(5,.p false [.row 0]),(6,yL i)] [.row 3 1 (A0 Z5 a) 2] st) [] [16] yF yD ?_ ?_
 rintro _ _ a ⟨sl,ob,n⟩ _ b d f h _
 simp only[go_sem,seval,Zc] at d
 obtain ⟨⟨_,g,_,_⟩,_,hn⟩:=d
 subst hn
 have k:=WF.slotL f g (j:=0) rfl
 have:=ZB b
 have:=ZC b
 have:=Zj (ZA b) k
 simp only[*,go_sem,seval]
 refine Za h fun _ l h=>Zb (ZbJ l)<|yA ?_
 refine yB h (fun _ h=>?_) fun _ h=>?_
 refine Za h fun _ m h=>Zb (Zpb m)<|yA ?_
 exact yC h [] [241]
 exact yC h [] [0]
 rintro a ⟨sl,ob,n⟩ e _ h
 simp only[go_sem,seval,Zc] at e
 obtain ⟨⟨_,_,_,_⟩,_,hn⟩:=e
 subst hn
 have:=Zz (facts_1.length)
 cases h;exact yD
end
end Go.Proofs.YtekbmedphidcgaaGreatDoor
