/- Texts of this proof, joined: Shelf, LItoa, LCompare, LJoin, SortH, SortS, SortZ, LAtoi, Ext, Dp0, Dp1, Dp3, Dp2, BStd, DE, Dp4, Dp6, Dp5, Dp7. What each holds is said at its theorems. -/
import Derived.Shelf.Strings.Builder1
import Derived.Shelf.Strings.Builder2
import Derived.Shelf.Strings.OnBuilder
import Derived.Shelf.Small.Strs
import Derived.Shelf.Small.Wraps
import Derived.Shelf.Strconv.Atoi
import Derived.Shelf.Strconv.Itoa0
import Derived.Shelf.Strconv.Itoa1
import Derived.Shelf.LaysM
import Derived.Shelf.Strconv.Itoa2
import Derived.Shelf.Strconv.Itoa3
import Derived.Shelf.Strconv.AtoiErrFast
import Derived.Shelf.Strconv.ParseIntEmpty
import Derived.Shelf.Strconv.AtoiFail
import Derived.Shelf.Strconv.Clone
import Derived.Shelf.Strconv.SyntaxError
import Derived.Shelf.LaysC
import Derived.Shelf.Strconv.ToError
import Derived.Shelf.Strconv.AtoiErr
import Derived.Shelf.Strconv.ErrVar
import Derived.Shelf.Sort.Plain
import Derived.Shelf.Slices.In.SortNone
import Derived.Shelf.Slices.In.SortNone2
import Derived.Test.YtlpkbfjcdaanmaaGreatDoorProg
import Derived.Test.YtlpkbfjcdaanmaaGreatDoorWhyNotQ5
import Derived.Test.YtlpkbfjcdaanmaaGreatDoorWhyNotQ1
import Derived.Lib.AppendIntMem
import Derived.Lib.ItoaLen
import Derived.Lib.AtoiErrMem
import Derived.Test.YtlpkbfjcdaanmaaGreatDoorWhyNotQ4
open Array renaming getElem?_toList→AG,getElem?_modify→AH
open Bool renaming false_or→A8,or_false→A9
open Int renaming toNat_natCast→A7
open List renaming map→A0,append_nil→A4,nil_append→A5,append_assoc→A6,getElem?_map→AA,size_toArray→AB,eq_nil_of_length_eq_zero→AC,length_map→AD,getElem?_take→AE,getElem?_drop→AF,map_map→AI
open Option.some renaming inj→A3
open Go.Proofs.Tryz
set_option linter.unusedSimpArgs false
set_option linter.unusedVariables false
set_option maxRecDepth 1000000
set_option maxHeartbeats 4000000
namespace Go.Proofs
open Go.Shelf
def lays156_ren:Go.Shelf.Ren:=⟨fun | 156=>241 | 165=>280 | 166=>281 | 169=>282 | 240=>311 | 241=>312 | 276=>332 | 277=>333 | n=>n,fun | 31=>46 | 9=>9 | 3=>3 | 4=>4 | 0=>0 | 20=>20 | 72=>267 | 76=>271 | 70=>265 | 37=>63 | 75=>270 | 127=>289 | 164=>302 | 5=>5 | 80=>273 | n=>n,fun | n=>n⟩
theorem lays156:Go.Proofs.Lays.n156 prog lays156_ren:={
 mixed:=by kernel_rfl
 f156:=func241.trans (congrArg some (by kernel_rfl))
 f165:=func280.trans (congrArg some (by kernel_rfl))
 f166:=func281.trans (congrArg some (by kernel_rfl))
 f169:=func282.trans (congrArg some (by kernel_rfl))
 f240:=func311.trans (congrArg some (by kernel_rfl))
 f241:=func312.trans (congrArg some (by kernel_rfl))
 f276:=func332.trans (congrArg some (by kernel_rfl))
 f277:=func333.trans (congrArg some (by kernel_rfl))
 t0:=underlying0
 a0:=isAgg0
 z0:=sizeOf0
 v0:=zeroValue0
 t3:=underlying3
 a3:=isAgg3
 z3:=sizeOf3
 v3:=zeroValue3
 t4:=underlying4
 a4:=isAgg4
 z4:=sizeOf4
 v4:=zeroValue4
 t9:=underlying9
 a9:=isAgg9
 z9:=sizeOf9
 v9:=zeroValue9
 t20:=underlying20
 a20:=isAgg20
 z20:=sizeOf20
 v20:=zeroValue20
 t31:=underlying46
 a31:=isAgg46
 z31:=sizeOf46
 v31:=zeroValue46
 t37:=underlying63
 a37:=isAgg63
 z37:=sizeOf63
 v37:=zeroValue63
 t70:=underlying265
 a70:=isAgg265
 z70:=sizeOf265
 v70:=zeroValue265
 t72:=underlying267
 a72:=isAgg267
 z72:=sizeOf267
 v72:=zeroValue267
 t75:=underlying270
 a75:=isAgg270
 z75:=sizeOf270
 v75:=zeroValue270
 t76:=underlying271
 a76:=isAgg271
 z76:=sizeOf271
 v76:=zeroValue271
 t127:=underlying289
 a127:=isAgg289
 z127:=sizeOf289
 v127:=zeroValue289
 t164:=underlying302
 a164:=isAgg302
 z164:=sizeOf302
 v164:=zeroValue302 }
theorem Tryz.Builder_Extra_156:Builder.Extra prog lays156_ren:={
 sizeBuilder:=by kernel_rfl
 liesBuilder:=by kernel_rfl
 t5:=underlying5
 a5:=isAgg5
 z5:=sizeOf5
 v5:=zeroValue5
 infoByte:=by kernel_rfl
 cellsByte:=by kernel_rfl
 sizeByte:=by kernel_rfl
 neB5:=by decide }
open Go.RowKit in
theorem strings_Join_none (a:Option Addr) (c:Nat) (b:ByteArray) (w:World):
  Calls prog 241 #[.slice a 0 c,.string b] w fun e w'=>e=.returned (.string ⟨#[]⟩)∧w'=w:=Any.strings_Join_none lays156 Tryz.Builder_Extra_156 a c b w
open Go.RowKit in
theorem strings_Join (bk o c:Nat) (xs:List ByteArray) (a:ByteArray) (w:World) (b:∀(j:Nat) x,xs[j]?=some x→w.cell? ⟨bk,o+j,none⟩=some (.string x)) (g:bk<w.heap.size) (hN:xs.length≤140737488355328) (d:xs.length≤c) (f:(Lib.join (xs.map (·.data.toList)) a.data.toList).length≤140737488355328):
  Calls prog 241 #[.slice (some ⟨bk,o,none⟩) xs.length c,.string a] w fun e w'=>e=.returned (.string ⟨(Lib.join (xs.map (·.data.toList)) a.data.toList).toArray⟩)∧Below w.heap.size w w':=Any.strings_Join lays156 Tryz.Builder_Extra_156 bk o c xs a w b g hN d f
def lays106_ren:Go.Shelf.Ren:=⟨fun | 106=>238 | 213=>279 | 265=>310 | n=>n,fun | 9=>9 | 3=>3 | n=>n,fun | n=>n⟩
theorem lays106:Go.Proofs.Lays.n106 prog lays106_ren:={
 mixed:=by kernel_rfl
 f106:=func238.trans (congrArg some (by kernel_rfl))
 f213:=func279.trans (congrArg some (by kernel_rfl))
 f265:=func310.trans (congrArg some (by kernel_rfl))
 t3:=underlying3
 a3:=isAgg3
 z3:=sizeOf3
 v3:=zeroValue3
 t9:=underlying9
 a9:=isAgg9
 z9:=sizeOf9
 v9:=zeroValue9 }
open Go.RowKit in
theorem strings_Compare (a b:ByteArray) (w:World):
  Calls prog 238 #[.string a,.string b] w fun e w'=>e=.returned (.int .i64 (Lib.compareBytes a.data.toList b.data.toList))∧w'=w:=Any.strings_Compare lays106 a b w
def lays172_ren:Go.Shelf.Ren:=⟨fun | 172=>287 | 244=>316 | 245=>317 | 247=>344 | 279=>345 | 280=>346 | 281=>347 | 282=>348 | 287=>370 | 316=>371 | 171=>159 | 205=>372 | 321=>379 | 322=>380 | 243=>222 | 246=>265 | 283=>298 | 284=>299 | 285=>300 | 286=>301 | 129=>322 | 317=>321 | 318=>323 | 319=>324 | 320=>325 | 337=>358 | 338=>359 | n=>n,fun | 9=>9 | 3=>3 | 75=>270 | 76=>271 | 4=>4 | 5=>5 | 167=>314 | 37=>63 | 0=>0 | 85=>315 | 2=>2 | 168=>317 | 53=>279 | 175=>337 | 46=>261 | 210=>341 | 127=>289 | 145=>355 | 143=>353 | 21=>21 | 171=>278 | 173=>282 | 212=>296 | 51=>297 | 20=>20 | 213=>298 | 232=>345 | 233=>346 | 80=>273 | n=>n,fun | 15=>3 | 16=>4 | 17=>2 | 18=>5 | 19=>6 | n=>n⟩
theorem lays172:Go.Proofs.Lays.n172 prog lays172_ren:={
 mixed:=by kernel_rfl
 f129:=func322.trans (congrArg some (by kernel_rfl))
 f171:=func159.trans (congrArg some (by kernel_rfl))
 f172:=func287.trans (congrArg some (by kernel_rfl))
 f205:=func372.trans (congrArg some (by kernel_rfl))
 f243:=func222.trans (congrArg some (by kernel_rfl))
 f244:=func316.trans (congrArg some (by kernel_rfl))
 f245:=func317.trans (congrArg some (by kernel_rfl))
 f246:=func265.trans (congrArg some (by kernel_rfl))
 f247:=func344.trans (congrArg some (by kernel_rfl))
 f279:=func345.trans (congrArg some (by kernel_rfl))
 f280:=func346.trans (congrArg some (by kernel_rfl))
 f281:=func347.trans (congrArg some (by kernel_rfl))
 f282:=func348.trans (congrArg some (by kernel_rfl))
 f283:=func298.trans (congrArg some (by kernel_rfl))
 f284:=func299.trans (congrArg some (by kernel_rfl))
 f285:=func300.trans (congrArg some (by kernel_rfl))
 f286:=func301.trans (congrArg some (by kernel_rfl))
 f287:=func370.trans (congrArg some (by kernel_rfl))
 f316:=func371.trans (congrArg some (by kernel_rfl))
 f317:=func321.trans (congrArg some (by kernel_rfl))
 f318:=func323.trans (congrArg some (by kernel_rfl))
 f319:=func324.trans (congrArg some (by kernel_rfl))
 f320:=func325.trans (congrArg some (by kernel_rfl))
 f321:=func379.trans (congrArg some (by kernel_rfl))
 f322:=func380.trans (congrArg some (by kernel_rfl))
 f337:=func358.trans (congrArg some (by kernel_rfl))
 f338:=func359.trans (congrArg some (by kernel_rfl))
 t0:=underlying0
 a0:=isAgg0
 z0:=sizeOf0
 v0:=zeroValue0
 t2:=underlying2
 a2:=isAgg2
 z2:=sizeOf2
 v2:=zeroValue2
 t3:=underlying3
 a3:=isAgg3
 z3:=sizeOf3
 v3:=zeroValue3
 t4:=underlying4
 a4:=isAgg4
 z4:=sizeOf4
 v4:=zeroValue4
 t5:=underlying5
 a5:=isAgg5
 z5:=sizeOf5
 v5:=zeroValue5
 t9:=underlying9
 a9:=isAgg9
 z9:=sizeOf9
 v9:=zeroValue9
 t20:=underlying20
 a20:=isAgg20
 z20:=sizeOf20
 v20:=zeroValue20
 t21:=underlying21
 a21:=isAgg21
 z21:=sizeOf21
 v21:=zeroValue21
 t37:=underlying63
 a37:=isAgg63
 z37:=sizeOf63
 v37:=zeroValue63
 t46:=underlying261
 a46:=isAgg261
 z46:=sizeOf261
 v46:=zeroValue261
 t51:=underlying297
 a51:=isAgg297
 z51:=sizeOf297
 v51:=zeroValue297
 t53:=underlying279
 a53:=isAgg279
 z53:=sizeOf279
 v53:=zeroValue279
 t75:=underlying270
 a75:=isAgg270
 z75:=sizeOf270
 v75:=zeroValue270
 t76:=underlying271
 a76:=isAgg271
 z76:=sizeOf271
 v76:=zeroValue271
 t85:=underlying315
 a85:=isAgg315
 z85:=sizeOf315
 v85:=zeroValue315
 t127:=underlying289
 a127:=isAgg289
 z127:=sizeOf289
 v127:=zeroValue289
 t143:=underlying353
 a143:=isAgg353
 z143:=sizeOf353
 v143:=zeroValue353
 t145:=underlying355
 a145:=isAgg355
 z145:=sizeOf355
 v145:=zeroValue355
 t167:=underlying314
 a167:=isAgg314
 z167:=sizeOf314
 v167:=zeroValue314
 t168:=underlying317
 a168:=isAgg317
 z168:=sizeOf317
 v168:=zeroValue317
 t171:=underlying278
 a171:=isAgg278
 z171:=sizeOf278
 v171:=zeroValue278
 t173:=underlying282
 a173:=isAgg282
 z173:=sizeOf282
 v173:=zeroValue282
 t175:=underlying337
 a175:=isAgg337
 z175:=sizeOf337
 v175:=zeroValue337
 t210:=underlying341
 a210:=isAgg341
 z210:=sizeOf341
 v210:=zeroValue341
 t212:=underlying296
 a212:=isAgg296
 z212:=sizeOf296
 v212:=zeroValue296
 t213:=underlying298
 a213:=isAgg298
 z213:=sizeOf298
 t232:=underlying345
 a232:=isAgg345
 z232:=sizeOf345
 v232:=zeroValue345
 t233:=underlying346
 a233:=isAgg346
 z233:=sizeOf346
 v233:=zeroValue346
 g15:=by kernel_rfl
 g16:=by kernel_rfl
 g17:=by kernel_rfl
 g18:=by kernel_rfl
 g19:=by kernel_rfl }
open Go.RowKit in
theorem strconv_Atoi (s:ByteArray) (n:Int) (hl:s.size≤18) (h:Lib.atoi s.data.toList=some n) (w:World):
  Calls prog 287 #[.string s] w fun e w'=>e=.returned (.tuple #[.int .i64 n,.nilIface])∧∃t,w'=Lib.bytesWorld w 5 t:=Any.strconv_Atoi lays172 s n hl h w
def laysM171_ren:Go.Shelf.Ren:=⟨fun | 171=>159 | 243=>222 | 246=>265 | 283=>298 | 284=>299 | 285=>300 | 286=>301 | 129=>322 | 317=>321 | 318=>323 | 319=>324 | 320=>325 | 337=>358 | 338=>359 | n=>n,fun | 3=>3 | 9=>9 | 2=>2 | 4=>4 | 171=>278 | 0=>0 | 53=>279 | 37=>63 | 5=>5 | 173=>282 | 212=>296 | 51=>297 | 20=>20 | 213=>298 | 46=>261 | 232=>345 | 233=>346 | n=>n,fun | 17=>2 | 18=>5 | 19=>6 | n=>n⟩
theorem laysM171:Go.Proofs.LaysM.n171 prog laysM171_ren:={
 mixed:=by kernel_rfl
 f129:=func322.trans (congrArg some (by kernel_rfl))
 f171:=func159.trans (congrArg some (by kernel_rfl))
 f243:=func222.trans (congrArg some (by kernel_rfl))
 f246:=func265.trans (congrArg some (by kernel_rfl))
 f283:=func298.trans (congrArg some (by kernel_rfl))
 f284:=func299.trans (congrArg some (by kernel_rfl))
 f285:=func300.trans (congrArg some (by kernel_rfl))
 f286:=func301.trans (congrArg some (by kernel_rfl))
 f317:=func321.trans (congrArg some (by kernel_rfl))
 f318:=func323.trans (congrArg some (by kernel_rfl))
 f319:=func324.trans (congrArg some (by kernel_rfl))
 f320:=func325.trans (congrArg some (by kernel_rfl))
 f337:=func358.trans (congrArg some (by kernel_rfl))
 f338:=func359.trans (congrArg some (by kernel_rfl))
 t0:=underlying0
 a0:=isAgg0
 z0:=sizeOf0
 v0:=zeroValue0
 t2:=underlying2
 a2:=isAgg2
 z2:=sizeOf2
 v2:=zeroValue2
 t3:=underlying3
 a3:=isAgg3
 z3:=sizeOf3
 v3:=zeroValue3
 t4:=underlying4
 a4:=isAgg4
 z4:=sizeOf4
 v4:=zeroValue4
 t5:=underlying5
 a5:=isAgg5
 z5:=sizeOf5
 v5:=zeroValue5
 t9:=underlying9
 a9:=isAgg9
 z9:=sizeOf9
 v9:=zeroValue9
 t20:=underlying20
 a20:=isAgg20
 z20:=sizeOf20
 v20:=zeroValue20
 t37:=underlying63
 a37:=isAgg63
 z37:=sizeOf63
 v37:=zeroValue63
 t46:=underlying261
 a46:=isAgg261
 z46:=sizeOf261
 v46:=zeroValue261
 t51:=underlying297
 a51:=isAgg297
 z51:=sizeOf297
 v51:=zeroValue297
 t53:=underlying279
 a53:=isAgg279
 z53:=sizeOf279
 v53:=zeroValue279
 t171:=underlying278
 a171:=isAgg278
 z171:=sizeOf278
 v171:=zeroValue278
 t173:=underlying282
 a173:=isAgg282
 z173:=sizeOf282
 v173:=zeroValue282
 t212:=underlying296
 a212:=isAgg296
 z212:=sizeOf296
 v212:=zeroValue296
 t213:=underlying298
 a213:=isAgg298
 z213:=sizeOf298
 t232:=underlying345
 a232:=isAgg345
 z232:=sizeOf345
 v232:=zeroValue345
 t233:=underlying346
 a233:=isAgg346
 z233:=sizeOf346
 v233:=zeroValue346
 g17:=by kernel_rfl
 g18:=by kernel_rfl
 g19:=by kernel_rfl
 i0:=by kernel_rfl
 i2:=by kernel_rfl
 i3:=by kernel_rfl
 i4:=by kernel_rfl
 i5:=by kernel_rfl
 i9:=by kernel_rfl
 i20:=by kernel_rfl
 i37:=by kernel_rfl
 i46:=by kernel_rfl
 i51:=by kernel_rfl
 i53:=by kernel_rfl
 i171:=by kernel_rfl
 i173:=by kernel_rfl
 i212:=by kernel_rfl
 i232:=by kernel_rfl
 i233:=by kernel_rfl
 m17:=by kernel_rfl
 m18:=by kernel_rfl
 m19:=by kernel_rfl }
open Go.RowKit Go.Sort Go.Lib in
theorem strconv_Itoa (n : Int) (h0 : -9223372036854775808 ≤ n) (h1 : n ≤ 9223372036854775807) (w : World) (htab : Lib.TabIs prog w "internal/strconv.uint64pow10" .u64 Lib.pow10Tab) :
  Calls prog 159 #[.int .i64 n] w fun e w'=>e=.returned (.string ⟨(Lib.itoa n).toArray⟩)∧∃k os,w'=grow (w.drewN k) os:=Any.strconv_Itoa laysM171 n h0 h1 w htab
def laysC172_ren:Go.Shelf.Ren:=⟨fun | 172=>287 | 244=>316 | 245=>317 | 247=>344 | 279=>345 | 280=>346 | 281=>347 | 282=>348 | 287=>370 | 316=>371 | 171=>159 | 205=>372 | 321=>379 | 322=>380 | 243=>222 | 246=>265 | 283=>298 | 284=>299 | 285=>300 | 286=>301 | 129=>322 | 317=>321 | 318=>323 | 319=>324 | 320=>325 | 337=>358 | 338=>359 | n=>n,fun | 9=>9 | 3=>3 | 75=>270 | 76=>271 | 4=>4 | 5=>5 | 167=>314 | 37=>63 | 0=>0 | 85=>315 | 2=>2 | 168=>317 | 53=>279 | 175=>337 | 46=>261 | 210=>341 | 127=>289 | 145=>355 | 143=>353 | 21=>21 | 171=>278 | 173=>282 | 212=>296 | 51=>297 | 20=>20 | 213=>298 | 232=>345 | 233=>346 | 80=>273 | n=>n,fun | 15=>3 | 16=>4 | 17=>2 | 18=>5 | 19=>6 | n=>n⟩
theorem laysC172:Go.Proofs.LaysC.n172 prog laysC172_ren:={
 mixed:=by kernel_rfl
 f129:=func322.trans (congrArg some (by kernel_rfl))
 f171:=func159.trans (congrArg some (by kernel_rfl))
 f172:=func287.trans (congrArg some (by kernel_rfl))
 f205:=func372.trans (congrArg some (by kernel_rfl))
 f243:=func222.trans (congrArg some (by kernel_rfl))
 f244:=func316.trans (congrArg some (by kernel_rfl))
 f245:=func317.trans (congrArg some (by kernel_rfl))
 f246:=func265.trans (congrArg some (by kernel_rfl))
 f247:=func344.trans (congrArg some (by kernel_rfl))
 f279:=func345.trans (congrArg some (by kernel_rfl))
 f280:=func346.trans (congrArg some (by kernel_rfl))
 f281:=func347.trans (congrArg some (by kernel_rfl))
 f282:=func348.trans (congrArg some (by kernel_rfl))
 f283:=func298.trans (congrArg some (by kernel_rfl))
 f284:=func299.trans (congrArg some (by kernel_rfl))
 f285:=func300.trans (congrArg some (by kernel_rfl))
 f286:=func301.trans (congrArg some (by kernel_rfl))
 f287:=func370.trans (congrArg some (by kernel_rfl))
 f316:=func371.trans (congrArg some (by kernel_rfl))
 f317:=func321.trans (congrArg some (by kernel_rfl))
 f318:=func323.trans (congrArg some (by kernel_rfl))
 f319:=func324.trans (congrArg some (by kernel_rfl))
 f320:=func325.trans (congrArg some (by kernel_rfl))
 f321:=func379.trans (congrArg some (by kernel_rfl))
 f322:=func380.trans (congrArg some (by kernel_rfl))
 f337:=func358.trans (congrArg some (by kernel_rfl))
 f338:=func359.trans (congrArg some (by kernel_rfl))
 t0:=underlying0
 a0:=isAgg0
 z0:=sizeOf0
 v0:=zeroValue0
 t2:=underlying2
 a2:=isAgg2
 z2:=sizeOf2
 v2:=zeroValue2
 t3:=underlying3
 a3:=isAgg3
 z3:=sizeOf3
 v3:=zeroValue3
 t4:=underlying4
 a4:=isAgg4
 z4:=sizeOf4
 v4:=zeroValue4
 t5:=underlying5
 a5:=isAgg5
 z5:=sizeOf5
 v5:=zeroValue5
 t9:=underlying9
 a9:=isAgg9
 z9:=sizeOf9
 v9:=zeroValue9
 t20:=underlying20
 a20:=isAgg20
 z20:=sizeOf20
 v20:=zeroValue20
 t21:=underlying21
 a21:=isAgg21
 z21:=sizeOf21
 v21:=zeroValue21
 t37:=underlying63
 a37:=isAgg63
 z37:=sizeOf63
 v37:=zeroValue63
 t46:=underlying261
 a46:=isAgg261
 z46:=sizeOf261
 v46:=zeroValue261
 t51:=underlying297
 a51:=isAgg297
 z51:=sizeOf297
 v51:=zeroValue297
 t53:=underlying279
 a53:=isAgg279
 z53:=sizeOf279
 v53:=zeroValue279
 t75:=underlying270
 a75:=isAgg270
 z75:=sizeOf270
 v75:=zeroValue270
 t76:=underlying271
 a76:=isAgg271
 z76:=sizeOf271
 v76:=zeroValue271
 t85:=underlying315
 a85:=isAgg315
 z85:=sizeOf315
 v85:=zeroValue315
 t127:=underlying289
 a127:=isAgg289
 z127:=sizeOf289
 v127:=zeroValue289
 t143:=underlying353
 a143:=isAgg353
 z143:=sizeOf353
 v143:=zeroValue353
 t145:=underlying355
 a145:=isAgg355
 z145:=sizeOf355
 v145:=zeroValue355
 t167:=underlying314
 a167:=isAgg314
 z167:=sizeOf314
 v167:=zeroValue314
 t168:=underlying317
 a168:=isAgg317
 z168:=sizeOf317
 v168:=zeroValue317
 t171:=underlying278
 a171:=isAgg278
 z171:=sizeOf278
 v171:=zeroValue278
 t173:=underlying282
 a173:=isAgg282
 z173:=sizeOf282
 v173:=zeroValue282
 t175:=underlying337
 a175:=isAgg337
 z175:=sizeOf337
 v175:=zeroValue337
 t210:=underlying341
 a210:=isAgg341
 z210:=sizeOf341
 v210:=zeroValue341
 t212:=underlying296
 a212:=isAgg296
 z212:=sizeOf296
 v212:=zeroValue296
 t213:=underlying298
 a213:=isAgg298
 z213:=sizeOf298
 t232:=underlying345
 a232:=isAgg345
 z232:=sizeOf345
 v232:=zeroValue345
 t233:=underlying346
 a233:=isAgg346
 z233:=sizeOf346
 v233:=zeroValue346
 g15:=by kernel_rfl
 g16:=by kernel_rfl
 g17:=by kernel_rfl
 g18:=by kernel_rfl
 g19:=by kernel_rfl
 t80:=underlying273
 a80:=isAgg273
 z80:=sizeOf273
 v80:=zeroValue273
 i0:=by kernel_rfl
 i2:=by kernel_rfl
 i3:=by kernel_rfl
 i4:=by kernel_rfl
 i5:=by kernel_rfl
 i9:=by kernel_rfl
 i20:=by kernel_rfl
 i21:=by kernel_rfl
 i37:=by kernel_rfl
 i46:=by kernel_rfl
 i51:=by kernel_rfl
 i53:=by kernel_rfl
 i75:=by kernel_rfl
 i76:=by kernel_rfl
 i80:=by kernel_rfl
 i85:=by kernel_rfl
 i127:=by kernel_rfl
 i143:=by kernel_rfl
 i145:=by kernel_rfl
 i167:=by kernel_rfl
 i168:=by kernel_rfl
 i171:=by kernel_rfl
 i173:=by kernel_rfl
 i175:=by kernel_rfl
 i210:=by kernel_rfl
 i212:=by kernel_rfl
 i232:=by kernel_rfl
 i233:=by kernel_rfl
 m15:=by kernel_rfl
 m16:=by kernel_rfl
 m17:=by kernel_rfl
 m18:=by kernel_rfl
 m19:=by kernel_rfl
 c0:=by kernel_rfl
 c2:=by kernel_rfl
 c3:=by kernel_rfl
 c4:=by kernel_rfl
 c5:=by kernel_rfl
 c9:=by kernel_rfl
 c20:=by kernel_rfl
 c21:=by kernel_rfl
 c37:=by kernel_rfl
 c46:=by kernel_rfl
 c51:=by kernel_rfl
 c53:=by kernel_rfl
 c75:=by kernel_rfl
 c76:=by kernel_rfl
 c80:=by kernel_rfl
 c85:=by kernel_rfl
 c127:=by kernel_rfl
 c143:=by kernel_rfl
 c145:=by kernel_rfl
 c167:=by kernel_rfl
 c168:=by kernel_rfl
 c171:=by kernel_rfl
 c173:=by kernel_rfl
 c175:=by kernel_rfl
 c210:=by kernel_rfl
 c212:=by kernel_rfl
 c213:=by kernel_rfl
 c232:=by kernel_rfl
 c233:=by kernel_rfl }
open Go.RowKit in
theorem strconv_Atoi_err_var (s : ByteArray) (hl : s.size ≤ 18) (h : Lib.atoi s.data.toList = none) (tp : TypeId) (p : Value) (w : World) (hvar : w.var? prog "strconv.ErrSyntax" = some #[.iface tp p]) :
  Calls prog 287 #[.string s] w fun e w'=>∃N,e=.returned (.tuple #[.int .i64 0,.iface 317 (.pointer (some ⟨N,0,none⟩))])∧w.heap.size≤N∧w'.heap[N]?=some (.cells #[.string ⟨#[65,116,111,105]⟩,.string s,.iface tp p] 341 (0,0))∧Below w.heap.size w w':=Any.strconv_Atoi_err_var laysC172 s hl h tp p w hvar
def lays191_ren:Go.Shelf.Ren:=⟨fun | 191=>258 | 189=>295 | 125=>315 | 257=>320 | 128=>343 | 129=>322 | 294=>349 | 295=>350 | 296=>351 | 297=>352 | 298=>353 | 299=>354 | 216=>355 | 300=>356 | 301=>357 | 328=>373 | 329=>365 | 330=>366 | 331=>374 | 332=>375 | 215=>376 | 343=>381 | n=>n,fun | 28=>86 | 0=>0 | 3=>3 | 46=>261 | 51=>297 | 53=>279 | 4=>4 | 183=>307 | 182=>306 | 131=>202 | 5=>5 | 9=>9 | 218=>331 | 222=>335 | 228=>349 | 229=>350 | n=>n,fun | n=>n⟩
theorem lays191:Go.Proofs.Lays.n191 prog lays191_ren:={
 mixed:=by kernel_rfl
 f125:=func315.trans (congrArg some (by kernel_rfl))
 f128:=func343.trans (congrArg some (by kernel_rfl))
 f129:=func322.trans (congrArg some (by kernel_rfl))
 f189:=func295.trans (congrArg some (by kernel_rfl))
 f191:=func258.trans (congrArg some (by kernel_rfl))
 f215:=func376.trans (congrArg some (by kernel_rfl))
 f216:=func355.trans (congrArg some (by kernel_rfl))
 f257:=func320.trans (congrArg some (by kernel_rfl))
 f294:=func349.trans (congrArg some (by kernel_rfl))
 f295:=func350.trans (congrArg some (by kernel_rfl))
 f296:=func351.trans (congrArg some (by kernel_rfl))
 f297:=func352.trans (congrArg some (by kernel_rfl))
 f298:=func353.trans (congrArg some (by kernel_rfl))
 f299:=func354.trans (congrArg some (by kernel_rfl))
 f300:=func356.trans (congrArg some (by kernel_rfl))
 f301:=func357.trans (congrArg some (by kernel_rfl))
 f328:=func373.trans (congrArg some (by kernel_rfl))
 f329:=func365.trans (congrArg some (by kernel_rfl))
 f330:=func366.trans (congrArg some (by kernel_rfl))
 f331:=func374.trans (congrArg some (by kernel_rfl))
 f332:=func375.trans (congrArg some (by kernel_rfl))
 f343:=func381.trans (congrArg some (by kernel_rfl))
 t0:=underlying0
 a0:=isAgg0
 z0:=sizeOf0
 v0:=zeroValue0
 t3:=underlying3
 a3:=isAgg3
 z3:=sizeOf3
 v3:=zeroValue3
 t4:=underlying4
 a4:=isAgg4
 z4:=sizeOf4
 v4:=zeroValue4
 t5:=underlying5
 a5:=isAgg5
 z5:=sizeOf5
 v5:=zeroValue5
 t9:=underlying9
 a9:=isAgg9
 z9:=sizeOf9
 v9:=zeroValue9
 t28:=underlying86
 a28:=isAgg86
 z28:=sizeOf86
 v28:=zeroValue86
 t46:=underlying261
 a46:=isAgg261
 z46:=sizeOf261
 v46:=zeroValue261
 t51:=underlying297
 a51:=isAgg297
 z51:=sizeOf297
 v51:=zeroValue297
 t53:=underlying279
 a53:=isAgg279
 z53:=sizeOf279
 v53:=zeroValue279
 t131:=underlying202
 a131:=isAgg202
 z131:=sizeOf202
 v131:=zeroValue202
 t182:=underlying306
 a182:=isAgg306
 z182:=sizeOf306
 v182:=zeroValue306
 t183:=underlying307
 a183:=isAgg307
 z183:=sizeOf307
 v183:=zeroValue307
 t218:=underlying331
 a218:=isAgg331
 z218:=sizeOf331
 v218:=zeroValue331
 t222:=underlying335
 a222:=isAgg335
 z222:=sizeOf335
 v222:=zeroValue335
 t228:=underlying349
 a228:=isAgg349
 z228:=sizeOf349
 v228:=zeroValue349
 t229:=underlying350
 a229:=isAgg350
 z229:=sizeOf350
 v229:=zeroValue350 }
open Go.Sort Go.RowKit in
theorem sort_Ints (a off cap:Nat) (zs:List Int) (w:World) (hH:Holds (Value.int .i64) w a off zs.toArray) (b:a<w.heap.size) (c:zs.length<4611686018427387904):
  Calls prog 258 #[.slice (some ⟨a,off,none⟩) zs.length cap] w fun e w'=>
   e=.returned (.tuple #[])∧∃n os,w'=grow (putRow (Value.int .i64) (Sort.ahead w n) a off (zs.mergeSort fun x y=>decide (x≤y)).toArray) os:=Any.sort_Ints lays191 a off cap zs w hH b c
def lays192_ren:Go.Shelf.Ren:=⟨fun | 192=>248 | 190=>286 | 125=>315 | 258=>314 | 128=>343 | 129=>322 | 302=>334 | 303=>335 | 304=>336 | 305=>337 | 306=>338 | 307=>339 | 308=>340 | 309=>341 | 310=>342 | 333=>364 | 329=>365 | 330=>366 | 334=>367 | 335=>368 | 336=>369 | 344=>378 | n=>n,fun | 31=>46 | 0=>0 | 9=>9 | 3=>3 | 46=>261 | 51=>297 | 53=>279 | 4=>4 | 183=>307 | 182=>306 | 131=>202 | 5=>5 | 218=>331 | 222=>335 | 228=>349 | 229=>350 | n=>n,fun | n=>n⟩
theorem lays192:Go.Proofs.Lays.n192 prog lays192_ren:={
 mixed:=by kernel_rfl
 f125:=func315.trans (congrArg some (by kernel_rfl))
 f128:=func343.trans (congrArg some (by kernel_rfl))
 f129:=func322.trans (congrArg some (by kernel_rfl))
 f190:=func286.trans (congrArg some (by kernel_rfl))
 f192:=func248.trans (congrArg some (by kernel_rfl))
 f258:=func314.trans (congrArg some (by kernel_rfl))
 f302:=func334.trans (congrArg some (by kernel_rfl))
 f303:=func335.trans (congrArg some (by kernel_rfl))
 f304:=func336.trans (congrArg some (by kernel_rfl))
 f305:=func337.trans (congrArg some (by kernel_rfl))
 f306:=func338.trans (congrArg some (by kernel_rfl))
 f307:=func339.trans (congrArg some (by kernel_rfl))
 f308:=func340.trans (congrArg some (by kernel_rfl))
 f309:=func341.trans (congrArg some (by kernel_rfl))
 f310:=func342.trans (congrArg some (by kernel_rfl))
 f329:=func365.trans (congrArg some (by kernel_rfl))
 f330:=func366.trans (congrArg some (by kernel_rfl))
 f333:=func364.trans (congrArg some (by kernel_rfl))
 f334:=func367.trans (congrArg some (by kernel_rfl))
 f335:=func368.trans (congrArg some (by kernel_rfl))
 f336:=func369.trans (congrArg some (by kernel_rfl))
 f344:=func378.trans (congrArg some (by kernel_rfl))
 t0:=underlying0
 a0:=isAgg0
 z0:=sizeOf0
 v0:=zeroValue0
 t3:=underlying3
 a3:=isAgg3
 z3:=sizeOf3
 v3:=zeroValue3
 t4:=underlying4
 a4:=isAgg4
 z4:=sizeOf4
 v4:=zeroValue4
 t5:=underlying5
 a5:=isAgg5
 z5:=sizeOf5
 v5:=zeroValue5
 t9:=underlying9
 a9:=isAgg9
 z9:=sizeOf9
 v9:=zeroValue9
 t31:=underlying46
 a31:=isAgg46
 z31:=sizeOf46
 v31:=zeroValue46
 t46:=underlying261
 a46:=isAgg261
 z46:=sizeOf261
 v46:=zeroValue261
 t51:=underlying297
 a51:=isAgg297
 z51:=sizeOf297
 v51:=zeroValue297
 t53:=underlying279
 a53:=isAgg279
 z53:=sizeOf279
 v53:=zeroValue279
 t131:=underlying202
 a131:=isAgg202
 z131:=sizeOf202
 v131:=zeroValue202
 t182:=underlying306
 a182:=isAgg306
 z182:=sizeOf306
 v182:=zeroValue306
 t183:=underlying307
 a183:=isAgg307
 z183:=sizeOf307
 v183:=zeroValue307
 t218:=underlying331
 a218:=isAgg331
 z218:=sizeOf331
 v218:=zeroValue331
 t222:=underlying335
 a222:=isAgg335
 z222:=sizeOf335
 v222:=zeroValue335
 t228:=underlying349
 a228:=isAgg349
 z228:=sizeOf349
 v228:=zeroValue349
 t229:=underlying350
 a229:=isAgg350
 z229:=sizeOf350
 v229:=zeroValue350 }
open Go.Sort Go.RowKit in
theorem sort_Strings (a off cap:Nat) (ss:List (List UInt8)) (w:World) (hH:Holds encStr w a off ss.toArray) (b:a<w.heap.size) (c:ss.length<4611686018427387904):
  Calls prog 248 #[.slice (some ⟨a,off,none⟩) ss.length cap] w fun e w'=>
   e=.returned (.tuple #[])∧∃n os,w'=grow (putRow encStr (Sort.ahead w n) a off (ss.mergeSort fun x y=>decide (x≤y)).toArray) os:=Any.sort_Strings lays192 a off cap ss w hH b c
open Go.RowKit Go.Sort in
theorem sort_Strings_none (p:Option Addr) (cap:Nat) (w:World):
  Calls prog 248 #[.slice p 0 cap] w fun e w'=>e=.returned (.tuple #[])∧w'=w:=Any.sort_Strings_none lays192 p cap w
open Go.RowKit Go.Sort in
theorem sort_Ints_none (p:Option Addr) (cap:Nat) (w:World):
  Calls prog 258 #[.slice p 0 cap] w fun e w'=>e=.returned (.tuple #[])∧w'=w:=Any.sort_Ints_none lays191 p cap w
end Go.Proofs
namespace Go.Proofs.YtlpkbfjcdaanmaaGreatDoor
section
open Go.RowKit Go.Sort Go.Lib
theorem ZCR {J : World → Prop} (hJ : ∀ w, J w → Lib.TabIs prog w "internal/strconv.uint64pow10" .u64 Lib.pow10Tab) {n : Int} {r : ByteArray} (h : ZqT n = some r) : Zm prog J 159 [(false, [.int .i64 n])] [(false, [(false, .str r)])] := by
 obtain ⟨h1,h2⟩:=Zv h
 obtain rfl:=A3 h2
 refine ⟨⟨f159,func159,yO,yO⟩,fun w z vs hj hz hargs=>?_⟩
 obtain ⟨v,L,rfl,rfl,_⟩:=ZmB hargs
 refine (strconv_Itoa n h1.1 h1.2 w (hJ w hj)).mono ?_
 rintro e w' ⟨rfl,k,os,rfl⟩
 refine ⟨_,z,rfl,Ztg ⟨⟨rfl,rfl,?_⟩,rfl⟩,fun b h=>h,below_grow _ _ (Nat.le_refl _) _ _⟩
 have:=Lib.itoa_length_le n h1.1 h1.2
 show (Lib.itoa n).toArray.size≤_
 rw [AB]
 omega
end
section
open Go.RowKit
theorem ZvB {J:World→Prop} {a b:ByteArray} {r:Int} (h:ZfS a b=some r):Zm prog J 238 [(false,[.str a]),(false,[.str b])] [(false,[(false,.int .i64 r)])]:=by
 obtain rfl:=A3 h
 refine ⟨⟨f238,func238,yO,yO⟩,fun w z vs hj hz c=>?_⟩
 obtain ⟨v,u,L,M,rfl,⟨rfl,_⟩,rfl,_⟩:=ZxX c
 refine (strings_Compare a b w).mono ?_
 rintro e w' ⟨rfl,rfl⟩
 exact ⟨_,z,rfl,Ztg ⟨⟨rfl,rfl⟩,rfl⟩,fun b h=>h,Below.refl _ _⟩
end
section
open Go.RowKit
theorem ZIg {w:World}:∀{l:List ByteArray} {xs:List Value} {L:List Nat},REs w 1 (l.map ZA) xs L→xs=l.map Value.string
 | [],_,_,h=>h.1
 | x::l,_,_,h=>by
  obtain ⟨c1,c2,L1,L2,rfl,_,h1,h2⟩:=h
  obtain ⟨⟨v,cs,M1,M2,rfl,_,hv,hc,_⟩,_⟩:=h1
  rw [ZIg h2,hc,hv.1]
  rfl
theorem ZIS {J:World→Prop} {l:List ByteArray} {a r:ByteArray} (h:ZIa l a=some r):Zm prog J 241 [(false,[.sl 9 1 (l.map ZA)]),(false,[.str a])] [(false,[(false,.str r)])]:=by
 obtain ⟨h1,h2⟩:=Zv h
 obtain rfl:=A3 h2
 refine ⟨⟨f241,func241,yO,yO⟩,fun w z vs hj hz c=>?_⟩
 obtain ⟨v,u,L,M,rfl,hv,⟨rfl,_⟩⟩:=ZxX c
 have i:=hv.lt
 obtain ⟨A,cap,cs,L0,L1,rfl,f,hc2,rfl,_,hs,he⟩:=hv
 rw [AD] at hs f
 have k:=ZIg he
 have g:(ofL (Lib.join (l.map toL) (toL a))).size≤9223372036854775807:=by
  show (Lib.join (l.map toL) (toL a)).toArray.size≤_
  rw [AB]
  omega
 rcases hs.2 with ⟨h0,_⟩ | ⟨hn,b,off,rfl,rfl,d⟩
 ·have:l=[]:=AC h0
  subst this
  refine (strings_Join_none A cap a w).mono ?_
  rintro e w' ⟨rfl,rfl⟩
  exact ⟨_,z,rfl,Ztg ⟨⟨rfl,rfl,g⟩,rfl⟩,fun b h=>h,Below.refl _ _⟩
 ·rw [AD]
  refine (strings_Join b off cap l a w (fun j x hx=>d j _ (by rw [k,AA,hx];rfl)) ?_ h1.1 f h1.2).mono ?_
  ·exact i b yG
  ·rintro e w' ⟨rfl,hb⟩
   exact ⟨_,z,rfl,Ztg ⟨⟨rfl,rfl,g⟩,rfl⟩,fun b h=>h,hb⟩
end
section
open Go.RowKit Go.Sort
theorem Zpp {α:Type} [Inhabited α] {P:Program} {J:World→Prop} {JF:Nat→Prop} (a:α→Value) (el:α→List CT) (I:∀(w:World) x v L,RCs w (el x) v L→v=[a x]) (K:∀(w w':World) x,RCs w (el x) [a x] []→RCs w' (el x) [a x] []) (u:∀l:List α,ZaN (l.map el)=true) {f:FuncId} {e:TypeId} {zs d:List α} (hc:Zez P f) (hd:d.length=zs.length) (C:∀x∈d,x∈zs)
  (hN:∀p cap w,Calls P f #[.slice p 0 cap] w fun e w'=>e=.returned (.tuple #[])∧w'=w)
  (hC:∀i off cap w,Holds a w i off zs.toArray→i<w.heap.size→Calls P f #[.slice (some ⟨i,off,none⟩) zs.length cap] w fun e w'=>e=.returned (.tuple #[])∧∃n os,w'=grow (putRow a (Sort.ahead w n) i off d.toArray) os):
  Zkx P J JF f (.row e 1 (zs.map el)) [] [] (.row e 1 (d.map el)):=by
 refine ⟨hc,fun w z q v0 vs hj hqf hz hh ha=>?_⟩
 cases vs with
 | cons _ _=>exact ha.elim
 | nil=>
 obtain ⟨hfl,hm,hq,cs,c,M⟩:=hh
 have N:∀(l:List α) (cs:List Value) (L:List Nat),REs w 1 (l.map el) cs L→cs=l.map a∧(L=[]→∀x∈l,RCs w (el x) [a x] []):=by
  intro l
  induction l with
  | nil=>intro cs L h;exact ⟨h.1,fun _ x mx=>by simp at mx⟩
  | cons x l ih=>
   rintro cs L ⟨c1,c2,L1,L2,rfl,rfl,h3,h4⟩
   obtain ⟨i1,i2⟩:=ih _ _ h4
   have e1:=I _ _ _ _ h3.1
   refine ⟨by rw [e1,i1];rfl,fun hL y my=>?_⟩
   obtain ⟨l1,l2⟩:=List.append_eq_nil_iff.1 hL
   rcases List.mem_cons.1 my with rfl | my
   ·rw [←e1,←l1];exact h3.1
   ·exact i2 l2 y my
 obtain ⟨e1,e2⟩:=N zs cs [] M
 have e2:=e2 rfl
 subst e1
 have D:∀(w':World) (l:List α),(∀x∈l,x∈zs)→REs w' 1 (l.map el) (l.map a) []:=by
  intro w' l
  induction l with
  | nil=>intro _;exact ⟨rfl,rfl⟩
  | cons x l ih=>intro hl;exact ⟨[a x],l.map a,[],[],rfl,rfl,⟨K w w' x (e2 x (hl x yG)),rfl⟩,ih fun y my=>hl y (by simp [my])⟩
 have O:(zs.map el).length=zs.length:=by simp
 rw [O] at c
 have t:∀w':World,w'.os=w.os→w'.tape=w.tape→w'.output=w.output→w.heap.size≤w'.heap.size→(∀k,k<w.heap.size→¬q=some k→w'.heap[k]?=w.heap[k]?)→w'.ownsV 0 e 1 v0 d.length (d.map a)→∃v n,Ending.returned (.tuple #[])=.returned v∧ZkF w' w.heap.size n [] v∧(∀b,inQ z q b→n b)∧ZuY w' n q (.row e 1 (d.map el)) v0∧ZF7 q w w':=
  fun w' h1 h2 h3 h4 h5 h6=>⟨_,inQ z q,rfl,⟨[],[],⟨rfl,rfl⟩,Own.nil _ _,rfl⟩,fun _ h=>h,⟨u d,yE,hq,d.map a,by simpa using h6,D w' d C⟩,⟨h1,h2,h3,h4,h5⟩⟩
 rcases Nat.eq_zero_or_pos zs.length with h0 | h0
 ·have Q:zs=[]:=AC h0
  have R:d=[]:=AC (hd.trans h0)
  obtain ⟨A,cap,hv⟩:=Zdl c
  rw [h0] at hv
  subst hv
  refine (hN A cap w).mono ?_
  rintro e' w' ⟨rfl,rfl⟩
  exact t w' rfl rfl rfl (Nat.le_refl _) (fun _ _ _=>rfl) (by rw [R];rw [Q] at c;exact c)
 ·rcases c.2 with ⟨h',hl0⟩ | ⟨g,o,cap,m,h',hb,hg,hnc,S,E,B⟩
  ·omega
  ·subst h'
   have F:g<w.heap.size:=(Array.getElem?_eq_some_iff.1 hg).1
   have G:∀j,j<zs.length→m[o+j]?=some (a zs[j]!):=fun j hj=>by
    have:=congrArg (fun l=>l[j]?) B
    simp only[Nat.mul_one,AE,hj,if_true,AF,AG,AA] at this
    rw [this]
    simp [List.getElem!_eq_getElem?_getD,hj]
   refine (hC g o cap w (fun j hj=>?_) F).mono ?_
   ·have H:j<zs.length:=by simpa using hj
    refine ⟨?_,by simp [World.frozen?,hg]⟩
    simp only[World.cell?,hg,Option.isSome_none,Bool.false_eq_true,if_false]
    rw [G j H]
    simp [H]
   ·rintro e' w' ⟨rfl,n,os,rfl⟩
    have hh:(putRow a (Sort.ahead w n) g o d.toArray).heap[g]?=some (.cells (putCells a o d.toArray m) e (0,0)):=by
     simp only[putRow,mapBlock,heap_ahead,AH,if_true,hg,Option.map_some,onCells]
    refine t _ rfl rfl rfl yG (fun k hk T=>?_) ⟨yG,.inr ⟨g,o,cap,putCells a o d.toArray m,by rw [hd],yE,?_,yE,S,by simpa [putCells] using E,?_⟩⟩
    ·rw [heap_grow_old _ _ (by simpa using hk)]
     simp only[putRow,mapBlock,heap_ahead,AH]
     rw [if_neg (fun e=>T (by rw [←hq];simp [Value.ownBlock,e]))]
    ·rw [heap_grow_old _ _ (by simpa using F)];exact hh
    ·apply List.ext_getElem?
     intro j
     simp only[Nat.mul_one,AE,AF,AA,AG,putCells,Array.getElem?_mapIdx,AB]
     by_cases hj:j<d.length
     ·have U:o+j<m.size:=by omega
      simp [hj,U]
     ·simp [hj]
end
section
open Go.RowKit Go.Sort
theorem ZoD {J:World→Prop} {JF:Nat→Prop} {l r:List ByteArray} (h:Zcw l=some r):Zkx prog J JF 248 (.row 9 1 (l.map ZA)) [] [] (.row 9 1 (r.map ZA)):=by
 obtain ⟨h1,h2⟩:=Zv h
 obtain rfl:=A3 h2
 have e1:l.map ZA=(l.map toL).map fun x=>ZA (ofL x):=by rw [AI];exact List.map_congr_left fun x _=>by simp [Zj7]
 have e2:(ZfD l).map ZA=((l.map toL).mergeSort fun x y=>decide (x≤y)).map fun x=>ZA (ofL x):=by simp [ZfD,AI,Function.comp_def]
 rw [e1,e2]
 refine Zpp encStr (fun x=>ZA (ofL x)) (fun w x v L h=>?_) (fun w w' x h=>h) (fun l=>Zbf (fun _=>rfl) l) ⟨f248,func248,yO,yO⟩ yG (fun x hx=>by simpa using hx) (fun p cap w=>sort_Strings_none p cap w) (fun a off cap w hH hb=>sort_Strings a off cap (l.map toL) w hH hb (by simp;omega))
 obtain ⟨u,vs,L1,L2,rfl,rfl,q1,rfl,rfl⟩:=h
 rw [q1.1]
 rfl
end
section
open Go.RowKit Go.Sort
theorem Ztt {J:World→Prop} {JF:Nat→Prop} {l r:List Int} (h:Zf8 l=some r):Zkx prog J JF 258 (.row 3 1 (l.map ZO)) [] [] (.row 3 1 (r.map ZO)):=by
 obtain ⟨h1,h2⟩:=Zv h
 obtain rfl:=A3 h2
 refine Zpp (Value.int .i64) ZO (fun w x v L h=>?_) (fun w w' x h=>h) Zpz ⟨f258,func258,yO,yO⟩ (by simp [Zk4]) (fun x hx=>by simpa [Zk4] using hx) (fun p cap w=>sort_Ints_none p cap w) (fun a off cap w hH hb=>sort_Ints a off cap l w hH hb yE)
 obtain ⟨u,vs,L1,L2,rfl,rfl,q1,rfl,rfl⟩:=h
 rw [q1.1]
end
section
open Go.RowKit
theorem ZCE {J : World → Prop} (hJ : ∀ w, J w → ∃ tp p, w.var? prog "strconv.ErrSyntax" = some #[.iface tp p]) {s : ByteArray} {r : Int × Bool} (h : ZmK s = some r) : Zm prog J 287 [(false, [.str s])] [(false, [(false, .int .i64 r.1)]), (false, [(false, .ifc r.2)])] := by
 obtain ⟨h1,h2⟩:=Zv h
 refine ⟨⟨f287,func287,yO,yO⟩,fun w z vs hj hz hargs=>?_⟩
 obtain ⟨v,L,rfl,rfl,_⟩:=ZmB hargs
 cases ha:Lib.atoi (toL s) with
 | some n=>
  rw [ha] at h2
  obtain rfl:=A3 h2
  refine (strconv_Atoi s n h1 ha w).mono ?_
  rintro e w' ⟨rfl,t,rfl⟩
  exact ⟨_,z,rfl,ZrA ⟨⟨rfl,rfl⟩,rfl⟩ ⟨⟨rfl,rfl,rfl⟩,rfl⟩,fun b h=>h,Lib.bytesWorld_below _ _ _⟩
 | none=>
  rw [ha] at h2
  obtain rfl:=A3 h2
  obtain ⟨tp,p,hv⟩:=hJ w hj
  refine (strconv_Atoi_err_var s h1 ha tp p w hv).mono ?_
  rintro e w' ⟨N,rfl,_,_,hb⟩
  exact ⟨_,z,rfl,ZrA ⟨⟨rfl,rfl⟩,rfl⟩ ⟨⟨rfl,rfl,_,_,rfl⟩,rfl⟩,fun b h=>h,hb⟩
end
theorem ZvG {n:Int} {r:ByteArray} (h:ZqT n=some r):Zm prog J0 159 [(false,[.int .i64 n])] [(false,[(false,.str r)])]:=ZCR ZCY h
theorem Zki {a b:ByteArray} {r:Int} (h:ZfS a b=some r):Zm prog J0 238 [(false,[.str a]),(false,[.str b])] [(false,[(false,.int .i64 r)])]:=ZvB h
theorem ZIK {l:List ByteArray} {s r:ByteArray} (h:ZIa l s=some r):Zm prog J0 241 [(false,[.sl 9 1 (l.map ZA)]),(false,[.str s])] [(false,[(false,.str r)])]:=ZIS h
theorem ZkV {l r:List ByteArray} (h:Zcw l=some r):Zkx prog J0 JF0 248 (.row 9 1 (l.map ZA)) [] [] (.row 9 1 (r.map ZA)):=ZoD h
theorem Zn5 {l r:List Int} (h:Zf8 l=some r):Zkx prog J0 JF0 258 (.row 3 1 (l.map ZO)) [] [] (.row 3 1 (r.map ZO)):=Ztt h
theorem Zv1 {s:ByteArray} {r:Int × Bool} (h:ZmK s=some r):Zm prog J0 287 [(false,[.str s])] [(false,[(false,.int .i64 r.1)]),(false,[(false,.ifc r.2)])]:=ZCE ZzR h
section
theorem yA{p q:Prop}(h:q)(e:p=q:=by simp only[*,go_sem,seval];try rfl):p:=e▸h
theorem yD{p:Prop}(e:p:=by simp only[*,go_sem,seval]):p:=e
theorem yB{α:Type}{G q v:Prop}{b:Bool}{x y:Option α}{r:α}(h:(if b=true then x else y)=some r)(h1:b=true→x=some r→q)(h2:b=false→y=some r→v)(e:∀(_:b=true)(_:x=some r),G=q:=by intro _ _;(try simp only[*,go_sem,seval]);try rfl)(f:∀(_:b=false)(_:y=some r),G=v:=by intro _ _;(try simp only[*,go_sem,seval]);try rfl):G:=Ze h (fun a c=>(e a c)▸h1 a c) fun a c=>(f a c)▸h2 a c
theorem yC{σ ρ:Type}{s:σ}{y:σ⊕ρ}{C:σ→List (Bool×Nat×Nat)→List Nat→Prop}(h:some (.inl s)=some y)(ms:List (Bool×Nat×Nat))(k:List Nat)(d:k.Nodup:=by decide)(e:C s ms k:=by simp only[*,go_sem,seval]):∃s' ms k,y=.inl s'∧k.Nodup∧C s' ms k:=⟨s,ms,k,(Option.some.inj h).symm,d,e⟩
theorem yR{σ ρ:Type}{s:σ}{y:σ⊕ρ}{C:σ→List (Bool×Nat×Nat)→List Nat→Prop}(h:some (.inl s)=some y)(k:List Nat)(d:k.Nodup:=by decide)(e:C s [] k:=by simp only[*,go_sem,seval]):∃s' ms k,y=.inl s'∧k.Nodup∧C s' ms k:=⟨s,[],k,(Option.some.inj h).symm,d,e⟩
def yL(n:Nat):SV:=.p false [.c (.int .i64 (n:Int))]
def yM(x:CT):SV:=.p false [.c x]
def zC(t:Nat)(l:List CT):Ob:=.box t (l.map .c)
attribute [go_sem] yL yM zC List.map_cons List.map_nil
def yT(l:List Zc):CT:=.sl 53 2 (List.map Zs l)
attribute [go_sem] yT
def yU(l:List ByteArray):CT:=.sl 9 1 (List.map ZA l)
attribute [go_sem] yU
def yV(l:List Int):CT:=.sl 3 1 (List.map ZO l)
attribute [go_sem] yV
def yW(l:List Zg):CT:=.sl 76 4 (List.map ZL l)
attribute [go_sem] yW
def yX(l:List Zi):CT:=.sl 162 2 (List.map ZR l)
attribute [go_sem] yX
def yY(l:List Zl):CT:=.sl 80 5 (List.map ZJ l)
attribute [go_sem] yY
def yZ(l:List Zu):CT:=.sl 125 3 (List.map ZI l)
attribute [go_sem] yZ
def zA(l:List Zf):CT:=.sl 179 3 (List.map ZG l)
attribute [go_sem] zA
def zB(l:List Zq):CT:=.sl 111 2 (List.map YU l)
attribute [go_sem] zB
theorem QG {s_0:ByteArray} {r:Bool} (h:QS s_0=some r):Zm prog J0 142 [(false,[.str s_0])] [(false,[(false,.bool r)])]:=by
 refine fnk func142 rfl ?_
 unfold QS at h
 simp only[fnS,f142,Zo,go_sem,seval]
 iterate 2 ((refine Ze h (fun _ h=>?_) fun _ h=>?_<;>try simp only[*,go_sem,seval]);cases h;try simp only[*,go_sem,seval])
 refine Zh h (fun i _ st=>IV [(0,yM (.str s_0)),(3,yL i)] [] st) [] [] yF yD ?_ ?_
 rintro _ _ ⟨⟩ ⟨_,_,_⟩ _ b d f h a
 simp only[go_sem,seval,Zb] at d
 obtain ⟨⟨g,_⟩,hn⟩:=d
 subst hn
 have k:=WF.slotS f g (j:=0) rfl
 have:=Zp3 b
 have:=Zxp b
 have:=Zk (ZuC b) k
 try simp only[*,go_sem,seval]
 iterate 2 refine yB h (fun _ h=>?_) fun _ h=>?_
 replace h:=Zr h a
 cases h
 try simp only[*,go_sem,seval]
 refine yB h (fun _ h=>?_) fun _ h=>?_
 replace h:=Zr h a
 cases h
 try simp only[*,go_sem,seval]
 refine ⟨_,[],[],(A3 h).symm,yF,?_⟩
 try simp only[*,go_sem,seval]
 iterate 2 refine yB h (fun _ h=>?_) fun _ h=>?_
 replace h:=Zr h a
 cases h
 try simp only[*,go_sem,seval]
 refine yB h (fun _ h=>?_) fun _ h=>?_
 replace h:=Zr h a
 cases h
 try simp only[*,go_sem,seval]
 refine ⟨_,[],[],(A3 h).symm,yF,?_⟩
 try simp only[*,go_sem,seval]
 refine ⟨_,[],[],(A3 h).symm,yF,?_⟩
 try simp only[*,go_sem,seval]
 rintro ⟨⟩ ⟨_,_,_⟩ e _ h
 simp only[go_sem,seval,Zb] at e
 obtain ⟨⟨_,_⟩,hn⟩:=e
 subst hn
 have:=ZB (s_0.size)
 cases h
 try simp only[*,go_sem,seval]
theorem Zhq {b_0:(List Zi)} {r:(List Zi)} (h:Zbn b_0=some r):Zm prog J0 146 [(false,[.sl 162 2 (A0 ZR b_0)])] [(false,[(false,.sl 162 2 (A0 ZR r))])]:=by
 refine fnk func146 rfl ?_
 unfold Zbn at h
 simp only[fnS,f146,Zo,go_sem,seval]
 obtain ⟨a,h⟩:=Zv h
 try simp only[Nat.reduceLeDiff] at a
 cases h
 try simp only[*,go_sem,seval]
theorem Zhb {l_0:(List ByteArray)} {r:(List ByteArray)} (h:Zbx l_0=some r):Zm prog J0 175 [(false,[.sl 9 1 (A0 ZA l_0)])] [(false,[(false,.sl 9 1 (A0 ZA r))])]:=by
 refine fnk func175 rfl ?_
 unfold Zbx at h
 simp only[fnS,f175,Zo,go_sem,seval]
 obtain ⟨a,h⟩:=Zv h
 try simp only[Nat.reduceLeDiff] at a
 cases h
 try simp only[*,go_sem,seval]
theorem ZaA {p_0:Zx} {r:Bool} (h:Xt p_0=some r):Zm prog J0 209 [(true,Qp p_0)] [(false,[(false,.bool r)])]:=by
 refine fnk func209 rfl ?_
 unfold Xt at h
 have a:ZbS ⟨#[]⟩=true:=by decide
 simp only[fnS,f209,Zo,go_sem,seval,a]
 refine yB h (fun _ h=>?_) fun _ h=>?_
 iterate 2 (cases h;try simp only[*,go_sem,seval])
theorem Zmm {n_0:Int} {r:ByteArray} (h:Zbu n_0=some r):Zm prog J0 95 [(false,[.int .i64 n_0])] [(false,[(false,.str r)])]:=by
 refine fnk func95 rfl ?_
 unfold Zbu at h
 have a:ZbS ⟨#[]⟩=true:=by decide
 simp only[fnS,f95,Zo,go_sem,seval,a]
 obtain ⟨_,b,h⟩:=Za h
 refine Zd (ZvG b) ?_
 cases h
 try simp only[*,go_sem,seval]
theorem Znk {a_0:(List ByteArray)} {b_1:(List ByteArray)} {r:Bool} (h:ZcN a_0 b_1=some r):Zm prog J0 205 [(false,[.sl 9 1 (A0 ZA a_0)]),(false,[.sl 9 1 (A0 ZA b_1)])] [(false,[(false,.bool r)])]:=by
 refine fnk func205 rfl ?_
 unfold ZcN at h
 simp only[fnS,f205,Zo,go_sem,seval]
 refine yB h (fun _ h=>?_) fun _ h=>?_
 cases h
 try simp only[*,go_sem,seval]
 refine Zh h (fun i _ st=>IV [(0,yM (yU a_0)),(1,yM (yU b_1)),(12,yL a_0.length),(13,yL i)] [] st) [] [] yF yD ?_ ?_
 rintro _ _ ⟨⟩ ⟨_,_,_⟩ _ a b e h f
 simp only[go_sem,seval,Zb] at b
 obtain ⟨⟨g,_,_,_⟩,hn⟩:=b
 subst hn
 have k:=WF.slotL e g (j:=0) rfl
 have:=ZC a
 have:=ZE a
 have:=Zk (ZD a) k
 obtain ⟨_,_,_,l,h⟩:=ZcM h
 simp only[A7] at l
 try simp only[*,go_sem,seval]
 refine yB h (fun _ h=>?_) fun _ h=>?_
 refine ⟨_,[],[],(A3 h).symm,yF,?_⟩
 try simp only[*,go_sem,seval]
 replace h:=Zr h f
 cases h
 try simp only[*,go_sem,seval]
 rintro ⟨⟩ ⟨_,_,_⟩ d _ h
 simp only[go_sem,seval,Zb] at d
 obtain ⟨⟨_,_,_,_⟩,hn⟩:=d
 subst hn
 have:=ZB (a_0.length)
 cases h
 try simp only[*,go_sem,seval]
theorem Zcm {a_0:Int} {b_1:Int} {r:Int} (h:X4 a_0 b_1=some r):Zm prog J0 240 [(false,[.int .i64 a_0]),(false,[.int .i64 b_1])] [(false,[(false,.int .i64 r)])]:=by
 refine fnk func240 rfl ?_
 unfold X4 at h
 simp only[fnS,f240,Zo,go_sem,seval]
 iterate 2 ((refine Ze h (fun _ h=>?_) fun _ h=>?_<;>try simp only[*,go_sem,seval]);cases h;try simp only[*,go_sem,seval])
 cases h
 try simp only[*,go_sem,seval]
theorem ZfN {r_0:Zg} {r:(List Zl)} (h:Xb r_0=some r):Zm prog J0 216 [(true,ZL r_0)] [(false,[(true,.sl 80 5 (A0 ZJ r))])]:=by
 refine fnk func216 rfl ?_
 unfold Xb at h
 simp only[fnS,f216,Zo,go_sem,seval]
 refine Zh h (fun i a st=>IV [(3,.p false [.row 0]),(7,yM (yY r_0.cond)),(8,yL r_0.cond.length),(9,yL i)] [.row 80 5 (A0 ZJ a) 1] st) [(false,3,0),(true,112,1)] [112] yF yD ?_ ?_
 rintro _ _ a ⟨_,_,_⟩ _ b d f h _
 simp only[go_sem,seval,Zb] at d
 obtain ⟨⟨_,g,_,_⟩,_,hn⟩:=d
 subst hn
 have k:=WF.slotL f g (j:=0) rfl
 have:=ZC b
 have:=ZE b
 have:=Zk (ZD b) k
 try simp only[*,go_sem,seval]
 refine yB h (fun _ h=>?_) fun _ h=>?_
 obtain ⟨l,h⟩:=Zv h
 try simp only[Nat.reduceLeDiff] at l
 try simp only[*,go_sem,seval]
 refine ⟨_,[],[177],(A3 h).symm,yF,?_⟩
 try simp only[*,go_sem,seval]
 refine ⟨_,[],[0],(A3 h).symm,yF,?_⟩
 try simp only[*,go_sem,seval]
 rintro a ⟨_,_,_⟩ e _ h
 simp only[go_sem,seval,Zb] at e
 obtain ⟨⟨_,_,_,_⟩,_,hn⟩:=e
 subst hn
 have:=ZB (r_0.cond.length)
 cases h
 try simp only[*,go_sem,seval]
theorem Qy {l_0:(List ByteArray)} {r:(List ByteArray)} (h:Yy l_0=some r):Zm prog J0 196 [(false,[.sl 9 1 (A0 ZA l_0)])] [(false,[(false,.sl 9 1 (A0 ZA r))])]:=by
 refine fnk func196 rfl ?_
 unfold Yy at h
 simp only[fnS,f196,Zo,go_sem,seval]
 obtain ⟨g,h⟩:=Zv h
 try simp only[Nat.reduceLeDiff] at g
 try simp only[*,go_sem,seval]
 obtain ⟨a,j,h⟩:=Za h
 refine Zwm (ZkV j) ?_
 try simp only[*,go_sem,seval]
 refine Zh h (fun i b st=>IV [(3,.p false [.row 0]),(4,.p false [.row 1]),(11,.p false [.row 0]),(12,yL a.length),(13,yL i)] [.row 9 1 (A0 ZA a) 2,.row 9 1 (A0 ZA b) 2] st) [(false,4,0)] [32,160] yF yD ?_ ?_
 rintro _ _ b ⟨_,_,_⟩ _ d e k h _
 simp only[go_sem,seval,Zb] at e
 obtain ⟨⟨_,_,_,_,_⟩,l,_,hn⟩:=e
 subst hn
 have m:=WF.rowL k l
 have:=ZC d
 have:=ZE d
 have:=Zk (ZD d) m
 try simp only[*,go_sem,seval]
 refine yB h (fun _ h=>?_) fun _ h=>?_
 obtain ⟨o,h⟩:=Zv h
 try simp only[Nat.reduceLeDiff] at o
 try simp only[*,go_sem,seval]
 refine ⟨_,[],[0,322],(A3 h).symm,yF,?_⟩
 try simp only[*,go_sem,seval]
 obtain ⟨_,h⟩:=Zv h
 obtain ⟨_,_,h⟩:=Za h
 try simp only[*,go_sem,seval]
 refine yB h (fun _ h=>?_) fun _ h=>?_
 refine ⟨_,[],[0,1],(A3 h).symm,yF,?_⟩
 try simp only[*,go_sem,seval]
 obtain ⟨q,h⟩:=Zv h
 try simp only[Nat.reduceLeDiff] at q
 try simp only[*,go_sem,seval]
 refine ⟨_,[],[0,322],(A3 h).symm,yF,?_⟩
 try simp only[*,go_sem,seval]
 rintro b ⟨_,_,_⟩ f _ h
 simp only[go_sem,seval,Zb] at f
 obtain ⟨⟨_,_,_,_,_⟩,_,_,hn⟩:=f
 subst hn
 have:=ZB (a.length)
 cases h
 try simp only[*,go_sem,seval]
theorem ZaB {l_0:(List ByteArray)} {s_1:ByteArray} {r:Bool} (h:Xv l_0 s_1=some r):Zm prog J0 195 [(false,[.sl 9 1 (A0 ZA l_0)]),(false,[.str s_1])] [(false,[(false,.bool r)])]:=by
 refine fnk func195 rfl ?_
 unfold Xv at h
 simp only[fnS,f195,Zo,go_sem,seval]
 refine Zh h (fun i _ st=>IV [(1,yM (.str s_1)),(7,yM (yU l_0)),(8,yL l_0.length),(9,yL i)] [] st) [] [] yF yD ?_ ?_
 rintro _ _ ⟨⟩ ⟨_,_,_⟩ _ a b e h f
 simp only[go_sem,seval,Zb] at b
 obtain ⟨⟨_,g,_,_⟩,hn⟩:=b
 subst hn
 have k:=WF.slotL e g (j:=0) rfl
 have:=ZC a
 have:=ZE a
 have:=Zk (ZD a) k
 try simp only[*,go_sem,seval]
 refine yB h (fun _ h=>?_) fun _ h=>?_
 replace h:=Zr h f
 cases h
 try simp only[*,go_sem,seval]
 refine ⟨_,[],[],(A3 h).symm,yF,?_⟩
 try simp only[*,go_sem,seval]
 rintro ⟨⟩ ⟨_,_,_⟩ d _ h
 simp only[go_sem,seval,Zb] at d
 obtain ⟨⟨_,_,_,_⟩,hn⟩:=d
 subst hn
 have:=ZB (l_0.length)
 cases h
 try simp only[*,go_sem,seval]
theorem ZoE {l_0:(List Zg)} {name_1:ByteArray} {r:Int} (h:Zbd l_0 name_1=some r):Zm prog J0 169 [(false,[.sl 76 4 (A0 ZL l_0)]),(false,[.str name_1])] [(false,[(false,.int .i64 r)])]:=by
 refine fnk func169 rfl ?_
 unfold Zbd at h
 simp only[fnS,f169,Zo,go_sem,seval]
 refine Zh h (fun i _ st=>IV [(1,yM (.str name_1)),(7,yM (yW l_0)),(8,yL l_0.length),(9,yL i)] [] st) [] [] yF yD ?_ ?_
 rintro _ _ ⟨⟩ ⟨_,_,_⟩ _ a b e h f
 simp only[go_sem,seval,Zb] at b
 obtain ⟨⟨_,g,_,_⟩,hn⟩:=b
 subst hn
 have k:=WF.slotL e g (j:=0) rfl
 have:=ZC a
 have:=ZE a
 have:=Zk (ZD a) k
 try simp only[*,go_sem,seval]
 refine yB h (fun _ h=>?_) fun _ h=>?_
 replace h:=Zr h f
 cases h
 try simp only[*,go_sem,seval]
 refine ⟨_,[],[],(A3 h).symm,yF,?_⟩
 try simp only[*,go_sem,seval]
 rintro ⟨⟩ ⟨_,_,_⟩ d _ h
 simp only[go_sem,seval,Zb] at d
 obtain ⟨⟨_,_,_,_⟩,hn⟩:=d
 subst hn
 have:=ZB (l_0.length)
 cases h
 try simp only[*,go_sem,seval]
theorem ZoM {r_0:Zg} {r:Bool} (h:Zeg r_0=some r):Zm prog J0 318 [(true,ZL r_0)] [(false,[(false,.bool r)])]:=by
 refine fnk func318 rfl ?_
 unfold Zeg at h
 simp only[fnS,f318,Zo,go_sem,seval]
 refine Zh h (fun i _ st=>IV [(6,yM (yZ r_0.thn)),(7,yL r_0.thn.length),(8,yL i)] [] st) [] [] yF yD ?_ ?_
 rintro _ _ ⟨⟩ ⟨_,_,_⟩ _ a b e h f
 simp only[go_sem,seval,Zb] at b
 obtain ⟨⟨g,_,_⟩,hn⟩:=b
 subst hn
 have k:=WF.slotL e g (j:=0) rfl
 have:=ZC a
 have:=ZE a
 have:=Zk (ZD a) k
 try simp only[*,go_sem,seval]
 refine yB h (fun _ h=>?_) fun _ h=>?_
 replace h:=Zr h f
 cases h
 try simp only[*,go_sem,seval]
 refine ⟨_,[],[],(A3 h).symm,yF,?_⟩
 try simp only[*,go_sem,seval]
 rintro ⟨⟩ ⟨_,_,_⟩ d _ h
 simp only[go_sem,seval,Zb] at d
 obtain ⟨⟨_,_,_⟩,hn⟩:=d
 subst hn
 have:=ZB (r_0.thn.length)
 cases h
 try simp only[*,go_sem,seval]
theorem Zrg {l_0:(List Int)} {n_1:Int} {r:Bool} (h:ZgY l_0 n_1=some r):Zm prog J0 257 [(false,[.sl 3 1 (A0 ZO l_0)]),(false,[.int .i64 n_1])] [(false,[(false,.bool r)])]:=by
 refine fnk func257 rfl ?_
 unfold ZgY at h
 simp only[fnS,f257,Zo,go_sem,seval]
 refine Zh h (fun i _ st=>IV [(1,yM (.int .i64 n_1)),(7,yM (yV l_0)),(8,yL l_0.length),(9,yL i)] [] st) [] [] yF yD ?_ ?_
 rintro _ _ ⟨⟩ ⟨_,_,_⟩ _ a b e h f
 simp only[go_sem,seval,Zb] at b
 obtain ⟨⟨_,g,_,_⟩,hn⟩:=b
 subst hn
 have k:=WF.slotL e g (j:=0) rfl
 have:=ZC a
 have:=ZE a
 have:=Zk (ZD a) k
 try simp only[*,go_sem,seval]
 refine yB h (fun _ h=>?_) fun _ h=>?_
 replace h:=Zr h f
 cases h
 try simp only[*,go_sem,seval]
 refine ⟨_,[],[],(A3 h).symm,yF,?_⟩
 try simp only[*,go_sem,seval]
 rintro ⟨⟩ ⟨_,_,_⟩ d _ h
 simp only[go_sem,seval,Zb] at d
 obtain ⟨⟨_,_,_,_⟩,hn⟩:=d
 subst hn
 have:=ZB (l_0.length)
 cases h
 try simp only[*,go_sem,seval]
theorem ZiE {a_0:(List Int)} {b_1:(List Int)} {r:Bool} (h:Zcj a_0 b_1=some r):Zm prog J0 296 [(false,[.sl 3 1 (A0 ZO a_0)]),(false,[.sl 3 1 (A0 ZO b_1)])] [(false,[(false,.bool r)])]:=by
 refine fnk func296 rfl ?_
 unfold Zcj at h
 simp only[fnS,f296,Zo,go_sem,seval]
 refine yB h (fun _ h=>?_) fun _ h=>?_
 cases h
 try simp only[*,go_sem,seval]
 refine Zh h (fun i _ st=>IV [(0,yM (yV a_0)),(1,yM (yV b_1)),(12,yL a_0.length),(13,yL i)] [] st) [] [] yF yD ?_ ?_
 rintro _ _ ⟨⟩ ⟨_,_,_⟩ _ a b e h f
 simp only[go_sem,seval,Zb] at b
 obtain ⟨⟨g,_,_,_⟩,hn⟩:=b
 subst hn
 have k:=WF.slotL e g (j:=0) rfl
 have:=ZC a
 have:=ZE a
 have:=Zk (ZD a) k
 obtain ⟨_,_,_,l,h⟩:=ZcM h
 simp only[A7] at l
 try simp only[*,go_sem,seval]
 refine yB h (fun _ h=>?_) fun _ h=>?_
 replace h:=Zr h f
 cases h
 try simp only[*,go_sem,seval]
 refine ⟨_,[],[],(A3 h).symm,yF,?_⟩
 try simp only[*,go_sem,seval]
 rintro ⟨⟩ ⟨_,_,_⟩ d _ h
 simp only[go_sem,seval,Zb] at d
 obtain ⟨⟨_,_,_,_⟩,hn⟩:=d
 subst hn
 have:=ZB (a_0.length)
 cases h
 try simp only[*,go_sem,seval]
theorem Zsl {a:Zt} {r:(List Int)} (h:ZgM a=some r):Zm prog J0 263 [(true,Qu a)] [(false,[(false,.sl 3 1 (A0 ZO r))])]:=by
 refine fnk func263 rfl ?_
 unfold ZgM at h
 simp only[fnS,f263,Zo,go_sem,seval]
 obtain ⟨_,h⟩:=Zv h
 try simp only[*,go_sem,seval]
 refine Xj h (fun s st=>match s with | (q,t)=>IV [(1,.bp 0 0),(3,.p false [.row 1]),(4,yM (.bool t))] [.box 140 [.c (.int .i64 a.nodes),.c (zA a.reasons)],.row 3 1 (A0 ZO q) 2] st) [] [0,64] yF yD ?_
 rintro ⟨q,t⟩ ⟨_,_,_⟩ _ u _ h C
 simp only[go_sem,seval,Zb] at u
 obtain ⟨⟨_,_,_⟩,_,_,hn⟩:=u
 subst hn
 try simp only[*,go_sem,seval]
 refine yB h (fun _ h=>?_) fun _ h=>?_
 refine Zh h (fun i s st=>match s with | (e,f)=>IV [(1,.bp 0 0),(3,.p false [.row 1]),(4,yM (.bool f)),(17,yM (zA a.reasons)),(18,yL a.reasons.length),(19,yL i)] [.box 140 [.c (.int .i64 a.nodes),.c (zA a.reasons)],.row 3 1 (A0 ZO e) 2] st) [] [0,1] yF yD ?_ ?_
 rintro v d ⟨e,f⟩ ⟨_,_,_⟩ _ g w D h _
 simp only[go_sem,seval,Zb] at w
 obtain ⟨⟨_,_,_,E,_,_⟩,_,_,hn⟩:=w
 subst hn
 have F:=WF.slotL D E (j:=0) rfl
 have:=ZC g
 have:=ZE g
 have:=Zk (ZD g) F
 obtain ⟨_,h⟩:=Zv h
 obtain ⟨_,_,h⟩:=Za h
 try simp only[*,go_sem,seval]
 refine Zh h (fun i k st=>IV [(1,.bp 0 0),(3,.p false [.row 1]),(4,yM (.bool f)),(6,.bp 2 0),(7,yM (.int .i64 k)),(17,yM (zA a.reasons)),(18,yL a.reasons.length),(19,yL v),(29,yM (yV d.inn)),(30,yL d.inn.length),(31,yL i)] [.box 140 [.c (.int .i64 a.nodes),.c (zA a.reasons)],.row 3 1 (A0 ZO e) 2,zC 179 (ZG d)] st) [] [0,1,50] yF yD ?_ ?_
 rintro _ _ k ⟨_,_,_⟩ _ l x G h _
 simp only[go_sem,seval,Zb] at x
 obtain ⟨⟨_,_,_,_,_,_,_,_,H,_,_⟩,_,_,_,hn⟩:=x
 subst hn
 have I:=WF.slotL G H (j:=0) rfl
 have:=ZC l
 have:=ZE l
 have:=Zk (ZD l) I
 obtain ⟨_,h⟩:=Zv h
 obtain ⟨_,_,h⟩:=Za h
 try simp only[*,go_sem,seval]
 refine ⟨_,[],[0,1,2],(A3 h).symm,yF,?_⟩
 try simp only[*,go_sem,seval]
 rintro k ⟨_,_,_⟩ y _ h
 simp only[go_sem,seval,Zb] at y
 obtain ⟨⟨_,_,_,_,_,_,_,_,_,_,_⟩,_,_,_,hn⟩:=y
 subst hn
 have:=ZB (d.inn.length)
 try simp only[*,go_sem,seval]
 refine Zh h (fun i m st=>IV [(1,.bp 0 0),(3,.p false [.row 1]),(4,yM (.bool f)),(6,.bp 2 0),(7,yM (.int .i64 m)),(17,yM (zA a.reasons)),(18,yL a.reasons.length),(19,yL v),(43,yM (yV d.outs)),(44,yL d.outs.length),(45,yL i)] [.box 140 [.c (.int .i64 a.nodes),.c (zA a.reasons)],.row 3 1 (A0 ZO e) 2,zC 179 (ZG d)] st) [] [0,1,2] yF yD ?_ ?_
 rintro _ _ m ⟨_,_,_⟩ _ o z J h _
 simp only[go_sem,seval,Zb] at z
 obtain ⟨⟨_,_,_,_,_,_,_,_,K,_,_⟩,_,_,_,hn⟩:=z
 subst hn
 have L:=WF.slotL J K (j:=0) rfl
 have:=ZC o
 have:=ZE o
 have:=Zk (ZD o) L
 obtain ⟨_,h⟩:=Zv h
 obtain ⟨_,_,h⟩:=Za h
 try simp only[*,go_sem,seval]
 refine ⟨_,[],[0,1,2],(A3 h).symm,yF,?_⟩
 try simp only[*,go_sem,seval]
 rintro m ⟨_,_,_⟩ A _ h
 simp only[go_sem,seval,Zb] at A
 obtain ⟨⟨_,_,_,_,_,_,_,_,_,_,_⟩,_,_,_,hn⟩:=A
 subst hn
 have:=ZB (d.outs.length)
 try simp only[*,go_sem,seval]
 refine yB h (fun _ h=>?_) fun _ h=>?_
 refine ⟨_,[],[0,1],(A3 h).symm,yF,?_⟩
 try simp only[*,go_sem,seval]
 refine ⟨_,[],[0,1],(A3 h).symm,yF,?_⟩
 try simp only[*,go_sem,seval]
 rintro ⟨e,f⟩ ⟨_,_,_⟩ B _ h
 simp only[go_sem,seval,Zb] at B
 obtain ⟨⟨_,_,_,_,_,_⟩,_,_,hn⟩:=B
 subst hn
 have:=ZB (a.reasons.length)
 try simp only[*,go_sem,seval]
 refine ⟨_,[],[0,1],(A3 h).symm,yF,?_⟩
 try simp only[*,go_sem,seval]
 replace h:=Zr h C
 cases h
 try simp only[*,go_sem,seval]
theorem Zm7 {r_0:Zf} {rounds_1:(List Int)} {before_2:Int} {r:Bool} (h:Zbq r_0 rounds_1 before_2=some r):Zm prog J0 264 [(true,ZG r_0),(false,[.sl 3 1 (A0 ZO rounds_1)]),(false,[.int .i64 before_2])] [(false,[(false,.bool r)])]:=by
 refine fnk func264 rfl ?_
 unfold Zbq at h
 simp only[fnS,f264,Zo,go_sem,seval]
 refine Zh h (fun i _ st=>IV [(1,yM (yV rounds_1)),(2,yM (.int .i64 before_2)),(3,.bp 0 0),(12,yM (yV r_0.inn)),(13,yL r_0.inn.length),(14,yL i)] [zC 179 (ZG r_0)] st) [] [0] yF yD ?_ ?_
 rintro _ _ ⟨⟩ ⟨_,_,_⟩ _ a d l h e
 simp only[go_sem,seval,Zb] at d
 obtain ⟨⟨_,_,_,m,_,_⟩,_,hn⟩:=d
 subst hn
 have o:=WF.slotL l m (j:=0) rfl
 have:=ZC a
 have:=ZE a
 have:=Zk (ZD a) o
 obtain ⟨_,_,_,_,h⟩:=ZcM h
 try simp only[*,go_sem,seval]
 refine yB h (fun _ h=>?_) fun _ h=>?_
 replace h:=Zr h e
 cases h
 try simp only[*,go_sem,seval]
 refine yB h (fun _ h=>?_) fun _ h=>?_
 replace h:=Zr h e
 cases h
 try simp only[*,go_sem,seval]
 refine ⟨_,[],[0],(A3 h).symm,yF,?_⟩
 try simp only[*,go_sem,seval]
 rintro ⟨⟩ ⟨_,_,_⟩ f _ h
 simp only[go_sem,seval,Zb] at f
 obtain ⟨⟨_,_,_,_,_,_⟩,_,hn⟩:=f
 subst hn
 have:=ZB (r_0.inn.length)
 try simp only[*,go_sem,seval]
 refine Zh h (fun i _ st=>IV [(1,yM (yV rounds_1)),(33,yM (yV r_0.outs)),(34,yL r_0.outs.length),(35,yL i)] [] st) [] [] yF yD ?_ ?_
 rintro _ _ ⟨⟩ ⟨_,_,_⟩ _ b g q h t
 simp only[go_sem,seval,Zb] at g
 obtain ⟨⟨_,u,_,_⟩,hn⟩:=g
 subst hn
 have v:=WF.slotL q u (j:=0) rfl
 have:=ZC b
 have:=ZE b
 have:=Zk (ZD b) v
 obtain ⟨_,_,_,_,h⟩:=ZcM h
 try simp only[*,go_sem,seval]
 refine yB h (fun _ h=>?_) fun _ h=>?_
 replace h:=Zr h t
 cases h
 try simp only[*,go_sem,seval]
 refine ⟨_,[],[],(A3 h).symm,yF,?_⟩
 try simp only[*,go_sem,seval]
 rintro ⟨⟩ ⟨_,_,_⟩ k _ h
 simp only[go_sem,seval,Zb] at k
 obtain ⟨⟨_,_,_,_⟩,hn⟩:=k
 subst hn
 have:=ZB (r_0.outs.length)
 cases h
 try simp only[*,go_sem,seval]
theorem ZII {l_0:(List ByteArray)} {sep_1:ByteArray} {r:ByteArray} (h:ZHV l_0 sep_1=some r):Zm prog J0 177 [(false,[.sl 9 1 (A0 ZA l_0)]),(false,[.str sep_1])] [(false,[(false,.str r)])]:=by
 refine fnk func177 rfl ?_
 unfold ZHV at h
 have a:ZbS ⟨#[]⟩=true:=by decide
 simp only[fnS,f177,Zo,go_sem,seval,a]
 obtain ⟨_,b,h⟩:=Za h
 refine Zd (ZIK b) ?_
 cases h
 try simp only[*,go_sem,seval]
theorem ZkK {n_0:Int} {r:ByteArray} (h:ZaQ n_0=some r):Zm prog J0 91 [(false,[.int .i64 n_0])] [(false,[(false,.str r)])]:=by
 refine fnk func91 rfl ?_
 unfold ZaQ at h
 have g:ZbS ⟨#[45,57,50,50,51,51,55,50,48,51,54,56,53,52,55,55,53,56,48,56]⟩=true:=by decide
 have i:ZbS ⟨#[]⟩=true:=by decide
 have j:¬((10:Int)=0):=by decide
 simp only[fnS,f91,Zo,go_sem,seval,g,i,j]
 refine yB h (fun _ h=>?_) fun _ h=>?_
 cases h
 try simp only[*,go_sem,seval]
 refine yB h (fun _ h=>?_) fun _ h=>?_
 cases h
 refine Xj h (fun s st=>match s with | (a,b)=>IV [(0,yM (.int .i64 a)),(3,yM (.str b))] [] st) [] [] yF yD ?_
 rintro ⟨a,b⟩ ⟨_,_,_⟩ _ d _ h k
 simp only[go_sem,seval,Zb] at d
 obtain ⟨⟨_,_⟩,hn⟩:=d
 subst hn
 obtain ⟨e,h⟩:=Zv h
 try simp only[Nat.reduceLeDiff] at e
 try simp only[go_sem] at e
 try simp only[*,go_sem,seval]
 refine yB h (fun _ h=>?_) fun _ h=>?_
 replace h:=Zr h k
 cases h
 try simp only[*,go_sem,seval]
 refine ⟨_,[],[],(A3 h).symm,yF,?_⟩
 try simp only[*,go_sem,seval]
theorem ZmT {n_0:Int} {r:ByteArray} (h:Zbl n_0=some r):Zm prog J0 91 [(false,[.int .i64 n_0])] [(false,[(false,.str r)])]:=by
 refine fnk func91 rfl ?_
 unfold Zbl at h
 have i:ZbS ⟨#[45,57,50,50,51,51,55,50,48,51,54,56,53,52,55,55,53,56,48,56]⟩=true:=by decide
 have j:ZbS ⟨#[45]⟩=true:=by decide
 have k:ZbS ⟨#[]⟩=true:=by decide
 have l:¬((10:Int)=0):=by decide
 simp only[fnS,f91,Zo,go_sem,seval,i,j,k,l]
 refine yB h (fun _ h=>?_) fun _ h=>?_
 cases h
 try simp only[*,go_sem,seval]
 refine yB h (fun _ h=>?_) fun _ h=>?_
 obtain ⟨_,m,h⟩:=Za h
 refine Zd (ZkK m) ?_
 obtain ⟨a,h⟩:=Zv h
 try simp only[Nat.reduceLeDiff] at a
 try simp only[go_sem] at a
 cases h
 try simp only[*,go_sem,seval]
 refine Xj h (fun s st=>match s with | (b,d)=>IV [(0,yM (.int .i64 b)),(3,yM (.str d))] [] st) [] [] yF yD ?_
 rintro ⟨b,d⟩ ⟨_,_,_⟩ _ e _ h o
 simp only[go_sem,seval,Zb] at e
 obtain ⟨⟨_,_⟩,hn⟩:=e
 subst hn
 obtain ⟨f,h⟩:=Zv h
 try simp only[Nat.reduceLeDiff] at f
 try simp only[go_sem] at f
 try simp only[*,go_sem,seval]
 refine yB h (fun _ h=>?_) fun _ h=>?_
 replace h:=Zr h o
 cases h
 try simp only[*,go_sem,seval]
 refine ⟨_,[],[],(A3 h).symm,yF,?_⟩
 try simp only[*,go_sem,seval]
theorem XM {x_0:Int} {least_1:Int} {most_2:Int} {r:Bool} (h:Qr x_0 least_1 most_2=some r):Zm prog J0 122 [(false,[.int .i64 x_0]),(false,[.int .i64 least_1]),(false,[.int .i64 most_2])] [(false,[(false,.bool r)])]:=by
 refine fnk func122 rfl ?_
 unfold Qr at h
 simp only[fnS,f122,Zo,go_sem,seval]
 refine yB h (fun _ h=>?_) fun _ h=>?_
 iterate 2 (cases h;try simp only[*,go_sem,seval])
end
section
theorem XF {a:(List ByteArray)} {b:ByteArray} {r:(List ByteArray)} (h:Qd a b=some r):Zm prog J0 242 [(false,[.sl 9 1 (A0 ZA a)]),(false,[.str b])] [(false,[(false,.sl 9 1 (A0 ZA r))])]:=by
 refine fnk func242 rfl ?_
 unfold Qd at h
 simp only[fnS,f242,Zo,go_sem,seval]
 refine Zh h (fun i s st=>match s with | (d,e)=>IV [(0,yM (yU a)),(1,yM (.str b)),(5,.p false [.row 0]),(6,yM (.bool e)),(7,yL i)] [.row 9 1 (A0 ZA d) 2] st) [] [16] yF yD ?_ ?_
 rintro _ _ ⟨d,e⟩ ⟨_,_,_⟩ _ f g l h _
 simp only[go_sem,seval,Zb] at g
 obtain ⟨⟨m,_,_,_,_⟩,_,hn⟩:=g
 subst hn
 have o:=WF.slotL l m (j:=0) rfl
 have:=ZC f
 have:=ZE f
 have:=Zk (ZD f) o
 try simp only[*,go_sem,seval]
 refine yB h (fun _ h=>?_) fun _ h=>?_
 obtain ⟨q,h⟩:=Zv h
 try simp only[Nat.reduceLeDiff] at q
 try simp only[*,go_sem,seval]
 refine ⟨_,[],[321],(A3 h).symm,yF,?_⟩
 try simp only[*,go_sem,seval]
 refine yB h (fun _ h=>?_) fun _ h=>?_
 obtain ⟨t,h⟩:=Zv h
 try simp only[Nat.reduceLeDiff] at t
 try simp only[*,go_sem,seval]
 refine ⟨_,[],[321],(A3 h).symm,yF,?_⟩
 try simp only[*,go_sem,seval]
 refine yB h (fun _ h=>?_) fun _ h=>?_
 obtain ⟨u,h⟩:=Zv h
 try simp only[Nat.reduceLeDiff] at u
 try simp only[*,go_sem,seval]
 refine ⟨_,[],[433],(A3 h).symm,yF,?_⟩
 try simp only[*,go_sem,seval]
 obtain ⟨v,h⟩:=Zv h
 try simp only[Nat.reduceLeDiff] at v
 obtain ⟨w,h⟩:=Zv h
 try simp only[Nat.reduceLeDiff] at w
 try simp only[*,go_sem,seval]
 refine ⟨_,[],[513],(A3 h).symm,yF,?_⟩
 try simp only[*,go_sem,seval]
 rintro ⟨d,e⟩ ⟨_,_,_⟩ k _ h
 simp only[go_sem,seval,Zb] at k
 obtain ⟨⟨_,_,_,_,_⟩,_,hn⟩:=k
 subst hn
 have:=ZB (a.length)
 try simp only[*,go_sem,seval]
 refine yB h (fun _ h=>?_) fun _ h=>?_
 cases h
 try simp only[*,go_sem,seval]
 obtain ⟨x,h⟩:=Zv h
 try simp only[Nat.reduceLeDiff] at x
 cases h
 try simp only[*,go_sem,seval]
theorem YQ {l_0:(List ByteArray)} {s_1:ByteArray} {r:Bool} (h:ZW l_0 s_1=some r):Zm prog J0 181 [(false,[.sl 9 1 (A0 ZA l_0)]),(false,[.str s_1])] [(false,[(false,.bool r)])]:=by
 refine fnk func181 rfl ?_
 unfold ZW at h
 simp only[fnS,f181,Zo,go_sem,seval]
 refine Zh h (fun i _ st=>IV [(0,yM (yU l_0)),(1,yM (.str s_1)),(5,yL i)] [] st) [] [] yF yD ?_ ?_
 rintro _ _ ⟨⟩ ⟨_,_,_⟩ _ a b e h f
 simp only[go_sem,seval,Zb] at b
 obtain ⟨⟨g,_,_⟩,hn⟩:=b
 subst hn
 have k:=WF.slotL e g (j:=0) rfl
 have:=ZC a
 have:=ZE a
 have:=Zk (ZD a) k
 try simp only[*,go_sem,seval]
 refine yB h (fun _ h=>?_) fun _ h=>?_
 replace h:=Zr h f
 cases h
 try simp only[*,go_sem,seval]
 refine ⟨_,[],[],(A3 h).symm,yF,?_⟩
 try simp only[*,go_sem,seval]
 rintro ⟨⟩ ⟨_,_,_⟩ d _ h
 simp only[go_sem,seval,Zb] at d
 obtain ⟨⟨_,_,_⟩,hn⟩:=d
 subst hn
 have:=ZB (l_0.length)
 cases h
 try simp only[*,go_sem,seval]
theorem ZIj {kind_0:Int} {r:ByteArray} (h:ZHq kind_0=some r):Zm prog J0 108 [(false,[.int .i64 kind_0])] [(false,[(false,.str r)])]:=by
 refine fnk func108 rfl ?_
 unfold ZHq at h
 have a:ZbS ⟨#[32,33,61,32]⟩=true:=by decide
 have b:ZbS ⟨#[32,60,32]⟩=true:=by decide
 have c:ZbS ⟨#[32,61,32]⟩=true:=by decide
 have d:ZbS ⟨#[]⟩=true:=by decide
 simp only[fnS,f108,Zo,go_sem,seval,a,b,c,d]
 iterate 2 ((refine Ze h (fun _ h=>?_) fun _ h=>?_<;>try simp only[*,go_sem,seval]);cases h;try simp only[*,go_sem,seval])
 cases h
 try simp only[*,go_sem,seval]
theorem Zmz {a_0:ByteArray} {b_1:ByteArray} {r:Int} (h:Zh8 a_0 b_1=some r):Zm prog J0 115 [(false,[.str a_0]),(false,[.str b_1])] [(false,[(false,.int .i64 r)])]:=by
 refine fnk func115 rfl ?_
 unfold Zh8 at h
 simp only[fnS,f115,Zo,go_sem,seval]
 refine yB h (fun a h=>?_) fun a h=>?_
 cases h
 try simp only[*,go_sem,seval]
 refine Ze h (fun b h=>?_) (fun b h=>?_)
 have c:=b
 try simp only[a,A8,A9] at c
 cases h
 try simp only[*,go_sem,seval]
 have c:=b
 try simp only[a,A8,A9] at c
 cases h
 try simp only[*,go_sem,seval]
theorem ZqC {l_0:(List ByteArray)} {r:(List ByteArray)} (h:ZfK l_0=some r):Zm prog J0 214 [(false,[.sl 9 1 (A0 ZA l_0)])] [(false,[(false,.sl 9 1 (A0 ZA r))])]:=by
 refine fnk func214 rfl ?_
 unfold ZfK at h
 simp only[fnS,f214,Zo,go_sem,seval]
 obtain ⟨a,h⟩:=Zv h
 try simp only[Nat.reduceLeDiff] at a
 cases h
 try simp only[*,go_sem,seval]
theorem ZeN {b_0:(List Zi)} {r:(List Zi)} (h:ZaS b_0=some r):Zm prog J0 65 [(false,[.sl 162 2 (A0 ZR b_0)])] [(false,[(false,.sl 162 2 (A0 ZR r))])]:=by
 refine fnk func65 rfl ?_
 unfold ZaS at h
 simp only[fnS,f65,Zo,go_sem,seval]
 obtain ⟨a,h⟩:=Zv h
 try simp only[Nat.reduceLeDiff] at a
 cases h
 try simp only[*,go_sem,seval]
theorem ZtD {a:(List Zi)} {b:ByteArray} {d:ByteArray} {r:(List Zi)} (h:ZjO a b d=some r):Zm prog J0 204 [(false,[.sl 162 2 (A0 ZR a)]),(false,[.str b]),(false,[.str d])] [(false,[(false,.sl 162 2 (A0 ZR r))])]:=by
 refine fnk func204 rfl ?_
 unfold ZjO at h
 simp only[fnS,f204,Zo,go_sem,seval]
 refine Zh h (fun i s st=>match s with | (e,f)=>IV [(0,yM (yX a)),(1,yM (.str b)),(2,yM (.str d)),(7,.p false [.row 0]),(8,yM (.bool f)),(9,yL i)] [.row 162 2 (A0 ZR e) 2] st) [] [16] yF yD ?_ ?_
 rintro _ _ ⟨e,f⟩ ⟨_,_,_⟩ _ g o t h _
 simp only[go_sem,seval,Zb] at o
 obtain ⟨⟨u,_,_,_,_,_⟩,_,hn⟩:=o
 subst hn
 have v:=WF.slotL t u (j:=0) rfl
 have:=ZC g
 have:=ZE g
 have:=Zk (ZD g) v
 try simp only[*,go_sem,seval]
 refine yB h (fun k h=>?_) fun k h=>?_
 obtain ⟨w,h⟩:=Zv h
 try simp only[Nat.reduceLeDiff] at w
 try simp only[*,go_sem,seval]
 refine ⟨_,[],[337],(A3 h).symm,yF,?_⟩
 try simp only[*,go_sem,seval]
 refine Ze h (fun l h=>?_) (fun l h=>?_)
 have m:=l
 try simp only[k,A8,A9] at m
 obtain ⟨x,h⟩:=Zv h
 try simp only[Nat.reduceLeDiff] at x
 try simp only[*,go_sem,seval]
 refine ⟨_,[],[337],(A3 h).symm,yF,?_⟩
 try simp only[*,go_sem,seval]
 have m:=l
 try simp only[k,A8,A9] at m
 obtain ⟨y,h⟩:=Zv h
 try simp only[Nat.reduceLeDiff] at y
 obtain ⟨z,h⟩:=Zv h
 try simp only[Nat.reduceLeDiff] at z
 try simp only[*,go_sem,seval]
 refine ⟨_,[],[465],(A3 h).symm,yF,?_⟩
 try simp only[*,go_sem,seval]
 rintro ⟨e,f⟩ ⟨_,_,_⟩ q _ h
 simp only[go_sem,seval,Zb] at q
 obtain ⟨⟨_,_,_,_,_,_⟩,_,hn⟩:=q
 subst hn
 have:=ZB (a.length)
 try simp only[*,go_sem,seval]
 refine yB h (fun _ h=>?_) fun _ h=>?_
 cases h
 try simp only[*,go_sem,seval]
 obtain ⟨A,h⟩:=Zv h
 try simp only[Nat.reduceLeDiff] at A
 cases h
 try simp only[*,go_sem,seval]
theorem ZfX {r_0:Zg} {r:(List Zl)} (h:X8 r_0=some r):Zm prog J0 210 [(true,ZL r_0)] [(false,[(true,.sl 80 5 (A0 ZJ r))])]:=by
 refine fnk func210 rfl ?_
 unfold X8 at h
 simp only[fnS,f210,Zo,go_sem,seval]
 refine Zh h (fun i a st=>IV [(1,.bp 0 0),(3,.p false [.row 1]),(4,yL i)] [zC 76 (ZL r_0),.row 80 5 (A0 ZJ a) 1] st) [(true,32,1)] [0,32] yF yD ?_ ?_
 rintro _ _ a ⟨_,_,_⟩ _ b d f h _
 simp only[go_sem,seval,Zb] at d
 obtain ⟨⟨_,_,_⟩,g,_,hn⟩:=d
 subst hn
 have k:=WF.boxL f g (j:=2) rfl
 have:=ZC b
 have:=ZE b
 have:=Zk (ZD b) k
 try simp only[*,go_sem,seval]
 refine yB h (fun _ h=>?_) fun _ h=>?_
 obtain ⟨l,h⟩:=Zv h
 try simp only[Nat.reduceLeDiff] at l
 try simp only[*,go_sem,seval]
 refine ⟨_,[],[0,306],(A3 h).symm,yF,?_⟩
 try simp only[*,go_sem,seval]
 refine ⟨_,[],[0,1],(A3 h).symm,yF,?_⟩
 try simp only[*,go_sem,seval]
 rintro a ⟨_,_,_⟩ e _ h
 simp only[go_sem,seval,Zb] at e
 obtain ⟨⟨_,_,_⟩,_,_,hn⟩:=e
 subst hn
 have:=ZB (r_0.cond.length)
 cases h
 try simp only[*,go_sem,seval]
theorem Zob {l_0:(List Zg)} {name_1:ByteArray} {r:Int} (h:Zga l_0 name_1=some r):Zm prog J0 45 [(false,[.sl 76 4 (A0 ZL l_0)]),(false,[.str name_1])] [(false,[(false,.int .i64 r)])]:=by
 refine fnk func45 rfl ?_
 unfold Zga at h
 simp only[fnS,f45,Zo,go_sem,seval]
 refine Zh h (fun i _ st=>IV [(0,yM (yW l_0)),(1,yM (.str name_1)),(5,yL i)] [] st) [] [] yF yD ?_ ?_
 rintro _ _ ⟨⟩ ⟨_,_,_⟩ _ a b e h f
 simp only[go_sem,seval,Zb] at b
 obtain ⟨⟨g,_,_⟩,hn⟩:=b
 subst hn
 have k:=WF.slotL e g (j:=0) rfl
 have:=ZC a
 have:=ZE a
 have:=Zk (ZD a) k
 try simp only[*,go_sem,seval]
 refine yB h (fun _ h=>?_) fun _ h=>?_
 replace h:=Zr h f
 cases h
 try simp only[*,go_sem,seval]
 refine ⟨_,[],[],(A3 h).symm,yF,?_⟩
 try simp only[*,go_sem,seval]
 rintro ⟨⟩ ⟨_,_,_⟩ d _ h
 simp only[go_sem,seval,Zb] at d
 obtain ⟨⟨_,_,_⟩,hn⟩:=d
 subst hn
 have:=ZB (l_0.length)
 cases h
 try simp only[*,go_sem,seval]
theorem Zks {a_0:(List ByteArray)} {b_1:(List ByteArray)} {r:Bool} (h:Ze7 a_0 b_1=some r):Zm prog J0 201 [(false,[.sl 9 1 (A0 ZA a_0)]),(false,[.sl 9 1 (A0 ZA b_1)])] [(false,[(false,.bool r)])]:=by
 refine fnk func201 rfl ?_
 unfold Ze7 at h
 simp only[fnS,f201,Zo,go_sem,seval]
 refine yB h (fun _ h=>?_) fun _ h=>?_
 cases h
 try simp only[*,go_sem,seval]
 refine Zh h (fun i _ st=>IV [(0,yM (yU a_0)),(1,yM (yU b_1)),(5,yL i)] [] st) [] [] yF yD ?_ ?_
 rintro _ _ ⟨⟩ ⟨_,_,_⟩ _ a b e h f
 simp only[go_sem,seval,Zb] at b
 obtain ⟨⟨g,_,_⟩,hn⟩:=b
 subst hn
 have k:=WF.slotL e g (j:=0) rfl
 have:=ZC a
 have:=ZE a
 have:=Zk (ZD a) k
 obtain ⟨_,_,_,l,h⟩:=ZcM h
 simp only[A7] at l
 try simp only[*,go_sem,seval]
 refine yB h (fun _ h=>?_) fun _ h=>?_
 refine ⟨_,[],[],(A3 h).symm,yF,?_⟩
 try simp only[*,go_sem,seval]
 replace h:=Zr h f
 cases h
 try simp only[*,go_sem,seval]
 rintro ⟨⟩ ⟨_,_,_⟩ d _ h
 simp only[go_sem,seval,Zb] at d
 obtain ⟨⟨_,_,_⟩,hn⟩:=d
 subst hn
 have:=ZB (a_0.length)
 cases h
 try simp only[*,go_sem,seval]
theorem ZsW {a:(List Int)} {b:Int} {r:(List Int)} (h:ZhE a b=some r):Zm prog J0 288 [(false,[.sl 3 1 (A0 ZO a)]),(false,[.int .i64 b])] [(false,[(false,.sl 3 1 (A0 ZO r))])]:=by
 refine fnk func288 rfl ?_
 unfold ZhE at h
 simp only[fnS,f288,Zo,go_sem,seval]
 refine Zh h (fun i s st=>match s with | (d,e)=>IV [(0,yM (yV a)),(1,yM (.int .i64 b)),(5,.p false [.row 0]),(6,yM (.bool e)),(7,yL i)] [.row 3 1 (A0 ZO d) 2] st) [] [16] yF yD ?_ ?_
 rintro _ _ ⟨d,e⟩ ⟨_,_,_⟩ _ f k m h _
 simp only[go_sem,seval,Zb] at k
 obtain ⟨⟨o,_,_,_,_⟩,_,hn⟩:=k
 subst hn
 have q:=WF.slotL m o (j:=0) rfl
 have:=ZC f
 have:=ZE f
 have:=Zk (ZD f) q
 try simp only[*,go_sem,seval]
 refine yB h (fun _ h=>?_) fun _ h=>?_
 obtain ⟨t,h⟩:=Zv h
 try simp only[Nat.reduceLeDiff] at t
 try simp only[*,go_sem,seval]
 refine ⟨_,[],[321],(A3 h).symm,yF,?_⟩
 try simp only[*,go_sem,seval]
 iterate 2 refine yB h (fun _ h=>?_) fun _ h=>?_
 obtain ⟨u,h⟩:=Zv h
 try simp only[Nat.reduceLeDiff] at u
 obtain ⟨v,h⟩:=Zv h
 try simp only[Nat.reduceLeDiff] at v
 try simp only[*,go_sem,seval]
 refine ⟨_,[],[513],(A3 h).symm,yF,?_⟩
 try simp only[*,go_sem,seval]
 obtain ⟨w,h⟩:=Zv h
 try simp only[Nat.reduceLeDiff] at w
 try simp only[*,go_sem,seval]
 refine ⟨_,[],[433],(A3 h).symm,yF,?_⟩
 try simp only[*,go_sem,seval]
 obtain ⟨x,h⟩:=Zv h
 try simp only[Nat.reduceLeDiff] at x
 try simp only[*,go_sem,seval]
 refine ⟨_,[],[321],(A3 h).symm,yF,?_⟩
 try simp only[*,go_sem,seval]
 rintro ⟨d,e⟩ ⟨_,_,_⟩ l _ h
 simp only[go_sem,seval,Zb] at l
 obtain ⟨⟨_,_,_,_,_⟩,_,hn⟩:=l
 subst hn
 have:=ZB (a.length)
 try simp only[*,go_sem,seval]
 refine yB h (fun _ h=>?_) fun _ h=>?_
 cases h
 try simp only[*,go_sem,seval]
 obtain ⟨y,h⟩:=Zv h
 try simp only[Nat.reduceLeDiff] at y
 cases h
 try simp only[*,go_sem,seval]
theorem Zgz {a_0:(List Int)} {b_1:(List Int)} {r:Bool} (h:Zb3 a_0 b_1=some r):Zm prog J0 252 [(false,[.sl 3 1 (A0 ZO a_0)]),(false,[.sl 3 1 (A0 ZO b_1)])] [(false,[(false,.bool r)])]:=by
 refine fnk func252 rfl ?_
 unfold Zb3 at h
 simp only[fnS,f252,Zo,go_sem,seval]
 refine yB h (fun _ h=>?_) fun _ h=>?_
 cases h
 try simp only[*,go_sem,seval]
 refine Zh h (fun i _ st=>IV [(0,yM (yV a_0)),(1,yM (yV b_1)),(5,yL i)] [] st) [] [] yF yD ?_ ?_
 rintro _ _ ⟨⟩ ⟨_,_,_⟩ _ a b e h f
 simp only[go_sem,seval,Zb] at b
 obtain ⟨⟨g,_,_⟩,hn⟩:=b
 subst hn
 have k:=WF.slotL e g (j:=0) rfl
 have:=ZC a
 have:=ZE a
 have:=Zk (ZD a) k
 obtain ⟨_,_,_,l,h⟩:=ZcM h
 simp only[A7] at l
 try simp only[*,go_sem,seval]
 refine yB h (fun _ h=>?_) fun _ h=>?_
 replace h:=Zr h f
 cases h
 try simp only[*,go_sem,seval]
 refine ⟨_,[],[],(A3 h).symm,yF,?_⟩
 try simp only[*,go_sem,seval]
 rintro ⟨⟩ ⟨_,_,_⟩ d _ h
 simp only[go_sem,seval,Zb] at d
 obtain ⟨⟨_,_,_⟩,hn⟩:=d
 subst hn
 have:=ZB (a_0.length)
 cases h
 try simp only[*,go_sem,seval]
theorem Zq8 {l_0:(List Int)} {r:(List Int)} (h:Zjo l_0=some r):Zm prog J0 234 [(false,[.sl 3 1 (A0 ZO l_0)])] [(false,[(false,.sl 3 1 (A0 ZO r))])]:=by
 refine fnk func234 rfl ?_
 unfold Zjo at h
 simp only[fnS,f234,Zo,go_sem,seval]
 obtain ⟨a,h⟩:=Zv h
 try simp only[Nat.reduceLeDiff] at a
 cases h
 try simp only[*,go_sem,seval]
theorem ZmL {l_0:(List Int)} {rounds_1:(List Int)} {round_2:Int} {r:Bool} (h:Zc5 l_0 rounds_1 round_2=some r):Zm prog J0 289 [(false,[.sl 3 1 (A0 ZO l_0)]),(false,[.sl 3 1 (A0 ZO rounds_1)]),(false,[.int .i64 round_2])] [(false,[(false,.bool r)])]:=by
 refine fnk func289 rfl ?_
 unfold Zc5 at h
 simp only[fnS,f289,Zo,go_sem,seval]
 refine Zh h (fun i _ st=>IV [(0,yM (yV l_0)),(1,yM (yV rounds_1)),(2,yM (.int .i64 round_2)),(7,yL i)] [] st) [] [] yF yD ?_ ?_
 rintro _ _ ⟨⟩ ⟨_,_,_⟩ _ a b f h d
 simp only[go_sem,seval,Zb] at b
 obtain ⟨⟨g,_,_,_⟩,hn⟩:=b
 subst hn
 have k:=WF.slotL f g (j:=0) rfl
 have:=ZC a
 have:=ZE a
 have:=Zk (ZD a) k
 obtain ⟨_,_,_,_,h⟩:=ZcM h
 try simp only[*,go_sem,seval]
 refine yB h (fun _ h=>?_) fun _ h=>?_
 replace h:=Zr h d
 cases h
 try simp only[*,go_sem,seval]
 refine yB h (fun _ h=>?_) fun _ h=>?_
 replace h:=Zr h d
 cases h
 try simp only[*,go_sem,seval]
 refine ⟨_,[],[],(A3 h).symm,yF,?_⟩
 try simp only[*,go_sem,seval]
 rintro ⟨⟩ ⟨_,_,_⟩ e _ h
 simp only[go_sem,seval,Zb] at e
 obtain ⟨⟨_,_,_,_⟩,hn⟩:=e
 subst hn
 have:=ZB (l_0.length)
 cases h
 try simp only[*,go_sem,seval]
theorem Zqc {l_0:(List Int)} {rounds_1:(List Int)} {r:Bool} (h:ZfV l_0 rounds_1=some r):Zm prog J0 290 [(false,[.sl 3 1 (A0 ZO l_0)]),(false,[.sl 3 1 (A0 ZO rounds_1)])] [(false,[(false,.bool r)])]:=by
 refine fnk func290 rfl ?_
 unfold ZfV at h
 simp only[fnS,f290,Zo,go_sem,seval]
 refine Zh h (fun i _ st=>IV [(0,yM (yV l_0)),(1,yM (yV rounds_1)),(5,yL i)] [] st) [] [] yF yD ?_ ?_
 rintro _ _ ⟨⟩ ⟨_,_,_⟩ _ a b e h f
 simp only[go_sem,seval,Zb] at b
 obtain ⟨⟨g,_,_⟩,hn⟩:=b
 subst hn
 have k:=WF.slotL e g (j:=0) rfl
 have:=ZC a
 have:=ZE a
 have:=Zk (ZD a) k
 obtain ⟨_,_,_,_,h⟩:=ZcM h
 try simp only[*,go_sem,seval]
 refine yB h (fun _ h=>?_) fun _ h=>?_
 replace h:=Zr h f
 cases h
 try simp only[*,go_sem,seval]
 refine ⟨_,[],[],(A3 h).symm,yF,?_⟩
 try simp only[*,go_sem,seval]
 rintro ⟨⟩ ⟨_,_,_⟩ d _ h
 simp only[go_sem,seval,Zb] at d
 obtain ⟨⟨_,_,_⟩,hn⟩:=d
 subst hn
 have:=ZB (l_0.length)
 cases h
 try simp only[*,go_sem,seval]
theorem ZIH {l_0:(List ByteArray)} {sep_1:ByteArray} {r:ByteArray} (h:ZHX l_0 sep_1=some r):Zm prog J0 166 [(false,[.sl 9 1 (A0 ZA l_0)]),(false,[.str sep_1])] [(false,[(false,.str r)])]:=by
 refine fnk func166 rfl ?_
 unfold ZHX at h
 have l:ZbS ⟨#[]⟩=true:=by decide
 simp only[fnS,f166,Zo,go_sem,seval,l]
 refine Zh h (fun i a st=>IV [(0,yM (yU l_0)),(1,yM (.str sep_1)),(5,yM (.str a)),(6,yL i)] [] st) [] [] yF yD ?_ ?_
 rintro _ _ a ⟨_,_,_⟩ _ b d m h _
 simp only[go_sem,seval,Zb] at d
 obtain ⟨⟨o,_,_,_⟩,hn⟩:=d
 subst hn
 have q:=WF.slotL m o (j:=0) rfl
 have:=ZC b
 have:=ZE b
 have:=Zk (ZD b) q
 try simp only[*,go_sem,seval]
 refine yB h (fun _ h=>?_) fun _ h=>?_
 obtain ⟨e,h⟩:=Zv h
 try simp only[Nat.reduceLeDiff] at e
 try simp only[go_sem] at e
 obtain ⟨f,h⟩:=Zv h
 try simp only[Nat.reduceLeDiff] at f
 try simp only[go_sem] at f
 try simp only[*,go_sem,seval]
 refine ⟨_,[],[],(A3 h).symm,yF,?_⟩
 try simp only[*,go_sem,seval]
 obtain ⟨g,h⟩:=Zv h
 try simp only[Nat.reduceLeDiff] at g
 try simp only[go_sem] at g
 try simp only[*,go_sem,seval]
 refine ⟨_,[],[],(A3 h).symm,yF,?_⟩
 try simp only[*,go_sem,seval]
 rintro a ⟨_,_,_⟩ k _ h
 simp only[go_sem,seval,Zb] at k
 obtain ⟨⟨_,_,_,_⟩,hn⟩:=k
 subst hn
 have:=ZB (l_0.length)
 cases h
 try simp only[*,go_sem,seval]
end
section
theorem Zqg {r_0:Zg} {r:(List ByteArray)} (h:Zct r_0=some r):Zm prog J0 307 [(true,ZL r_0)] [(false,[(false,.sl 9 1 (A0 ZA r))])]:=by
 refine fnk func307 rfl ?_
 unfold Zct at h
 simp only[fnS,f307,Zo,go_sem,seval]
 refine Zh h (fun i a st=>IV [(1,.bp 0 0),(3,.p false [.row 1]),(4,yL i)] [zC 76 (ZL r_0),.row 9 1 (A0 ZA a) 2] st) [] [0,32] yF yD ?_ ?_
 rintro _ _ a ⟨_,_,_⟩ _ b d f h _
 simp only[go_sem,seval,Zb] at d
 obtain ⟨⟨_,_,_⟩,g,_,hn⟩:=d
 subst hn
 have k:=WF.boxL f g (j:=2) rfl
 have:=ZC b
 have:=ZE b
 have:=Zk (ZD b) k
 try simp only[*,go_sem,seval]
 refine yB h (fun _ h=>?_) fun _ h=>?_
 obtain ⟨_,l,h⟩:=Za h
 refine Zd (XF l) ?_
 try simp only[*,go_sem,seval]
 refine ⟨_,[],[0,466],(A3 h).symm,yF,?_⟩
 try simp only[*,go_sem,seval]
 refine yB h (fun _ h=>?_) fun _ h=>?_
 obtain ⟨_,m,h⟩:=Za h
 refine Zd (XF m) ?_
 try simp only[*,go_sem,seval]
 refine ⟨_,[],[0,466],(A3 h).symm,yF,?_⟩
 try simp only[*,go_sem,seval]
 refine ⟨_,[],[0,1],(A3 h).symm,yF,?_⟩
 try simp only[*,go_sem,seval]
 rintro a ⟨_,_,_⟩ e _ h
 simp only[go_sem,seval,Zb] at e
 obtain ⟨⟨_,_,_⟩,_,_,hn⟩:=e
 subst hn
 have:=ZB (r_0.cond.length)
 cases h
 try simp only[*,go_sem,seval]
theorem ZrW {a_0:Zc} {b_1:Zc} {r:Bool} (h:Zm2 a_0 b_1=some r):Zm prog J0 136 [(true,Zs a_0),(true,Zs b_1)] [(false,[(false,.bool r)])]:=by
 refine fnk func136 rfl ?_
 unfold Zm2 at h
 simp only[fnS,f136,Zo,go_sem,seval]
 refine yB h (fun _ h=>?_) fun _ h=>?_
 obtain ⟨_,a,h⟩:=Za h
 refine Zd (Zks a) ?_
 iterate 2 (cases h;try simp only[*,go_sem,seval])
theorem ZqY {l_0:(List Zf)} {r_1:Zf} {r:Int} (h:Zfz l_0 r_1=some r):Zm prog J0 212 [(false,[.sl 179 3 (A0 ZG l_0)]),(true,ZG r_1)] [(false,[(false,.int .i64 r)])]:=by
 refine fnk func212 rfl ?_
 unfold Zfz at h
 simp only[fnS,f212,Zo,go_sem,seval]
 refine Zh h (fun i _ st=>IV [(0,yM (zA l_0)),(3,.bp 0 0),(5,yL i)] [zC 179 (ZG r_1)] st) [] [0] yF yD ?_ ?_
 rintro _ _ ⟨⟩ ⟨_,_,_⟩ _ a b e h f
 simp only[go_sem,seval,Zb] at b
 obtain ⟨⟨g,_,_⟩,_,hn⟩:=b
 subst hn
 have k:=WF.slotL e g (j:=0) rfl
 have:=ZC a
 have:=ZE a
 have:=Zk (ZD a) k
 try simp only[*,go_sem,seval]
 refine yB h (fun _ h=>?_) fun _ h=>?_
 obtain ⟨_,l,h⟩:=Za h
 refine Zd (Zgz l) ?_
 try simp only[*,go_sem,seval]
 refine yB h (fun _ h=>?_) fun _ h=>?_
 obtain ⟨_,m,h⟩:=Za h
 refine Zd (Zgz m) ?_
 try simp only[*,go_sem,seval]
 refine yB h (fun _ h=>?_) fun _ h=>?_
 replace h:=Zr h f
 cases h
 try simp only[*,go_sem,seval]
 refine ⟨_,[],[0],(A3 h).symm,yF,?_⟩
 try simp only[*,go_sem,seval]
 refine ⟨_,[],[0],(A3 h).symm,yF,?_⟩
 try simp only[*,go_sem,seval]
 refine ⟨_,[],[0],(A3 h).symm,yF,?_⟩
 try simp only[*,go_sem,seval]
 rintro ⟨⟩ ⟨_,_,_⟩ d _ h
 simp only[go_sem,seval,Zb] at d
 obtain ⟨⟨_,_,_⟩,_,hn⟩:=d
 subst hn
 have:=ZB (l_0.length)
 cases h
 try simp only[*,go_sem,seval]
theorem ZjJ {l_0:(List Int)} {n_1:Int} {r:Bool} (h:Zci l_0 n_1=some r):Zm prog J0 331 [(false,[.sl 3 1 (A0 ZO l_0)]),(false,[.int .i64 n_1])] [(false,[(false,.bool r)])]:=by
 refine fnk func331 rfl ?_
 unfold Zci at h
 simp only[fnS,f331,Zo,go_sem,seval]
 refine Zh h (fun i _ st=>IV [(0,yM (yV l_0)),(1,yM (.int .i64 n_1)),(5,yL i)] [] st) [] [] yF yD ?_ ?_
 rintro _ _ ⟨⟩ ⟨_,_,_⟩ _ a b f h d
 simp only[go_sem,seval,Zb] at b
 obtain ⟨⟨g,_,_⟩,hn⟩:=b
 subst hn
 have k:=WF.slotL f g (j:=0) rfl
 have:=ZC a
 have:=ZE a
 have:=Zk (ZD a) k
 try simp only[*,go_sem,seval]
 obtain ⟨_,l,h⟩:=Za h
 refine Zd (XM l) ?_
 try simp only[*,go_sem,seval]
 iterate 2 refine yB h (fun _ h=>?_) fun _ h=>?_
 obtain ⟨_,_,_,_,h⟩:=ZcM h
 try simp only[*,go_sem,seval]
 refine yB h (fun _ h=>?_) fun _ h=>?_
 replace h:=Zr h d
 cases h
 try simp only[*,go_sem,seval]
 refine ⟨_,[],[],(A3 h).symm,yF,?_⟩
 try simp only[*,go_sem,seval]
 refine ⟨_,[],[],(A3 h).symm,yF,?_⟩
 try simp only[*,go_sem,seval]
 replace h:=Zr h d
 cases h
 try simp only[*,go_sem,seval]
 rintro ⟨⟩ ⟨_,_,_⟩ e _ h
 simp only[go_sem,seval,Zb] at e
 obtain ⟨⟨_,_,_⟩,hn⟩:=e
 subst hn
 have:=ZB (l_0.length)
 cases h
 try simp only[*,go_sem,seval]
theorem Zos {a:Zt} {String_1:Int} {r:(List Bool)} (h:ZdN a String_1=some r):Zm prog J0 309 [(true,Qu a),(false,[.int .i64 String_1])] [(false,[(false,.sl 4 1 (A0 Ze4 r))])]:=by
 refine fnk func309 rfl ?_
 unfold ZdN at h
 simp only[fnS,f309,Zo,go_sem,seval]
 obtain ⟨_,h⟩:=Zv h
 try simp only[*,go_sem,seval]
 refine Xj h (fun s st=>match s with | (l,m,d)=>IV [(2,.bp 0 0),(5,.p false [.row 1]),(6,.p false [.row 2]),(7,yM (.int .i64 d))] [.box 140 [.c (.int .i64 a.nodes),.c (zA a.reasons)],.row 4 1 (A0 Ze4 l) 2,.row 3 1 (A0 ZO m) 2] st) [] [0,64,112] yF yD ?_
 rintro ⟨l,m,d⟩ ⟨_,_,_⟩ _ o _ h z
 simp only[go_sem,seval,Zb] at o
 obtain ⟨⟨_,_,_,_⟩,_,_,_,hn⟩:=o
 subst hn
 try simp only[*,go_sem,seval]
 refine yB h (fun _ h=>?_) fun _ h=>?_
 refine Zh h (fun i s st=>match s with | (e,f)=>IV [(2,.bp 0 0),(5,.p false [.row 1]),(6,.p false [.row 2]),(7,yM (.int .i64 d)),(8,yL i)] [.box 140 [.c (.int .i64 a.nodes),.c (zA a.reasons)],.row 4 1 (A0 Ze4 e) 2,.row 3 1 (A0 ZO f) 2] st) [] [0,1,2] yF yD ?_ ?_
 rintro A q ⟨e,f⟩ ⟨_,_,_⟩ _ g t B h _
 simp only[go_sem,seval,Zb] at t
 obtain ⟨⟨_,_,_,_,_⟩,C,_,_,hn⟩:=t
 subst hn
 have D:=WF.boxL B C (j:=1) rfl
 have:=ZC g
 have:=ZE g
 have:=Zk (ZD g) D
 obtain ⟨_,h⟩:=Zv h
 obtain ⟨_,_,h⟩:=Za h
 try simp only[*,go_sem,seval]
 refine yB h (fun _ h=>?_) fun _ h=>?_
 refine ⟨_,[],[0,1,2],(A3 h).symm,yF,?_⟩
 try simp only[*,go_sem,seval]
 obtain ⟨u,E,h⟩:=Za h
 refine Zd (Zq8 E) ?_
 obtain ⟨F,h⟩:=Zv h
 try simp only[Nat.reduceLeDiff] at F
 try simp only[*,go_sem,seval]
 refine Xj h (fun s st=>match s with | (v,w,k)=>IV [(2,.bp 0 0),(5,.p false [.row 1]),(6,.p false [.row 2]),(7,yM (.int .i64 d)),(8,yL A),(9,.p false [.row 3]),(10,yM (.int .i64 k))] [.box 140 [.c (.int .i64 a.nodes),.c (zA a.reasons)],.row 4 1 (A0 Ze4 v) 2,.row 3 1 (A0 ZO w) 2,.row 3 1 (A0 ZO (u++q.outs)) 2] st) [] [0,1,2,467] yF yD ?_
 rintro ⟨v,w,k⟩ ⟨_,_,_⟩ _ x _ h G
 simp only[go_sem,seval,Zb] at x
 obtain ⟨⟨_,_,_,_,_,_,_⟩,_,_,_,_,hn⟩:=x
 subst hn
 try simp only[*,go_sem,seval]
 refine yB h (fun _ h=>?_) fun _ h=>?_
 obtain ⟨_,h⟩:=Zv h
 obtain ⟨H,I,h⟩:=Za h
 have K:(A0 ZO u++A0 ZO q.outs)[(Int.toNat k)]?=some (ZO H):=by rw [←List.map_append,AA,I];rfl
 obtain ⟨_,h⟩:=Zv h
 obtain ⟨_,_,h⟩:=Za h
 try simp only[*,go_sem,seval]
 refine yB h (fun _ h=>?_) fun _ h=>?_
 refine ⟨_,[],[0,1,2,3],(A3 h).symm,yF,?_⟩
 try simp only[*,go_sem,seval]
 obtain ⟨J,h⟩:=Zv h
 try simp only[Nat.reduceLeDiff] at J
 try simp only[*,go_sem,seval]
 refine ⟨_,[],[0,1,404,3],(A3 h).symm,yF,?_⟩
 try simp only[*,go_sem,seval]
 replace h:=Zr h G
 refine ⟨_,[],[0,1,2],(A3 h).symm,yF,?_⟩
 try simp only[*,go_sem,seval]
 rintro ⟨e,f⟩ ⟨_,_,_⟩ y _ h
 simp only[go_sem,seval,Zb] at y
 obtain ⟨⟨_,_,_,_,_⟩,_,_,_,hn⟩:=y
 subst hn
 have:=ZB (a.reasons.length)
 try simp only[*,go_sem,seval]
 refine ⟨_,[],[0,1,2],(A3 h).symm,yF,?_⟩
 try simp only[*,go_sem,seval]
 replace h:=Zr h z
 cases h
 try simp only[*,go_sem,seval]
theorem ZiI {b:Zt} {e:(List Int)} {f:Int} {d:(List Int)} {g:Int} {r:(List Int)} (h:Zce b e f d g=some r):Zm prog J0 278 [(true,Qu b),(false,[.sl 3 1 (A0 ZO e)]),(false,[.int .i64 f]),(false,[.sl 3 1 (A0 ZO d)]),(false,[.int .i64 g])] [(false,[(false,.sl 3 1 (A0 ZO r))])]:=by
 refine fnk func278 rfl ?_
 unfold Zce at h
 simp only[fnS,f278,Zo,go_sem,seval]
 refine Xj h (fun s st=>match s with | (l,k)=>IV [(1,yM (yV e)),(2,yM (.int .i64 f)),(3,yM (yV d)),(4,yM (.int .i64 g)),(5,.bp 0 0),(11,.p false [.row 1]),(12,yM (.int .i64 k))] [.box 140 [.c (.int .i64 b.nodes),.c (zA b.reasons)],.row 3 1 (A0 ZO l) 2] st) [] [0,32] yF yD ?_
 rintro ⟨l,k⟩ ⟨_,_,_⟩ _ o _ h v
 simp only[go_sem,seval,Zb] at o
 obtain ⟨⟨_,_,_,_,_,_,_⟩,_,_,hn⟩:=o
 subst hn
 try simp only[*,go_sem,seval]
 refine yB h (fun _ h=>?_) fun _ h=>?_
 obtain ⟨_,_,_,_,h⟩:=ZcM h
 try simp only[*,go_sem,seval]
 refine yB h (fun _ h=>?_) fun _ h=>?_
 refine ⟨_,[],[0,1],(A3 h).symm,yF,?_⟩
 try simp only[*,go_sem,seval]
 obtain ⟨q,_,_,_,h⟩:=ZcM h
 try simp only[*,go_sem,seval]
 refine yB h (fun _ h=>?_) fun _ h=>?_
 refine ⟨_,[],[0,1],(A3 h).symm,yF,?_⟩
 try simp only[*,go_sem,seval]
 refine Zh h (fun i _ st=>IV [(1,yM (yV e)),(2,yM (.int .i64 f)),(3,yM (yV d)),(4,yM (.int .i64 g)),(5,.bp 0 0),(11,.p false [.row 1]),(12,yM (.int .i64 k)),(13,yL i),(29,yM (yV d)),(30,yM (.int .i64 k)),(32,yM (.int .i64 q)),(33,yM (.bool (decide (0≤q))))] [.box 140 [.c (.int .i64 b.nodes),.c (zA b.reasons)],.row 3 1 (A0 ZO l) 2] st) [] [0,1] yF yD ?_ ?_
 rintro _ _ ⟨⟩ ⟨_,_,_⟩ _ m t w h x
 simp only[go_sem,seval,Zb] at t
 obtain ⟨⟨_,_,_,_,_,_,_,_,_,_,_,_⟩,y,_,hn⟩:=t
 subst hn
 have z:=WF.boxL w y (j:=1) rfl
 have:=ZC m
 have:=ZE m
 have:=Zk (ZD m) z
 try simp only[*,go_sem,seval]
 refine yB h (fun _ h=>?_) fun _ h=>?_
 obtain ⟨_,A,h⟩:=Za h
 refine Zd (ZmL A) ?_
 try simp only[*,go_sem,seval]
 refine yB h (fun _ h=>?_) fun _ h=>?_
 obtain ⟨_,B,h⟩:=Za h
 refine Zd (Zqc B) ?_
 try simp only[*,go_sem,seval]
 refine yB h (fun _ h=>?_) fun _ h=>?_
 obtain ⟨C,h⟩:=Zv h
 try simp only[Nat.reduceLeDiff] at C
 replace h:=Zr h x
 try simp only[*,go_sem,seval]
 refine ⟨_,[],[0,514],(A3 h).symm,yF,?_⟩
 try simp only[*,go_sem,seval]
 refine ⟨_,[],[0,1],(A3 h).symm,yF,?_⟩
 try simp only[*,go_sem,seval]
 refine ⟨_,[],[0,1],(A3 h).symm,yF,?_⟩
 try simp only[*,go_sem,seval]
 refine ⟨_,[],[0,1],(A3 h).symm,yF,?_⟩
 try simp only[*,go_sem,seval]
 rintro ⟨⟩ ⟨_,_,_⟩ u _ h
 simp only[go_sem,seval,Zb] at u
 obtain ⟨⟨_,_,_,_,_,_,_,_,_,_,_,_⟩,_,_,hn⟩:=u
 subst hn
 have:=ZB (b.reasons.length)
 try simp only[*,go_sem,seval]
 refine ⟨_,[],[0,1],(A3 h).symm,yF,?_⟩
 try simp only[*,go_sem,seval]
 replace h:=Zr h v
 cases h
 try simp only[*,go_sem,seval]
end
section
theorem Zhr {s_0:ByteArray} {r:Bool} (h:Zey s_0=some r):Zm prog J0 141 [(false,[.str s_0])] [(false,[(false,.bool r)])]:=by
 refine fnk func141 rfl ?_
 unfold Zey at h
 simp only[fnS,f141,Zo,go_sem,seval]
 obtain ⟨_,a,h⟩:=Za h
 refine Zd (QG a) ?_
 try simp only[*,go_sem,seval]
 refine yB h (fun _ h=>?_) fun _ h=>?_
 obtain ⟨_,_,b,h⟩:=ZuE h
 try simp only[seval] at b
 iterate 2 (cases h;try simp only[*,go_sem,seval])
theorem ZdX {s_0:ByteArray} {r:Bool} (h:Zdp s_0=some r):Zm prog J0 207 [(false,[.str s_0])] [(false,[(false,.bool r)])]:=by
 refine fnk func207 rfl ?_
 unfold Zdp at h
 simp only[fnS,f207,Zo,go_sem,seval]
 refine yB h (fun _ h=>?_) fun _ h=>?_
 obtain ⟨_,_,a,h⟩:=ZuE h
 try simp only[seval] at a
 try simp only[*,go_sem,seval]
 refine yB h (fun _ h=>?_) fun _ h=>?_
 obtain ⟨_,h⟩:=Zv h
 try simp only[*,go_sem,seval]
 obtain ⟨_,b,h⟩:=Za h
 refine Zd (QG b) ?_
 iterate 3 (cases h;try simp only[*,go_sem,seval])
theorem YO {f_0:Zc} {r:Zc} (h:YE f_0=some r):Zm prog J0 114 [(true,Zs f_0)] [(true,[(false,.str r.rel),(false,.sl 9 1 (A0 ZA r.args))])]:=by
 refine fnk func114 rfl ?_
 unfold YE at h
 simp only[fnS,f114,Zo,go_sem,seval]
 obtain ⟨_,a,h⟩:=Za h
 refine Zd (Zhb a) ?_
 cases h
 try simp only[*,go_sem,seval]
theorem ZcG {s_0:ByteArray} {r:(Int × Bool)} (h:Zae s_0=some r):Zm prog J0 250 [(false,[.str s_0])] [(false,[(false,.int .i64 r.1)]),(false,[(false,.bool r.2)])]:=by
 refine fnk func250 rfl ?_
 unfold Zae at h
 simp only[fnS,f250,Zo,go_sem,seval]
 iterate 2 ((refine Ze h (fun _ h=>?_) fun _ h=>?_<;>try simp only[*,go_sem,seval]);cases h;try simp only[*,go_sem,seval])
 obtain ⟨_,a,h⟩:=Za h
 refine Zd (Zv1 a) ?_
 try simp only[*,go_sem,seval]
 iterate 2 refine yB h (fun _ h=>?_) fun _ h=>?_
 cases h
 try simp only[*,go_sem,seval]
 refine yB h (fun _ h=>?_) fun _ h=>?_
 cases h
 try simp only[*,go_sem,seval]
 obtain ⟨_,b,h⟩:=Za h
 refine Zd (Zmm b) ?_
 try simp only[*,go_sem,seval]
 refine yB h (fun _ h=>?_) fun _ h=>?_
 iterate 3 (cases h;try simp only[*,go_sem,seval])
theorem ZoB {a_0:Zc} {b_1:Zc} {r:Bool} (h:Zca a_0 b_1=some r):Zm prog J0 143 [(true,Zs a_0),(true,Zs b_1)] [(false,[(false,.bool r)])]:=by
 refine fnk func143 rfl ?_
 unfold Zca at h
 simp only[fnS,f143,Zo,go_sem,seval]
 refine yB h (fun _ h=>?_) fun _ h=>?_
 obtain ⟨_,a,h⟩:=Za h
 refine Zd (Znk a) ?_
 iterate 2 (cases h;try simp only[*,go_sem,seval])
theorem Zp2 {x_0:Zl} {r:(List ByteArray)} (h:ZhS x_0=some r):Zm prog J0 285 [(true,ZJ x_0)] [(false,[(false,.sl 9 1 (A0 ZA r))])]:=by
 refine fnk func285 rfl ?_
 unfold ZhS at h
 simp only[fnS,f285,Zo,go_sem,seval]
 obtain ⟨_,a,h⟩:=Za h
 refine Zd (Zhb a) ?_
 obtain ⟨b,h⟩:=Zv h
 try simp only[Nat.reduceLeDiff] at b
 cases h
 try simp only[*,go_sem,seval]
theorem Zit {r_0:Zg} {r:(List ByteArray)} (h:QR r_0=some r):Zm prog J0 294 [(true,ZL r_0)] [(false,[(false,.sl 9 1 (A0 ZA r))])]:=by
 refine fnk func294 rfl ?_
 unfold QR at h
 simp only[fnS,f294,Zo,go_sem,seval]
 refine Zh h (fun i a st=>IV [(3,.p false [.row 0]),(7,yM (yZ r_0.thn)),(8,yL r_0.thn.length),(9,yL i)] [.row 9 1 (A0 ZA a) 2] st) [(false,3,0)] [112] yF yD ?_ ?_
 rintro _ _ a ⟨_,_,_⟩ _ b d f h _
 simp only[go_sem,seval,Zb] at d
 obtain ⟨⟨_,g,_,_⟩,_,hn⟩:=d
 subst hn
 have k:=WF.slotL f g (j:=0) rfl
 have:=ZC b
 have:=ZE b
 have:=Zk (ZD b) k
 try simp only[*,go_sem,seval]
 refine yB h (fun _ h=>?_) fun _ h=>?_
 obtain ⟨l,h⟩:=Zv h
 try simp only[Nat.reduceLeDiff] at l
 try simp only[*,go_sem,seval]
 refine ⟨_,[],[289],(A3 h).symm,yF,?_⟩
 try simp only[*,go_sem,seval]
 refine yB h (fun _ h=>?_) fun _ h=>?_
 obtain ⟨m,h⟩:=Zv h
 try simp only[Nat.reduceLeDiff] at m
 try simp only[*,go_sem,seval]
 refine ⟨_,[],[289],(A3 h).symm,yF,?_⟩
 try simp only[*,go_sem,seval]
 refine ⟨_,[],[0],(A3 h).symm,yF,?_⟩
 try simp only[*,go_sem,seval]
 rintro a ⟨_,_,_⟩ e _ h
 simp only[go_sem,seval,Zb] at e
 obtain ⟨⟨_,_,_,_⟩,_,hn⟩:=e
 subst hn
 have:=ZB (r_0.thn.length)
 try simp only[*,go_sem,seval]
 obtain ⟨_,o,h⟩:=Za h
 refine Zd (Qy o) ?_
 cases h
 try simp only[*,go_sem,seval]
theorem ZqF {r_0:Zg} {r:(List ByteArray)} (h:Zcp r_0=some r):Zm prog J0 319 [(true,ZL r_0)] [(false,[(false,.sl 9 1 (A0 ZA r))])]:=by
 refine fnk func319 rfl ?_
 unfold Zcp at h
 simp only[fnS,f319,Zo,go_sem,seval]
 refine Zh h (fun i a st=>IV [(3,.p false [.row 0]),(7,yM (yY r_0.cond)),(8,yL r_0.cond.length),(9,yL i)] [.row 9 1 (A0 ZA a) 2] st) [(false,3,0)] [112] yF yD ?_ ?_
 rintro _ _ a ⟨_,_,_⟩ _ b d f h _
 simp only[go_sem,seval,Zb] at d
 obtain ⟨⟨_,g,_,_⟩,_,hn⟩:=d
 subst hn
 have k:=WF.slotL f g (j:=0) rfl
 have:=ZC b
 have:=ZE b
 have:=Zk (ZD b) k
 try simp only[*,go_sem,seval]
 refine yB h (fun _ h=>?_) fun _ h=>?_
 obtain ⟨l,h⟩:=Zv h
 try simp only[Nat.reduceLeDiff] at l
 try simp only[*,go_sem,seval]
 refine ⟨_,[],[289],(A3 h).symm,yF,?_⟩
 try simp only[*,go_sem,seval]
 refine yB h (fun _ h=>?_) fun _ h=>?_
 obtain ⟨m,h⟩:=Zv h
 try simp only[Nat.reduceLeDiff] at m
 try simp only[*,go_sem,seval]
 refine ⟨_,[],[289],(A3 h).symm,yF,?_⟩
 try simp only[*,go_sem,seval]
 refine ⟨_,[],[0],(A3 h).symm,yF,?_⟩
 try simp only[*,go_sem,seval]
 rintro a ⟨_,_,_⟩ e _ h
 simp only[go_sem,seval,Zb] at e
 obtain ⟨⟨_,_,_,_⟩,_,hn⟩:=e
 subst hn
 have:=ZB (r_0.cond.length)
 try simp only[*,go_sem,seval]
 obtain ⟨_,o,h⟩:=Za h
 refine Zd (Qy o) ?_
 cases h
 try simp only[*,go_sem,seval]
theorem ZlS {a_0:Zf} {b_1:Zf} {r:Bool} (h:Zb1 a_0 b_1=some r):Zm prog J0 259 [(true,ZG a_0),(true,ZG b_1)] [(false,[(false,.bool r)])]:=by
 refine fnk func259 rfl ?_
 unfold Zb1 at h
 simp only[fnS,f259,Zo,go_sem,seval]
 refine yB h (fun _ h=>?_) fun _ h=>?_
 obtain ⟨_,a,h⟩:=Za h
 refine Zd (ZiE a) ?_
 try simp only[*,go_sem,seval]
 refine yB h (fun _ h=>?_) fun _ h=>?_
 obtain ⟨_,b,h⟩:=Za h
 refine Zd (ZiE b) ?_
 iterate 3 (cases h;try simp only[*,go_sem,seval])
theorem Zq7 {b:Zt} {r:(List Int)} (h:ZhI b=some r):Zm prog J0 221 [(true,Qu b)] [(false,[(false,.sl 3 1 (A0 ZO r))])]:=by
 refine fnk func221 rfl ?_
 unfold ZhI at h
 simp only[fnS,f221,Zo,go_sem,seval]
 obtain ⟨f,B,h⟩:=Za h
 refine Zd (Zsl B) ?_
 obtain ⟨_,h⟩:=Zv h
 try simp only[*,go_sem,seval]
 refine Xj h (fun s st=>match s with | (t,u,e)=>IV [(1,.bp 0 0),(3,.p false [.row 1]),(4,.p false [.row 2]),(5,yM (.int .i64 e)),(20,yM (.int .i64 ((Int.toNat b.nodes:Nat):Int))),(21,yM (.int .i64 u))] [.box 140 [.c (.int .i64 b.nodes),.c (zA b.reasons)],.row 3 1 (A0 ZO f) 2,.row 3 1 (A0 ZO t) 2] st) [] [0,48,112] yF yD ?_
 rintro ⟨t,u,e⟩ ⟨_,_,_⟩ _ v _ h C
 simp only[go_sem,seval,Zb] at v
 obtain ⟨⟨_,_,_,_,_,_⟩,_,_,_,hn⟩:=v
 subst hn
 try simp only[*,go_sem,seval]
 refine yB h (fun _ h=>?_) fun _ h=>?_
 obtain ⟨_,h⟩:=Zv h
 obtain ⟨_,_,h⟩:=Za h
 obtain ⟨_,h⟩:=Zv h
 obtain ⟨_,_,h⟩:=Za h
 try simp only[*,go_sem,seval]
 refine ⟨_,[],[0,1,2],(A3 h).symm,yF,?_⟩
 try simp only[*,go_sem,seval]
 refine Xj h (fun s st=>match s with | (l,g,k)=>IV [(1,.bp 0 0),(3,.p false [.row 1]),(4,.p false [.row 2]),(5,yM (.int .i64 e)),(7,yM (.int .i64 g)),(8,yM (.int .i64 k))] [.box 140 [.c (.int .i64 b.nodes),.c (zA b.reasons)],.row 3 1 (A0 ZO f) 2,.row 3 1 (A0 ZO l) 2] st) [] [0,1,2] yF yD ?_
 rintro ⟨l,g,k⟩ ⟨_,_,_⟩ _ w _ h D
 simp only[go_sem,seval,Zb] at w
 obtain ⟨⟨_,_,_,_,_,_⟩,_,_,_,hn⟩:=w
 subst hn
 try simp only[*,go_sem,seval]
 refine yB h (fun _ h=>?_) fun _ h=>?_
 refine Zh h (fun i d st=>IV [(1,.bp 0 0),(3,.p false [.row 1]),(4,.p false [.row 2]),(5,yM (.int .i64 e)),(7,yM (.int .i64 g)),(8,yM (.int .i64 k)),(9,.p false [.row 3]),(38,yM (zA b.reasons)),(39,yL b.reasons.length),(40,yL i)] [.box 140 [.c (.int .i64 b.nodes),.c (zA b.reasons)],.row 3 1 (A0 ZO f) 2,.row 3 1 (A0 ZO l) 2,.row 3 1 (A0 ZO d) 2] st) [(false,9,0)] [0,1,2,131] yF yD ?_ ?_
 rintro _ _ d ⟨_,_,_⟩ _ m x E h _
 simp only[go_sem,seval,Zb] at x
 obtain ⟨⟨_,_,_,_,_,_,_,F,_,_⟩,_,_,_,_,hn⟩:=x
 subst hn
 have G:=WF.slotL E F (j:=0) rfl
 have:=ZC m
 have:=ZE m
 have:=Zk (ZD m) G
 obtain ⟨_,h⟩:=Zv h
 obtain ⟨_,_,h⟩:=Za h
 try simp only[*,go_sem,seval]
 refine yB h (fun _ h=>?_) fun _ h=>?_
 obtain ⟨_,h⟩:=Zv h
 obtain ⟨_,_,h⟩:=Za h
 try simp only[*,go_sem,seval]
 refine yB h (fun _ h=>?_) fun _ h=>?_
 obtain ⟨_,H,h⟩:=Za h
 refine Zd (Zm7 H) ?_
 try simp only[*,go_sem,seval]
 refine yB h (fun _ h=>?_) fun _ h=>?_
 obtain ⟨I,h⟩:=Zv h
 try simp only[Nat.reduceLeDiff] at I
 try simp only[*,go_sem,seval]
 refine ⟨_,[],[0,1,2,484],(A3 h).symm,yF,?_⟩
 try simp only[*,go_sem,seval]
 refine ⟨_,[],[0,1,2,3],(A3 h).symm,yF,?_⟩
 try simp only[*,go_sem,seval]
 refine ⟨_,[],[0,1,2,3],(A3 h).symm,yF,?_⟩
 try simp only[*,go_sem,seval]
 refine ⟨_,[],[0,1,2,3],(A3 h).symm,yF,?_⟩
 try simp only[*,go_sem,seval]
 rintro d ⟨_,_,_⟩ y _ h
 simp only[go_sem,seval,Zb] at y
 obtain ⟨⟨_,_,_,_,_,_,_,_,_,_⟩,_,_,_,_,hn⟩:=y
 subst hn
 have:=ZB (b.reasons.length)
 try simp only[*,go_sem,seval]
 refine yB h (fun _ h=>?_) fun _ h=>?_
 refine ⟨_,[],[0,1,2],(A3 h).symm,yF,?_⟩
 try simp only[*,go_sem,seval]
 refine Zh h (fun i o st=>IV [(1,.bp 0 0),(3,.p false [.row 1]),(4,.p false [.row 2]),(5,yM (.int .i64 e)),(7,yM (.int .i64 g)),(8,yM (.int .i64 k)),(76,.p false [.row 3]),(77,yL d.length),(78,yL i)] [.box 140 [.c (.int .i64 b.nodes),.c (zA b.reasons)],.row 3 1 (A0 ZO f) 2,.row 3 1 (A0 ZO o) 2,.row 3 1 (A0 ZO d) 2] st) [] [0,1,2,3] yF yD ?_ ?_
 rintro _ _ o ⟨_,_,_⟩ _ q z J h _
 simp only[go_sem,seval,Zb] at z
 obtain ⟨⟨_,_,_,_,_,_,_,_,_⟩,_,_,_,K,hn⟩:=z
 subst hn
 have L:=WF.rowL J K
 have:=ZC q
 have:=ZE q
 have:=Zk (ZD q) L
 obtain ⟨_,h⟩:=Zv h
 obtain ⟨_,_,h⟩:=Za h
 try simp only[*,go_sem,seval]
 refine ⟨_,[],[0,1,2,3],(A3 h).symm,yF,?_⟩
 try simp only[*,go_sem,seval]
 rintro o ⟨_,_,_⟩ A _ h
 simp only[go_sem,seval,Zb] at A
 obtain ⟨⟨_,_,_,_,_,_,_,_,_⟩,_,_,_,_,hn⟩:=A
 subst hn
 have:=ZB (d.length)
 try simp only[*,go_sem,seval]
 refine ⟨_,[],[0,1,2],(A3 h).symm,yF,?_⟩
 try simp only[*,go_sem,seval]
 replace h:=Zr h D
 replace h:=Zr h C
 cases h
 try simp only[*,go_sem,seval]
theorem Zfh {s_0:ByteArray} {r:(Int × Bool)} (h:Zag s_0=some r):Zm prog J0 176 [(false,[.str s_0])] [(false,[(false,.int .i64 r.1)]),(false,[(false,.bool r.2)])]:=by
 refine fnk func176 rfl ?_
 unfold Zag at h
 simp only[fnS,f176,Zo,go_sem,seval]
 obtain ⟨_,g,h⟩:=Za h
 refine Zd (XM g) ?_
 try simp only[*,go_sem,seval]
 refine yB h (fun _ h=>?_) fun _ h=>?_
 refine Zh h (fun i a st=>IV [(0,yM (.str s_0)),(4,yM (.int .i64 a)),(5,yL i)] [] st) [] [] yF yD ?_ ?_
 rintro _ _ a ⟨_,_,_⟩ _ b d k h e
 simp only[go_sem,seval,Zb] at d
 obtain ⟨⟨l,_,_⟩,hn⟩:=d
 subst hn
 have m:=WF.slotS k l (j:=0) rfl
 have:=Zp3 b
 have:=Zxp b
 have:=Zk (ZuC b) m
 try simp only[*,go_sem,seval]
 refine yB h (fun _ h=>?_) fun _ h=>?_
 replace h:=Zr h e
 cases h
 try simp only[*,go_sem,seval]
 refine yB h (fun _ h=>?_) fun _ h=>?_
 replace h:=Zr h e
 cases h
 try simp only[*,go_sem,seval]
 refine ⟨_,[],[],(A3 h).symm,yF,?_⟩
 try simp only[*,go_sem,seval]
 rintro a ⟨_,_,_⟩ f _ h
 simp only[go_sem,seval,Zb] at f
 obtain ⟨⟨_,_,_⟩,hn⟩:=f
 subst hn
 have:=ZB (s_0.size)
 try simp only[*,go_sem,seval]
 obtain ⟨_,o,h⟩:=Za h
 refine Zd (ZmT o) ?_
 try simp only[*,go_sem,seval]
 refine yB h (fun _ h=>?_) fun _ h=>?_
 iterate 3 (cases h;try simp only[*,go_sem,seval])
theorem QA {s_0:ByteArray} {r:Bool} (h:QT s_0=some r):Zm prog J0 104 [(false,[.str s_0])] [(false,[(false,.bool r)])]:=by
 refine fnk func104 rfl ?_
 unfold QT at h
 simp only[fnS,f104,Zo,go_sem,seval]
 refine Zh h (fun i _ st=>IV [(0,yM (.str s_0)),(3,yL i)] [] st) [] [] yF yD ?_ ?_
 rintro _ _ ⟨⟩ ⟨_,_,_⟩ _ a b e h f
 simp only[go_sem,seval,Zb] at b
 obtain ⟨⟨g,_⟩,hn⟩:=b
 subst hn
 have k:=WF.slotS e g (j:=0) rfl
 have:=Zp3 a
 have:=Zxp a
 have:=Zk (ZuC a) k
 try simp only[*,go_sem,seval]
 obtain ⟨_,l,h⟩:=Za h
 refine Zd (XM l) ?_
 try simp only[*,go_sem,seval]
 refine yB h (fun _ h=>?_) fun _ h=>?_
 refine ⟨_,[],[],(A3 h).symm,yF,?_⟩
 try simp only[*,go_sem,seval]
 obtain ⟨_,m,h⟩:=Za h
 refine Zd (XM m) ?_
 try simp only[*,go_sem,seval]
 refine yB h (fun _ h=>?_) fun _ h=>?_
 refine ⟨_,[],[],(A3 h).symm,yF,?_⟩
 try simp only[*,go_sem,seval]
 replace h:=Zr h f
 cases h
 try simp only[*,go_sem,seval]
 rintro ⟨⟩ ⟨_,_,_⟩ d _ h
 simp only[go_sem,seval,Zb] at d
 obtain ⟨⟨_,_⟩,hn⟩:=d
 subst hn
 have:=ZB (s_0.size)
 try simp only[*,go_sem,seval]
 obtain ⟨_,o,h⟩:=Za h
 refine Zd (XM o) ?_
 cases h
 try simp only[*,go_sem,seval]
theorem Xr {f_0:Zc} {r:Zc} (h:XE f_0=some r):Zm prog J0 153 [(true,Zs f_0)] [(true,[(false,.str r.rel),(false,.sl 9 1 (A0 ZA r.args))])]:=by
 refine fnk func153 rfl ?_
 unfold XE at h
 simp only[fnS,f153,Zo,go_sem,seval]
 obtain ⟨_,a,h⟩:=Za h
 refine Zd (ZqC a) ?_
 cases h
 try simp only[*,go_sem,seval]
theorem Zop {a_0:(List ByteArray)} {b_1:(List ByteArray)} {r:Bool} (h:Zd6 a_0 b_1=some r):Zm prog J0 306 [(false,[.sl 9 1 (A0 ZA a_0)]),(false,[.sl 9 1 (A0 ZA b_1)])] [(false,[(false,.bool r)])]:=by
 refine fnk func306 rfl ?_
 unfold Zd6 at h
 simp only[fnS,f306,Zo,go_sem,seval]
 refine Zh h (fun i _ st=>IV [(0,yM (yU a_0)),(1,yM (yU b_1)),(5,yL i)] [] st) [] [] yF yD ?_ ?_
 rintro _ _ ⟨⟩ ⟨_,_,_⟩ _ a b e h f
 simp only[go_sem,seval,Zb] at b
 obtain ⟨⟨g,_,_⟩,hn⟩:=b
 subst hn
 have k:=WF.slotL e g (j:=0) rfl
 have:=ZC a
 have:=ZE a
 have:=Zk (ZD a) k
 try simp only[*,go_sem,seval]
 obtain ⟨_,l,h⟩:=Za h
 refine Zd (YQ l) ?_
 try simp only[*,go_sem,seval]
 refine yB h (fun _ h=>?_) fun _ h=>?_
 refine ⟨_,[],[],(A3 h).symm,yF,?_⟩
 try simp only[*,go_sem,seval]
 replace h:=Zr h f
 cases h
 try simp only[*,go_sem,seval]
 rintro ⟨⟩ ⟨_,_,_⟩ d _ h
 simp only[go_sem,seval,Zb] at d
 obtain ⟨⟨_,_,_⟩,hn⟩:=d
 subst hn
 have:=ZB (a_0.length)
 cases h
 try simp only[*,go_sem,seval]
theorem Zij {r_0:Zg} {r:(List ByteArray)} (h:Q9 r_0=some r):Zm prog J0 272 [(true,ZL r_0)] [(false,[(false,.sl 9 1 (A0 ZA r))])]:=by
 refine fnk func272 rfl ?_
 unfold Q9 at h
 simp only[fnS,f272,Zo,go_sem,seval]
 refine Zh h (fun i a st=>IV [(1,.bp 0 0),(3,.p false [.row 1]),(4,yL i)] [zC 76 (ZL r_0),.row 9 1 (A0 ZA a) 2] st) [] [0,32] yF yD ?_ ?_
 rintro _ _ a ⟨_,_,_⟩ _ b d f h _
 simp only[go_sem,seval,Zb] at d
 obtain ⟨⟨_,_,_⟩,g,_,hn⟩:=d
 subst hn
 have k:=WF.boxL f g (j:=3) rfl
 have:=ZC b
 have:=ZE b
 have:=Zk (ZD b) k
 try simp only[*,go_sem,seval]
 refine yB h (fun _ h=>?_) fun _ h=>?_
 obtain ⟨_,l,h⟩:=Za h
 refine Zd (XF l) ?_
 try simp only[*,go_sem,seval]
 refine ⟨_,[],[0,466],(A3 h).symm,yF,?_⟩
 try simp only[*,go_sem,seval]
 refine yB h (fun _ h=>?_) fun _ h=>?_
 obtain ⟨_,m,h⟩:=Za h
 refine Zd (XF m) ?_
 try simp only[*,go_sem,seval]
 refine ⟨_,[],[0,466],(A3 h).symm,yF,?_⟩
 try simp only[*,go_sem,seval]
 refine ⟨_,[],[0,1],(A3 h).symm,yF,?_⟩
 try simp only[*,go_sem,seval]
 rintro a ⟨_,_,_⟩ e _ h
 simp only[go_sem,seval,Zb] at e
 obtain ⟨⟨_,_,_⟩,_,_,hn⟩:=e
 subst hn
 have:=ZB (r_0.thn.length)
 cases h
 try simp only[*,go_sem,seval]
end
section
open Go.RowKit
structure Enc {α:Type} (c:Yh α) (f:α→List CT):Prop where
 to:∀{w:World} {cs:List Value} {x:α} {L:List Nat},c.rep w cs x L→RCs w (f x) cs L
 of:∀{w:World} {cs:List Value} {x:α} {L:List Nat},RCs w (f x) cs L→c.rep w cs x L
section
variable {α:Type} {c:Yh α} {f:α→List CT} {w:World}
theorem Enc.reps (h:Enc c f):∀{ds:List α} {xs:List Value} {L:List Nat},c.reps w xs ds L→REs w c.size (ds.map f) xs L
 | [],_,_,h1=>h1
 | _::_,_,_,⟨c1,c2,L1,L2,h1,h2,h3,h4⟩=>⟨c1,c2,L1,L2,h1,h2,⟨h.to h3,c.len h3⟩,h.reps h4⟩
theorem Enc.reps_of (h:Enc c f):∀{ds:List α} {xs:List Value} {L:List Nat},REs w c.size (ds.map f) xs L→c.reps w xs ds L
 | [],_,_,h1=>h1
 | _::_,_,_,⟨c1,c2,L1,L2,h1,h2,h3,h4⟩=>⟨c1,c2,L1,L2,h1,h2,h.of h3.1,h.reps_of h4⟩
theorem Enc.sl (h:Enc c f) (e:Nat) {v:Value} {ds:List α} {L:List Nat}:(Zw c).rep w [v] ds L↔RC w (.sl e c.size (ds.map f)) v L:=by
 constructor
 ·rintro ⟨A,cap,hv,h1,h2,xs,L0,L1,hL,h3,h4⟩
  obtain rfl:v=_:=by simpa using hv
  exact ⟨A,cap,xs,L0,L1,yG,by simpa using h1,h2,hL,c.pos,by simpa using h3,h.reps h4⟩
 ·rintro ⟨A,cap,xs,L0,L1,hv,h1,h2,hL,h0,h3,h4⟩
  exact ⟨A,cap,by simpa using hv,by simpa using h1,h2,xs,L0,L1,hL,by simpa using h3,h.reps_of h4⟩
theorem RCs.solo {x:CT} {v:Value} {L:List Nat} (h:RC w x v L):RCs w [x] [v] L:=⟨v,[],L,[],rfl,yG,h,rfl,rfl⟩
theorem RCs.more {x:CT} {v:Value} {L M:List Nat} {r:List CT} {cs:List Value} (h:RC w x v L) (k:RCs w r cs M):RCs w (x::r) (v::cs) (L++M):=⟨v,cs,L,M,rfl,rfl,h,k⟩
end
theorem encStr:Enc Zde ZA where
 to:=fun ⟨h1,h2,h3⟩=>by subst h1;subst h2;exact RCs.solo ⟨rfl,rfl,h3⟩
 of:=fun ⟨v,cs',L1,L2,h1,h2,h3,h4,h5⟩=>by
  obtain ⟨rfl,rfl,t⟩:=h3
  subst h4;subst h5;exact ⟨h1,h2,t⟩
def Ztj (w:World):Bool × List CT→Value→Prop:=ZnX w fun _=>False
theorem Zcs {α:Type} {c:Yh α} {f:α→List CT} (h:Enc c f) (e:Nat) {w:World} {v:Value} {ds:List α} {L:List Nat} (hr:(Zw c).rep w [v] ds L):Ztj w (false,[.sl e c.size (ds.map f)]) v:=.inr ⟨rfl,_,L,rfl,(h.sl e).1 hr,fun _ _ h=>h⟩
theorem Zh9 {α:Type} {c:Yh α} {f:α→List CT} (h:Enc c f) {w:World} {vs:List Value} {x:α} {L:List Nat} (hr:c.rep w vs x L):Ztj w (true,f x) (.agg vs.toArray):=.inl ⟨rfl,vs,L,rfl,h.to hr,fun _ _ h=>h⟩
section
variable {w w':World} {v:Value} {e:Ending}
theorem ZqI {B:Nat} {n:Nat→Prop} {x:RT} (h:ZkF w B n [x] v):∃F,OP w B n x v F∧Own w B F:=by
 obtain ⟨vs,F,⟨u,vs',F1,F2,rfl,rfl,h1,rfl,rfl⟩,h2,rfl⟩:=h
 rw [A4] at h2
 exact ⟨F1,by simpa using h1,h2⟩
theorem Zx4 {α:Type} {c:Yh α} {f:α→List CT} (h:Enc c f) {t:Nat} {ds:List α} {n:Nat→Prop} (hr:ZkF w' w.heap.size n [(false,[(false,.sl t c.size (ds.map f))])] v) (hb:Below w.heap.size w w'):ZeC c t w v ds w':=by
 obtain ⟨F,h1,h2⟩:=ZqI hr
 rcases h1 with ⟨h1,_⟩ | ⟨_,ct,h1,h3⟩
 ·simp at h1
 ·obtain rfl:_=ct:=by simpa using h1
  obtain ⟨_,cs,L,h4,h5,rfl,_⟩:=h3
  exact ⟨⟨cs,L,by simpa using h4,h.reps_of h5,h2⟩,hb⟩
theorem ZwV {b:Bool} {B:Nat} {m:Nat→Prop} (hr:ZkF w B m [(false,[(false,.bool b)])] v):v=.bool b:=by
 obtain ⟨F,h1,h2⟩:=ZqI hr
 rcases h1 with ⟨h1,_⟩ | ⟨_,ct,h1,h3⟩
 ·simp at h1
 ·obtain rfl:_=ct:=by simpa using h1
  exact h3.1.1
theorem ZIR {s:ByteArray} {B:Nat} {m:Nat→Prop} (hr:ZkF w B m [(false,[(false,.str s)])] v):v=.string s:=by
 obtain ⟨F,h1,h2⟩:=ZqI hr
 rcases h1 with ⟨h1,_⟩ | ⟨_,ct,h1,h3⟩
 ·simp at h1
 ·obtain rfl:_=ct:=by simpa using h1
  exact h3.1.1
end
section
variable {P:Program} {J:World→Prop} {f:FuncId} {args:List (Bool × List CT)} {res:List RT}
theorem Zm.calls (h:Zm P J f args res) {w:World} {vs:List Value} (hj:J w) (ha:ZM (Ztj w) args vs):Calls P f vs.toArray w fun e w'=>∃v n,e=.returned v∧ZkF w' w.heap.size n res v∧Below w.heap.size w w':=
 (h.2 w (fun _=>False) vs hj (fun _ h=>h.elim) ha).mono fun _ _ ⟨v,n,h1,h2,_,h3⟩=>⟨v,n,h1,h2,h3⟩
theorem Zm.givesB {b:Bool} (h:Zm P J f args [(false,[(false,.bool b)])]) {w:World} {vs:List Value} (hj:J w) (ha:ZM (Ztj w) args vs):Calls P f vs.toArray w fun e w'=>e=.returned (.bool b)∧Below w.heap.size w w':=
 (h.calls hj ha).mono fun _ _ ⟨v,_,h1,h2,h3⟩=>⟨by rw [h1,ZwV h2],h3⟩
theorem Zm.givesT {b:ByteArray} (h:Zm P J f args [(false,[(false,.str b)])]) {w:World} {vs:List Value} (hj:J w) (ha:ZM (Ztj w) args vs):Calls P f vs.toArray w fun e w'=>e=.returned (.string b)∧Below w.heap.size w w':=
 (h.calls hj ha).mono fun _ _ ⟨v,_,h1,h2,h3⟩=>⟨by rw [h1,ZIR h2],h3⟩
def ZlW {α:Type} (c:Yh α) (t:Nat) (w:World) (ds:List α) (b:Bool):Ending→World→Prop:=fun e w'=>∃v,e=.returned (.tuple #[v,.bool b])∧ZeC c t w v ds w'
theorem Zm.givesSB {α:Type} {c:Yh α} {g:α→List CT} {t:Nat} {ds:List α} {b:Bool} (h:Zm P J f args [(false,[(false,.sl t c.size (ds.map g))]),(false,[(false,.bool b)])]) (hg:Enc c g) {w:World} {vs:List Value} (hj:J w) (ha:ZM (Ztj w) args vs):Calls P f vs.toArray w (ZlW c t w ds b):=
 (h.calls hj ha).mono fun _ w' ⟨v,n,h1,⟨us,F,⟨u,us',F1,F2,e1,e2,p1,u2,us2,F3,F4,e3,e4,p2,e5,e6⟩,hO,e7⟩,h3⟩=>by
  subst e5 e6 e3 e4 e1 e2
  rcases p2 with ⟨p2,_⟩ | ⟨_,ct,p2,p3⟩
  ·simp at p2
  ·obtain rfl:_=ct:=by simpa using p2
   obtain ⟨⟨p4,_⟩,rfl⟩:=p3
   subst p4
   simp only[A4] at hO
   exact ⟨u,by rw [h1,e7];rfl,Zx4 (n:=n) hg ⟨[u],F1,⟨u,[],F1,[],rfl,yG,p1,rfl,rfl⟩,hO,rfl⟩ h3⟩
end
end
theorem ZcB:Enc Z8 Zs where
 to:=fun {w cs x L} h=>by
  obtain ⟨A1,c1,L1,rfl,rfl,t0,n1,m1,s1⟩:=h
  have hh:RCs w (Zs x) _ _:=RCs.more ⟨rfl,rfl,t0⟩ (RCs.solo ((encStr.sl 9).1 ⟨A1,c1,rfl,n1,m1,s1⟩))
  simpa only [A5,A4,A6] using hh
 of:=fun {w cs x L} h=>by
  obtain ⟨v0,r0,K0,M0,rfl,rfl,h0,v1,r1,K1,M1,rfl,rfl,h1,rfl,rfl⟩:=h
  obtain ⟨rfl,rfl,t0⟩:=h0
  obtain ⟨A1,c1,e1,n1,m1,s1⟩:=(encStr.sl 9).2 h1
  cases e1
  exact ⟨A1,c1,_,rfl,by simp only[A5,A4,A6],t0,n1,m1,s1⟩
theorem ZIC:Enc ZG6 ZzG where
 to:=fun {w cs x L} h=>by
  obtain ⟨rfl,rfl,t0,t1⟩:=h
  have hh:RCs w (ZzG x) _ _:=RCs.more ⟨rfl,rfl,t0⟩ (RCs.more ⟨rfl,rfl⟩ (RCs.solo ⟨rfl,rfl,t1⟩))
  simpa only [A5,A4,A6] using hh
 of:=fun {w cs x L} h=>by
  obtain ⟨v0,r0,K0,M0,rfl,rfl,h0,v1,r1,K1,M1,rfl,rfl,h1,v2,r2,K2,M2,rfl,rfl,h2,rfl,rfl⟩:=h
  obtain ⟨rfl,rfl,t0⟩:=h0
  obtain ⟨rfl,rfl⟩:=h1
  obtain ⟨rfl,rfl,t1⟩:=h2
  exact ⟨rfl,by simp only[A5,A4,A6],t0,t1⟩
theorem ZmV:Enc Qq Qp where
 to:=fun {w cs x L} h=>by
  obtain ⟨A1,c1,L1,rfl,rfl,t0,n1,m1,s1⟩:=h
  have hh:RCs w (Qp x) _ _:=RCs.more ⟨rfl,rfl,t0⟩ (RCs.solo ((encStr.sl 9).1 ⟨A1,c1,rfl,n1,m1,s1⟩))
  simpa only [A5,A4,A6] using hh
 of:=fun {w cs x L} h=>by
  obtain ⟨v0,r0,K0,M0,rfl,rfl,h0,v1,r1,K1,M1,rfl,rfl,h1,rfl,rfl⟩:=h
  obtain ⟨rfl,rfl,t0⟩:=h0
  obtain ⟨A1,c1,e1,n1,m1,s1⟩:=(encStr.sl 9).2 h1
  cases e1
  exact ⟨A1,c1,_,rfl,by simp only[A5,A4,A6],t0,n1,m1,s1⟩
theorem Zkf:Enc YL ZJ where
 to:=fun {w cs x L} h=>by
  obtain ⟨A1,c1,L1,rfl,rfl,t0,t1,t2,n1,m1,s1⟩:=h
  have hh:RCs w (ZJ x) _ _:=RCs.more ⟨rfl,rfl⟩ (RCs.more ⟨rfl,rfl,t0⟩ (RCs.more ((encStr.sl 9).1 ⟨A1,c1,rfl,n1,m1,s1⟩) (RCs.more ⟨rfl,rfl,t1⟩ (RCs.solo ⟨rfl,rfl,t2⟩))))
  simpa only [A5,A4,A6] using hh
 of:=fun {w cs x L} h=>by
  obtain ⟨v0,r0,K0,M0,rfl,rfl,h0,v1,r1,K1,M1,rfl,rfl,h1,v2,r2,K2,M2,rfl,rfl,h2,v3,r3,K3,M3,rfl,rfl,h3,v4,r4,K4,M4,rfl,rfl,h4,rfl,rfl⟩:=h
  obtain ⟨rfl,rfl⟩:=h0
  obtain ⟨rfl,rfl,t0⟩:=h1
  obtain ⟨A1,c1,e1,n1,m1,s1⟩:=(encStr.sl 9).2 h2
  cases e1
  obtain ⟨rfl,rfl,t1⟩:=h3
  obtain ⟨rfl,rfl,t2⟩:=h4
  exact ⟨A1,c1,_,rfl,by simp only[A5,A4,A6],t0,t1,t2,n1,m1,s1⟩
theorem Zps:Enc Yp ZI where
 to:=fun {w cs x L} h=>by
  obtain ⟨A1,c1,L1,rfl,rfl,t0,n1,m1,s1⟩:=h
  have hh:RCs w (ZI x) _ _:=RCs.more ⟨rfl,rfl⟩ (RCs.more ⟨rfl,rfl,t0⟩ (RCs.solo ((encStr.sl 9).1 ⟨A1,c1,rfl,n1,m1,s1⟩)))
  simpa only [A5,A4,A6] using hh
 of:=fun {w cs x L} h=>by
  obtain ⟨v0,r0,K0,M0,rfl,rfl,h0,v1,r1,K1,M1,rfl,rfl,h1,v2,r2,K2,M2,rfl,rfl,h2,rfl,rfl⟩:=h
  obtain ⟨rfl,rfl⟩:=h0
  obtain ⟨rfl,rfl,t0⟩:=h1
  obtain ⟨A1,c1,e1,n1,m1,s1⟩:=(encStr.sl 9).2 h2
  cases e1
  exact ⟨A1,c1,_,rfl,by simp only[A5,A4,A6],t0,n1,m1,s1⟩
theorem Zu9:Enc XW ZL where
 to:=fun {w cs x L} h=>by
  obtain ⟨A1,c1,L1,A2,c2,L2,rfl,rfl,t0,n1,m1,s1,n2,m2,s2⟩:=h
  have hh:RCs w (ZL x) _ _:=RCs.more ⟨rfl,rfl,t0⟩ (RCs.more ⟨rfl,rfl⟩ (RCs.more ((Zkf.sl 80).1 ⟨A1,c1,rfl,n1,m1,s1⟩) (RCs.solo ((Zps.sl 125).1 ⟨A2,c2,rfl,n2,m2,s2⟩))))
  simpa only [A5,A4,A6] using hh
 of:=fun {w cs x L} h=>by
  obtain ⟨v0,r0,K0,M0,rfl,rfl,h0,v1,r1,K1,M1,rfl,rfl,h1,v2,r2,K2,M2,rfl,rfl,h2,v3,r3,K3,M3,rfl,rfl,h3,rfl,rfl⟩:=h
  obtain ⟨rfl,rfl,t0⟩:=h0
  obtain ⟨rfl,rfl⟩:=h1
  obtain ⟨A1,c1,e1,n1,m1,s1⟩:=(Zkf.sl 80).2 h2
  cases e1
  obtain ⟨A2,c2,e2,n2,m2,s2⟩:=(Zps.sl 125).2 h3
  cases e2
  exact ⟨A1,c1,_,A2,c2,_,rfl,by simp only[A5,A4,A6],t0,n1,m1,s1,n2,m2,s2⟩
section
theorem Zlb {f_0:Zc} {r:Bool} (h:ZfO f_0=some r):Zm prog J0 84 [(true,Zs f_0)] [(false,[(false,.bool r)])]:=by
 refine fnk func84 rfl ?_
 unfold ZfO at h
 simp only[fnS,f84,Zo,go_sem,seval]
 obtain ⟨_,e,h⟩:=Za h
 refine Zd (Zhr e) ?_
 try simp only[*,go_sem,seval]
 iterate 2 refine yB h (fun _ h=>?_) fun _ h=>?_
 cases h
 try simp only[*,go_sem,seval]
 refine Zh h (fun i _ st=>IV [(16,yM (yU f_0.args)),(17,yL f_0.args.length),(18,yL i)] [] st) [] [] yF yD ?_ ?_
 rintro _ _ ⟨⟩ ⟨_,_,_⟩ _ a b f h g
 simp only[go_sem,seval,Zb] at b
 obtain ⟨⟨k,_,_⟩,hn⟩:=b
 subst hn
 have l:=WF.slotL f k (j:=0) rfl
 have:=ZC a
 have:=ZE a
 have:=Zk (ZD a) l
 try simp only[*,go_sem,seval]
 obtain ⟨_,m,h⟩:=Za h
 refine Zd (QG m) ?_
 try simp only[*,go_sem,seval]
 refine yB h (fun _ h=>?_) fun _ h=>?_
 refine ⟨_,[],[],(A3 h).symm,yF,?_⟩
 try simp only[*,go_sem,seval]
 replace h:=Zr h g
 cases h
 try simp only[*,go_sem,seval]
 rintro ⟨⟩ ⟨_,_,_⟩ d _ h
 simp only[go_sem,seval,Zb] at d
 obtain ⟨⟨_,_,_⟩,hn⟩:=d
 subst hn
 have:=ZB (f_0.args.length)
 iterate 2 (cases h;try simp only[*,go_sem,seval])
theorem Zap {s_0:ByteArray} {r:Bool} (h:Zab s_0=some r):Zm prog J0 206 [(false,[.str s_0])] [(false,[(false,.bool r)])]:=by
 refine fnk func206 rfl ?_
 unfold Zab at h
 simp only[fnS,f206,Zo,go_sem,seval]
 obtain ⟨_,a,h⟩:=Za h
 refine Zd (QG a) ?_
 try simp only[*,go_sem,seval]
 refine yB h (fun _ h=>?_) fun _ h=>?_
 cases h
 try simp only[*,go_sem,seval]
 obtain ⟨_,b,h⟩:=Za h
 refine Zd (ZdX b) ?_
 cases h
 try simp only[*,go_sem,seval]
theorem Zas {b_0:(List Zi)} {r:Bool} (h:XS b_0=some r):Zm prog J0 145 [(false,[.sl 162 2 (A0 ZR b_0)])] [(false,[(false,.bool r)])]:=by
 refine fnk func145 rfl ?_
 unfold XS at h
 simp only[fnS,f145,Zo,go_sem,seval]
 refine yB h (fun _ h=>?_) fun _ h=>?_
 cases h
 try simp only[*,go_sem,seval]
 refine Zh h (fun i _ st=>IV [(0,yM (yX b_0)),(8,yM (yX b_0)),(9,yL b_0.length),(10,yL i)] [] st) [] [] yF yD ?_ ?_
 rintro _ _ ⟨⟩ ⟨_,_,_⟩ _ a b f h d
 simp only[go_sem,seval,Zb] at b
 obtain ⟨⟨g,_,_,_⟩,hn⟩:=b
 subst hn
 have k:=WF.slotL f g (j:=0) rfl
 have:=ZC a
 have:=ZE a
 have:=Zk (ZD a) k
 try simp only[*,go_sem,seval]
 obtain ⟨_,l,h⟩:=Za h
 refine Zd (ZdX l) ?_
 try simp only[*,go_sem,seval]
 refine yB h (fun _ h=>?_) fun _ h=>?_
 obtain ⟨_,m,h⟩:=Za h
 refine Zd (QG m) ?_
 try simp only[*,go_sem,seval]
 iterate 2 refine yB h (fun _ h=>?_) fun _ h=>?_
 obtain ⟨_,_,_,_,h⟩:=ZcM h
 try simp only[*,go_sem,seval]
 refine yB h (fun _ h=>?_) fun _ h=>?_
 refine ⟨_,[],[],(A3 h).symm,yF,?_⟩
 try simp only[*,go_sem,seval]
 replace h:=Zr h d
 cases h
 try simp only[*,go_sem,seval]
 refine ⟨_,[],[],(A3 h).symm,yF,?_⟩
 iterate 2 ((try simp only[*,go_sem,seval]);replace h:=Zr h d;cases h)
 try simp only[*,go_sem,seval]
 rintro ⟨⟩ ⟨_,_,_⟩ e _ h
 simp only[go_sem,seval,Zb] at e
 obtain ⟨⟨_,_,_,_⟩,hn⟩:=e
 subst hn
 have:=ZB (b_0.length)
 cases h
 try simp only[*,go_sem,seval]
theorem Zdw {b_0:(List Zi)} {term_1:ByteArray} {r:(ByteArray × Bool)} (h:Zbt b_0 term_1=some r):Zm prog J0 208 [(false,[.sl 162 2 (A0 ZR b_0)]),(false,[.str term_1])] [(false,[(false,.str r.1)]),(false,[(false,.bool r.2)])]:=by
 refine fnk func208 rfl ?_
 unfold Zbt at h
 have e:ZbS ⟨#[]⟩=true:=by decide
 simp only[fnS,f208,Zo,go_sem,seval,e]
 obtain ⟨_,f,h⟩:=Za h
 refine Zd (QG f) ?_
 try simp only[*,go_sem,seval]
 refine yB h (fun _ h=>?_) fun _ h=>?_
 cases h
 try simp only[*,go_sem,seval]
 obtain ⟨_,g,h⟩:=Za h
 refine Zd (ZdX g) ?_
 try simp only[*,go_sem,seval]
 refine yB h (fun _ h=>?_) fun _ h=>?_
 refine Zh h (fun i _ st=>IV [(1,yM (.str term_1)),(14,yM (yX b_0)),(15,yL b_0.length),(16,yL i)] [] st) [] [] yF yD ?_ ?_
 rintro _ _ ⟨⟩ ⟨_,_,_⟩ _ a b k h l
 simp only[go_sem,seval,Zb] at b
 obtain ⟨⟨_,m,_,_⟩,hn⟩:=b
 subst hn
 have o:=WF.slotL k m (j:=0) rfl
 have:=ZC a
 have:=ZE a
 have:=Zk (ZD a) o
 try simp only[*,go_sem,seval]
 refine yB h (fun _ h=>?_) fun _ h=>?_
 replace h:=Zr h l
 cases h
 try simp only[*,go_sem,seval]
 refine ⟨_,[],[],(A3 h).symm,yF,?_⟩
 try simp only[*,go_sem,seval]
 rintro ⟨⟩ ⟨_,_,_⟩ d _ h
 simp only[go_sem,seval,Zb] at d
 obtain ⟨⟨_,_,_,_⟩,hn⟩:=d
 subst hn
 have:=ZB (b_0.length)
 iterate 2 (cases h;try simp only[*,go_sem,seval])
theorem ZdW {l_0:(List Zc)} {r:(List Zc)} (h:Zad l_0=some r):Zm prog J0 132 [(false,[.sl 53 2 (A0 Zs l_0)])] [(false,[(false,.sl 53 2 (A0 Zs r))])]:=by
 refine fnk func132 rfl ?_
 unfold Zad at h
 simp only[fnS,f132,Zo,go_sem,seval]
 refine Zh h (fun i a st=>IV [(3,.p false [.row 0]),(6,yM (yT l_0)),(7,yL l_0.length),(8,yL i)] [.row 53 2 (A0 Zs a) 2] st) [(false,3,0)] [80] yF yD ?_ ?_
 rintro _ _ a ⟨_,_,_⟩ _ b d f h _
 simp only[go_sem,seval,Zb] at d
 obtain ⟨⟨_,g,_,_⟩,_,hn⟩:=d
 subst hn
 have k:=WF.slotL f g (j:=0) rfl
 have:=ZC b
 have:=ZE b
 have:=Zk (ZD b) k
 try simp only[*,go_sem,seval]
 obtain ⟨_,l,h⟩:=Za h
 refine Zd (YO l) ?_
 obtain ⟨m,h⟩:=Zv h
 try simp only[Nat.reduceLeDiff] at m
 try simp only[*,go_sem,seval]
 refine ⟨_,[],[145],(A3 h).symm,yF,?_⟩
 try simp only[*,go_sem,seval]
 rintro a ⟨_,_,_⟩ e _ h
 simp only[go_sem,seval,Zb] at e
 obtain ⟨⟨_,_,_,_⟩,_,hn⟩:=e
 subst hn
 have:=ZB (l_0.length)
 cases h
 try simp only[*,go_sem,seval]
theorem ZcD {l_0:(List Zc)} {f_1:Zc} {r:Int} (h:Yl l_0 f_1=some r):Zm prog J0 85 [(false,[.sl 53 2 (A0 Zs l_0)]),(true,Zs f_1)] [(false,[(false,.int .i64 r)])]:=by
 refine fnk func85 rfl ?_
 unfold Yl at h
 simp only[fnS,f85,Zo,go_sem,seval]
 refine Zh h (fun i _ st=>IV [(3,.bp 0 0),(7,yM (yT l_0)),(8,yL l_0.length),(9,yL i)] [zC 53 (Zs f_1)] st) [] [0] yF yD ?_ ?_
 rintro _ _ ⟨⟩ ⟨_,_,_⟩ _ a b e h f
 simp only[go_sem,seval,Zb] at b
 obtain ⟨⟨_,g,_,_⟩,_,hn⟩:=b
 subst hn
 have k:=WF.slotL e g (j:=0) rfl
 have:=ZC a
 have:=ZE a
 have:=Zk (ZD a) k
 try simp only[*,go_sem,seval]
 obtain ⟨_,l,h⟩:=Za h
 refine Zd (ZoB l) ?_
 try simp only[*,go_sem,seval]
 refine yB h (fun _ h=>?_) fun _ h=>?_
 replace h:=Zr h f
 cases h
 try simp only[*,go_sem,seval]
 refine ⟨_,[],[0],(A3 h).symm,yF,?_⟩
 try simp only[*,go_sem,seval]
 rintro ⟨⟩ ⟨_,_,_⟩ d _ h
 simp only[go_sem,seval,Zb] at d
 obtain ⟨⟨_,_,_,_⟩,_,hn⟩:=d
 subst hn
 have:=ZB (l_0.length)
 cases h
 try simp only[*,go_sem,seval]
theorem Zjw {a_0:ByteArray} {b_1:ByteArray} {r:Int} (h:Q8 a_0 b_1=some r):Zm prog J0 239 [(false,[.str a_0]),(false,[.str b_1])] [(false,[(false,.int .i64 r)])]:=by
 refine fnk func239 rfl ?_
 unfold Q8 at h
 simp only[fnS,f239,Zo,go_sem,seval]
 obtain ⟨_,a,h⟩:=Za h
 refine Zd (ZcG a) ?_
 try simp only[*,go_sem,seval]
 obtain ⟨_,b,h⟩:=Za h
 refine Zd (ZcG b) ?_
 try simp only[*,go_sem,seval]
 iterate 2 refine yB h (fun _ h=>?_) fun _ h=>?_
 obtain ⟨_,c,h⟩:=Za h
 refine Zd (Zcm c) ?_
 iterate 2 (cases h;try simp only[*,go_sem,seval])
 refine yB h (fun _ h=>?_) fun _ h=>?_
 cases h
 try simp only[*,go_sem,seval]
 obtain ⟨_,d,h⟩:=Za h
 refine Zd (Zki d) ?_
 cases h
 try simp only[*,go_sem,seval]
theorem Zep {l_0:(List ByteArray)} {r:(List ByteArray)} (h:Zai l_0=some r):Zm prog J0 194 [(false,[.sl 9 1 (A0 ZA l_0)])] [(false,[(false,.sl 9 1 (A0 ZA r))])]:=by
 refine fnk func194 rfl ?_
 unfold Zai at h
 simp only[fnS,f194,Zo,go_sem,seval]
 refine Zh h (fun i a st=>IV [(3,.p false [.row 0]),(6,yM (yU l_0)),(7,yL l_0.length),(8,yL i)] [.row 9 1 (A0 ZA a) 2] st) [(false,3,0)] [80] yF yD ?_ ?_
 rintro _ _ a ⟨_,_,_⟩ _ b d f h _
 simp only[go_sem,seval,Zb] at d
 obtain ⟨⟨_,g,_,_⟩,_,hn⟩:=d
 subst hn
 have k:=WF.slotL f g (j:=0) rfl
 have:=ZC b
 have:=ZE b
 have:=Zk (ZD b) k
 try simp only[*,go_sem,seval]
 obtain ⟨_,l,h⟩:=Za h
 refine Zd (ZdX l) ?_
 try simp only[*,go_sem,seval]
 refine yB h (fun _ h=>?_) fun _ h=>?_
 obtain ⟨m,h⟩:=Zv h
 try simp only[Nat.reduceLeDiff] at m
 try simp only[*,go_sem,seval]
 refine ⟨_,[],[145],(A3 h).symm,yF,?_⟩
 try simp only[*,go_sem,seval]
 refine ⟨_,[],[0],(A3 h).symm,yF,?_⟩
 try simp only[*,go_sem,seval]
 rintro a ⟨_,_,_⟩ e _ h
 simp only[go_sem,seval,Zb] at e
 obtain ⟨⟨_,_,_,_⟩,_,hn⟩:=e
 subst hn
 have:=ZB (l_0.length)
 cases h
 try simp only[*,go_sem,seval]
theorem ZoC {a:(List Zg)} {a_1:ByteArray} {r:(List (ByteArray × Bool))} (h:Zeo a a_1=some r):ZqL prog J0 293 [(false,[.sl 76 4 (A0 ZL a)]),(false,[.str a_1])] (.map .str .bool (A0 eSB r)):=by
 refine fnb func293 rfl ?_
 unfold Zeo at h
 simp only[fnB,f293,Zo,go_sem,seval]
 refine Xj h (fun s st=>match s with | (o,q)=>IV [(0,yM (yW a)),(5,.p false [.row 0]),(6,.p false [.row 1])] [.map .str .bool (A0 eSB o),.row 9 1 (A0 ZA q) 2] st) [] [16,64] yF yD ?_
 rintro ⟨o,q⟩ ⟨_,_,_⟩ _ t _ h z
 simp only[go_sem,seval,Zb] at t
 obtain ⟨⟨_,_,_⟩,_,_,hn⟩:=t
 subst hn
 try simp only[*,go_sem,seval]
 refine yB h (fun _ h=>?_) fun _ h=>?_
 obtain ⟨_,h⟩:=Zv h
 obtain ⟨u,A,h⟩:=Za h
 try simp only[seval] at A
 obtain ⟨_,h⟩:=Zv h
 try simp only[*,go_sem,seval]
 refine Zh h (fun i s st=>match s with | (d,e)=>IV [(0,yM (yW a)),(5,.p false [.row 0]),(6,.p false [.row 1]),(7,yM (.str u)),(23,yM (yW a)),(24,yL a.length),(25,yL i)] [.map .str .bool (A0 eSB d),.row 9 1 (A0 ZA e) 2] st) [] [0,130] yF yD ?_ ?_
 rintro B _ ⟨d,e⟩ ⟨_,_,_⟩ _ f v C h _
 simp only[go_sem,seval,Zb] at v
 obtain ⟨⟨D,_,_,_,_,_,_⟩,_,_,hn⟩:=v
 subst hn
 have E:=WF.slotL C D (j:=0) rfl
 have:=ZC f
 have:=ZE f
 have:=Zk (ZD f) E
 try simp only[*,go_sem,seval]
 obtain ⟨_,F,h⟩:=Za h
 refine Zd (Zit F) ?_
 try simp only[*,go_sem,seval]
 obtain ⟨_,G,h⟩:=Za h
 refine Zd (ZaB G) ?_
 try simp only[*,go_sem,seval]
 refine yB h (fun _ h=>?_) fun _ h=>?_
 obtain ⟨g,H,h⟩:=Za h
 refine Zd (ZqF H) ?_
 try simp only[*,go_sem,seval]
 refine Zh h (fun i s st=>match s with | (k,l)=>IV [(0,yM (yW a)),(5,.p false [.row 0]),(6,.p false [.row 1]),(7,yM (.str u)),(23,yM (yW a)),(24,yL a.length),(25,yL B),(35,.p false [.row 2]),(36,yL g.length),(37,yL i)] [.map .str .bool (A0 eSB k),.row 9 1 (A0 ZA l) 2,.row 9 1 (A0 ZA g) 2] st) [] [0,1,178] yF yD ?_ ?_
 rintro _ _ ⟨k,l⟩ ⟨_,_,_⟩ _ m w I h _
 simp only[go_sem,seval,Zb] at w
 obtain ⟨⟨_,_,_,_,_,_,_,_,_,_⟩,_,_,J,hn⟩:=w
 subst hn
 have K:=WF.rowL I J
 have:=ZC m
 have:=ZE m
 have:=Zk (ZD m) K
 try simp only[*,go_sem,seval]
 refine yB h (fun _ h=>?_) fun _ h=>?_
 refine ⟨_,[],[0,1,2],(A3 h).symm,yF,?_⟩
 try simp only[*,go_sem,seval]
 obtain ⟨L,h⟩:=Zv h
 try simp only[Nat.reduceLeDiff] at L
 try simp only[*,go_sem,seval]
 refine ⟨_,[],[0,227,2],(A3 h).symm,yF,?_⟩
 try simp only[*,go_sem,seval]
 rintro ⟨k,l⟩ ⟨_,_,_⟩ x _ h
 simp only[go_sem,seval,Zb] at x
 obtain ⟨⟨_,_,_,_,_,_,_,_,_,_⟩,_,_,_,hn⟩:=x
 subst hn
 have:=ZB (g.length)
 try simp only[*,go_sem,seval]
 refine ⟨_,[],[0,1],(A3 h).symm,yF,?_⟩
 try simp only[*,go_sem,seval]
 refine ⟨_,[],[0,1],(A3 h).symm,yF,?_⟩
 try simp only[*,go_sem,seval]
 rintro ⟨d,e⟩ ⟨_,_,_⟩ y _ h
 simp only[go_sem,seval,Zb] at y
 obtain ⟨⟨_,_,_,_,_,_,_⟩,_,_,hn⟩:=y
 subst hn
 have:=ZB (a.length)
 try simp only[*,go_sem,seval]
 refine ⟨_,[],[0,1],(A3 h).symm,yF,?_⟩
 try simp only[*,go_sem,seval]
 replace h:=Zr h z
 cases h
 try simp only[*,go_sem,seval]
theorem Znn {l_0:(List Zf)} {r_1:Zf} {r:Bool} (h:Zbr l_0 r_1=some r):Zm prog J0 218 [(false,[.sl 179 3 (A0 ZG l_0)]),(true,ZG r_1)] [(false,[(false,.bool r)])]:=by
 refine fnk func218 rfl ?_
 unfold Zbr at h
 simp only[fnS,f218,Zo,go_sem,seval]
 refine Zh h (fun i _ st=>IV [(3,.bp 0 0),(7,yM (zA l_0)),(8,yL l_0.length),(9,yL i)] [zC 179 (ZG r_1)] st) [] [0] yF yD ?_ ?_
 rintro _ _ ⟨⟩ ⟨_,_,_⟩ _ a b e h f
 simp only[go_sem,seval,Zb] at b
 obtain ⟨⟨_,g,_,_⟩,_,hn⟩:=b
 subst hn
 have k:=WF.slotL e g (j:=0) rfl
 have:=ZC a
 have:=ZE a
 have:=Zk (ZD a) k
 try simp only[*,go_sem,seval]
 obtain ⟨_,l,h⟩:=Za h
 refine Zd (ZlS l) ?_
 try simp only[*,go_sem,seval]
 refine yB h (fun _ h=>?_) fun _ h=>?_
 replace h:=Zr h f
 cases h
 try simp only[*,go_sem,seval]
 refine ⟨_,[],[0],(A3 h).symm,yF,?_⟩
 try simp only[*,go_sem,seval]
 rintro ⟨⟩ ⟨_,_,_⟩ d _ h
 simp only[go_sem,seval,Zb] at d
 obtain ⟨⟨_,_,_,_⟩,_,hn⟩:=d
 subst hn
 have:=ZB (l_0.length)
 cases h
 try simp only[*,go_sem,seval]
theorem Zr4 {b_0:Zt} {r:(List Bool)} (h:Zhs b_0=some r):Zm prog J0 190 [(true,Qu b_0)] [(false,[(false,.sl 4 1 (A0 Ze4 r))])]:=by
 refine fnk func190 rfl ?_
 unfold Zhs at h
 simp only[fnS,f190,Zo,go_sem,seval]
 obtain ⟨a,g,h⟩:=Za h
 refine Zd (Zq7 g) ?_
 try simp only[*,go_sem,seval]
 refine Zh h (fun i b st=>IV [(3,.p false [.row 0]),(7,.p false [.row 1]),(8,yL a.length),(9,yL i)] [.row 4 1 (A0 Ze4 b) 2,.row 3 1 (A0 ZO a) 2] st) [(false,3,0)] [112,64] yF yD ?_ ?_
 rintro _ _ b ⟨_,_,_⟩ _ d e j h _
 simp only[go_sem,seval,Zb] at e
 obtain ⟨⟨_,_,_,_⟩,_,k,hn⟩:=e
 subst hn
 have l:=WF.rowL j k
 have:=ZC d
 have:=ZE d
 have:=Zk (ZD d) l
 obtain ⟨m,h⟩:=Zv h
 try simp only[Nat.reduceLeDiff] at m
 try simp only[*,go_sem,seval]
 refine ⟨_,[],[130,1],(A3 h).symm,yF,?_⟩
 try simp only[*,go_sem,seval]
 rintro b ⟨_,_,_⟩ f _ h
 simp only[go_sem,seval,Zb] at f
 obtain ⟨⟨_,_,_,_⟩,_,_,hn⟩:=f
 subst hn
 have:=ZB (a.length)
 cases h
 try simp only[*,go_sem,seval]
theorem Zg3 {s_0:ByteArray} {r:Bool} (h:ZdM s_0=some r):Zm prog J0 105 [(false,[.str s_0])] [(false,[(false,.bool r)])]:=by
 refine fnk func105 rfl ?_
 unfold ZdM at h
 simp only[fnS,f105,Zo,go_sem,seval]
 obtain ⟨_,a,h⟩:=Za h
 refine Zd (QA a) ?_
 try simp only[*,go_sem,seval]
 refine yB h (fun _ h=>?_) fun _ h=>?_
 obtain ⟨_,_,b,h⟩:=ZuE h
 try simp only[seval] at b
 try simp only[*,go_sem,seval]
 obtain ⟨_,c,h⟩:=Za h
 refine Zd (XM c) ?_
 iterate 2 (cases h;try simp only[*,go_sem,seval])
theorem Zah {s_0:ByteArray} {r:Bool} (h:Za3 s_0=some r):Zm prog J0 202 [(false,[.str s_0])] [(false,[(false,.bool r)])]:=by
 refine fnk func202 rfl ?_
 unfold Za3 at h
 simp only[fnS,f202,Zo,go_sem,seval]
 refine yB h (fun _ h=>?_) fun _ h=>?_
 obtain ⟨_,_,a,h⟩:=ZuE h
 try simp only[seval] at a
 try simp only[*,go_sem,seval]
 refine yB h (fun _ h=>?_) fun _ h=>?_
 obtain ⟨_,h⟩:=Zv h
 try simp only[*,go_sem,seval]
 obtain ⟨_,b,h⟩:=Za h
 refine Zd (QA b) ?_
 iterate 3 (cases h;try simp only[*,go_sem,seval])
theorem ZeI {a_0:ByteArray} {b_1:ByteArray} {r:Int} (h:Xz a_0 b_1=some r):Zm prog J0 116 [(false,[.str a_0]),(false,[.str b_1])] [(false,[(false,.int .i64 r)])]:=by
 refine fnk func116 rfl ?_
 unfold Xz at h
 simp only[fnS,f116,Zo,go_sem,seval]
 obtain ⟨_,a,h⟩:=Za h
 refine Zd (Zfh a) ?_
 try simp only[*,go_sem,seval]
 obtain ⟨_,b,h⟩:=Za h
 refine Zd (Zfh b) ?_
 try simp only[*,go_sem,seval]
 iterate 3 refine yB h (fun _ h=>?_) fun _ h=>?_
 cases h
 try simp only[*,go_sem,seval]
 refine yB h (fun _ h=>?_) fun _ h=>?_
 iterate 3 (cases h;try simp only[*,go_sem,seval])
 refine yB h (fun _ h=>?_) fun _ h=>?_
 cases h
 try simp only[*,go_sem,seval]
 obtain ⟨_,c,h⟩:=Za h
 refine Zd (Zmz c) ?_
 cases h
 try simp only[*,go_sem,seval]
theorem Zfo {l_0:(List Zc)} {r:(List Zc)} (h:Zbg l_0=some r):Zm prog J0 228 [(false,[.sl 53 2 (A0 Zs l_0)])] [(false,[(false,.sl 53 2 (A0 Zs r))])]:=by
 refine fnk func228 rfl ?_
 unfold Zbg at h
 simp only[fnS,f228,Zo,go_sem,seval]
 refine Zh h (fun i a st=>IV [(0,yM (yT l_0)),(3,.p false [.row 0]),(4,yL i)] [.row 53 2 (A0 Zs a) 2] st) [] [16] yF yD ?_ ?_
 rintro _ _ a ⟨_,_,_⟩ _ b d f h _
 simp only[go_sem,seval,Zb] at d
 obtain ⟨⟨g,_,_⟩,_,hn⟩:=d
 subst hn
 have k:=WF.slotL f g (j:=0) rfl
 have:=ZC b
 have:=ZE b
 have:=Zk (ZD b) k
 try simp only[*,go_sem,seval]
 obtain ⟨_,l,h⟩:=Za h
 refine Zd (Xr l) ?_
 obtain ⟨m,h⟩:=Zv h
 try simp only[Nat.reduceLeDiff] at m
 try simp only[*,go_sem,seval]
 refine ⟨_,[],[177],(A3 h).symm,yF,?_⟩
 try simp only[*,go_sem,seval]
 rintro a ⟨_,_,_⟩ e _ h
 simp only[go_sem,seval,Zb] at e
 obtain ⟨⟨_,_,_⟩,_,hn⟩:=e
 subst hn
 have:=ZB (l_0.length)
 cases h
 try simp only[*,go_sem,seval]
theorem Ziy {s_0:ByteArray} {r:Bool} (h:Zd3 s_0=some r):Zm prog J0 313 [(false,[.str s_0])] [(false,[(false,.bool r)])]:=by
 refine fnk func313 rfl ?_
 unfold Zd3 at h
 simp only[fnS,f313,Zo,go_sem,seval]
 obtain ⟨_,a,h⟩:=Za h
 refine Zd (Zfh a) ?_
 cases h
 try simp only[*,go_sem,seval]
end
section
theorem Ql {p_0:Zx} {r:Bool} (h:Xp p_0=some r):Zm prog J0 144 [(true,Qp p_0)] [(false,[(false,.bool r)])]:=by
 refine fnk func144 rfl ?_
 unfold Xp at h
 simp only[fnS,f144,Zo,go_sem,seval]
 obtain ⟨_,e,h⟩:=Za h
 refine Zd (Zhr e) ?_
 try simp only[*,go_sem,seval]
 iterate 2 refine yB h (fun _ h=>?_) fun _ h=>?_
 cases h
 try simp only[*,go_sem,seval]
 refine Zh h (fun i _ st=>IV [(16,yM (yU p_0.args)),(17,yL p_0.args.length),(18,yL i)] [] st) [] [] yF yD ?_ ?_
 rintro _ _ ⟨⟩ ⟨_,_,_⟩ _ a b f h g
 simp only[go_sem,seval,Zb] at b
 obtain ⟨⟨k,_,_⟩,hn⟩:=b
 subst hn
 have l:=WF.slotL f k (j:=0) rfl
 have:=ZC a
 have:=ZE a
 have:=Zk (ZD a) l
 try simp only[*,go_sem,seval]
 obtain ⟨_,m,h⟩:=Za h
 refine Zd (Zap m) ?_
 try simp only[*,go_sem,seval]
 refine yB h (fun _ h=>?_) fun _ h=>?_
 refine ⟨_,[],[],(A3 h).symm,yF,?_⟩
 try simp only[*,go_sem,seval]
 replace h:=Zr h g
 cases h
 try simp only[*,go_sem,seval]
 rintro ⟨⟩ ⟨_,_,_⟩ d _ h
 simp only[go_sem,seval,Zb] at d
 obtain ⟨⟨_,_,_⟩,hn⟩:=d
 subst hn
 have:=ZB (p_0.args.length)
 iterate 2 (cases h;try simp only[*,go_sem,seval])
theorem ZrV {a:(List Zi)} {b:ByteArray} {d:ByteArray} {r:((List Zi) × Bool)} (h:Zg4 a b d=some r):Zm prog J0 147 [(false,[.sl 162 2 (A0 ZR a)]),(false,[.str b]),(false,[.str d])] [(false,[(false,.sl 162 2 (A0 ZR r.1))]),(false,[(false,.bool r.2)])]:=by
 refine fnk func147 rfl ?_
 unfold Zg4 at h
 simp only[fnS,f147,Zo,go_sem,seval]
 obtain ⟨_,y,h⟩:=Za h
 refine Zd (Zas y) ?_
 try simp only[*,go_sem,seval]
 refine yB h (fun e h=>?_) fun e h=>?_
 obtain ⟨_,z,h⟩:=Za h
 refine Zd (ZdX z) ?_
 try simp only[*,go_sem,seval]
 refine yB h (fun f h=>?_) fun f h=>?_
 obtain ⟨_,A,h⟩:=Za h
 refine Zd (QG A) ?_
 try simp only[*,go_sem,seval]
 refine yB h (fun g h=>?_) fun g h=>?_
 obtain ⟨_,B,h⟩:=Za h
 refine Zd (Zdw B) ?_
 try simp only[*,go_sem,seval]
 refine yB h (fun k h=>?_) fun k h=>?_
 refine yB h (fun _ h=>?_) fun _ h=>?_
 obtain ⟨_,C,h⟩:=Za h
 refine Zd (Zhq C) ?_
 iterate 2 (cases h;try simp only[*,go_sem,seval])
 refine yB h (fun l h=>?_) fun l h=>?_
 cases h
 try simp only[*,go_sem,seval]
 refine Zh h (fun i s st=>match s with | (m,o)=>IV [(1,yM (.str b)),(2,yM (.str d)),(10,.p false [.row 0]),(11,yM (.bool o)),(42,yM (yX a)),(43,yL a.length),(44,yL i)] [.row 162 2 (A0 ZR m) 2] st) [(false,10,0)] [512] yF yD ?_ ?_
 rintro _ _ ⟨m,o⟩ ⟨_,_,_⟩ _ q w E h _
 simp only[go_sem,seval,Zb] at w
 obtain ⟨⟨_,_,_,_,F,_,_⟩,_,hn⟩:=w
 subst hn
 have G:=WF.slotL E F (j:=0) rfl
 have:=ZC q
 have:=ZE q
 have:=Zk (ZD q) G
 try simp only[*,go_sem,seval]
 refine yB h (fun t h=>?_) fun t h=>?_
 obtain ⟨H,h⟩:=Zv h
 try simp only[Nat.reduceLeDiff] at H
 try simp only[*,go_sem,seval]
 refine ⟨_,[],[257],(A3 h).symm,yF,?_⟩
 try simp only[*,go_sem,seval]
 refine Ze h (fun u h=>?_) (fun u h=>?_)
 have v:=u
 try simp only[e,f,g,k,l,t,A8,A9] at v
 obtain ⟨I,h⟩:=Zv h
 try simp only[Nat.reduceLeDiff] at I
 try simp only[*,go_sem,seval]
 refine ⟨_,[],[257],(A3 h).symm,yF,?_⟩
 try simp only[*,go_sem,seval]
 have v:=u
 try simp only[e,f,g,k,l,t,A8,A9] at v
 obtain ⟨J,h⟩:=Zv h
 try simp only[Nat.reduceLeDiff] at J
 obtain ⟨K,h⟩:=Zv h
 try simp only[Nat.reduceLeDiff] at K
 try simp only[*,go_sem,seval]
 refine ⟨_,[],[385],(A3 h).symm,yF,?_⟩
 try simp only[*,go_sem,seval]
 rintro ⟨m,o⟩ ⟨_,_,_⟩ x _ h
 simp only[go_sem,seval,Zb] at x
 obtain ⟨⟨_,_,_,_,_,_,_⟩,_,hn⟩:=x
 subst hn
 have:=ZB (a.length)
 try simp only[*,go_sem,seval]
 refine yB h (fun _ h=>?_) fun _ h=>?_
 cases h
 try simp only[*,go_sem,seval]
 obtain ⟨L,h⟩:=Zv h
 try simp only[Nat.reduceLeDiff] at L
 iterate 4 (cases h;try simp only[*,go_sem,seval])
theorem ZeY {a_0:Zc} {b_1:Zc} {r:Int} (h:Qn a_0 b_1=some r):Zm prog J0 174 [(true,Zs a_0),(true,Zs b_1)] [(false,[(false,.int .i64 r)])]:=by
 refine fnk func174 rfl ?_
 unfold Qn at h
 simp only[fnS,f174,Zo,go_sem,seval]
 obtain ⟨_,f,h⟩:=Za h
 refine Zd (Zki f) ?_
 try simp only[*,go_sem,seval]
 refine yB h (fun _ h=>?_) fun _ h=>?_
 cases h
 try simp only[*,go_sem,seval]
 refine Zh h (fun i _ st=>IV [(2,.bp 0 0),(3,.bp 1 0),(6,yL i)] [zC 53 (Zs a_0),zC 53 (Zs b_1)] st) [] [0,16] yF yD ?_ ?_
 rintro _ _ ⟨⟩ ⟨_,_,_⟩ _ a b g h d
 simp only[go_sem,seval,Zb] at b
 obtain ⟨⟨_,_,_⟩,k,_,hn⟩:=b
 subst hn
 have l:=WF.boxL g k (j:=1) rfl
 have:=ZC a
 have:=ZE a
 have:=Zk (ZD a) l
 try simp only[*,go_sem,seval]
 refine yB h (fun _ h=>?_) fun _ h=>?_
 obtain ⟨_,_,_,m,h⟩:=ZcM h
 simp only[A7] at m
 try simp only[*,go_sem,seval]
 obtain ⟨_,o,h⟩:=Za h
 refine Zd (Zjw o) ?_
 try simp only[*,go_sem,seval]
 refine yB h (fun _ h=>?_) fun _ h=>?_
 replace h:=Zr h d
 cases h
 try simp only[*,go_sem,seval]
 refine ⟨_,[],[0,1],(A3 h).symm,yF,?_⟩
 try simp only[*,go_sem,seval]
 obtain ⟨_,q,h⟩:=Za h
 refine Zd (Zcm q) ?_
 replace h:=Zr h d
 cases h
 try simp only[*,go_sem,seval]
 rintro ⟨⟩ ⟨_,_,_⟩ e _ h
 simp only[go_sem,seval,Zb] at e
 obtain ⟨⟨_,_,_⟩,_,_,hn⟩:=e
 subst hn
 have:=ZB (a_0.args.length)
 try simp only[*,go_sem,seval]
 obtain ⟨_,t,h⟩:=Za h
 refine Zd (Zcm t) ?_
 cases h
 try simp only[*,go_sem,seval]
theorem ZdR {r_0:Zg} {n_1:Int} {r:(List ByteArray)} (h:Zac r_0 n_1=some r):Zm prog J0 192 [(true,ZL r_0),(false,[.int .i64 n_1])] [(false,[(false,.sl 9 1 (A0 ZA r))])]:=by
 refine fnk func192 rfl ?_
 unfold Zac at h
 simp only[fnS,f192,Zo,go_sem,seval]
 refine Zh h (fun i a st=>IV [(1,yM (.int .i64 n_1)),(5,.p false [.row 0]),(9,yM (yY r_0.cond)),(10,yL r_0.cond.length),(11,yL i)] [.row 9 1 (A0 ZA a) 2] st) [(false,5,0)] [112] yF yD ?_ ?_
 rintro _ _ a ⟨_,_,_⟩ _ b d f h _
 simp only[go_sem,seval,Zb] at d
 obtain ⟨⟨_,_,g,_,_⟩,_,hn⟩:=d
 subst hn
 have k:=WF.slotL f g (j:=0) rfl
 have:=ZC b
 have:=ZE b
 have:=Zk (ZD b) k
 try simp only[*,go_sem,seval]
 iterate 2 refine yB h (fun _ h=>?_) fun _ h=>?_
 obtain ⟨_,l,h⟩:=Za h
 refine Zd (Zep l) ?_
 obtain ⟨m,h⟩:=Zv h
 try simp only[Nat.reduceLeDiff] at m
 try simp only[*,go_sem,seval]
 refine ⟨_,[],[321],(A3 h).symm,yF,?_⟩
 try simp only[*,go_sem,seval]
 refine ⟨_,[],[0],(A3 h).symm,yF,?_⟩
 try simp only[*,go_sem,seval]
 refine ⟨_,[],[0],(A3 h).symm,yF,?_⟩
 try simp only[*,go_sem,seval]
 rintro a ⟨_,_,_⟩ e _ h
 simp only[go_sem,seval,Zb] at e
 obtain ⟨⟨_,_,_,_,_⟩,_,hn⟩:=e
 subst hn
 have:=ZB (r_0.cond.length)
 try simp only[*,go_sem,seval]
 obtain ⟨_,o,h⟩:=Za h
 refine Zd (Qy o) ?_
 cases h
 try simp only[*,go_sem,seval]
theorem ZcA {x_0:Zl} {r:(List ByteArray)} (h:QI x_0=some r):Zm prog J0 246 [(true,ZJ x_0)] [(false,[(false,.sl 9 1 (A0 ZA r))])]:=by
 refine fnk func246 rfl ?_
 unfold QI at h
 simp only[fnS,f246,Zo,go_sem,seval]
 obtain ⟨_,a,h⟩:=Za h
 refine Zd (Zp2 a) ?_
 try simp only[*,go_sem,seval]
 obtain ⟨_,b,h⟩:=Za h
 refine Zd (Zep b) ?_
 try simp only[*,go_sem,seval]
 obtain ⟨_,c,h⟩:=Za h
 refine Zd (Qy c) ?_
 cases h
 try simp only[*,go_sem,seval]
theorem ZjT {facts_0:(List Zc)} {l_1:(List Zc)} {r:(List Int)} (h:ZdB facts_0 l_1=some r):Zm prog J0 217 [(false,[.sl 53 2 (A0 Zs facts_0)]),(false,[.sl 53 2 (A0 Zs l_1)])] [(false,[(false,.sl 3 1 (A0 ZO r))])]:=by
 refine fnk func217 rfl ?_
 unfold ZdB at h
 simp only[fnS,f217,Zo,go_sem,seval]
 refine Zh h (fun i a st=>IV [(0,yM (yT facts_0)),(5,.p false [.row 0]),(9,yM (yT l_1)),(10,yL l_1.length),(11,yL i)] [.row 3 1 (A0 ZO a) 2] st) [(false,5,0)] [80] yF yD ?_ ?_
 rintro _ _ a ⟨_,_,_⟩ _ b d f h _
 simp only[go_sem,seval,Zb] at d
 obtain ⟨⟨_,_,g,_,_⟩,_,hn⟩:=d
 subst hn
 have k:=WF.slotL f g (j:=0) rfl
 have:=ZC b
 have:=ZE b
 have:=Zk (ZD b) k
 try simp only[*,go_sem,seval]
 obtain ⟨_,l,h⟩:=Za h
 refine Zd (ZcD l) ?_
 try simp only[*,go_sem,seval]
 refine yB h (fun _ h=>?_) fun _ h=>?_
 obtain ⟨_,m,h⟩:=Za h
 refine Zd (Zrg m) ?_
 try simp only[*,go_sem,seval]
 refine yB h (fun _ h=>?_) fun _ h=>?_
 refine ⟨_,[],[0],(A3 h).symm,yF,?_⟩
 try simp only[*,go_sem,seval]
 obtain ⟨o,h⟩:=Zv h
 try simp only[Nat.reduceLeDiff] at o
 try simp only[*,go_sem,seval]
 refine ⟨_,[],[321],(A3 h).symm,yF,?_⟩
 try simp only[*,go_sem,seval]
 refine ⟨_,[],[0],(A3 h).symm,yF,?_⟩
 try simp only[*,go_sem,seval]
 rintro a ⟨_,_,_⟩ e _ h
 simp only[go_sem,seval,Zb] at e
 obtain ⟨⟨_,_,_,_,_⟩,_,hn⟩:=e
 subst hn
 have:=ZB (l_1.length)
 try simp only[*,go_sem,seval]
 obtain ⟨_,q,h⟩:=Za h
 refine Zwm (Zn5 q) ?_
 cases h
 try simp only[*,go_sem,seval]
theorem ZoA {facts_0:(List Zc)} {b_1:Zt} {r:(List Zc)} (h:Zec facts_0 b_1=some r):Zm prog J0 128 [(false,[.sl 53 2 (A0 Zs facts_0)]),(true,Qu b_1)] [(false,[(false,.sl 53 2 (A0 Zs r))])]:=by
 refine fnk func128 rfl ?_
 unfold Zec at h
 simp only[fnS,f128,Zo,go_sem,seval]
 obtain ⟨a,g,h⟩:=Za h
 refine Zd (Zr4 g) ?_
 try simp only[*,go_sem,seval]
 refine Zh h (fun i b st=>IV [(0,yM (yT facts_0)),(5,.p false [.row 0]),(9,.p false [.row 1]),(10,yL a.length),(11,yL i)] [.row 53 2 (A0 Zs b) 2,.row 4 1 (A0 Ze4 a) 2] st) [(false,5,0)] [112,64] yF yD ?_ ?_
 rintro _ _ b ⟨_,_,_⟩ _ d e j h _
 simp only[go_sem,seval,Zb] at e
 obtain ⟨⟨_,_,_,_,_⟩,_,k,hn⟩:=e
 subst hn
 have l:=WF.rowL j k
 have:=ZC d
 have:=ZE d
 have:=Zk (ZD d) l
 try simp only[*,go_sem,seval]
 refine yB h (fun _ h=>?_) fun _ h=>?_
 obtain ⟨_,_,_,m,h⟩:=ZcM h
 simp only[A7] at m
 try simp only[*,go_sem,seval]
 obtain ⟨_,o,h⟩:=Za h
 refine Zd (YO o) ?_
 obtain ⟨q,h⟩:=Zv h
 try simp only[Nat.reduceLeDiff] at q
 try simp only[*,go_sem,seval]
 refine ⟨_,[],[226,1],(A3 h).symm,yF,?_⟩
 try simp only[*,go_sem,seval]
 refine ⟨_,[],[0,1],(A3 h).symm,yF,?_⟩
 try simp only[*,go_sem,seval]
 rintro b ⟨_,_,_⟩ f _ h
 simp only[go_sem,seval,Zb] at f
 obtain ⟨⟨_,_,_,_,_⟩,_,_,hn⟩:=f
 subst hn
 have:=ZB (a.length)
 cases h
 try simp only[*,go_sem,seval]
theorem ZIo {b_0:(List Zi)} {aim_1:(List Zi)} {r:Bool} (h:ZHj b_0 aim_1=some r):Zm prog J0 148 [(false,[.sl 162 2 (A0 ZR b_0)]),(false,[.sl 162 2 (A0 ZR aim_1)])] [(false,[(false,.bool r)])]:=by
 refine fnk func148 rfl ?_
 unfold ZHj at h
 simp only[fnS,f148,Zo,go_sem,seval]
 refine Zh h (fun i _ st=>IV [(1,yM (yX aim_1)),(9,yM (yX b_0)),(10,yL b_0.length),(11,yL i)] [] st) [] [] yF yD ?_ ?_
 rintro _ _ ⟨⟩ ⟨_,_,_⟩ _ a b e h f
 simp only[go_sem,seval,Zb] at b
 obtain ⟨⟨_,g,_,_⟩,hn⟩:=b
 subst hn
 have k:=WF.slotL e g (j:=0) rfl
 have:=ZC a
 have:=ZE a
 have:=Zk (ZD a) k
 try simp only[*,go_sem,seval]
 obtain ⟨_,l,h⟩:=Za h
 refine Zd (Zdw l) ?_
 try simp only[*,go_sem,seval]
 iterate 2 refine yB h (fun _ h=>?_) fun _ h=>?_
 refine ⟨_,[],[],(A3 h).symm,yF,?_⟩
 try simp only[*,go_sem,seval]
 replace h:=Zr h f
 cases h
 try simp only[*,go_sem,seval]
 refine ⟨_,[],[],(A3 h).symm,yF,?_⟩
 try simp only[*,go_sem,seval]
 rintro ⟨⟩ ⟨_,_,_⟩ d _ h
 simp only[go_sem,seval,Zb] at d
 obtain ⟨⟨_,_,_,_⟩,hn⟩:=d
 subst hn
 have:=ZB (b_0.length)
 cases h
 try simp only[*,go_sem,seval]
theorem Zar {s_0:ByteArray} {r:Bool} (h:Zaq s_0=some r):Zm prog J0 165 [(false,[.str s_0])] [(false,[(false,.bool r)])]:=by
 refine fnk func165 rfl ?_
 unfold Zaq at h
 simp only[fnS,f165,Zo,go_sem,seval]
 obtain ⟨_,a,h⟩:=Za h
 refine Zd (QA a) ?_
 try simp only[*,go_sem,seval]
 refine yB h (fun _ h=>?_) fun _ h=>?_
 cases h
 try simp only[*,go_sem,seval]
 obtain ⟨_,b,h⟩:=Za h
 refine Zd (Zah b) ?_
 cases h
 try simp only[*,go_sem,seval]
theorem Zc6 {p_0:Zx} {r:(List ByteArray)} (h:Zb5 p_0=some r):Zm prog J0 185 [(true,Qp p_0)] [(false,[(false,.sl 9 1 (A0 ZA r))])]:=by
 refine fnk func185 rfl ?_
 unfold Zb5 at h
 simp only[fnS,f185,Zo,go_sem,seval]
 refine Zh h (fun i a st=>IV [(1,.bp 0 0),(3,.p false [.row 1]),(4,yL i)] [.box 78 [.c (.str p_0.rel),.c (yU p_0.args)],.row 9 1 (A0 ZA a) 2] st) [] [0,32] yF yD ?_ ?_
 rintro _ _ a ⟨_,_,_⟩ _ b d f h _
 simp only[go_sem,seval,Zb] at d
 obtain ⟨⟨_,_,_⟩,g,_,hn⟩:=d
 subst hn
 have k:=WF.boxL f g (j:=1) rfl
 have:=ZC b
 have:=ZE b
 have:=Zk (ZD b) k
 try simp only[*,go_sem,seval]
 obtain ⟨_,l,h⟩:=Za h
 refine Zd (Zah l) ?_
 try simp only[*,go_sem,seval]
 refine yB h (fun _ h=>?_) fun _ h=>?_
 obtain ⟨_,m,h⟩:=Za h
 refine Zd (XF m) ?_
 try simp only[*,go_sem,seval]
 refine ⟨_,[],[0,274],(A3 h).symm,yF,?_⟩
 try simp only[*,go_sem,seval]
 refine ⟨_,[],[0,1],(A3 h).symm,yF,?_⟩
 try simp only[*,go_sem,seval]
 rintro a ⟨_,_,_⟩ e _ h
 simp only[go_sem,seval,Zb] at e
 obtain ⟨⟨_,_,_⟩,_,_,hn⟩:=e
 subst hn
 have:=ZB (p_0.args.length)
 cases h
 try simp only[*,go_sem,seval]
theorem ZbQ {a_0:Zc} {b_1:Zc} {r:Int} (h:Xw a_0 b_1=some r):Zm prog J0 57 [(true,Zs a_0),(true,Zs b_1)] [(false,[(false,.int .i64 r)])]:=by
 refine fnk func57 rfl ?_
 unfold Xw at h
 simp only[fnS,f57,Zo,go_sem,seval]
 refine yB h (fun _ h=>?_) fun _ h=>?_
 refine Zh h (fun i _ st=>IV [(2,.bp 0 0),(3,.bp 1 0),(5,yL i)] [zC 53 (Zs a_0),zC 53 (Zs b_1)] st) [] [0,16] yF yD ?_ ?_
 rintro _ _ ⟨⟩ ⟨_,_,_⟩ _ a d f h b
 simp only[go_sem,seval,Zb] at d
 obtain ⟨⟨_,_,_⟩,g,_,hn⟩:=d
 subst hn
 have k:=WF.boxL f g (j:=1) rfl
 have:=ZC a
 have:=ZE a
 have:=Zk (ZD a) k
 try simp only[*,go_sem,seval]
 refine yB h (fun _ h=>?_) fun _ h=>?_
 obtain ⟨_,_,_,l,h⟩:=ZcM h
 simp only[A7] at l
 try simp only[*,go_sem,seval]
 obtain ⟨_,m,h⟩:=Za h
 refine Zd (ZeI m) ?_
 try simp only[*,go_sem,seval]
 refine yB h (fun _ h=>?_) fun _ h=>?_
 replace h:=Zr h b
 cases h
 try simp only[*,go_sem,seval]
 refine ⟨_,[],[0,1],(A3 h).symm,yF,?_⟩
 try simp only[*,go_sem,seval]
 refine yB h (fun _ h=>?_) fun _ h=>?_
 replace h:=Zr h b
 cases h
 try simp only[*,go_sem,seval]
 refine yB h (fun _ h=>?_) fun _ h=>?_
 iterate 2 (replace h:=Zr h b;cases h;try simp only[*,go_sem,seval])
 rintro ⟨⟩ ⟨_,_,_⟩ e _ h
 simp only[go_sem,seval,Zb] at e
 obtain ⟨⟨_,_,_⟩,_,_,hn⟩:=e
 subst hn
 have:=ZB (a_0.args.length)
 iterate 2 ((try simp only[*,go_sem,seval]);(refine Ze h (fun _ h=>?_) fun _ h=>?_<;>try simp only[*,go_sem,seval]);cases h)
 try simp only[*,go_sem,seval]
 cases h
 try simp only[*,go_sem,seval]
 obtain ⟨_,o,h⟩:=Za h
 refine Zd (Zmz o) ?_
 cases h
 try simp only[*,go_sem,seval]
theorem Zk1 {f_0:Zc} {r:Bool} (h:ZfR f_0=some r):Zm prog J0 43 [(true,Zs f_0)] [(false,[(false,.bool r)])]:=by
 refine fnk func43 rfl ?_
 unfold ZfR at h
 simp only[fnS,f43,Zo,go_sem,seval]
 refine Zh h (fun i _ st=>IV [(1,.bp 0 0),(3,yL i)] [zC 53 (Zs f_0)] st) [] [0] yF yD ?_ ?_
 rintro _ _ ⟨⟩ ⟨_,_,_⟩ _ a b e h f
 simp only[go_sem,seval,Zb] at b
 obtain ⟨⟨_,_⟩,g,hn⟩:=b
 subst hn
 have k:=WF.boxL e g (j:=1) rfl
 have:=ZC a
 have:=ZE a
 have:=Zk (ZD a) k
 try simp only[*,go_sem,seval]
 obtain ⟨_,l,h⟩:=Za h
 refine Zd (QA l) ?_
 try simp only[*,go_sem,seval]
 refine yB h (fun _ h=>?_) fun _ h=>?_
 refine ⟨_,[],[0],(A3 h).symm,yF,?_⟩
 try simp only[*,go_sem,seval]
 replace h:=Zr h f
 cases h
 try simp only[*,go_sem,seval]
 rintro ⟨⟩ ⟨_,_,_⟩ d _ h
 simp only[go_sem,seval,Zb] at d
 obtain ⟨⟨_,_⟩,_,hn⟩:=d
 subst hn
 have:=ZB (f_0.args.length)
 try simp only[*,go_sem,seval]
 obtain ⟨_,m,h⟩:=Za h
 refine Zd (Zg3 m) ?_
 try simp only[*,go_sem,seval]
 refine yB h (fun _ h=>?_) fun _ h=>?_
 iterate 2 (cases h;try simp only[*,go_sem,seval])
theorem Zan {b_0:(List Zi)} {r:Bool} (h:XU b_0=some r):Zm prog J0 138 [(false,[.sl 162 2 (A0 ZR b_0)])] [(false,[(false,.bool r)])]:=by
 refine fnk func138 rfl ?_
 unfold XU at h
 simp only[fnS,f138,Zo,go_sem,seval]
 refine Zh h (fun i _ st=>IV [(0,yM (yX b_0)),(3,yL i)] [] st) [] [] yF yD ?_ ?_
 rintro _ _ ⟨⟩ ⟨_,_,_⟩ _ a b f h d
 simp only[go_sem,seval,Zb] at b
 obtain ⟨⟨g,_⟩,hn⟩:=b
 subst hn
 have k:=WF.slotL f g (j:=0) rfl
 have:=ZC a
 have:=ZE a
 have:=Zk (ZD a) k
 try simp only[*,go_sem,seval]
 obtain ⟨_,l,h⟩:=Za h
 refine Zd (Zah l) ?_
 try simp only[*,go_sem,seval]
 refine yB h (fun _ h=>?_) fun _ h=>?_
 obtain ⟨_,m,h⟩:=Za h
 refine Zd (QA m) ?_
 try simp only[*,go_sem,seval]
 iterate 2 refine yB h (fun _ h=>?_) fun _ h=>?_
 obtain ⟨_,_,_,_,h⟩:=ZcM h
 try simp only[*,go_sem,seval]
 refine yB h (fun _ h=>?_) fun _ h=>?_
 refine ⟨_,[],[],(A3 h).symm,yF,?_⟩
 try simp only[*,go_sem,seval]
 replace h:=Zr h d
 cases h
 try simp only[*,go_sem,seval]
 refine ⟨_,[],[],(A3 h).symm,yF,?_⟩
 iterate 2 ((try simp only[*,go_sem,seval]);replace h:=Zr h d;cases h)
 try simp only[*,go_sem,seval]
 rintro ⟨⟩ ⟨_,_,_⟩ e _ h
 simp only[go_sem,seval,Zb] at e
 obtain ⟨⟨_,_⟩,hn⟩:=e
 subst hn
 have:=ZB (b_0.length)
 cases h
 try simp only[*,go_sem,seval]
theorem Zdu {b_0:(List Zi)} {term_1:ByteArray} {r:(ByteArray × Bool)} (h:Zbj b_0 term_1=some r):Zm prog J0 203 [(false,[.sl 162 2 (A0 ZR b_0)]),(false,[.str term_1])] [(false,[(false,.str r.1)]),(false,[(false,.bool r.2)])]:=by
 refine fnk func203 rfl ?_
 unfold Zbj at h
 have e:ZbS ⟨#[]⟩=true:=by decide
 simp only[fnS,f203,Zo,go_sem,seval,e]
 obtain ⟨_,f,h⟩:=Za h
 refine Zd (QA f) ?_
 try simp only[*,go_sem,seval]
 refine yB h (fun _ h=>?_) fun _ h=>?_
 cases h
 try simp only[*,go_sem,seval]
 refine Zh h (fun i _ st=>IV [(0,yM (yX b_0)),(1,yM (.str term_1)),(6,yL i)] [] st) [] [] yF yD ?_ ?_
 rintro _ _ ⟨⟩ ⟨_,_,_⟩ _ a b g h k
 simp only[go_sem,seval,Zb] at b
 obtain ⟨⟨l,_,_⟩,hn⟩:=b
 subst hn
 have m:=WF.slotL g l (j:=0) rfl
 have:=ZC a
 have:=ZE a
 have:=Zk (ZD a) m
 try simp only[*,go_sem,seval]
 refine yB h (fun _ h=>?_) fun _ h=>?_
 obtain ⟨_,o,h⟩:=Za h
 refine Zd (Zah o) ?_
 try simp only[*,go_sem,seval]
 refine yB h (fun _ h=>?_) fun _ h=>?_
 replace h:=Zr h k
 cases h
 try simp only[*,go_sem,seval]
 refine ⟨_,[],[],(A3 h).symm,yF,?_⟩
 try simp only[*,go_sem,seval]
 refine ⟨_,[],[],(A3 h).symm,yF,?_⟩
 try simp only[*,go_sem,seval]
 rintro ⟨⟩ ⟨_,_,_⟩ d _ h
 simp only[go_sem,seval,Zb] at d
 obtain ⟨⟨_,_,_⟩,hn⟩:=d
 subst hn
 have:=ZB (b_0.length)
 cases h
 try simp only[*,go_sem,seval]
theorem ZrY {t_0:Zq} {r:Zq} (h:ZgP t_0=some r):Zm prog J0 244 [(true,YU t_0)] [(true,[(false,.sl 53 2 (A0 Zs r.facts)),(false,.sl 162 2 (A0 ZR r.binding))])]:=by
 refine fnk func244 rfl ?_
 unfold ZgP at h
 simp only[fnS,f244,Zo,go_sem,seval]
 obtain ⟨_,a,h⟩:=Za h
 refine Zd (Zfo a) ?_
 try simp only[*,go_sem,seval]
 obtain ⟨_,b,h⟩:=Za h
 refine Zd (ZeN b) ?_
 cases h
 try simp only[*,go_sem,seval]
end
section
theorem ZlL {a:(List Zg)} {String_1:ByteArray} {b:ByteArray} {r:Bool} (h:Zb2 a String_1 b=some r):Zm prog J0 273 [(false,[.sl 76 4 (A0 ZL a)]),(false,[.str String_1]),(false,[.str b])] [(false,[(false,.bool r)])]:=by
 refine fnk func273 rfl ?_
 unfold Zb2 at h
 simp only[fnS,f273,Zo,go_sem,seval]
 refine Xj h (fun s st=>match s with | (m,e)=>IV [(0,yM (yW a)),(2,yM (.str b)),(7,.p false [.row 0]),(8,yM (.int .i64 e))] [.row 9 1 (A0 ZA m) 2] st) [] [32] yF yD ?_
 rintro ⟨m,e⟩ ⟨_,_,_⟩ _ o _ h q
 simp only[go_sem,seval,Zb] at o
 obtain ⟨⟨_,_,_,_⟩,_,hn⟩:=o
 subst hn
 try simp only[*,go_sem,seval]
 refine yB h (fun _ h=>?_) fun _ h=>?_
 refine Zh h (fun i f st=>IV [(0,yM (yW a)),(2,yM (.str b)),(7,.p false [.row 0]),(8,yM (.int .i64 e)),(9,yL i)] [.row 9 1 (A0 ZA f) 2] st) [] [0] yF yD ?_ ?_
 rintro y _ f ⟨_,_,_⟩ _ g t z h A
 simp only[go_sem,seval,Zb] at t
 obtain ⟨⟨B,_,_,_,_⟩,_,hn⟩:=t
 subst hn
 have C:=WF.slotL z B (j:=0) rfl
 have:=ZC g
 have:=ZE g
 have:=Zk (ZD g) C
 try simp only[*,go_sem,seval]
 obtain ⟨_,D,h⟩:=Za h
 refine Zd (Zij D) ?_
 obtain ⟨_,h⟩:=Zv h
 obtain ⟨_,_,h⟩:=Za h
 try simp only[*,go_sem,seval]
 obtain ⟨_,E,h⟩:=Za h
 refine Zd (YQ E) ?_
 try simp only[*,go_sem,seval]
 refine yB h (fun _ h=>?_) fun _ h=>?_
 obtain ⟨u,F,h⟩:=Za h
 refine Zd (Zqg F) ?_
 try simp only[*,go_sem,seval]
 obtain ⟨_,G,h⟩:=Za h
 refine Zd (YQ G) ?_
 try simp only[*,go_sem,seval]
 refine yB h (fun _ h=>?_) fun _ h=>?_
 replace h:=Zr h A
 replace h:=Zr h q
 cases h
 try simp only[*,go_sem,seval]
 refine Zh h (fun i k st=>IV [(0,yM (yW a)),(2,yM (.str b)),(7,.p false [.row 0]),(8,yM (.int .i64 e)),(9,yL y),(10,.p false [.row 1]),(11,yL i)] [.row 9 1 (A0 ZA k) 2,.row 9 1 (A0 ZA u) 2] st) [] [0,305] yF yD ?_ ?_
 rintro _ _ k ⟨_,_,_⟩ _ l v H h _
 simp only[go_sem,seval,Zb] at v
 obtain ⟨⟨_,_,_,_,_,_,_⟩,_,I,hn⟩:=v
 subst hn
 have J:=WF.rowL H I
 have:=ZC l
 have:=ZE l
 have:=Zk (ZD l) J
 try simp only[*,go_sem,seval]
 obtain ⟨_,K,h⟩:=Za h
 refine Zd (YQ K) ?_
 try simp only[*,go_sem,seval]
 refine yB h (fun _ h=>?_) fun _ h=>?_
 refine ⟨_,[],[0,1],(A3 h).symm,yF,?_⟩
 try simp only[*,go_sem,seval]
 obtain ⟨L,h⟩:=Zv h
 try simp only[Nat.reduceLeDiff] at L
 try simp only[*,go_sem,seval]
 refine ⟨_,[],[274,1],(A3 h).symm,yF,?_⟩
 try simp only[*,go_sem,seval]
 rintro k ⟨_,_,_⟩ w _ h
 simp only[go_sem,seval,Zb] at w
 obtain ⟨⟨_,_,_,_,_,_,_⟩,_,_,hn⟩:=w
 subst hn
 have:=ZB (u.length)
 try simp only[*,go_sem,seval]
 refine ⟨_,[],[0],(A3 h).symm,yF,?_⟩
 try simp only[*,go_sem,seval]
 refine ⟨_,[],[0],(A3 h).symm,yF,?_⟩
 try simp only[*,go_sem,seval]
 rintro f ⟨_,_,_⟩ x _ h
 simp only[go_sem,seval,Zb] at x
 obtain ⟨⟨_,_,_,_,_⟩,_,hn⟩:=x
 subst hn
 have:=ZB (a.length)
 try simp only[*,go_sem,seval]
 refine ⟨_,[],[0],(A3 h).symm,yF,?_⟩
 try simp only[*,go_sem,seval]
 replace h:=Zr h q
 cases h
 try simp only[*,go_sem,seval]
theorem Zfa {l_0:(List Zc)} {f_1:Zc} {r:Int} (h:Zbb l_0 f_1=some r):Zm prog J0 80 [(false,[.sl 53 2 (A0 Zs l_0)]),(true,Zs f_1)] [(false,[(false,.int .i64 r)])]:=by
 refine fnk func80 rfl ?_
 unfold Zbb at h
 simp only[fnS,f80,Zo,go_sem,seval]
 refine Zh h (fun i _ st=>IV [(0,yM (yT l_0)),(3,.bp 0 0),(5,yL i)] [zC 53 (Zs f_1)] st) [] [0] yF yD ?_ ?_
 rintro _ _ ⟨⟩ ⟨_,_,_⟩ _ a b e h f
 simp only[go_sem,seval,Zb] at b
 obtain ⟨⟨g,_,_⟩,_,hn⟩:=b
 subst hn
 have k:=WF.slotL e g (j:=0) rfl
 have:=ZC a
 have:=ZE a
 have:=Zk (ZD a) k
 try simp only[*,go_sem,seval]
 obtain ⟨_,l,h⟩:=Za h
 refine Zd (ZrW l) ?_
 try simp only[*,go_sem,seval]
 refine yB h (fun _ h=>?_) fun _ h=>?_
 replace h:=Zr h f
 cases h
 try simp only[*,go_sem,seval]
 refine ⟨_,[],[0],(A3 h).symm,yF,?_⟩
 try simp only[*,go_sem,seval]
 rintro ⟨⟩ ⟨_,_,_⟩ d _ h
 simp only[go_sem,seval,Zb] at d
 obtain ⟨⟨_,_,_⟩,_,hn⟩:=d
 subst hn
 have:=ZB (l_0.length)
 cases h
 try simp only[*,go_sem,seval]
theorem ZnW {b_0:Zt} {r:Bool} (h:ZcJ b_0=some r):Zm prog J0 308 [(true,Qu b_0)] [(false,[(false,.bool r)])]:=by
 refine fnk func308 rfl ?_
 unfold ZcJ at h
 simp only[fnS,f308,Zo,go_sem,seval]
 refine Zh h (fun i _ st=>IV [(1,.bp 0 0),(3,yL i)] [.box 140 [.c (.int .i64 b_0.nodes),.c (zA b_0.reasons)]] st) [] [0] yF yD ?_ ?_
 rintro _ _ ⟨⟩ ⟨_,_,_⟩ _ a b e h f
 simp only[go_sem,seval,Zb] at b
 obtain ⟨⟨_,_⟩,g,hn⟩:=b
 subst hn
 have k:=WF.boxL e g (j:=1) rfl
 have:=ZC a
 have:=ZE a
 have:=Zk (ZD a) k
 try simp only[*,go_sem,seval]
 obtain ⟨_,l,h⟩:=Za h
 refine Zd (XM l) ?_
 try simp only[*,go_sem,seval]
 refine yB h (fun _ h=>?_) fun _ h=>?_
 obtain ⟨_,m,h⟩:=Za h
 refine Zd (ZjJ m) ?_
 try simp only[*,go_sem,seval]
 refine yB h (fun _ h=>?_) fun _ h=>?_
 obtain ⟨_,o,h⟩:=Za h
 refine Zd (ZjJ o) ?_
 try simp only[*,go_sem,seval]
 refine yB h (fun _ h=>?_) fun _ h=>?_
 refine ⟨_,[],[0],(A3 h).symm,yF,?_⟩
 iterate 3 ((try simp only[*,go_sem,seval]);replace h:=Zr h f;cases h)
 try simp only[*,go_sem,seval]
 rintro ⟨⟩ ⟨_,_,_⟩ d _ h
 simp only[go_sem,seval,Zb] at d
 obtain ⟨⟨_,_⟩,_,hn⟩:=d
 subst hn
 have:=ZB (b_0.reasons.length)
 try simp only[*,go_sem,seval]
 obtain ⟨_,q,h⟩:=Za h
 refine Zd (XM q) ?_
 try simp only[*,go_sem,seval]
 refine yB h (fun _ h=>?_) fun _ h=>?_
 iterate 2 (cases h;try simp only[*,go_sem,seval])
end
section
theorem ZiF {l_0:(List Zc)} {facts_1:(List Zc)} {r:(List Int)} (h:Zcn l_0 facts_1=some r):Zm prog J0 251 [(false,[.sl 53 2 (A0 Zs l_0)]),(false,[.sl 53 2 (A0 Zs facts_1)])] [(false,[(false,.sl 3 1 (A0 ZO r))])]:=by
 refine fnk func251 rfl ?_
 unfold Zcn at h
 simp only[fnS,f251,Zo,go_sem,seval]
 refine Zh h (fun i a st=>IV [(0,yM (yT l_0)),(1,yM (yT facts_1)),(5,.p false [.row 0]),(6,yL i)] [.row 3 1 (A0 ZO a) 2] st) [] [16] yF yD ?_ ?_
 rintro _ _ a ⟨_,_,_⟩ _ b d f h _
 simp only[go_sem,seval,Zb] at d
 obtain ⟨⟨_,g,_,_⟩,_,hn⟩:=d
 subst hn
 have k:=WF.slotL f g (j:=0) rfl
 have:=ZC b
 have:=ZE b
 have:=Zk (ZD b) k
 try simp only[*,go_sem,seval]
 obtain ⟨_,l,h⟩:=Za h
 refine Zd (Zfa l) ?_
 try simp only[*,go_sem,seval]
 refine yB h (fun _ h=>?_) fun _ h=>?_
 obtain ⟨_,m,h⟩:=Za h
 refine Zd (ZsW m) ?_
 try simp only[*,go_sem,seval]
 refine ⟨_,[],[241],(A3 h).symm,yF,?_⟩
 try simp only[*,go_sem,seval]
 refine ⟨_,[],[0],(A3 h).symm,yF,?_⟩
 try simp only[*,go_sem,seval]
 rintro a ⟨_,_,_⟩ e _ h
 simp only[go_sem,seval,Zb] at e
 obtain ⟨⟨_,_,_,_⟩,_,hn⟩:=e
 subst hn
 have:=ZB (facts_1.length)
 cases h
 try simp only[*,go_sem,seval]
theorem ZeL {b_0:Zt} {r:Bool} (h:Qx b_0=some r):Zm prog J0 276 [(true,Qu b_0)] [(false,[(false,.bool r)])]:=by
 refine fnk func276 rfl ?_
 unfold Qx at h
 simp only[fnS,f276,Zo,go_sem,seval]
 obtain ⟨_,o,h⟩:=Za h
 refine Zd (ZnW o) ?_
 try simp only[*,go_sem,seval]
 refine yB h (fun _ h=>?_) fun _ h=>?_
 refine Zh h (fun i _ st=>IV [(1,.bp 0 0),(3,yL i)] [.box 140 [.c (.int .i64 b_0.nodes),.c (zA b_0.reasons)]] st) [] [0] yF yD ?_ ?_
 rintro q d ⟨⟩ ⟨_,_,_⟩ _ a e t h f
 simp only[go_sem,seval,Zb] at e
 obtain ⟨⟨_,_⟩,u,hn⟩:=e
 subst hn
 have v:=WF.boxL t u (j:=1) rfl
 have:=ZC a
 have:=ZE a
 have:=Zk (ZD a) v
 try simp only[*,go_sem,seval]
 refine Zh h (fun i _ st=>IV [(1,.bp 0 0),(3,yL q),(4,yM (.int .i64 d.for_)),(5,yL i)] [.box 140 [.c (.int .i64 b_0.nodes),.c (zA b_0.reasons)]] st) [] [0] yF yD ?_ ?_
 rintro _ _ ⟨⟩ ⟨_,_,_⟩ _ b g w h k
 simp only[go_sem,seval,Zb] at g
 obtain ⟨⟨_,_,_,_⟩,x,hn⟩:=g
 subst hn
 have y:=WF.elL (WF.boxD w x (j:=1) rfl) a (j:=2) rfl
 have:=ZC b
 have:=ZE b
 have:=Zk (ZD b) y
 try simp only[*,go_sem,seval]
 refine yB h (fun _ h=>?_) fun _ h=>?_
 replace h:=Zr h k
 replace h:=Zr h f
 cases h
 try simp only[*,go_sem,seval]
 obtain ⟨_,z,h⟩:=Za h
 refine Zd (Zos z) ?_
 obtain ⟨_,h⟩:=Zv h
 obtain ⟨_,_,h⟩:=Za h
 try simp only[*,go_sem,seval]
 refine yB h (fun _ h=>?_) fun _ h=>?_
 replace h:=Zr h k
 replace h:=Zr h f
 cases h
 try simp only[*,go_sem,seval]
 refine ⟨_,[],[0],(A3 h).symm,yF,?_⟩
 try simp only[*,go_sem,seval]
 rintro ⟨⟩ ⟨_,_,_⟩ l _ h
 simp only[go_sem,seval,Zb] at l
 obtain ⟨⟨_,_,_,_⟩,_,hn⟩:=l
 subst hn
 have:=ZB (d.outs.length)
 try simp only[*,go_sem,seval]
 refine ⟨_,[],[0],(A3 h).symm,yF,?_⟩
 try simp only[*,go_sem,seval]
 rintro ⟨⟩ ⟨_,_,_⟩ m _ h
 simp only[go_sem,seval,Zb] at m
 obtain ⟨⟨_,_⟩,_,hn⟩:=m
 subst hn
 have:=ZB (b_0.reasons.length)
 iterate 2 (cases h;try simp only[*,go_sem,seval])
end
end Go.Proofs.YtlpkbfjcdaanmaaGreatDoor
