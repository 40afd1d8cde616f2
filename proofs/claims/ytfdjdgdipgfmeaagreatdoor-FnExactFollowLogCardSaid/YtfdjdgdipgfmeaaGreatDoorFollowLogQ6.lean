/- Texts of this proof, joined; no conditions. -/
import Derived.Shelf.Small.Bits
import Derived.Shelf.Small.Strs
import Derived.Shelf.Strconv.Atoi
import Derived.Shelf.Strconv.Itoa0
import Derived.Shelf.Strconv.Itoa1
import Derived.Shelf.LaysM
import Derived.Shelf.Strconv.Itoa2
import Derived.Shelf.Strconv.Itoa3
import Derived.Shelf.Strconv.AtoiErrFast
import Derived.Shelf.Strconv.ParseIntEmpty
import Derived.Shelf.Strconv.AtoiFail
import Derived.Shelf.Strconv.Clone
import Derived.Shelf.Strconv.SyntaxError
import Derived.Shelf.LaysC
import Derived.Shelf.Strconv.ToError
import Derived.Shelf.Strconv.AtoiErr
import Derived.Shelf.Strconv.ErrVar
import Derived.Shelf.Sort.Plain
import Derived.Shelf.Slices.In.SortNone
import Derived.Shelf.Slices.In.SortNone2
import Derived.Test.YtfdjdgdipgfmeaaGreatDoorProg
import Derived.Test.YtfdjdgdipgfmeaaGreatDoorFollowLogQ5
import Derived.Test.YtfdjdgdipgfmeaaGreatDoorFollowLogQ1
import Derived.Lib.AtoiErrMem
import Derived.Lib.AppendIntMem
import Derived.Lib.ItoaLen
open Array renaming getElem?_toList→AE,getElem?_modify→AF
open Bool renaming false_or→AI,or_false→AJ
open Int renaming toNat_natCast→A9
open List renaming map→A0,getElem?_map→AA,eq_nil_of_length_eq_zero→AB,getElem?_take→AC,getElem?_drop→AD,size_toArray→AG,map_map→AH,map_append→AK
open Option.some renaming inj→A6
open Go.Proofs.Tryz
set_option linter.unusedSimpArgs false
set_option linter.unusedVariables false
set_option maxRecDepth 1000000
set_option maxHeartbeats 4000000
namespace Go.Proofs
open Go.Shelf
def lays106_ren:Go.Shelf.Ren:=⟨fun|106=>207|213=>243|265=>257|n=>n,fun|9=>9|3=>3|n=>n,fun|n=>n⟩
theorem lays106:Go.Proofs.Lays.n106 prog lays106_ren:={
 mixed:=by kernel_rfl
 f106:=func207.trans (congrArg some (by kernel_rfl))
 f213:=func243.trans (congrArg some (by kernel_rfl))
 f265:=func257.trans (congrArg some (by kernel_rfl))
 t3:=underlying3
 a3:=isAgg3
 z3:=sizeOf3
 v3:=zeroValue3
 t9:=underlying9
 a9:=isAgg9
 z9:=sizeOf9
 v9:=zeroValue9 }
open Go.RowKit in
theorem strings_Compare (a b:ByteArray) (w:World):
 Calls prog 207 #[.string a,.string b] w fun e w'=>e=.returned (.int .i64 (Lib.compareBytes a.data.toList b.data.toList))/\w'=w:=Any.strings_Compare lays106 a b w
def lays172_ren:Go.Shelf.Ren:=⟨fun|172=>258|244=>265|245=>266|247=>280|279=>281|280=>282|281=>283|282=>284|287=>292|316=>293|171=>267|205=>294|321=>297|322=>298|243=>285|246=>295|283=>299|284=>300|285=>301|286=>302|129=>279|317=>303|318=>304|319=>305|320=>306|337=>307|338=>308|n=>n,fun|9=>9|3=>3|75=>240|76=>241|4=>4|5=>5|167=>261|37=>130|0=>0|85=>262|2=>2|168=>264|53=>260|175=>273|46=>246|210=>277|127=>283|145=>286|143=>284|21=>21|171=>287|173=>289|212=>293|51=>258|20=>20|213=>294|232=>296|233=>297|80=>298|n=>n,fun|15=>1|16=>2|17=>3|18=>4|19=>5|n=>n⟩
theorem lays172:Go.Proofs.Lays.n172 prog lays172_ren:={
 mixed:=by kernel_rfl
 f129:=func279.trans (congrArg some (by kernel_rfl))
 f171:=func267.trans (congrArg some (by kernel_rfl))
 f172:=func258.trans (congrArg some (by kernel_rfl))
 f205:=func294.trans (congrArg some (by kernel_rfl))
 f243:=func285.trans (congrArg some (by kernel_rfl))
 f244:=func265.trans (congrArg some (by kernel_rfl))
 f245:=func266.trans (congrArg some (by kernel_rfl))
 f246:=func295.trans (congrArg some (by kernel_rfl))
 f247:=func280.trans (congrArg some (by kernel_rfl))
 f279:=func281.trans (congrArg some (by kernel_rfl))
 f280:=func282.trans (congrArg some (by kernel_rfl))
 f281:=func283.trans (congrArg some (by kernel_rfl))
 f282:=func284.trans (congrArg some (by kernel_rfl))
 f283:=func299.trans (congrArg some (by kernel_rfl))
 f284:=func300.trans (congrArg some (by kernel_rfl))
 f285:=func301.trans (congrArg some (by kernel_rfl))
 f286:=func302.trans (congrArg some (by kernel_rfl))
 f287:=func292.trans (congrArg some (by kernel_rfl))
 f316:=func293.trans (congrArg some (by kernel_rfl))
 f317:=func303.trans (congrArg some (by kernel_rfl))
 f318:=func304.trans (congrArg some (by kernel_rfl))
 f319:=func305.trans (congrArg some (by kernel_rfl))
 f320:=func306.trans (congrArg some (by kernel_rfl))
 f321:=func297.trans (congrArg some (by kernel_rfl))
 f322:=func298.trans (congrArg some (by kernel_rfl))
 f337:=func307.trans (congrArg some (by kernel_rfl))
 f338:=func308.trans (congrArg some (by kernel_rfl))
 t0:=underlying0
 a0:=isAgg0
 z0:=sizeOf0
 v0:=zeroValue0
 t2:=underlying2
 a2:=isAgg2
 z2:=sizeOf2
 v2:=zeroValue2
 t3:=underlying3
 a3:=isAgg3
 z3:=sizeOf3
 v3:=zeroValue3
 t4:=underlying4
 a4:=isAgg4
 z4:=sizeOf4
 v4:=zeroValue4
 t5:=underlying5
 a5:=isAgg5
 z5:=sizeOf5
 v5:=zeroValue5
 t9:=underlying9
 a9:=isAgg9
 z9:=sizeOf9
 v9:=zeroValue9
 t20:=underlying20
 a20:=isAgg20
 z20:=sizeOf20
 v20:=zeroValue20
 t21:=underlying21
 a21:=isAgg21
 z21:=sizeOf21
 v21:=zeroValue21
 t37:=underlying130
 a37:=isAgg130
 z37:=sizeOf130
 v37:=zeroValue130
 t46:=underlying246
 a46:=isAgg246
 z46:=sizeOf246
 v46:=zeroValue246
 t51:=underlying258
 a51:=isAgg258
 z51:=sizeOf258
 v51:=zeroValue258
 t53:=underlying260
 a53:=isAgg260
 z53:=sizeOf260
 v53:=zeroValue260
 t75:=underlying240
 a75:=isAgg240
 z75:=sizeOf240
 v75:=zeroValue240
 t76:=underlying241
 a76:=isAgg241
 z76:=sizeOf241
 v76:=zeroValue241
 t85:=underlying262
 a85:=isAgg262
 z85:=sizeOf262
 v85:=zeroValue262
 t127:=underlying283
 a127:=isAgg283
 z127:=sizeOf283
 v127:=zeroValue283
 t143:=underlying284
 a143:=isAgg284
 z143:=sizeOf284
 v143:=zeroValue284
 t145:=underlying286
 a145:=isAgg286
 z145:=sizeOf286
 v145:=zeroValue286
 t167:=underlying261
 a167:=isAgg261
 z167:=sizeOf261
 v167:=zeroValue261
 t168:=underlying264
 a168:=isAgg264
 z168:=sizeOf264
 v168:=zeroValue264
 t171:=underlying287
 a171:=isAgg287
 z171:=sizeOf287
 v171:=zeroValue287
 t173:=underlying289
 a173:=isAgg289
 z173:=sizeOf289
 v173:=zeroValue289
 t175:=underlying273
 a175:=isAgg273
 z175:=sizeOf273
 v175:=zeroValue273
 t210:=underlying277
 a210:=isAgg277
 z210:=sizeOf277
 v210:=zeroValue277
 t212:=underlying293
 a212:=isAgg293
 z212:=sizeOf293
 v212:=zeroValue293
 t213:=underlying294
 a213:=isAgg294
 z213:=sizeOf294
 t232:=underlying296
 a232:=isAgg296
 z232:=sizeOf296
 v232:=zeroValue296
 t233:=underlying297
 a233:=isAgg297
 z233:=sizeOf297
 v233:=zeroValue297
 g15:=by kernel_rfl
 g16:=by kernel_rfl
 g17:=by kernel_rfl
 g18:=by kernel_rfl
 g19:=by kernel_rfl }
open Go.RowKit in
theorem strconv_Atoi (s:ByteArray) (n:Int) (A:s.size<=18) (h:Lib.atoi s.data.toList=some n) (w:World):
 Calls prog 258 #[.string s] w fun e w'=>e=.returned (.tuple #[.int .i64 n,.nilIface])/\∃t,w'=Lib.bytesWorld w 5 t:=Any.strconv_Atoi lays172 s n A h w
def laysM171_ren:Go.Shelf.Ren:=⟨fun|171=>267|243=>285|246=>295|283=>299|284=>300|285=>301|286=>302|129=>279|317=>303|318=>304|319=>305|320=>306|337=>307|338=>308|n=>n,fun|3=>3|9=>9|2=>2|4=>4|171=>287|0=>0|53=>260|37=>130|5=>5|173=>289|212=>293|51=>258|20=>20|213=>294|46=>246|232=>296|233=>297|n=>n,fun|17=>3|18=>4|19=>5|n=>n⟩
theorem laysM171:Go.Proofs.LaysM.n171 prog laysM171_ren:={
 mixed:=by kernel_rfl
 f129:=func279.trans (congrArg some (by kernel_rfl))
 f171:=func267.trans (congrArg some (by kernel_rfl))
 f243:=func285.trans (congrArg some (by kernel_rfl))
 f246:=func295.trans (congrArg some (by kernel_rfl))
 f283:=func299.trans (congrArg some (by kernel_rfl))
 f284:=func300.trans (congrArg some (by kernel_rfl))
 f285:=func301.trans (congrArg some (by kernel_rfl))
 f286:=func302.trans (congrArg some (by kernel_rfl))
 f317:=func303.trans (congrArg some (by kernel_rfl))
 f318:=func304.trans (congrArg some (by kernel_rfl))
 f319:=func305.trans (congrArg some (by kernel_rfl))
 f320:=func306.trans (congrArg some (by kernel_rfl))
 f337:=func307.trans (congrArg some (by kernel_rfl))
 f338:=func308.trans (congrArg some (by kernel_rfl))
 t0:=underlying0
 a0:=isAgg0
 z0:=sizeOf0
 v0:=zeroValue0
 t2:=underlying2
 a2:=isAgg2
 z2:=sizeOf2
 v2:=zeroValue2
 t3:=underlying3
 a3:=isAgg3
 z3:=sizeOf3
 v3:=zeroValue3
 t4:=underlying4
 a4:=isAgg4
 z4:=sizeOf4
 v4:=zeroValue4
 t5:=underlying5
 a5:=isAgg5
 z5:=sizeOf5
 v5:=zeroValue5
 t9:=underlying9
 a9:=isAgg9
 z9:=sizeOf9
 v9:=zeroValue9
 t20:=underlying20
 a20:=isAgg20
 z20:=sizeOf20
 v20:=zeroValue20
 t37:=underlying130
 a37:=isAgg130
 z37:=sizeOf130
 v37:=zeroValue130
 t46:=underlying246
 a46:=isAgg246
 z46:=sizeOf246
 v46:=zeroValue246
 t51:=underlying258
 a51:=isAgg258
 z51:=sizeOf258
 v51:=zeroValue258
 t53:=underlying260
 a53:=isAgg260
 z53:=sizeOf260
 v53:=zeroValue260
 t171:=underlying287
 a171:=isAgg287
 z171:=sizeOf287
 v171:=zeroValue287
 t173:=underlying289
 a173:=isAgg289
 z173:=sizeOf289
 v173:=zeroValue289
 t212:=underlying293
 a212:=isAgg293
 z212:=sizeOf293
 v212:=zeroValue293
 t213:=underlying294
 a213:=isAgg294
 z213:=sizeOf294
 t232:=underlying296
 a232:=isAgg296
 z232:=sizeOf296
 v232:=zeroValue296
 t233:=underlying297
 a233:=isAgg297
 z233:=sizeOf297
 v233:=zeroValue297
 g17:=by kernel_rfl
 g18:=by kernel_rfl
 g19:=by kernel_rfl
 i0:=by kernel_rfl
 i2:=by kernel_rfl
 i3:=by kernel_rfl
 i4:=by kernel_rfl
 i5:=by kernel_rfl
 i9:=by kernel_rfl
 i20:=by kernel_rfl
 i37:=by kernel_rfl
 i46:=by kernel_rfl
 i51:=by kernel_rfl
 i53:=by kernel_rfl
 i171:=by kernel_rfl
 i173:=by kernel_rfl
 i212:=by kernel_rfl
 i232:=by kernel_rfl
 i233:=by kernel_rfl
 m17:=by kernel_rfl
 m18:=by kernel_rfl
 m19:=by kernel_rfl }
open Go.RowKit Go.Sort Go.Lib in
theorem strconv_Itoa (n : Int) (h0 : -9223372036854775808 ≤ n) (h1 : n ≤ 9223372036854775807) (w : World) (htab : Lib.TabIs prog w "internal/strconv.uint64pow10" .u64 Lib.pow10Tab) :
 Calls prog 267 #[.int .i64 n] w fun e w'=>e=.returned (.string ⟨(Lib.itoa n).toArray⟩)/\∃k os,w'=grow (w.drewN k) os:=Any.strconv_Itoa laysM171 n h0 h1 w htab
def laysC172_ren:Go.Shelf.Ren:=⟨fun|172=>258|244=>265|245=>266|247=>280|279=>281|280=>282|281=>283|282=>284|287=>292|316=>293|171=>267|205=>294|321=>297|322=>298|243=>285|246=>295|283=>299|284=>300|285=>301|286=>302|129=>279|317=>303|318=>304|319=>305|320=>306|337=>307|338=>308|n=>n,fun|9=>9|3=>3|75=>240|76=>241|4=>4|5=>5|167=>261|37=>130|0=>0|85=>262|2=>2|168=>264|53=>260|175=>273|46=>246|210=>277|127=>283|145=>286|143=>284|21=>21|171=>287|173=>289|212=>293|51=>258|20=>20|213=>294|232=>296|233=>297|80=>298|n=>n,fun|15=>1|16=>2|17=>3|18=>4|19=>5|n=>n⟩
theorem laysC172:Go.Proofs.LaysC.n172 prog laysC172_ren:={
 mixed:=by kernel_rfl
 f129:=func279.trans (congrArg some (by kernel_rfl))
 f171:=func267.trans (congrArg some (by kernel_rfl))
 f172:=func258.trans (congrArg some (by kernel_rfl))
 f205:=func294.trans (congrArg some (by kernel_rfl))
 f243:=func285.trans (congrArg some (by kernel_rfl))
 f244:=func265.trans (congrArg some (by kernel_rfl))
 f245:=func266.trans (congrArg some (by kernel_rfl))
 f246:=func295.trans (congrArg some (by kernel_rfl))
 f247:=func280.trans (congrArg some (by kernel_rfl))
 f279:=func281.trans (congrArg some (by kernel_rfl))
 f280:=func282.trans (congrArg some (by kernel_rfl))
 f281:=func283.trans (congrArg some (by kernel_rfl))
 f282:=func284.trans (congrArg some (by kernel_rfl))
 f283:=func299.trans (congrArg some (by kernel_rfl))
 f284:=func300.trans (congrArg some (by kernel_rfl))
 f285:=func301.trans (congrArg some (by kernel_rfl))
 f286:=func302.trans (congrArg some (by kernel_rfl))
 f287:=func292.trans (congrArg some (by kernel_rfl))
 f316:=func293.trans (congrArg some (by kernel_rfl))
 f317:=func303.trans (congrArg some (by kernel_rfl))
 f318:=func304.trans (congrArg some (by kernel_rfl))
 f319:=func305.trans (congrArg some (by kernel_rfl))
 f320:=func306.trans (congrArg some (by kernel_rfl))
 f321:=func297.trans (congrArg some (by kernel_rfl))
 f322:=func298.trans (congrArg some (by kernel_rfl))
 f337:=func307.trans (congrArg some (by kernel_rfl))
 f338:=func308.trans (congrArg some (by kernel_rfl))
 t0:=underlying0
 a0:=isAgg0
 z0:=sizeOf0
 v0:=zeroValue0
 t2:=underlying2
 a2:=isAgg2
 z2:=sizeOf2
 v2:=zeroValue2
 t3:=underlying3
 a3:=isAgg3
 z3:=sizeOf3
 v3:=zeroValue3
 t4:=underlying4
 a4:=isAgg4
 z4:=sizeOf4
 v4:=zeroValue4
 t5:=underlying5
 a5:=isAgg5
 z5:=sizeOf5
 v5:=zeroValue5
 t9:=underlying9
 a9:=isAgg9
 z9:=sizeOf9
 v9:=zeroValue9
 t20:=underlying20
 a20:=isAgg20
 z20:=sizeOf20
 v20:=zeroValue20
 t21:=underlying21
 a21:=isAgg21
 z21:=sizeOf21
 v21:=zeroValue21
 t37:=underlying130
 a37:=isAgg130
 z37:=sizeOf130
 v37:=zeroValue130
 t46:=underlying246
 a46:=isAgg246
 z46:=sizeOf246
 v46:=zeroValue246
 t51:=underlying258
 a51:=isAgg258
 z51:=sizeOf258
 v51:=zeroValue258
 t53:=underlying260
 a53:=isAgg260
 z53:=sizeOf260
 v53:=zeroValue260
 t75:=underlying240
 a75:=isAgg240
 z75:=sizeOf240
 v75:=zeroValue240
 t76:=underlying241
 a76:=isAgg241
 z76:=sizeOf241
 v76:=zeroValue241
 t85:=underlying262
 a85:=isAgg262
 z85:=sizeOf262
 v85:=zeroValue262
 t127:=underlying283
 a127:=isAgg283
 z127:=sizeOf283
 v127:=zeroValue283
 t143:=underlying284
 a143:=isAgg284
 z143:=sizeOf284
 v143:=zeroValue284
 t145:=underlying286
 a145:=isAgg286
 z145:=sizeOf286
 v145:=zeroValue286
 t167:=underlying261
 a167:=isAgg261
 z167:=sizeOf261
 v167:=zeroValue261
 t168:=underlying264
 a168:=isAgg264
 z168:=sizeOf264
 v168:=zeroValue264
 t171:=underlying287
 a171:=isAgg287
 z171:=sizeOf287
 v171:=zeroValue287
 t173:=underlying289
 a173:=isAgg289
 z173:=sizeOf289
 v173:=zeroValue289
 t175:=underlying273
 a175:=isAgg273
 z175:=sizeOf273
 v175:=zeroValue273
 t210:=underlying277
 a210:=isAgg277
 z210:=sizeOf277
 v210:=zeroValue277
 t212:=underlying293
 a212:=isAgg293
 z212:=sizeOf293
 v212:=zeroValue293
 t213:=underlying294
 a213:=isAgg294
 z213:=sizeOf294
 t232:=underlying296
 a232:=isAgg296
 z232:=sizeOf296
 v232:=zeroValue296
 t233:=underlying297
 a233:=isAgg297
 z233:=sizeOf297
 v233:=zeroValue297
 g15:=by kernel_rfl
 g16:=by kernel_rfl
 g17:=by kernel_rfl
 g18:=by kernel_rfl
 g19:=by kernel_rfl
 t80:=underlying298
 a80:=isAgg298
 z80:=sizeOf298
 v80:=zeroValue298
 i0:=by kernel_rfl
 i2:=by kernel_rfl
 i3:=by kernel_rfl
 i4:=by kernel_rfl
 i5:=by kernel_rfl
 i9:=by kernel_rfl
 i20:=by kernel_rfl
 i21:=by kernel_rfl
 i37:=by kernel_rfl
 i46:=by kernel_rfl
 i51:=by kernel_rfl
 i53:=by kernel_rfl
 i75:=by kernel_rfl
 i76:=by kernel_rfl
 i80:=by kernel_rfl
 i85:=by kernel_rfl
 i127:=by kernel_rfl
 i143:=by kernel_rfl
 i145:=by kernel_rfl
 i167:=by kernel_rfl
 i168:=by kernel_rfl
 i171:=by kernel_rfl
 i173:=by kernel_rfl
 i175:=by kernel_rfl
 i210:=by kernel_rfl
 i212:=by kernel_rfl
 i232:=by kernel_rfl
 i233:=by kernel_rfl
 m15:=by kernel_rfl
 m16:=by kernel_rfl
 m17:=by kernel_rfl
 m18:=by kernel_rfl
 m19:=by kernel_rfl
 c0:=by kernel_rfl
 c2:=by kernel_rfl
 c3:=by kernel_rfl
 c4:=by kernel_rfl
 c5:=by kernel_rfl
 c9:=by kernel_rfl
 c20:=by kernel_rfl
 c21:=by kernel_rfl
 c37:=by kernel_rfl
 c46:=by kernel_rfl
 c51:=by kernel_rfl
 c53:=by kernel_rfl
 c75:=by kernel_rfl
 c76:=by kernel_rfl
 c80:=by kernel_rfl
 c85:=by kernel_rfl
 c127:=by kernel_rfl
 c143:=by kernel_rfl
 c145:=by kernel_rfl
 c167:=by kernel_rfl
 c168:=by kernel_rfl
 c171:=by kernel_rfl
 c173:=by kernel_rfl
 c175:=by kernel_rfl
 c210:=by kernel_rfl
 c212:=by kernel_rfl
 c213:=by kernel_rfl
 c232:=by kernel_rfl
 c233:=by kernel_rfl }
open Go.RowKit in
theorem strconv_Atoi_err_var (s : ByteArray) (hl : s.size ≤ 18) (h : Lib.atoi s.data.toList = none) (tp : TypeId) (p : Value) (w : World) (hvar : w.var? prog "strconv.ErrSyntax" = some #[.iface tp p]) :
 Calls prog 258 #[.string s] w fun e w'=>∃N,e=.returned (.tuple #[.int .i64 0,.iface 264 (.pointer (some ⟨N,0,none⟩))])/\w.heap.size<=N/\w'.heap[N]?=some (.cells #[.string ⟨#[65,116,111,105]⟩,.string s,.iface tp p] 277 (0,0))/\Below w.heap.size w w':=Any.strconv_Atoi_err_var laysC172 s hl h tp p w hvar
def lays192_ren:Go.Shelf.Ren:=⟨fun|192=>242|190=>256|125=>264|258=>263|128=>278|129=>279|302=>269|303=>270|304=>271|305=>272|306=>273|307=>274|308=>275|309=>276|310=>277|333=>286|329=>287|330=>288|334=>289|335=>290|336=>291|344=>296|n=>n,fun|31=>54|0=>0|9=>9|3=>3|46=>246|51=>258|53=>260|4=>4|183=>251|182=>250|131=>226|5=>5|218=>267|222=>271|228=>280|229=>156|n=>n,fun|n=>n⟩
theorem lays192:Go.Proofs.Lays.n192 prog lays192_ren:={
 mixed:=by kernel_rfl
 f125:=func264.trans (congrArg some (by kernel_rfl))
 f128:=func278.trans (congrArg some (by kernel_rfl))
 f129:=func279.trans (congrArg some (by kernel_rfl))
 f190:=func256.trans (congrArg some (by kernel_rfl))
 f192:=func242.trans (congrArg some (by kernel_rfl))
 f258:=func263.trans (congrArg some (by kernel_rfl))
 f302:=func269.trans (congrArg some (by kernel_rfl))
 f303:=func270.trans (congrArg some (by kernel_rfl))
 f304:=func271.trans (congrArg some (by kernel_rfl))
 f305:=func272.trans (congrArg some (by kernel_rfl))
 f306:=func273.trans (congrArg some (by kernel_rfl))
 f307:=func274.trans (congrArg some (by kernel_rfl))
 f308:=func275.trans (congrArg some (by kernel_rfl))
 f309:=func276.trans (congrArg some (by kernel_rfl))
 f310:=func277.trans (congrArg some (by kernel_rfl))
 f329:=func287.trans (congrArg some (by kernel_rfl))
 f330:=func288.trans (congrArg some (by kernel_rfl))
 f333:=func286.trans (congrArg some (by kernel_rfl))
 f334:=func289.trans (congrArg some (by kernel_rfl))
 f335:=func290.trans (congrArg some (by kernel_rfl))
 f336:=func291.trans (congrArg some (by kernel_rfl))
 f344:=func296.trans (congrArg some (by kernel_rfl))
 t0:=underlying0
 a0:=isAgg0
 z0:=sizeOf0
 v0:=zeroValue0
 t3:=underlying3
 a3:=isAgg3
 z3:=sizeOf3
 v3:=zeroValue3
 t4:=underlying4
 a4:=isAgg4
 z4:=sizeOf4
 v4:=zeroValue4
 t5:=underlying5
 a5:=isAgg5
 z5:=sizeOf5
 v5:=zeroValue5
 t9:=underlying9
 a9:=isAgg9
 z9:=sizeOf9
 v9:=zeroValue9
 t31:=underlying54
 a31:=isAgg54
 z31:=sizeOf54
 v31:=zeroValue54
 t46:=underlying246
 a46:=isAgg246
 z46:=sizeOf246
 v46:=zeroValue246
 t51:=underlying258
 a51:=isAgg258
 z51:=sizeOf258
 v51:=zeroValue258
 t53:=underlying260
 a53:=isAgg260
 z53:=sizeOf260
 v53:=zeroValue260
 t131:=underlying226
 a131:=isAgg226
 z131:=sizeOf226
 v131:=zeroValue226
 t182:=underlying250
 a182:=isAgg250
 z182:=sizeOf250
 v182:=zeroValue250
 t183:=underlying251
 a183:=isAgg251
 z183:=sizeOf251
 v183:=zeroValue251
 t218:=underlying267
 a218:=isAgg267
 z218:=sizeOf267
 v218:=zeroValue267
 t222:=underlying271
 a222:=isAgg271
 z222:=sizeOf271
 v222:=zeroValue271
 t228:=underlying280
 a228:=isAgg280
 z228:=sizeOf280
 v228:=zeroValue280
 t229:=underlying156
 a229:=isAgg156
 z229:=sizeOf156
 v229:=zeroValue156 }
open Go.Sort Go.RowKit in
theorem sort_Strings (a off cap:Nat) (A:List (List UInt8)) (w:World) (B:Holds encStr w a off A.toArray) (b:a<w.heap.size) (c:A.length<4611686018427387904):
  Calls prog 242 #[.slice (some ⟨a,off,none⟩) A.length cap] w fun e w'=>
   e=.returned (.tuple #[])/\∃n os,w'=grow (putRow encStr (Sort.ahead w n) a off (A.mergeSort fun x y=>decide (x<=y)).toArray) os:=Any.sort_Strings lays192 a off cap A w B b c
open Go.RowKit Go.Sort in
theorem sort_Strings_none (p:Option Addr) (cap:Nat) (w:World):
 Calls prog 242 #[.slice p 0 cap] w fun e w'=>e=.returned (.tuple #[])/\w'=w:=Any.sort_Strings_none lays192 p cap w
end Go.Proofs
namespace Go.Proofs.YtfdjdgdipgfmeaaGreatDoor
noncomputable section
section
open Go.RowKit
theorem Zxf {J:World->Prop}{a b:ByteArray}{r:Int}(h:ZgV a b=some r):Zp prog J 207 [(false,[.str a]),(false,[.str b])] [(false,[(false,.int .i64 r)])]:=by
 obtain rfl:=A6 h;refine ⟨⟨f207,func207,yO,yO⟩,fun w z vs hj hz c=>?_⟩;obtain ⟨v,u,L,M,rfl,⟨rfl,_⟩,rfl,_⟩:=ZyP c;refine (strings_Compare a b w).mono ?_;rintro e w' ⟨rfl,rfl⟩;exact ⟨_,z,rfl,Ztf ⟨⟨rfl,rfl⟩,rfl⟩,fun b h=>h,Below.refl _ _⟩
end
section
open Go.RowKit Go.Sort
theorem ZxT {α:Type}[Inhabited α] {P:Program}{J:World->Prop}{JF:Nat->Prop}(a:α->Value) (W:α->List CT) (I:∀(w:World) x v L,RCs w (W x) v L->v=[a x]) (K:∀(w w':World) x,RCs w (W x) [a x] []->RCs w' (W x) [a x] []) (u:∀l:List α,Zco (l.map W)=true) {f:FuncId}{e:TypeId}{V d:List α}(hc:Zbe P f) (hd:d.length=V.length) (C:∀x∈d,x∈V)
  (hN:∀p cap w,Calls P f #[.slice p 0 cap] w fun e w'=>e=.returned (.tuple #[])/\w'=w)
  (hC:∀i off cap w,Holds a w i off V.toArray->i<w.heap.size->Calls P f #[.slice (some ⟨i,off,none⟩) V.length cap] w fun e w'=>e=.returned (.tuple #[])/\∃n os,w'=grow (putRow a (Sort.ahead w n) i off d.toArray) os):
  Zse P J JF f (.row e 1 (V.map W)) [] [] (.row e 1 (d.map W)):=by
 refine ⟨hc,fun w z q v0 vs hj aa hz hh ha=>?_⟩;cases vs with
 |cons _ _=>exact ha.elim
 |nil=>
 obtain ⟨ad,hm,hq,cs,c,M⟩:=hh;have N:∀(l:List α) (cs:List Value) (L:List Nat),REs w 1 (l.map W) cs L->cs=l.map a/\(L=[]->∀x∈l,RCs w (W x) [a x] []):=by
  intro l;induction l with
  |nil=>intro cs L h;exact ⟨h.1,fun _ x mx=>by simp at mx⟩
  |cons x l ih=>
   rintro cs L ⟨c1,c2,L1,L2,rfl,rfl,h3,h4⟩;obtain ⟨i1,i2⟩:=ih _ _ h4;have e1:=I _ _ _ _ h3.1;refine ⟨by rw [e1,i1];rfl,fun hL y my=>?_⟩;obtain ⟨l1,l2⟩:=List.append_eq_nil_iff.1 hL;rcases List.mem_cons.1 my with rfl|my
   .rw [<-e1,<-l1];exact h3.1
   .exact i2 l2 y my
 obtain ⟨e1,e2⟩:=N V cs [] M;have e2:=e2 rfl;subst e1;have D:∀(w':World) (l:List α),(∀x∈l,x∈V)->REs w' 1 (l.map W) (l.map a) []:=by
  intro w' l;induction l with
  |nil=>intro _;exact ⟨rfl,rfl⟩
  |cons x l ih=>intro hl;exact ⟨[a x],l.map a,[],[],rfl,rfl,⟨K w w' x (e2 x (hl x yG)),rfl⟩,ih fun y my=>hl y (by simp [my])⟩
 have O:(V.map W).length=V.length:=by simp
 rw [O]at c;have t:∀w':World,w'.os=w.os->w'.tape=w.tape->w'.output=w.output->w.heap.size<=w'.heap.size->(∀k,k<w.heap.size->¬q=some k->w'.heap[k]?=w.heap[k]?)->w'.ownsV 0 e 1 v0 d.length (d.map a)->∃v n,Ending.returned (.tuple #[])=.returned v/\ZlC w' w.heap.size n [] v/\(∀b,inQ z q b->n b)/\ZwB w' n q (.row e 1 (d.map W)) v0/\ZGC q w w':=
  fun w' h1 h2 h3 h4 h5 h6=>⟨_,inQ z q,rfl,⟨[],[],⟨rfl,rfl⟩,Own.nil _ _,rfl⟩,fun _ h=>h,⟨u d,yE,hq,d.map a,by simpa using h6,D w' d C⟩,⟨h1,h2,h3,h4,h5⟩⟩
 rcases Nat.eq_zero_or_pos V.length with h0|h0
 .have Q:V=[]:=AB h0;have R:d=[]:=AB (hd.trans h0);obtain ⟨A,cap,hv⟩:=Zgl c;rw [h0]at hv;subst hv;refine (hN A cap w).mono ?_;rintro e' w' ⟨rfl,rfl⟩;exact t w' rfl rfl rfl (Nat.le_refl _) (fun _ _ _=>rfl) (by rw [R];rw [Q]at c;exact c)
 .rcases c.2 with ⟨h',ac⟩|⟨g,o,cap,m,h',hb,hg,ab,S,E,B⟩
  .omega
  .subst h';have F:g<w.heap.size:=(Array.getElem?_eq_some_iff.1 hg).1;have G:∀j,j<V.length->m[o+j]?=some (a V[j]!):=fun j hj=>by
    have:=congrArg (fun l=>l[j]?) B;simp only[Nat.mul_one,AC,hj,if_true,AD,AE,AA]at this;rw [this];simp [List.getElem!_eq_getElem?_getD,hj]
   refine (hC g o cap w (fun j hj=>?_) F).mono ?_
   .have H:j<V.length:=by simpa using hj
    refine ⟨?_,by simp [World.frozen?,hg]⟩;simp only[World.cell?,hg,Option.isSome_none,Bool.false_eq_true,if_false];rw [G j H];simp [H]
   .rintro e' w' ⟨rfl,n,os,rfl⟩;have hh:(putRow a (Sort.ahead w n) g o d.toArray).heap[g]?=some (.cells (putCells a o d.toArray m) e (0,0)):=by
     simp only[putRow,mapBlock,heap_ahead,AF,if_true,hg,Option.map_some,onCells]
    refine t _ rfl rfl rfl yG (fun k hk T=>?_) ⟨yG,.inr ⟨g,o,cap,putCells a o d.toArray m,by rw [hd],yE,?_,yE,S,by simpa [putCells]using E,?_⟩⟩
    .rw [heap_grow_old _ _ (by simpa using hk)];simp only[putRow,mapBlock,heap_ahead,AF];rw [if_neg (fun e=>T (by rw [<-hq];simp [Value.ownBlock,e]))]
    .rw [heap_grow_old _ _ (by simpa using F)];exact hh
    .apply List.ext_getElem?;intro j;simp only[Nat.mul_one,AC,AD,AA,AE,putCells,Array.getElem?_mapIdx,AG];by_cases hj:j<d.length
     .have U:o+j<m.size:=by omega
      simp [hj,U]
     .simp [hj]
end
section
open Go.RowKit Go.Sort
theorem ZpR {J:World->Prop}{JF:Nat->Prop}{l r:List ByteArray}(h:ZdX l=some r):Zse prog J JF 242 (.row 9 1 (l.map ZM)) [] [] (.row 9 1 (r.map ZM)):=by
 obtain ⟨h1,h2⟩:=ZD h;obtain rfl:=A6 h2;have e1:l.map ZM=(l.map toL).map fun x=>ZM (ofL x):=by rw [AH];exact List.map_congr_left fun x _=>by simp [Zlp]
 have e2:(ZgZ l).map ZM=((l.map toL).mergeSort fun x y=>decide (x<=y)).map fun x=>ZM (ofL x):=by simp [ZgZ,AH,Function.comp_def]
 rw [e1,e2];refine ZxT encStr (fun x=>ZM (ofL x)) (fun w x v L h=>?_) (fun w w' x h=>h) (fun l=>Zds (fun _=>rfl) l) ⟨f242,func242,yO,yO⟩ yG (fun x hx=>by simpa using hx) (fun p cap w=>sort_Strings_none p cap w) (fun a off cap w hH hb=>sort_Strings a off cap (l.map toL) w hH hb (by simp;omega));obtain ⟨u,vs,L1,L2,rfl,rfl,q1,rfl,rfl⟩:=h;rw [q1.1];rfl
end
section
open Go.RowKit
theorem ZEm {J : World → Prop} (hJ : ∀ w, J w → ∃ tp p, w.var? prog "strconv.ErrSyntax" = some #[.iface tp p]) {s : ByteArray} {r : Int × Bool} (h : ZoV s = some r) : Zp prog J 258 [(false, [.str s])] [(false, [(false, .int .i64 r.1)]), (false, [(false, .ifc r.2)])] := by
 obtain ⟨h1,h2⟩:=ZD h
 refine ⟨⟨f258,func258,yO,yO⟩,fun w z vs hj hz hargs=>?_⟩
 obtain ⟨v,L,rfl,rfl,_⟩:=Zpk hargs
 cases ha:Lib.atoi (toL s) with
 |some n=>
  rw [ha]at h2
  obtain rfl:=A6 h2
  refine (strconv_Atoi s n h1 ha w).mono ?_
  rintro e w' ⟨rfl,t,rfl⟩
  exact ⟨_,z,rfl,Zty ⟨⟨rfl,rfl⟩,rfl⟩ ⟨⟨rfl,rfl,rfl⟩,rfl⟩,fun b h=>h,Lib.bytesWorld_below _ _ _⟩
 |none=>
  rw [ha]at h2
  obtain rfl:=A6 h2
  obtain ⟨tp,p,hv⟩:=hJ w hj
  refine (strconv_Atoi_err_var s h1 ha tp p w hv).mono ?_
  rintro e w' ⟨N,rfl,_,_,hb⟩
  exact ⟨_,z,rfl,Zty ⟨⟨rfl,rfl⟩,rfl⟩ ⟨⟨rfl,rfl,_,_,rfl⟩,rfl⟩,fun b h=>h,hb⟩
end
section
open Go.RowKit Go.Sort Go.Lib
theorem ZEw {J : World → Prop} (hJ : ∀ w, J w → Lib.TabIs prog w "internal/strconv.uint64pow10" .u64 Lib.pow10Tab) {n : Int} {r : ByteArray} (h : Zst n = some r) : Zp prog J 267 [(false, [.int .i64 n])] [(false, [(false, .str r)])] := by
 obtain ⟨h1,h2⟩:=ZD h
 obtain rfl:=A6 h2
 refine ⟨⟨f267,func267,yO,yO⟩,fun w z vs hj hz hargs=>?_⟩
 obtain ⟨v,L,rfl,rfl,_⟩:=Zpk hargs
 refine (strconv_Itoa n h1.1 h1.2 w (hJ w hj)).mono ?_
 rintro e w' ⟨rfl,k,os,rfl⟩
 refine ⟨_,z,rfl,Ztf ⟨⟨rfl,rfl,?_⟩,rfl⟩,fun b h=>h,below_grow _ _ (Nat.le_refl _) _ _⟩
 have:=Lib.itoa_length_le n h1.1 h1.2
 show (Lib.itoa n).toArray.size<=_
 rw [AG]
 omega
end
theorem ZlD {a b:ByteArray}{r:Int}(h:ZgV a b=some r):Zp prog J0 207 [(false,[.str a]),(false,[.str b])] [(false,[(false,.int .i64 r)])]:=Zxf h
theorem Zmu {l r:List ByteArray}(h:ZdX l=some r):Zse prog J0 JF0 242 (.row 9 1 (l.map ZM)) [] [] (.row 9 1 (r.map ZM)):=ZpR h
theorem Zx5 {s:ByteArray}{r:Int×Bool}(h:ZoV s=some r):Zp prog J0 258 [(false,[.str s])] [(false,[(false,.int .i64 r.1)]),(false,[(false,.ifc r.2)])]:=ZEm ZFp h
theorem Zya {n:Int}{r:ByteArray}(h:Zst n=some r):Zp prog J0 267 [(false,[.int .i64 n])] [(false,[(false,.str r)])]:=ZEw ZEZ h
section
theorem yA{p q:Prop}(h:q)(e:p=q:=by simp only[*,go_sem,seval];try rfl):p:=e▸h
theorem yD{p:Prop}(e:p:=by simp only[*,go_sem,seval]):p:=e
theorem yB{α:Type}{G q v:Prop}{b:Bool}{x y:Option α}{r:α}(h:(if b=true then x else y)=some r)(B:b=true→x=some r→q)(A:b=false→y=some r→v)(e:∀(_:b=true)(_:x=some r),G=q:=by intro _ _;(try simp only[*,go_sem,seval]);try rfl)(f:∀(_:b=false)(_:y=some r),G=v:=by intro _ _;(try simp only[*,go_sem,seval]);try rfl):G:=Ze h (fun a c=>(e a c)▸B a c) fun a c=>(f a c)▸A a c
theorem yC{σ ρ:Type}{s:σ}{y:σ⊕ρ}{C:σ→List (Bool×Nat×Nat)→List Nat→Prop}(h:some (.inl s)=some y)(A:List (Bool×Nat×Nat))(k:List Nat)(d:k.Nodup:=by decide)(e:C s A k:=by simp only[*,go_sem,seval]):∃s' A k,y=.inl s'∧k.Nodup∧C s' A k:=⟨s,A,k,(Option.some.inj h).symm,d,e⟩
theorem yR{σ ρ:Type}{s:σ}{y:σ⊕ρ}{C:σ→List (Bool×Nat×Nat)→List Nat→Prop}(h:some (.inl s)=some y)(k:List Nat)(d:k.Nodup:=by decide)(e:C s [] k:=by simp only[*,go_sem,seval]):∃s' A k,y=.inl s'∧k.Nodup∧C s' A k:=⟨s,[],k,(Option.some.inj h).symm,d,e⟩
def yL(n:Nat):SV:=.p false [.c (.int .i64 (n:Int))]
def yM(x:CT):SV:=.p false [.c x]
def zE(t:Nat)(l:List CT):Ob:=.box t (l.map .c)
attribute [go_sem] yL yM zE List.map_cons List.map_nil
def yU(l:List Zf):CT:=.sl 60 2 (List.map Zo l)
attribute [go_sem] yU
def yV(l:List ByteArray):CT:=.sl 9 1 (List.map ZM l)
attribute [go_sem] yV
def yW(l:List Zq):CT:=.sl 118 4 (List.map ZB l)
attribute [go_sem] yW
def yX(l:List Zj):CT:=.sl 206 2 (List.map Z5 l)
attribute [go_sem] yX
def yY(l:List Int):CT:=.sl 3 1 (List.map Ye l)
attribute [go_sem] yY
def yZ(l:List ZO):CT:=.sl 103 3 (List.map ZG l)
attribute [go_sem] yZ
def zA(l:List ZA):CT:=.sl 108 8 (List.map Z6 l)
attribute [go_sem] zA
def zB(l:List Zh):CT:=.sl 105 5 (List.map ZW l)
attribute [go_sem] zB
def zC(l:List ZV):CT:=.sl 173 3 (List.map Yd l)
attribute [go_sem] zC
def zD(l:List Zi):CT:=.sl 142 2 (List.map Yj l)
attribute [go_sem] zD
theorem Zl0 {A:List ByteArray}{r:List ByteArray}(h:Ze1 A=some r):Zp prog J0 97 [(false,[.sl 9 1 (A0 ZM A)])] [(false,[(false,.sl 9 1 (A0 ZM r))])]:=by
 refine fnk func97 rfl ?_;unfold Ze1 at h;simp only[fnS,f97,Zu,go_sem,seval];obtain ⟨_,h⟩:=ZD h;cases h;exact yD
theorem ZfN {B:ByteArray}{A:List Zj}{r:ByteArray}(h:ZbI B A=some r):Zp prog J0 142 [(false,[.str B]),(false,[.sl 206 2 (A0 Z5 A)])] [(false,[(false,.str r)])]:=by
 refine fnk func142 rfl ?_;unfold ZbI at h;have e:Zcs ⟨#[]⟩=true:=by decide
 simp only[fnS,f142,Zu,go_sem,seval,e];refine Zk h (fun i _ st=>IV [(0,yM (.str B)),(1,yM (yX A)),(5,yL i)] [] st) [] [] yF yD ?_ ?_;rintro _ _ ⟨⟩ ⟨_,_,_⟩ _ a b f h g;simp only[go_sem,seval,Zd]at b;obtain ⟨⟨_,k,_⟩,C⟩:=b;subst C;have l:=WF.slotL f k (j:=0) rfl;have:=Z1 a;have:=Z3 a;have:=Zt (Z0 a) l;simp only[*,go_sem,seval];refine yB h (fun _ h=>?_) fun _ h=>?_;replace h:=Zv h g;cases h;exact yD;exact yR h [];rintro ⟨⟩ ⟨_,_,_⟩ d _ h;simp only[go_sem,seval,Zd]at d;obtain ⟨⟨_,_,_⟩,C⟩:=d;subst C;have:=ZY (A.length);cases h;exact yD
theorem ZuY {A:List Int}{r:List Int}(h:Zlz A=some r):Zp prog J0 56 [(false,[.sl 3 1 (A0 Ye A)])] [(false,[(false,.sl 3 1 (A0 Ye r))])]:=by
 refine fnk func56 rfl ?_;unfold Zlz at h;simp only[fnS,f56,Zu,go_sem,seval];obtain ⟨_,h⟩:=ZD h;cases h;exact yD
theorem Zjs {A:List Zj}{r:List Zj}(h:ZcN A=some r):Zp prog J0 143 [(false,[.sl 206 2 (A0 Z5 A)])] [(false,[(false,.sl 206 2 (A0 Z5 r))])]:=by
 refine fnk func143 rfl ?_;unfold ZcN at h;simp only[fnS,f143,Zu,go_sem,seval];obtain ⟨_,h⟩:=ZD h;cases h;exact yD
theorem ZbU {C:Int}{A:Int}{B:Int}{r:Bool}(h:ZaL C A B=some r):Zp prog J0 154 [(false,[.int .i64 C]),(false,[.int .i64 A]),(false,[.int .i64 B])] [(false,[(false,.bool r)])]:=by
 refine fnk func154 rfl ?_;unfold ZaL at h;simp only[fnS,f154,Zu,go_sem,seval];refine yB h (fun _ h=>?_) fun _ h=>?_;iterate 2 (cases h;exact yD)
theorem Zn4 {B:ByteArray}{A:ByteArray}{r:Int}(h:ZjJ B A=some r):Zp prog J0 182 [(false,[.str B]),(false,[.str A])] [(false,[(false,.int .i64 r)])]:=by
 refine fnk func182 rfl ?_;unfold ZjJ at h;simp only[fnS,f182,Zu,go_sem,seval];refine yB h (fun a h=>?_) fun a h=>?_;cases h;exact yD;refine Ze h (fun c2 h=>?_) (fun c2 h=>?_);have b:=c2;try simp only[a,AI,AJ]at b
 cases h;exact yD;have b:=c2;try simp only[a,AI,AJ]at b
 cases h;exact yD
theorem Zmw {A:Int}{r:ByteArray}(h:Zcc A=some r):Zp prog J0 253 [(false,[.int .i64 A])] [(false,[(false,.str r)])]:=by
 refine fnk func253 rfl ?_;unfold Zcc at h;have f:Zcs ⟨#[45,57,50,50,51,51,55,50,48,51,54,56,53,52,55,55,53,56,48,56]⟩=true:=by decide
 have g:Zcs ⟨#[]⟩=true:=by decide
 have i:¬((10:Int)=0):=by decide
 simp only[fnS,f253,Zu,go_sem,seval,f,g,i];refine yB h (fun _ h=>?_) fun _ h=>?_;cases h;exact yD;refine yB h (fun _ h=>?_) fun _ h=>?_;cases h;refine Zba h (fun s st=>match s with|(a,b)=>IV [(0,yM (.int .i64 a)),(3,yM (.str b))] [] st) [] [] yF yD ?_;rintro ⟨a,b⟩ ⟨_,_,_⟩ _ d _ h j;simp only[go_sem,seval,Zd]at d;obtain ⟨⟨_,_⟩,B⟩:=d;subst B;obtain ⟨_,h⟩:=ZD h;simp only[*,go_sem,seval];refine yB h (fun _ h=>?_) fun _ h=>?_;replace h:=Zv h j;cases h;exact yD;exact yR h []
theorem Zjj {A:Int}{r:ByteArray}(h:Zbd A=some r):Zp prog J0 253 [(false,[.int .i64 A])] [(false,[(false,.str r)])]:=by
 refine fnk func253 rfl ?_;unfold Zbd at h;have f:Zcs ⟨#[45,57,50,50,51,51,55,50,48,51,54,56,53,52,55,55,53,56,48,56]⟩=true:=by decide
 have g:Zcs ⟨#[45]⟩=true:=by decide
 have i:Zcs ⟨#[]⟩=true:=by decide
 have j:¬((10:Int)=0):=by decide
 simp only[fnS,f253,Zu,go_sem,seval,f,g,i,j];refine yB h (fun _ h=>?_) fun _ h=>?_;cases h;exact yD;refine yB h (fun _ h=>?_) fun _ h=>?_;refine Zb h fun _ k h=>Za (Zmw k) ?_;obtain ⟨l,h⟩:=ZD h;simp only[go_sem]at l;cases h;exact yD;refine Zba h (fun s st=>match s with|(a,b)=>IV [(0,yM (.int .i64 a)),(3,yM (.str b))] [] st) [] [] yF yD ?_;rintro ⟨a,b⟩ ⟨_,_,_⟩ _ d _ h m;simp only[go_sem,seval,Zd]at d;obtain ⟨⟨_,_⟩,B⟩:=d;subst B;obtain ⟨_,h⟩:=ZD h;simp only[*,go_sem,seval];refine yB h (fun _ h=>?_) fun _ h=>?_;replace h:=Zv h m;cases h;exact yD;exact yR h []
theorem ZgX {A:List ByteArray}{B:List ByteArray}{r:Bool}(h:ZdW A B=some r):Zp prog J0 184 [(false,[.sl 9 1 (A0 ZM A)]),(false,[.sl 9 1 (A0 ZM B)])] [(false,[(false,.bool r)])]:=by
 refine fnk func184 rfl ?_;unfold ZdW at h;simp only[fnS,f184,Zu,go_sem,seval];refine yB h (fun _ h=>?_) fun _ h=>?_;cases h;exact yD;refine Zk h (fun i _ st=>IV [(0,yM (yV A)),(1,yM (yV B)),(5,yL i)] [] st) [] [] yF yD ?_ ?_;rintro _ _ ⟨⟩ ⟨_,_,_⟩ _ a b e h f;simp only[go_sem,seval,Zd]at b;obtain ⟨⟨g,_,_⟩,C⟩:=b;subst C;have k:=WF.slotL e g (j:=0) rfl;have:=Z1 a;have:=Z3 a;have:=Zt (Z0 a) k;obtain ⟨_,_,_,l,h⟩:=Za4 h;simp only[A9]at l;simp only[*,go_sem,seval];refine yB h (fun _ h=>?_) fun _ h=>?_;exact yR h [];replace h:=Zv h f;cases h;exact yD;rintro ⟨⟩ ⟨_,_,_⟩ d _ h;simp only[go_sem,seval,Zd]at d;obtain ⟨⟨_,_,_⟩,C⟩:=d;subst C;have:=ZY (A.length);cases h;exact yD
theorem Zcr {a:List ByteArray}{b:ByteArray}{r:List ByteArray}(h:Zcd a b=some r):Zp prog J0 254 [(false,[.sl 9 1 (A0 ZM a)]),(false,[.str b])] [(false,[(false,.sl 9 1 (A0 ZM r))])]:=by
 refine fnk func254 rfl ?_;unfold Zcd at h;simp only[fnS,f254,Zu,go_sem,seval];refine Zk h (fun i s st=>match s with|(d,e)=>IV [(0,yM (yV a)),(1,yM (.str b)),(5,.p false [.row 0]),(6,yM (.bool e)),(7,yL i)] [.row 9 1 (A0 ZM d) 2] st) [] [16] yF yD ?_ ?_;rintro _ _ ⟨d,e⟩ ⟨_,_,_⟩ _ f g l h _;simp only[go_sem,seval,Zd]at g;obtain ⟨⟨m,_,_,_,_⟩,_,A⟩:=g;subst A;have o:=WF.slotL l m (j:=0) rfl;have:=Z1 f;have:=Z3 f;have:=Zt (Z0 f) o;simp only[*,go_sem,seval];refine yB h (fun _ h=>?_) fun _ h=>?_;obtain ⟨q,h⟩:=ZD h;try simp only[Nat.reduceLeDiff]at q
 simp only[*,go_sem,seval];exact yR h [321];refine yB h (fun _ h=>?_) fun _ h=>?_;obtain ⟨t,h⟩:=ZD h;try simp only[Nat.reduceLeDiff]at t
 simp only[*,go_sem,seval];exact yR h [321];refine yB h (fun _ h=>?_) fun _ h=>?_;obtain ⟨u,h⟩:=ZD h;try simp only[Nat.reduceLeDiff]at u
 simp only[*,go_sem,seval];exact yR h [433];obtain ⟨v,h⟩:=ZD h;try simp only[Nat.reduceLeDiff]at v
 obtain ⟨w,h⟩:=ZD h;try simp only[Nat.reduceLeDiff]at w
 simp only[*,go_sem,seval];exact yR h [513];rintro ⟨d,e⟩ ⟨_,_,_⟩ k _ h;simp only[go_sem,seval,Zd]at k;obtain ⟨⟨_,_,_,_,_⟩,_,A⟩:=k;subst A;have:=ZY (a.length);simp only[*,go_sem,seval];refine yB h (fun _ h=>?_) fun _ h=>?_;cases h;exact yD;obtain ⟨x,h⟩:=ZD h;try simp only[Nat.reduceLeDiff]at x
 cases h;exact yD
theorem ZbF {A:List ByteArray}{B:ByteArray}{r:Bool}(h:X2 A B=some r):Zp prog J0 228 [(false,[.sl 9 1 (A0 ZM A)]),(false,[.str B])] [(false,[(false,.bool r)])]:=by
 refine fnk func228 rfl ?_;unfold X2 at h;simp only[fnS,f228,Zu,go_sem,seval];refine Zk h (fun i _ st=>IV [(0,yM (yV A)),(1,yM (.str B)),(5,yL i)] [] st) [] [] yF yD ?_ ?_;rintro _ _ ⟨⟩ ⟨_,_,_⟩ _ a b e h f;simp only[go_sem,seval,Zd]at b;obtain ⟨⟨g,_,_⟩,C⟩:=b;subst C;have k:=WF.slotL e g (j:=0) rfl;have:=Z1 a;have:=Z3 a;have:=Zt (Z0 a) k;simp only[*,go_sem,seval];refine yB h (fun _ h=>?_) fun _ h=>?_;replace h:=Zv h f;cases h;exact yD;exact yR h [];rintro ⟨⟩ ⟨_,_,_⟩ d _ h;simp only[go_sem,seval,Zd]at d;obtain ⟨⟨_,_,_⟩,C⟩:=d;subst C;have:=ZY (A.length);cases h;exact yD
theorem Zqi {B:List Zq}{A:ByteArray}{r:Int}(h:ZhW B A=some r):Zp prog J0 186 [(false,[.sl 118 4 (A0 ZB B)]),(false,[.str A])] [(false,[(false,.int .i64 r)])]:=by
 refine fnk func186 rfl ?_;unfold ZhW at h;simp only[fnS,f186,Zu,go_sem,seval];refine Zk h (fun i _ st=>IV [(0,yM (yW B)),(1,yM (.str A)),(5,yL i)] [] st) [] [] yF yD ?_ ?_;rintro _ _ ⟨⟩ ⟨_,_,_⟩ _ a b e h f;simp only[go_sem,seval,Zd]at b;obtain ⟨⟨g,_,_⟩,C⟩:=b;subst C;have k:=WF.slotL e g (j:=0) rfl;have:=Z1 a;have:=Z3 a;have:=Zt (Z0 a) k;simp only[*,go_sem,seval];refine yB h (fun _ h=>?_) fun _ h=>?_;replace h:=Zv h f;cases h;exact yD;exact yR h [];rintro ⟨⟩ ⟨_,_,_⟩ d _ h;simp only[go_sem,seval,Zd]at d;obtain ⟨⟨_,_,_⟩,C⟩:=d;subst C;have:=ZY (B.length);cases h;exact yD
theorem Zu9 {a:List Zj}{b:ByteArray}{d:ByteArray}{r:List Zj}(h:Zl9 a b d=some r):Zp prog J0 193 [(false,[.sl 206 2 (A0 Z5 a)]),(false,[.str b]),(false,[.str d])] [(false,[(false,.sl 206 2 (A0 Z5 r))])]:=by
 refine fnk func193 rfl ?_;unfold Zl9 at h;simp only[fnS,f193,Zu,go_sem,seval];refine Zk h (fun i s st=>match s with|(e,f)=>IV [(0,yM (yX a)),(1,yM (.str b)),(2,yM (.str d)),(7,.p false [.row 0]),(8,yM (.bool f)),(9,yL i)] [.row 206 2 (A0 Z5 e) 2] st) [] [16] yF yD ?_ ?_;rintro _ _ ⟨e,f⟩ ⟨_,_,_⟩ _ g l o h _;simp only[go_sem,seval,Zd]at l;obtain ⟨⟨q,_,_,_,_,_⟩,_,A⟩:=l;subst A;have t:=WF.slotL o q (j:=0) rfl;have:=Z1 g;have:=Z3 g;have:=Zt (Z0 g) t;simp only[*,go_sem,seval];refine yB h (fun _ h=>?_) fun _ h=>?_;obtain ⟨u,h⟩:=ZD h;try simp only[Nat.reduceLeDiff]at u
 simp only[*,go_sem,seval];exact yR h [337];refine Ze h (fun k h=>?_) (fun k h=>?_);have v:=k;obtain ⟨w,h⟩:=ZD h;try simp only[Nat.reduceLeDiff]at w
 simp only[*,go_sem,seval];exact yR h [337];have v:=k;obtain ⟨x,h⟩:=ZD h;try simp only[Nat.reduceLeDiff]at x
 obtain ⟨y,h⟩:=ZD h;try simp only[Nat.reduceLeDiff]at y
 simp only[*,go_sem,seval];exact yR h [465];rintro ⟨e,f⟩ ⟨_,_,_⟩ m _ h;simp only[go_sem,seval,Zd]at m;obtain ⟨⟨_,_,_,_,_,_⟩,_,A⟩:=m;subst A;have:=ZY (a.length);simp only[*,go_sem,seval];refine yB h (fun _ h=>?_) fun _ h=>?_;cases h;exact yD;obtain ⟨z,h⟩:=ZD h;try simp only[Nat.reduceLeDiff]at z
 cases h;exact yD
theorem Zk1 {A:List Zj}{B:List Zj}{r:Bool}(h:ZeF A B=some r):Zp prog J0 153 [(false,[.sl 206 2 (A0 Z5 A)]),(false,[.sl 206 2 (A0 Z5 B)])] [(false,[(false,.bool r)])]:=by
 refine fnk func153 rfl ?_;unfold ZeF at h;simp only[fnS,f153,Zu,go_sem,seval];refine yB h (fun _ h=>?_) fun _ h=>?_;cases h;exact yD;refine Zk h (fun i _ st=>IV [(0,yM (yX A)),(1,yM (yX B)),(5,yL i)] [] st) [] [] yF yD ?_ ?_;rintro _ _ ⟨⟩ ⟨_,_,_⟩ _ a b e h f;simp only[go_sem,seval,Zd]at b;obtain ⟨⟨g,_,_⟩,C⟩:=b;subst C;have k:=WF.slotL e g (j:=0) rfl;have:=Z1 a;have:=Z3 a;have:=Zt (Z0 a) k;obtain ⟨_,_,_,l,h⟩:=Za4 h;simp only[A9]at l;simp only[*,go_sem,seval];refine yB h (fun _ h=>?_) fun _ h=>?_;exact yR h [];replace h:=Zv h f;cases h;exact yD;rintro ⟨⟩ ⟨_,_,_⟩ d _ h;simp only[go_sem,seval,Zd]at d;obtain ⟨⟨_,_,_⟩,C⟩:=d;subst C;have:=ZY (A.length);cases h;exact yD
theorem ZfE {A:List ByteArray}{r:List ByteArray}(h:ZbL A=some r):Zp prog J0 123 [(false,[.sl 9 1 (A0 ZM A)])] [(false,[(false,.sl 9 1 (A0 ZM r))])]:=by
 refine fnk func123 rfl ?_;unfold ZbL at h;simp only[fnS,f123,Zu,go_sem,seval];obtain ⟨_,h⟩:=ZD h;cases h;exact yD
theorem Zqj {A:List Int}{r:List Int}(h:Zhs A=some r):Zp prog J0 70 [(false,[.sl 3 1 (A0 Ye A)])] [(false,[(false,.sl 3 1 (A0 Ye r))])]:=by
 refine fnk func70 rfl ?_;unfold Zhs at h;simp only[fnS,f70,Zu,go_sem,seval];obtain ⟨_,h⟩:=ZD h;cases h;exact yD
theorem ZfH {a:List Zj}{r:List Zj}(h:Zat a=some r):Zp prog J0 124 [(false,[.sl 206 2 (A0 Z5 a)])] [(false,[(false,.sl 206 2 (A0 Z5 r))])]:=by
 refine fnk func124 rfl ?_;unfold Zat at h;simp only[fnS,f124,Zu,go_sem,seval];obtain ⟨_,h⟩:=ZD h;cases h;exact yD
theorem Zav {A:ByteArray}{r:Bool}(h:ZaO A=some r):Zp prog J0 206 [(false,[.str A])] [(false,[(false,.bool r)])]:=by
 refine fnk func206 rfl ?_;unfold ZaO at h;simp only[fnS,f206,Zu,go_sem,seval];iterate 2 ((refine Ze h (fun _ h=>?_) fun _ h=>?_<;>try simp only[*,go_sem,seval]);cases h;simp only[*,go_sem,seval])
 refine Zk h (fun i _ st=>IV [(0,yM (.str A)),(3,yL i)] [] st) [] [] yF yD ?_ ?_;rintro _ _ ⟨⟩ ⟨_,_,_⟩ _ b d f h a;simp only[go_sem,seval,Zd]at d;obtain ⟨⟨g,_⟩,B⟩:=d;subst B;have k:=WF.slotS f g (j:=0) rfl;have:=Zr4 b;have:=ZAw b;have:=Zt (ZwQ b) k;simp only[*,go_sem,seval];iterate 2 refine yB h (fun _ h=>?_) fun _ h=>?_
 replace h:=Zv h a;cases h;exact yD;refine yB h (fun _ h=>?_) fun _ h=>?_;replace h:=Zv h a;cases h;exact yD;exact yR h [];iterate 2 refine yB h (fun _ h=>?_) fun _ h=>?_
 replace h:=Zv h a;cases h;exact yD;refine yB h (fun _ h=>?_) fun _ h=>?_;replace h:=Zv h a;cases h;exact yD;exact yR h [];exact yR h [];rintro ⟨⟩ ⟨_,_,_⟩ e _ h;simp only[go_sem,seval,Zd]at e;obtain ⟨⟨_,_⟩,B⟩:=e;subst B;have:=ZY (A.size);cases h;exact yD
theorem ZbQ {A:Zm}{r:Bool}(h:Qv A=some r):Zp prog J0 238 [(true,Xu A)] [(false,[(false,.bool r)])]:=by
 refine fnk func238 rfl ?_;unfold Qv at h;have a:Zcs ⟨#[]⟩=true:=by decide
 simp only[fnS,f238,Zu,go_sem,seval,a];refine yB h (fun _ h=>?_) fun _ h=>?_;iterate 2 (cases h;exact yD)
theorem Zdt {A:List ByteArray}{r:List ByteArray}(h:Zag A=some r):Zp prog J0 204 [(false,[.sl 9 1 (A0 ZM A)])] [(false,[(false,.sl 9 1 (A0 ZM r))])]:=by
 refine fnk func204 rfl ?_;unfold Zag at h;simp only[fnS,f204,Zu,go_sem,seval];obtain ⟨_,h⟩:=ZD h;simp only[*,go_sem,seval];obtain ⟨a,g,h⟩:=XH h;refine ZEe (Zmu g)<|yA ?_;refine Zk h (fun i b st=>IV [(3,.p false [.row 0]),(4,.p false [.row 1]),(11,.p false [.row 0]),(12,yL a.length),(13,yL i)] [.row 9 1 (A0 ZM a) 2,.row 9 1 (A0 ZM b) 2] st) [(false,4,0)] [32,160] yF yD ?_ ?_;rintro _ _ b ⟨_,_,_⟩ _ d e j h _;simp only[go_sem,seval,Zd]at e;obtain ⟨⟨_,_,_,_,_⟩,k,_,B⟩:=e;subst B;have l:=WF.rowL j k;have:=Z1 d;have:=Z3 d;have:=Zt (Z0 d) l;simp only[*,go_sem,seval];refine yB h (fun _ h=>?_) fun _ h=>?_;obtain ⟨m,h⟩:=ZD h;try simp only[Nat.reduceLeDiff]at m
 simp only[*,go_sem,seval];exact yR h [0,322];obtain ⟨_,h⟩:=ZD h;obtain ⟨_,_,h⟩:=XH h;simp only[*,go_sem,seval];refine yB h (fun _ h=>?_) fun _ h=>?_;exact yR h [0,1];obtain ⟨o,h⟩:=ZD h;try simp only[Nat.reduceLeDiff]at o
 simp only[*,go_sem,seval];exact yR h [0,322];rintro b ⟨_,_,_⟩ f _ h;simp only[go_sem,seval,Zd]at f;obtain ⟨⟨_,_,_,_,_⟩,_,_,B⟩:=f;subst B;have:=ZY (a.length);cases h;exact yD
theorem ZeL {A:List ByteArray}{B:ByteArray}{r:Bool}(h:ZbX A B=some r):Zp prog J0 203 [(false,[.sl 9 1 (A0 ZM A)]),(false,[.str B])] [(false,[(false,.bool r)])]:=by
 refine fnk func203 rfl ?_;unfold ZbX at h;simp only[fnS,f203,Zu,go_sem,seval];refine Zk h (fun i _ st=>IV [(1,yM (.str B)),(7,yM (yV A)),(8,yL A.length),(9,yL i)] [] st) [] [] yF yD ?_ ?_;rintro _ _ ⟨⟩ ⟨_,_,_⟩ _ a b e h f;simp only[go_sem,seval,Zd]at b;obtain ⟨⟨_,g,_,_⟩,C⟩:=b;subst C;have k:=WF.slotL e g (j:=0) rfl;have:=Z1 a;have:=Z3 a;have:=Zt (Z0 a) k;simp only[*,go_sem,seval];refine yB h (fun _ h=>?_) fun _ h=>?_;replace h:=Zv h f;cases h;exact yD;exact yR h [];rintro ⟨⟩ ⟨_,_,_⟩ d _ h;simp only[go_sem,seval,Zd]at d;obtain ⟨⟨_,_,_,_⟩,C⟩:=d;subst C;have:=ZY (A.length);cases h;exact yD
theorem ZpF {B:List Zq}{A:ByteArray}{r:Int}(h:Zcm B A=some r):Zp prog J0 164 [(false,[.sl 118 4 (A0 ZB B)]),(false,[.str A])] [(false,[(false,.int .i64 r)])]:=by
 refine fnk func164 rfl ?_;unfold Zcm at h;simp only[fnS,f164,Zu,go_sem,seval];refine Zk h (fun i _ st=>IV [(1,yM (.str A)),(7,yM (yW B)),(8,yL B.length),(9,yL i)] [] st) [] [] yF yD ?_ ?_;rintro _ _ ⟨⟩ ⟨_,_,_⟩ _ a b e h f;simp only[go_sem,seval,Zd]at b;obtain ⟨⟨_,g,_,_⟩,C⟩:=b;subst C;have k:=WF.slotL e g (j:=0) rfl;have:=Z1 a;have:=Z3 a;have:=Zt (Z0 a) k;simp only[*,go_sem,seval];refine yB h (fun _ h=>?_) fun _ h=>?_;replace h:=Zv h f;cases h;exact yD;exact yR h [];rintro ⟨⟩ ⟨_,_,_⟩ d _ h;simp only[go_sem,seval,Zd]at d;obtain ⟨⟨_,_,_,_⟩,C⟩:=d;subst C;have:=ZY (B.length);cases h;exact yD
theorem Zam {B:Int}{A:Int}{r:Int}(h:Xs B A=some r):Zp prog J0 209 [(false,[.int .i64 B]),(false,[.int .i64 A])] [(false,[(false,.int .i64 r)])]:=by
 refine fnk func209 rfl ?_;unfold Xs at h;simp only[fnS,f209,Zu,go_sem,seval];iterate 2 ((refine Ze h (fun _ h=>?_) fun _ h=>?_<;>try simp only[*,go_sem,seval]);cases h;simp only[*,go_sem,seval])
 cases h;exact yD
theorem ZiB {A:Int}{r:ByteArray}(h:ZaB A=some r):Zp prog J0 259 [(false,[.int .i64 A])] [(false,[(false,.str r)])]:=by
 refine fnk func259 rfl ?_;unfold ZaB at h;have a:Zcs ⟨#[]⟩=true:=by decide
 simp only[fnS,f259,Zu,go_sem,seval,a];refine Zb h fun _ b h=>Za (Zya b) ?_;cases h;exact yD
theorem Zjt {A:List ByteArray}{B:List ByteArray}{r:Bool}(h:ZcC A B=some r):Zp prog J0 212 [(false,[.sl 9 1 (A0 ZM A)]),(false,[.sl 9 1 (A0 ZM B)])] [(false,[(false,.bool r)])]:=by
 refine fnk func212 rfl ?_;unfold ZcC at h;simp only[fnS,f212,Zu,go_sem,seval];refine yB h (fun _ h=>?_) fun _ h=>?_;cases h;exact yD;refine Zk h (fun i _ st=>IV [(0,yM (yV A)),(1,yM (yV B)),(12,yL A.length),(13,yL i)] [] st) [] [] yF yD ?_ ?_;rintro _ _ ⟨⟩ ⟨_,_,_⟩ _ a b e h f;simp only[go_sem,seval,Zd]at b;obtain ⟨⟨g,_,_,_⟩,C⟩:=b;subst C;have k:=WF.slotL e g (j:=0) rfl;have:=Z1 a;have:=Z3 a;have:=Zt (Z0 a) k;obtain ⟨_,_,_,l,h⟩:=Za4 h;simp only[A9]at l;simp only[*,go_sem,seval];refine yB h (fun _ h=>?_) fun _ h=>?_;exact yR h [];replace h:=Zv h f;cases h;exact yD;rintro ⟨⟩ ⟨_,_,_⟩ d _ h;simp only[go_sem,seval,Zd]at d;obtain ⟨⟨_,_,_,_⟩,C⟩:=d;subst C;have:=ZY (A.length);cases h;exact yD
theorem Zp9 {A:List Int}{B:List Int}{r:Bool}(h:Zfo A B=some r):Zp prog J0 168 [(false,[.sl 3 1 (A0 Ye A)]),(false,[.sl 3 1 (A0 Ye B)])] [(false,[(false,.bool r)])]:=by
 refine fnk func168 rfl ?_;unfold Zfo at h;simp only[fnS,f168,Zu,go_sem,seval];refine yB h (fun _ h=>?_) fun _ h=>?_;cases h;exact yD;refine Zk h (fun i _ st=>IV [(0,yM (yY A)),(1,yM (yY B)),(12,yL A.length),(13,yL i)] [] st) [] [] yF yD ?_ ?_;rintro _ _ ⟨⟩ ⟨_,_,_⟩ _ a b e h f;simp only[go_sem,seval,Zd]at b;obtain ⟨⟨g,_,_,_⟩,C⟩:=b;subst C;have k:=WF.slotL e g (j:=0) rfl;have:=Z1 a;have:=Z3 a;have:=Zt (Z0 a) k;obtain ⟨_,_,_,l,h⟩:=Za4 h;simp only[A9]at l;simp only[*,go_sem,seval];refine yB h (fun _ h=>?_) fun _ h=>?_;replace h:=Zv h f;cases h;exact yD;exact yR h [];rintro ⟨⟩ ⟨_,_,_⟩ d _ h;simp only[go_sem,seval,Zd]at d;obtain ⟨⟨_,_,_,_⟩,C⟩:=d;subst C;have:=ZY (A.length);cases h;exact yD
theorem ZnS {A:List Zj}{B:List Zj}{r:Bool}(h:Zer A B=some r):Zp prog J0 213 [(false,[.sl 206 2 (A0 Z5 A)]),(false,[.sl 206 2 (A0 Z5 B)])] [(false,[(false,.bool r)])]:=by
 refine fnk func213 rfl ?_;unfold Zer at h;simp only[fnS,f213,Zu,go_sem,seval];refine yB h (fun _ h=>?_) fun _ h=>?_;cases h;exact yD;refine Zk h (fun i _ st=>IV [(0,yM (yX A)),(1,yM (yX B)),(12,yL A.length),(13,yL i)] [] st) [] [] yF yD ?_ ?_;rintro _ _ ⟨⟩ ⟨_,_,_⟩ _ a b e h f;simp only[go_sem,seval,Zd]at b;obtain ⟨⟨g,_,_,_⟩,C⟩:=b;subst C;have k:=WF.slotL e g (j:=0) rfl;have:=Z1 a;have:=Z3 a;have:=Zt (Z0 a) k;obtain ⟨_,_,_,l,h⟩:=Za4 h;simp only[A9]at l;simp only[*,go_sem,seval];refine yB h (fun _ h=>?_) fun _ h=>?_;exact yR h [];replace h:=Zv h f;cases h;exact yD;rintro ⟨⟩ ⟨_,_,_⟩ d _ h;simp only[go_sem,seval,Zd]at d;obtain ⟨⟨_,_,_,_⟩,C⟩:=d;subst C;have:=ZY (A.length);cases h;exact yD
theorem ZdD {B:ByteArray}{A:List Zj}{r:ByteArray}(h:ZaX B A=some r):Zp prog J0 261 [(false,[.str B]),(false,[.sl 206 2 (A0 Z5 A)])] [(false,[(false,.str r)])]:=by
 refine fnk func261 rfl ?_;unfold ZaX at h;have e:Zcs ⟨#[]⟩=true:=by decide
 simp only[fnS,f261,Zu,go_sem,seval,e];refine Zk h (fun i _ st=>IV [(0,yM (.str B)),(7,yM (yX A)),(8,yL A.length),(9,yL i)] [] st) [] [] yF yD ?_ ?_;rintro _ _ ⟨⟩ ⟨_,_,_⟩ _ a b f h g;simp only[go_sem,seval,Zd]at b;obtain ⟨⟨_,k,_,_⟩,C⟩:=b;subst C;have l:=WF.slotL f k (j:=0) rfl;have:=Z1 a;have:=Z3 a;have:=Zt (Z0 a) l;simp only[*,go_sem,seval];refine yB h (fun _ h=>?_) fun _ h=>?_;replace h:=Zv h g;cases h;exact yD;exact yR h [];rintro ⟨⟩ ⟨_,_,_⟩ d _ h;simp only[go_sem,seval,Zd]at d;obtain ⟨⟨_,_,_,_⟩,C⟩:=d;subst C;have:=ZY (A.length);cases h;exact yD
end
section
theorem Zfz {A:Zm}{r:Zm}(h:Qe A=some r):Zp prog J0 58 [(true,Xu A)] [(true,[(false,.str r.rel),(false,.sl 9 1 (A0 ZM r.args))])]:=by
 refine fnk func58 rfl ?_;unfold Qe at h;simp only[fnS,f58,Zu,go_sem,seval];refine Zb h fun _ a h=>Za (Zl0 a) ?_;cases h;exact yD
theorem ZeB {a:Zh}{A:List Zj}{r:Zh}(h:Qn a A=some r):Zp prog J0 98 [(true,ZW a),(false,[.sl 206 2 (A0 Z5 A)])] [(true,[(false,.int .i64 r.kind),(false,.str r.pattern.rel),(false,.sl 9 1 (A0 ZM r.pattern.args)),(false,.str r.left),(false,.str r.right)])]:=by
 refine fnk func98 rfl ?_;unfold Qn at h;simp only[fnS,f98,Zu,go_sem,seval];refine Zb h fun k l h=>Za (ZfN l)<|yA ?_;refine Zb h fun m o h=>Za (ZfN o)<|yA ?_;refine Zk h (fun i d st=>IV [(1,yM (yX A)),(2,.bp 0 0),(4,.bp 1 0),(5,.bp 2 0),(6,yL i)] [zE 105 (ZW a),.box 105 [.c (.int .i64 0),.c (.str ⟨#[]⟩),.nil 9 1,.c (.str ⟨#[]⟩),.c (.str ⟨#[]⟩)],.box 105 [.c (.int .i64 a.kind),.c (.str a.pattern.rel),.row 3,.c (.str k),.c (.str m)],.row 9 1 (A0 ZM d) 2] st) [(true,272,2)] [0,16,272,320] yF yD ?_ ?_;rintro _ _ d ⟨_,_,_⟩ _ e f q h _;simp only[go_sem,seval,Zd]at f;obtain ⟨⟨_,_,_,_,_⟩,t,_,_,_,B⟩:=f;subst B;have u:=WF.boxL q t (j:=2) rfl;have:=Z1 e;have:=Z3 e;have:=Zt (Z0 e) u;simp only[*,go_sem,seval];refine Zb h fun _ v h=>Za (ZfN v) ?_;obtain ⟨w,h⟩:=ZD h;try simp only[Nat.reduceLeDiff]at w
 simp only[*,go_sem,seval];exact yR h [0,1,2,292];rintro d ⟨_,_,_⟩ g _ h;simp only[go_sem,seval,Zd]at g;obtain ⟨⟨_,_,_,_,_⟩,_,_,_,_,B⟩:=g;subst B;have:=ZY (a.pattern.args.length);cases h;exact yD
theorem Qy {A:Zf}{r:Zf}(h:Q9 A=some r):Zp prog J0 96 [(true,Zo A)] [(true,[(false,.str r.rel),(false,.sl 9 1 (A0 ZM r.args))])]:=by
 refine fnk func96 rfl ?_;unfold Q9 at h;simp only[fnS,f96,Zu,go_sem,seval];refine Zb h fun _ a h=>Za (Zl0 a) ?_;cases h;exact yD
theorem Zaw {A:ByteArray}{r:Bool}(h:ZaM A=some r):Zp prog J0 145 [(false,[.str A])] [(false,[(false,.bool r)])]:=by
 refine fnk func145 rfl ?_;unfold ZaM at h;simp only[fnS,f145,Zu,go_sem,seval];refine Zk h (fun i _ st=>IV [(0,yM (.str A)),(3,yL i)] [] st) [] [] yF yD ?_ ?_;rintro _ _ ⟨⟩ ⟨_,_,_⟩ _ a b e h f;simp only[go_sem,seval,Zd]at b;obtain ⟨⟨g,_⟩,B⟩:=b;subst B;have k:=WF.slotS e g (j:=0) rfl;have:=Zr4 a;have:=ZAw a;have:=Zt (ZwQ a) k;simp only[*,go_sem,seval];refine Zb h fun _ l h=>Za (ZbU l)<|yA ?_;refine yB h (fun _ h=>?_) fun _ h=>?_;exact yR h [];refine Zb h fun _ m h=>Za (ZbU m)<|yA ?_;refine yB h (fun _ h=>?_) fun _ h=>?_;exact yR h [];replace h:=Zv h f;cases h;exact yD;rintro ⟨⟩ ⟨_,_,_⟩ d _ h;simp only[go_sem,seval,Zd]at d;obtain ⟨⟨_,_⟩,B⟩:=d;subst B;have:=ZY (A.size);simp only[*,go_sem,seval];refine Zb h fun _ o h=>Za (ZbU o) ?_;cases h;exact yD
theorem Zgx {A:ByteArray}{r:(Int×Bool)}(h:Zbl A=some r):Zp prog J0 225 [(false,[.str A])] [(false,[(false,.int .i64 r.1)]),(false,[(false,.bool r.2)])]:=by
 refine fnk func225 rfl ?_;unfold Zbl at h;simp only[fnS,f225,Zu,go_sem,seval];refine Zb h fun _ g h=>Za (ZbU g)<|yA ?_;refine yB h (fun _ h=>?_) fun _ h=>?_;refine Zk h (fun i a st=>IV [(0,yM (.str A)),(4,yM (.int .i64 a)),(5,yL i)] [] st) [] [] yF yD ?_ ?_;rintro _ _ a ⟨_,_,_⟩ _ b d k h e;simp only[go_sem,seval,Zd]at d;obtain ⟨⟨l,_,_⟩,B⟩:=d;subst B;have m:=WF.slotS k l (j:=0) rfl;have:=Zr4 b;have:=ZAw b;have:=Zt (ZwQ b) m;simp only[*,go_sem,seval];refine yB h (fun _ h=>?_) fun _ h=>?_;replace h:=Zv h e;cases h;exact yD;refine yB h (fun _ h=>?_) fun _ h=>?_;replace h:=Zv h e;cases h;exact yD;exact yR h [];rintro a ⟨_,_,_⟩ f _ h;simp only[go_sem,seval,Zd]at f;obtain ⟨⟨_,_,_⟩,B⟩:=f;subst B;have:=ZY (A.size);simp only[*,go_sem,seval];refine Zb h fun _ o h=>Za (Zjj o)<|yA ?_;refine yB h (fun _ h=>?_) fun _ h=>?_;iterate 3 (cases h;exact yD)
theorem ZiH {B:Zf}{A:Zf}{r:Bool}(h:ZgY B A=some r):Zp prog J0 147 [(true,Zo B),(true,Zo A)] [(false,[(false,.bool r)])]:=by
 refine fnk func147 rfl ?_;unfold ZgY at h;simp only[fnS,f147,Zu,go_sem,seval];refine yB h (fun _ h=>?_) fun _ h=>?_;refine Zb h fun _ a h=>Za (ZgX a) ?_;iterate 2 (cases h;exact yD)
theorem ZdK {B:Zm}{A:Zm}{r:Bool}(h:ZaW B A=some r):Zp prog J0 151 [(true,Xu B),(true,Xu A)] [(false,[(false,.bool r)])]:=by
 refine fnk func151 rfl ?_;unfold ZaW at h;simp only[fnS,f151,Zu,go_sem,seval];refine yB h (fun _ h=>?_) fun _ h=>?_;refine Zb h fun _ a h=>Za (ZgX a) ?_;iterate 2 (cases h;exact yD)
theorem ZdE {A:Zm}{r:Zm}(h:Qu A=some r):Zp prog J0 72 [(true,Xu A)] [(true,[(false,.str r.rel),(false,.sl 9 1 (A0 ZM r.args))])]:=by
 refine fnk func72 rfl ?_;unfold Qu at h;simp only[fnS,f72,Zu,go_sem,seval];refine Zb h fun _ a h=>Za (ZfE a) ?_;cases h;exact yD
theorem Qq {A:Zf}{r:Zf}(h:XR A=some r):Zp prog J0 122 [(true,Zo A)] [(true,[(false,.str r.rel),(false,.sl 9 1 (A0 ZM r.args))])]:=by
 refine fnk func122 rfl ?_;unfold XR at h;simp only[fnS,f122,Zu,go_sem,seval];refine Zb h fun _ a h=>Za (ZfE a) ?_;cases h;exact yD
theorem Zir {A:ByteArray}{r:Bool}(h:ZfC A=some r):Zp prog J0 197 [(false,[.str A])] [(false,[(false,.bool r)])]:=by
 refine fnk func197 rfl ?_;unfold ZfC at h;simp only[fnS,f197,Zu,go_sem,seval];refine Zb h fun _ a h=>Za (Zav a)<|yA ?_;refine yB h (fun _ h=>?_) fun _ h=>?_;obtain ⟨_,_,b,h⟩:=Zwe h;try simp only[seval]at b
 iterate 2 (cases h;exact yD)
theorem ZdB {A:ByteArray}{r:Bool}(h:Zc6 A=some r):Zp prog J0 241 [(false,[.str A])] [(false,[(false,.bool r)])]:=by
 refine fnk func241 rfl ?_;unfold Zc6 at h;simp only[fnS,f241,Zu,go_sem,seval];refine yB h (fun _ h=>?_) fun _ h=>?_;obtain ⟨_,_,a,h⟩:=Zwe h;try simp only[seval]at a
 simp only[*,go_sem,seval];refine yB h (fun _ h=>?_) fun _ h=>?_;obtain ⟨_,h⟩:=ZD h;simp only[*,go_sem,seval];refine Zb h fun _ b h=>Za (Zav b) ?_;iterate 3 (cases h;exact yD)
theorem Zl4 {A:Zh}{r:List ByteArray}(h:Zcv A=some r):Zp prog J0 255 [(true,ZW A)] [(false,[(false,.sl 9 1 (A0 ZM r))])]:=by
 refine fnk func255 rfl ?_;unfold Zcv at h;simp only[fnS,f255,Zu,go_sem,seval];refine Zb h fun _ a h=>Za (ZfE a) ?_;obtain ⟨b,h⟩:=ZD h;try simp only[Nat.reduceLeDiff]at b
 cases h;exact yD
theorem ZdZ {A:ByteArray}{r:(Int×Bool)}(h:Zbu A=some r):Zp prog J0 244 [(false,[.str A])] [(false,[(false,.int .i64 r.1)]),(false,[(false,.bool r.2)])]:=by
 refine fnk func244 rfl ?_;unfold Zbu at h;simp only[fnS,f244,Zu,go_sem,seval];iterate 2 ((refine Ze h (fun _ h=>?_) fun _ h=>?_<;>try simp only[*,go_sem,seval]);cases h;simp only[*,go_sem,seval])
 refine Zb h fun _ a h=>Za (Zx5 a)<|yA ?_;iterate 2 refine yB h (fun _ h=>?_) fun _ h=>?_
 cases h;exact yD;refine yB h (fun _ h=>?_) fun _ h=>?_;cases h;exact yD;refine Zb h fun _ b h=>Za (ZiB b)<|yA ?_;refine yB h (fun _ h=>?_) fun _ h=>?_;iterate 3 (cases h;exact yD)
theorem ZbS {B:Zm}{A:Zm}{r:Bool}(h:Qx B A=some r):Zp prog J0 170 [(true,Xu B),(true,Xu A)] [(false,[(false,.bool r)])]:=by
 refine fnk func170 rfl ?_;unfold Qx at h;simp only[fnS,f170,Zu,go_sem,seval];refine yB h (fun _ h=>?_) fun _ h=>?_;refine Zb h fun _ a h=>Za (Zjt a) ?_;iterate 2 (cases h;exact yD)
theorem Zkd {B:Zf}{A:Zf}{r:Bool}(h:Zcj B A=some r):Zp prog J0 211 [(true,Zo B),(true,Zo A)] [(false,[(false,.bool r)])]:=by
 refine fnk func211 rfl ?_;unfold Zcj at h;simp only[fnS,f211,Zu,go_sem,seval];refine yB h (fun _ h=>?_) fun _ h=>?_;refine Zb h fun _ a h=>Za (Zjt a) ?_;iterate 2 (cases h;exact yD)
theorem Zh1 {a:Zh}{A:List Zj}{r:Zh}(h:ZbV a A=some r):Zp prog J0 246 [(true,ZW a),(false,[.sl 206 2 (A0 Z5 A)])] [(true,[(false,.int .i64 r.kind),(false,.str r.pattern.rel),(false,.sl 9 1 (A0 ZM r.pattern.args)),(false,.str r.left),(false,.str r.right)])]:=by
 refine fnk func246 rfl ?_;unfold ZbV at h;simp only[fnS,f246,Zu,go_sem,seval];refine Zb h fun k l h=>Za (ZdD l)<|yA ?_;refine Zb h fun m o h=>Za (ZdD o)<|yA ?_;refine Zk h (fun i d st=>IV [(1,yM (yX A)),(4,.bp 0 0),(5,.bp 1 0),(26,yM (yV a.pattern.args)),(27,yL a.pattern.args.length),(28,yL i)] [.box 105 [.c (.int .i64 0),.c (.str ⟨#[]⟩),.nil 9 1,.c (.str ⟨#[]⟩),.c (.str ⟨#[]⟩)],.box 105 [.c (.int .i64 a.kind),.c (.str a.pattern.rel),.row 2,.c (.str k),.c (.str m)],.row 9 1 (A0 ZM d) 2] st) [(true,208,2)] [16,208,416] yF yD ?_ ?_;rintro _ _ d ⟨_,_,_⟩ _ e f q h _;simp only[go_sem,seval,Zd]at f;obtain ⟨⟨_,_,_,t,_,_⟩,_,_,_,B⟩:=f;subst B;have u:=WF.slotL q t (j:=0) rfl;have:=Z1 e;have:=Z3 e;have:=Zt (Z0 e) u;simp only[*,go_sem,seval];refine Zb h fun _ v h=>Za (ZdD v) ?_;obtain ⟨w,h⟩:=ZD h;try simp only[Nat.reduceLeDiff]at w
 simp only[*,go_sem,seval];exact yR h [0,1,179];rintro d ⟨_,_,_⟩ g _ h;simp only[go_sem,seval,Zd]at g;obtain ⟨⟨_,_,_,_,_,_⟩,_,_,_,B⟩:=g;subst B;have:=ZY (a.pattern.args.length);cases h;exact yD
end
section
theorem Zgb {A:Zh}{r:Zh}(h:ZbM A=some r):Zp prog J0 59 [(true,ZW A)] [(true,[(false,.int .i64 r.kind),(false,.str r.pattern.rel),(false,.sl 9 1 (A0 ZM r.pattern.args)),(false,.str r.left),(false,.str r.right)])]:=by
 refine fnk func59 rfl ?_;unfold ZbM at h;simp only[fnS,f59,Zu,go_sem,seval];refine Zb h fun _ a h=>Za (ZeB a) ?_;cases h;exact yD
theorem Xe {A:List Zf}{r:List Zf}(h:Y4 A=some r):Zp prog J0 57 [(false,[.sl 60 2 (A0 Zo A)])] [(false,[(false,.sl 60 2 (A0 Zo r))])]:=by
 refine fnk func57 rfl ?_;unfold Y4 at h;simp only[fnS,f57,Zu,go_sem,seval];refine Zk h (fun i a st=>IV [(0,yM (yU A)),(3,.p false [.row 0]),(4,yL i)] [.row 60 2 (A0 Zo a) 2] st) [] [16] yF yD ?_ ?_;rintro _ _ a ⟨_,_,_⟩ _ b d f h _;simp only[go_sem,seval,Zd]at d;obtain ⟨⟨g,_,_⟩,_,B⟩:=d;subst B;have k:=WF.slotL f g (j:=0) rfl;have:=Z1 b;have:=Z3 b;have:=Zt (Z0 b) k;simp only[*,go_sem,seval];refine Zb h fun _ l h=>Za (Qy l) ?_;obtain ⟨m,h⟩:=ZD h;try simp only[Nat.reduceLeDiff]at m
 simp only[*,go_sem,seval];exact yR h [177];rintro a ⟨_,_,_⟩ e _ h;simp only[go_sem,seval,Zd]at e;obtain ⟨⟨_,_,_⟩,_,B⟩:=e;subst B;have:=ZY (A.length);cases h;exact yD
theorem ZjD {A:ByteArray}{r:Bool}(h:Zfr A=some r):Zp prog J0 146 [(false,[.str A])] [(false,[(false,.bool r)])]:=by
 refine fnk func146 rfl ?_;unfold Zfr at h;simp only[fnS,f146,Zu,go_sem,seval];refine Zb h fun _ a h=>Za (Zaw a)<|yA ?_;refine yB h (fun _ h=>?_) fun _ h=>?_;obtain ⟨_,_,b,h⟩:=Zwe h;try simp only[seval]at b
 simp only[*,go_sem,seval];refine Zb h fun _ c h=>Za (ZbU c) ?_;iterate 2 (cases h;exact yD)
theorem Zf4 {B:ByteArray}{A:ByteArray}{r:Int}(h:QE B A=some r):Zp prog J0 183 [(false,[.str B]),(false,[.str A])] [(false,[(false,.int .i64 r)])]:=by
 refine fnk func183 rfl ?_;unfold QE at h;simp only[fnS,f183,Zu,go_sem,seval];refine Zb h fun _ a h=>Za (Zgx a)<|yA ?_;refine Zb h fun _ b h=>Za (Zgx b)<|yA ?_;iterate 3 refine yB h (fun _ h=>?_) fun _ h=>?_
 cases h;exact yD;refine yB h (fun _ h=>?_) fun _ h=>?_;iterate 3 (cases h;exact yD)
 refine yB h (fun _ h=>?_) fun _ h=>?_;cases h;exact yD;refine Zb h fun _ c h=>Za (Zn4 c) ?_;cases h;exact yD
theorem Zko {A:List Zf}{B:Zf}{r:Int}(h:Zfb A B=some r):Zp prog J0 102 [(false,[.sl 60 2 (A0 Zo A)]),(true,Zo B)] [(false,[(false,.int .i64 r)])]:=by
 refine fnk func102 rfl ?_;unfold Zfb at h;simp only[fnS,f102,Zu,go_sem,seval];refine Zk h (fun i _ st=>IV [(0,yM (yU A)),(3,.bp 0 0),(5,yL i)] [zE 60 (Zo B)] st) [] [0] yF yD ?_ ?_;rintro _ _ ⟨⟩ ⟨_,_,_⟩ _ a b e h f;simp only[go_sem,seval,Zd]at b;obtain ⟨⟨g,_,_⟩,_,C⟩:=b;subst C;have k:=WF.slotL e g (j:=0) rfl;have:=Z1 a;have:=Z3 a;have:=Zt (Z0 a) k;simp only[*,go_sem,seval];refine Zb h fun _ l h=>Za (ZiH l)<|yA ?_;refine yB h (fun _ h=>?_) fun _ h=>?_;replace h:=Zv h f;cases h;exact yD;exact yR h [0];rintro ⟨⟩ ⟨_,_,_⟩ d _ h;simp only[go_sem,seval,Zd]at d;obtain ⟨⟨_,_,_⟩,_,C⟩:=d;subst C;have:=ZY (A.length);cases h;exact yD
theorem ZaK {A:ByteArray}{r:Bool}(h:ZbZ A=some r):Zp prog J0 191 [(false,[.str A])] [(false,[(false,.bool r)])]:=by
 refine fnk func191 rfl ?_;unfold ZbZ at h;simp only[fnS,f191,Zu,go_sem,seval];refine yB h (fun _ h=>?_) fun _ h=>?_;obtain ⟨_,_,a,h⟩:=Zwe h;try simp only[seval]at a
 simp only[*,go_sem,seval];refine yB h (fun _ h=>?_) fun _ h=>?_;obtain ⟨_,h⟩:=ZD h;simp only[*,go_sem,seval];refine Zb h fun _ b h=>Za (Zaw b) ?_;iterate 3 (cases h;exact yD)
theorem Zj9 {B:Zh}{A:Zh}{r:Bool}(h:Zdv B A=some r):Zp prog J0 152 [(true,ZW B),(true,ZW A)] [(false,[(false,.bool r)])]:=by
 refine fnk func152 rfl ?_;unfold Zdv at h;simp only[fnS,f152,Zu,go_sem,seval];refine yB h (fun _ h=>?_) fun _ h=>?_;refine Zb h fun _ a h=>Za (ZdK a)<|yA ?_;iterate 2 refine yB h (fun _ h=>?_) fun _ h=>?_
 iterate 4 (cases h;exact yD)
theorem Zle {b:Zc}{a:Zm}{r:(Int×Zc)}(h:Ze4 b a=some r):ZhN prog J0 JF0 188 37 [(false,.sl 118 4 (A0 ZB b.rules)),(false,.sl 3 1 (A0 Ye b.ends)),(false,.sl 103 3 (A0 ZG b.alphas)),(false,.sl 108 8 (A0 Z6 b.nodes)),(false,.sl 60 2 (A0 Zo b.facts)),(false,.int .i64 b.tries)] (some (true,[(false,.str a.rel),(false,.sl 9 1 (A0 ZM a.args))])) [] [(false,[(false,.int .i64 r.1)])] [(false,.sl 118 4 (A0 ZB r.2.rules)),(false,.sl 3 1 (A0 Ye r.2.ends)),(false,.sl 103 3 (A0 ZG r.2.alphas)),(false,.sl 108 8 (A0 Z6 r.2.nodes)),(false,.sl 60 2 (A0 Zo r.2.facts)),(false,.int .i64 r.2.tries)]:=by
 refine fno func188 rfl ?_;unfold Ze4 at h;simp only[fnO,f188,ZgG,gvC,go_sem,seval];refine Zk h (fun i _ st=>IV [(0,.bp 0 0),(3,.bp 6 0),(5,.p false [.c (.int .i64 (i:Int))])] [.box 37 [.row 1,.row 2,.row 3,.row 4,.row 5,.c (.int .i64 b.tries)],.row 118 4 (A0 ZB b.rules) 2,.row 3 1 (A0 Ye b.ends) 2,.row 103 3 (A0 ZG b.alphas) 2,.row 108 8 (A0 Z6 b.nodes) 2,.row 60 2 (A0 Zo b.facts) 2,.box 100 [.c (.str a.rel),.row 7],.row 9 1 (A0 ZM a.args) 2] st) [] [0,1,2,3,4,5,7,6] yF ?_ ?_ ?_
 .simp only[*,go_sem,seval]
 .rintro i6 x7 ⟨⟩ ⟨sl,ob,n⟩ y1 e j k h l;simp only[go_sem,seval,Zd]at j;obtain ⟨⟨aa,W,V⟩,O,N,M,f,L,K,J,I,P⟩:=j;subst P;have g:=WF.rowL k f;have q6:=Z1 e;have q7:=Z3 e;have q8:=Zt (Z0 e) g;simp only[*,go_sem,seval];refine Zb h fun v8 e9 h=>Za (ZdK e9) ?_;simp only[*,go_sem,seval];refine Ze h (fun m h=>?_) (fun m h=>?_)<;>try simp only[*,go_sem,seval]
  .replace h:=Zv h l;obtain rfl:=A6 h;simp only[*,go_sem,seval]
  .refine ⟨_,[],[0,1,2,3,4,5,6,7],(A6 h).symm,yF,?_⟩;simp only[*,go_sem,seval]
 .rintro ⟨⟩ ⟨sl,ob,n⟩ d U h;simp only[go_sem,seval,Zd]at d;obtain ⟨⟨T,S,R⟩,H,G,F,E,D,C,B,A,P⟩:=d;subst P;have q14:=ZY (b.alphas.length);obtain ⟨o,h⟩:=ZD h;try simp only[Nat.reduceLeDiff]at o
  obtain rfl:=A6 h;simp only[*,go_sem,seval]
theorem ZiD {A:List Zf}{B:List Zf}{r:Bool}(h:Zej A B=some r):Zp prog J0 106 [(false,[.sl 60 2 (A0 Zo A)]),(false,[.sl 60 2 (A0 Zo B)])] [(false,[(false,.bool r)])]:=by
 refine fnk func106 rfl ?_;unfold Zej at h;simp only[fnS,f106,Zu,go_sem,seval];refine yB h (fun _ h=>?_) fun _ h=>?_;cases h;exact yD;refine Zk h (fun i _ st=>IV [(0,yM (yU A)),(1,yM (yU B)),(5,yL i)] [] st) [] [] yF yD ?_ ?_;rintro _ _ ⟨⟩ ⟨_,_,_⟩ _ a b e h f;simp only[go_sem,seval,Zd]at b;obtain ⟨⟨g,_,_⟩,C⟩:=b;subst C;have k:=WF.slotL e g (j:=0) rfl;have:=Z1 a;have:=Z3 a;have:=Zt (Z0 a) k;obtain ⟨_,_,_,l,h⟩:=Za4 h;simp only[A9]at l;simp only[*,go_sem,seval];refine Zb h fun _ m h=>Za (ZiH m)<|yA ?_;refine yB h (fun _ h=>?_) fun _ h=>?_;exact yR h [];replace h:=Zv h f;cases h;exact yD;rintro ⟨⟩ ⟨_,_,_⟩ d _ h;simp only[go_sem,seval,Zd]at d;obtain ⟨⟨_,_,_⟩,C⟩:=d;subst C;have:=ZY (A.length);cases h;exact yD
theorem Zkt {A:ByteArray}{r:Bool}(h:ZfQ A=some r):Zp prog J0 235 [(false,[.str A])] [(false,[(false,.bool r)])]:=by
 refine fnk func235 rfl ?_;unfold ZfQ at h;simp only[fnS,f235,Zu,go_sem,seval];refine Zb h fun _ a h=>Za (Zgx a) ?_;cases h;exact yD
theorem ZoW {A:List Zf}{B:Zf}{r:List Zf}(h:Zga A B=some r):Zp prog J0 114 [(false,[.sl 60 2 (A0 Zo A)]),(true,Zo B)] [(false,[(false,.sl 60 2 (A0 Zo r))])]:=by
 refine fnk func114 rfl ?_;unfold Zga at h;simp only[fnS,f114,Zu,go_sem,seval];refine Zk h (fun i a st=>IV [(0,yM (yU A)),(3,.bp 0 0),(5,.p false [.row 1]),(6,yL i)] [zE 60 (Zo B),.row 60 2 (A0 Zo a) 2] st) [] [0,32] yF yD ?_ ?_;rintro _ _ a ⟨_,_,_⟩ _ b d f h _;simp only[go_sem,seval,Zd]at d;obtain ⟨⟨g,_,_,_⟩,_,_,C⟩:=d;subst C;have k:=WF.slotL f g (j:=0) rfl;have:=Z1 b;have:=Z3 b;have:=Zt (Z0 b) k;simp only[*,go_sem,seval];refine Zb h fun _ l h=>Za (ZiH l)<|yA ?_;refine yB h (fun _ h=>?_) fun _ h=>?_;exact yR h [0,1];refine Zb h fun _ m h=>Za (Qy m) ?_;obtain ⟨o,h⟩:=ZD h;try simp only[Nat.reduceLeDiff]at o
 simp only[*,go_sem,seval];exact yR h [0,290];rintro a ⟨_,_,_⟩ e _ h;simp only[go_sem,seval,Zd]at e;obtain ⟨⟨_,_,_,_⟩,_,_,C⟩:=e;subst C;have:=ZY (A.length);cases h;exact yD
theorem Zah {A:Zh}{r:Zh}(h:Xv A=some r):Zp prog J0 73 [(true,ZW A)] [(true,[(false,.int .i64 r.kind),(false,.str r.pattern.rel),(false,.sl 9 1 (A0 ZM r.pattern.args)),(false,.str r.left),(false,.str r.right)])]:=by
 refine fnk func73 rfl ?_;unfold Xv at h;simp only[fnS,f73,Zu,go_sem,seval];refine Zb h fun _ a h=>Za (ZdE a) ?_;cases h;exact yD
theorem Yx {A:List Zf}{r:List Zf}(h:Yl A=some r):Zp prog J0 71 [(false,[.sl 60 2 (A0 Zo A)])] [(false,[(false,.sl 60 2 (A0 Zo r))])]:=by
 refine fnk func71 rfl ?_;unfold Yl at h;simp only[fnS,f71,Zu,go_sem,seval];refine Zk h (fun i a st=>IV [(3,.p false [.row 0]),(6,yM (yU A)),(7,yL A.length),(8,yL i)] [.row 60 2 (A0 Zo a) 2] st) [(false,3,0)] [80] yF yD ?_ ?_;rintro _ _ a ⟨_,_,_⟩ _ b d f h _;simp only[go_sem,seval,Zd]at d;obtain ⟨⟨_,g,_,_⟩,_,B⟩:=d;subst B;have k:=WF.slotL f g (j:=0) rfl;have:=Z1 b;have:=Z3 b;have:=Zt (Z0 b) k;simp only[*,go_sem,seval];refine Zb h fun _ l h=>Za (Qq l) ?_;obtain ⟨m,h⟩:=ZD h;try simp only[Nat.reduceLeDiff]at m
 simp only[*,go_sem,seval];exact yR h [145];rintro a ⟨_,_,_⟩ e _ h;simp only[go_sem,seval,Zd]at e;obtain ⟨⟨_,_,_,_⟩,_,B⟩:=e;subst B;have:=ZY (A.length);cases h;exact yD
theorem Zbr {A:ByteArray}{r:Bool}(h:Zbo A=some r):Zp prog J0 237 [(false,[.str A])] [(false,[(false,.bool r)])]:=by
 refine fnk func237 rfl ?_;unfold Zbo at h;simp only[fnS,f237,Zu,go_sem,seval];refine Zb h fun _ a h=>Za (Zav a)<|yA ?_;refine yB h (fun _ h=>?_) fun _ h=>?_;cases h;exact yD;refine Zb h fun _ b h=>Za (ZdB b) ?_;cases h;exact yD
theorem Zfa {A:List ByteArray}{r:List ByteArray}(h:Za6 A=some r):Zp prog J0 202 [(false,[.sl 9 1 (A0 ZM A)])] [(false,[(false,.sl 9 1 (A0 ZM r))])]:=by
 refine fnk func202 rfl ?_;unfold Za6 at h;simp only[fnS,f202,Zu,go_sem,seval];refine Zk h (fun i a st=>IV [(3,.p false [.row 0]),(6,yM (yV A)),(7,yL A.length),(8,yL i)] [.row 9 1 (A0 ZM a) 2] st) [(false,3,0)] [80] yF yD ?_ ?_;rintro _ _ a ⟨_,_,_⟩ _ b d f h _;simp only[go_sem,seval,Zd]at d;obtain ⟨⟨_,g,_,_⟩,_,B⟩:=d;subst B;have k:=WF.slotL f g (j:=0) rfl;have:=Z1 b;have:=Z3 b;have:=Zt (Z0 b) k;simp only[*,go_sem,seval];refine Zb h fun _ l h=>Za (ZdB l)<|yA ?_;refine yB h (fun _ h=>?_) fun _ h=>?_;obtain ⟨m,h⟩:=ZD h;try simp only[Nat.reduceLeDiff]at m
 simp only[*,go_sem,seval];exact yR h [145];exact yR h [0];rintro a ⟨_,_,_⟩ e _ h;simp only[go_sem,seval,Zd]at e;obtain ⟨⟨_,_,_,_⟩,_,B⟩:=e;subst B;have:=ZY (A.length);cases h;exact yD
theorem Zio {A:Zf}{r:Bool}(h:Zfn A=some r):Zp prog J0 165 [(true,Zo A)] [(false,[(false,.bool r)])]:=by
 refine fnk func165 rfl ?_;unfold Zfn at h;simp only[fnS,f165,Zu,go_sem,seval];refine Zb h fun _ e h=>Za (Zir e)<|yA ?_;iterate 2 refine yB h (fun _ h=>?_) fun _ h=>?_
 cases h;exact yD;refine Zk h (fun i _ st=>IV [(16,yM (yV A.args)),(17,yL A.args.length),(18,yL i)] [] st) [] [] yF yD ?_ ?_;rintro _ _ ⟨⟩ ⟨_,_,_⟩ _ a b f h g;simp only[go_sem,seval,Zd]at b;obtain ⟨⟨k,_,_⟩,B⟩:=b;subst B;have l:=WF.slotL f k (j:=0) rfl;have:=Z1 a;have:=Z3 a;have:=Zt (Z0 a) l;simp only[*,go_sem,seval];refine Zb h fun _ m h=>Za (Zav m)<|yA ?_;refine yB h (fun _ h=>?_) fun _ h=>?_;exact yR h [];replace h:=Zv h g;cases h;exact yD;rintro ⟨⟩ ⟨_,_,_⟩ d _ h;simp only[go_sem,seval,Zd]at d;obtain ⟨⟨_,_,_⟩,B⟩:=d;subst B;have:=ZY (A.args.length);iterate 2 (cases h;exact yD)
theorem ZlF {B:ByteArray}{A:ByteArray}{r:Int}(h:ZbA B A=some r):Zp prog J0 208 [(false,[.str B]),(false,[.str A])] [(false,[(false,.int .i64 r)])]:=by
 refine fnk func208 rfl ?_;unfold ZbA at h;simp only[fnS,f208,Zu,go_sem,seval];refine Zb h fun _ a h=>Za (ZdZ a)<|yA ?_;refine Zb h fun _ b h=>Za (ZdZ b)<|yA ?_;iterate 2 refine yB h (fun _ h=>?_) fun _ h=>?_
 refine Zb h fun _ c h=>Za (Zam c) ?_;iterate 2 (cases h;exact yD)
 refine yB h (fun _ h=>?_) fun _ h=>?_;cases h;exact yD;refine Zb h fun _ d h=>Za (ZlD d) ?_;cases h;exact yD
theorem ZgD {B:Zh}{A:Zh}{r:Bool}(h:ZbK B A=some r):Zp prog J0 171 [(true,ZW B),(true,ZW A)] [(false,[(false,.bool r)])]:=by
 refine fnk func171 rfl ?_;unfold ZbK at h;simp only[fnS,f171,Zu,go_sem,seval];iterate 3 refine yB h (fun _ h=>?_) fun _ h=>?_
 refine Zb h fun _ a h=>Za (ZbS a) ?_;iterate 4 (cases h;exact yD)
theorem Zfx {A:List Zf}{B:List Zf}{r:Bool}(h:Zbw A B=some r):Zp prog J0 169 [(false,[.sl 60 2 (A0 Zo A)]),(false,[.sl 60 2 (A0 Zo B)])] [(false,[(false,.bool r)])]:=by
 refine fnk func169 rfl ?_;unfold Zbw at h;simp only[fnS,f169,Zu,go_sem,seval];refine yB h (fun _ h=>?_) fun _ h=>?_;cases h;exact yD;refine Zk h (fun i _ st=>IV [(0,yM (yU A)),(1,yM (yU B)),(12,yL A.length),(13,yL i)] [] st) [] [] yF yD ?_ ?_;rintro _ _ ⟨⟩ ⟨_,_,_⟩ _ a b e h f;simp only[go_sem,seval,Zd]at b;obtain ⟨⟨g,_,_,_⟩,C⟩:=b;subst C;have k:=WF.slotL e g (j:=0) rfl;have:=Z1 a;have:=Z3 a;have:=Zt (Z0 a) k;obtain ⟨_,_,_,l,h⟩:=Za4 h;simp only[A9]at l;simp only[*,go_sem,seval];refine Zb h fun _ m h=>Za (Zkd m)<|yA ?_;refine yB h (fun _ h=>?_) fun _ h=>?_;exact yR h [];replace h:=Zv h f;cases h;exact yD;rintro ⟨⟩ ⟨_,_,_⟩ d _ h;simp only[go_sem,seval,Zd]at d;obtain ⟨⟨_,_,_,_⟩,C⟩:=d;subst C;have:=ZY (A.length);cases h;exact yD
theorem Zh2 {a:List ByteArray}{r:List Zj}(h:ZaH a=some r):Zp prog J0 260 [(false,[.sl 9 1 (A0 ZM a)])] [(false,[(false,.sl 206 2 (A0 Z5 r))])]:=by
 refine fnk func260 rfl ?_;unfold ZaH at h;have k:Zcs ⟨#[63]⟩=true:=by decide
 simp only[fnS,f260,Zu,go_sem,seval,k];refine Zk h (fun i s st=>match s with|(b,d)=>IV [(3,.p false [.row 0]),(4,.p false [.row 1]),(8,yM (yV a)),(9,yL a.length),(10,yL i)] [.row 206 2 (A0 Z5 d) 2,.map .str .bool (A0 eSB b)] st) [(false,3,0)] [112,32] yF yD ?_ ?_;rintro _ _ ⟨b,d⟩ ⟨_,_,_⟩ _ e f m h _;simp only[go_sem,seval,Zd]at f;obtain ⟨⟨_,_,o,_,_⟩,_,_,A⟩:=f;subst A;have q:=WF.slotL m o (j:=0) rfl;have:=Z1 e;have:=Z3 e;have:=Zt (Z0 e) q;simp only[*,go_sem,seval];refine Zb h fun _ t h=>Za (ZdB t)<|yA ?_;iterate 2 refine yB h (fun _ h=>?_) fun _ h=>?_
 exact yR h [0,1];refine Zb h fun _ u h=>Za (ZiB u) ?_;obtain ⟨v,h⟩:=ZD h;simp only[go_sem]at v;obtain ⟨w,h⟩:=ZD h;try simp only[Nat.reduceLeDiff]at w
 simp only[*,go_sem,seval];exact yR h [386,1];exact yR h [0,1];rintro ⟨b,d⟩ ⟨_,_,_⟩ g _ h;simp only[go_sem,seval,Zd]at g;obtain ⟨⟨_,_,_,_,_⟩,_,_,A⟩:=g;subst A;have:=ZY (a.length);cases h;exact yD
theorem Zfg {b:Zc}{a:Zm}{r:(Int×Zc)}(h:QT b a=some r):ZhN prog J0 JF0 247 37 [(false,.sl 118 4 (A0 ZB b.rules)),(false,.sl 3 1 (A0 Ye b.ends)),(false,.sl 103 3 (A0 ZG b.alphas)),(false,.sl 108 8 (A0 Z6 b.nodes)),(false,.sl 60 2 (A0 Zo b.facts)),(false,.int .i64 b.tries)] (some (true,[(false,.str a.rel),(false,.sl 9 1 (A0 ZM a.args))])) [] [(false,[(false,.int .i64 r.1)])] [(false,.sl 118 4 (A0 ZB r.2.rules)),(false,.sl 3 1 (A0 Ye r.2.ends)),(false,.sl 103 3 (A0 ZG r.2.alphas)),(false,.sl 108 8 (A0 Z6 r.2.nodes)),(false,.sl 60 2 (A0 Zo r.2.facts)),(false,.int .i64 r.2.tries)]:=by
 refine fno func247 rfl ?_;unfold QT at h;simp only[fnO,f247,ZgG,gvC,go_sem,seval];refine Zk h (fun i _ st=>IV [(0,.bp 0 0),(3,.bp 6 0),(10,.p false [.row 3]),(11,.p false [.c (.int .i64 (b.alphas.length:Int))]),(12,.p false [.c (.int .i64 (i:Int))])] [.box 37 [.row 1,.row 2,.row 3,.row 4,.row 5,.c (.int .i64 b.tries)],.row 118 4 (A0 ZB b.rules) 2,.row 3 1 (A0 Ye b.ends) 2,.row 103 3 (A0 ZG b.alphas) 2,.row 108 8 (A0 Z6 b.nodes) 2,.row 60 2 (A0 Zo b.facts) 2,.box 100 [.c (.str a.rel),.row 7],.row 9 1 (A0 ZM a.args) 2] st) [] [0,1,2,3,4,5,7,6] yF ?_ ?_ ?_
 .simp only[*,go_sem,seval]
 .rintro i6 x7 ⟨⟩ ⟨sl,ob,n⟩ y1 e j k h l;simp only[go_sem,seval,Zd]at j;obtain ⟨⟨ae,ad,W,V,U⟩,S,R,P,f,O,N,M,L,T⟩:=j;subst T;have g:=WF.rowL k f;have q6:=Z1 e;have q7:=Z3 e;have q8:=Zt (Z0 e) g;simp only[*,go_sem,seval];refine Zb h fun v8 e9 h=>Za (ZbS e9) ?_;simp only[*,go_sem,seval];refine Ze h (fun m h=>?_) (fun m h=>?_)<;>try simp only[*,go_sem,seval]
  .replace h:=Zv h l;obtain rfl:=A6 h;simp only[*,go_sem,seval]
  .refine ⟨_,[],[0,1,2,3,4,5,6,7],(A6 h).symm,yF,?_⟩;simp only[*,go_sem,seval]
 .rintro ⟨⟩ ⟨sl,ob,n⟩ d ac h;simp only[go_sem,seval,Zd]at d;obtain ⟨⟨ab,aa,K,J,I⟩,H,G,F,E,D,C,B,A,T⟩:=d;subst T;have q14:=ZY (b.alphas.length);obtain ⟨o,h⟩:=ZD h;try simp only[Nat.reduceLeDiff]at o
  obtain rfl:=A6 h;simp only[*,go_sem,seval]
theorem ZcQ {A:List Zj}{r:Bool}(h:Zax A=some r):Zp prog J0 221 [(false,[.sl 206 2 (A0 Z5 A)])] [(false,[(false,.bool r)])]:=by
 refine fnk func221 rfl ?_;unfold Zax at h;simp only[fnS,f221,Zu,go_sem,seval];refine yB h (fun _ h=>?_) fun _ h=>?_;cases h;exact yD;refine Zk h (fun i _ st=>IV [(0,yM (yX A)),(8,yM (yX A)),(9,yL A.length),(10,yL i)] [] st) [] [] yF yD ?_ ?_;rintro _ _ ⟨⟩ ⟨_,_,_⟩ _ a b f h d;simp only[go_sem,seval,Zd]at b;obtain ⟨⟨g,_,_,_⟩,B⟩:=b;subst B;have k:=WF.slotL f g (j:=0) rfl;have:=Z1 a;have:=Z3 a;have:=Zt (Z0 a) k;simp only[*,go_sem,seval];refine Zb h fun _ l h=>Za (ZdB l)<|yA ?_;refine yB h (fun _ h=>?_) fun _ h=>?_;refine Zb h fun _ m h=>Za (Zav m)<|yA ?_;iterate 2 refine yB h (fun _ h=>?_) fun _ h=>?_
 obtain ⟨_,_,_,_,h⟩:=Za4 h;simp only[*,go_sem,seval];refine yB h (fun _ h=>?_) fun _ h=>?_;exact yR h [];replace h:=Zv h d;cases h;exact yD;refine ⟨_,[],[],(A6 h).symm,yF,?_⟩;iterate 2 (simp only[*,go_sem,seval];replace h:=Zv h d;cases h)
 simp only[*,go_sem,seval];rintro ⟨⟩ ⟨_,_,_⟩ e _ h;simp only[go_sem,seval,Zd]at e;obtain ⟨⟨_,_,_,_⟩,B⟩:=e;subst B;have:=ZY (A.length);cases h;exact yD
theorem ZhF {B:List Zj}{A:ByteArray}{r:(ByteArray×Bool)}(h:ZdJ B A=some r):Zp prog J0 251 [(false,[.sl 206 2 (A0 Z5 B)]),(false,[.str A])] [(false,[(false,.str r.1)]),(false,[(false,.bool r.2)])]:=by
 refine fnk func251 rfl ?_;unfold ZdJ at h;have e:Zcs ⟨#[]⟩=true:=by decide
 simp only[fnS,f251,Zu,go_sem,seval,e];refine Zb h fun _ f h=>Za (Zav f)<|yA ?_;refine yB h (fun _ h=>?_) fun _ h=>?_;cases h;exact yD;refine Zb h fun _ g h=>Za (ZdB g)<|yA ?_;refine yB h (fun _ h=>?_) fun _ h=>?_;refine Zk h (fun i _ st=>IV [(1,yM (.str A)),(14,yM (yX B)),(15,yL B.length),(16,yL i)] [] st) [] [] yF yD ?_ ?_;rintro _ _ ⟨⟩ ⟨_,_,_⟩ _ a b k h l;simp only[go_sem,seval,Zd]at b;obtain ⟨⟨_,m,_,_⟩,C⟩:=b;subst C;have o:=WF.slotL k m (j:=0) rfl;have:=Z1 a;have:=Z3 a;have:=Zt (Z0 a) o;simp only[*,go_sem,seval];refine yB h (fun _ h=>?_) fun _ h=>?_;replace h:=Zv h l;cases h;exact yD;exact yR h [];rintro ⟨⟩ ⟨_,_,_⟩ d _ h;simp only[go_sem,seval,Zd]at d;obtain ⟨⟨_,_,_,_⟩,C⟩:=d;subst C;have:=ZY (B.length);iterate 2 (cases h;exact yD)
end
section
theorem ZuP {A:Zq}{r:Zq}(h:ZiR A=some r):Zp prog J0 95 [(true,ZB A)] [(true,[(false,.str r.name),(false,.int .i64 r.priority),(false,.sl 105 5 (A0 ZW r.cond)),(false,.sl 173 3 (A0 Yd r.thn))])]:=by
 refine fnk func95 rfl ?_;unfold ZiR at h;simp only[fnS,f95,Zu,go_sem,seval];refine Zk h (fun i a st=>IV [(1,.bp 0 0),(2,.bp 1 0),(3,.bp 2 0),(4,yL i)] [zE 118 (ZB A),.box 118 [.c (.str ⟨#[]⟩),.c (.int .i64 0),.nil 105 5,.nil 173 3],.box 118 [.c (.str A.name),.c (.int .i64 A.priority),.row 3,.nil 173 3],.row 105 5 (A0 ZW a) 2] st) [(true,112,2)] [0,16,112,160] yF yD ?_ ?_;rintro _ _ a ⟨_,_,_⟩ _ b f m h _;simp only[go_sem,seval,Zd]at f;obtain ⟨⟨_,_,_,_⟩,o,_,_,_,B⟩:=f;subst B;have q:=WF.boxL m o (j:=2) rfl;have:=Z1 b;have:=Z3 b;have:=Zt (Z0 b) q;simp only[*,go_sem,seval];refine Zb h fun _ t h=>Za (Zgb t) ?_;obtain ⟨u,h⟩:=ZD h;try simp only[Nat.reduceLeDiff]at u
 simp only[*,go_sem,seval];exact yR h [0,1,2,228];rintro a ⟨_,_,_⟩ g _ h;simp only[go_sem,seval,Zd]at g;obtain ⟨⟨_,_,_,_⟩,_,_,_,_,B⟩:=g;subst B;have:=ZY (A.cond.length);simp only[*,go_sem,seval];refine Zk h (fun i d st=>IV [(1,.bp 0 0),(2,.bp 1 0),(3,.bp 2 0),(5,yL i)] [zE 118 (ZB A),.box 118 [.c (.str ⟨#[]⟩),.c (.int .i64 0),.nil 105 5,.nil 173 3],.box 118 [.c (.str A.name),.c (.int .i64 A.priority),.row 3,.row 4],.row 105 5 (A0 ZW a) 2,.row 173 3 (A0 Yd d) 2] st) [(true,2,3)] [0,1,2,3,100] yF yD ?_ ?_;rintro _ _ d ⟨_,_,_⟩ _ e k v h _;simp only[go_sem,seval,Zd]at k;obtain ⟨⟨_,_,_,_⟩,w,_,_,_,_,B⟩:=k;subst B;have x:=WF.boxL v w (j:=3) rfl;have:=Z1 e;have:=Z3 e;have:=Zt (Z0 e) x;simp only[*,go_sem,seval];refine Zb h fun _ y h=>Za (Zfz y) ?_;obtain ⟨z,h⟩:=ZD h;try simp only[Nat.reduceLeDiff]at z
 simp only[*,go_sem,seval];exact yR h [0,1,2,3,357];rintro d ⟨_,_,_⟩ l _ h;simp only[go_sem,seval,Zd]at l;obtain ⟨⟨_,_,_,_⟩,_,_,_,_,_,B⟩:=l;subst B;have:=ZY (A.thn.length);cases h;exact yD
theorem ZmX {A:Zi}{r:Zi}(h:Zfc A=some r):Zp prog J0 99 [(true,Yj A)] [(true,[(false,.sl 60 2 (A0 Zo r.facts)),(false,.sl 206 2 (A0 Z5 r.binding))])]:=by
 refine fnk func99 rfl ?_;unfold Zfc at h;simp only[fnS,f99,Zu,go_sem,seval];refine Zb h fun _ a h=>Za (Xe a)<|yA ?_;refine Zb h fun _ b h=>Za (Zjs b) ?_;cases h;exact yD
theorem Zjm {A:Zf}{r:Bool}(h:Zfu A=some r):Zp prog J0 101 [(true,Zo A)] [(false,[(false,.bool r)])]:=by
 refine fnk func101 rfl ?_;unfold Zfu at h;simp only[fnS,f101,Zu,go_sem,seval];refine Zk h (fun i _ st=>IV [(1,.bp 0 0),(3,yL i)] [zE 60 (Zo A)] st) [] [0] yF yD ?_ ?_;rintro _ _ ⟨⟩ ⟨_,_,_⟩ _ a b e h f;simp only[go_sem,seval,Zd]at b;obtain ⟨⟨_,_⟩,g,B⟩:=b;subst B;have k:=WF.boxL e g (j:=1) rfl;have:=Z1 a;have:=Z3 a;have:=Zt (Z0 a) k;simp only[*,go_sem,seval];refine Zb h fun _ l h=>Za (Zaw l)<|yA ?_;refine yB h (fun _ h=>?_) fun _ h=>?_;exact yR h [0];replace h:=Zv h f;cases h;exact yD;rintro ⟨⟩ ⟨_,_,_⟩ d _ h;simp only[go_sem,seval,Zd]at d;obtain ⟨⟨_,_⟩,_,B⟩:=d;subst B;have:=ZY (A.args.length);simp only[*,go_sem,seval];refine Zb h fun _ m h=>Za (ZjD m)<|yA ?_;refine yB h (fun _ h=>?_) fun _ h=>?_;iterate 2 (cases h;exact yD)
theorem Za0 {A:Zf}{B:Zf}{r:Int}(h:X0 A B=some r):Zp prog J0 144 [(true,Zo A),(true,Zo B)] [(false,[(false,.int .i64 r)])]:=by
 refine fnk func144 rfl ?_;unfold X0 at h;simp only[fnS,f144,Zu,go_sem,seval];refine yB h (fun _ h=>?_) fun _ h=>?_;refine Zk h (fun i _ st=>IV [(2,.bp 0 0),(3,.bp 1 0),(5,yL i)] [zE 60 (Zo A),zE 60 (Zo B)] st) [] [0,16] yF yD ?_ ?_;rintro _ _ ⟨⟩ ⟨_,_,_⟩ _ a d f h b;simp only[go_sem,seval,Zd]at d;obtain ⟨⟨_,_,_⟩,g,_,C⟩:=d;subst C;have k:=WF.boxL f g (j:=1) rfl;have:=Z1 a;have:=Z3 a;have:=Zt (Z0 a) k;simp only[*,go_sem,seval];refine yB h (fun _ h=>?_) fun _ h=>?_;obtain ⟨_,_,_,l,h⟩:=Za4 h;simp only[A9]at l;simp only[*,go_sem,seval];refine Zb h fun _ m h=>Za (Zf4 m)<|yA ?_;refine yB h (fun _ h=>?_) fun _ h=>?_;replace h:=Zv h b;cases h;exact yD;exact yR h [0,1];refine yB h (fun _ h=>?_) fun _ h=>?_;replace h:=Zv h b;cases h;exact yD;refine yB h (fun _ h=>?_) fun _ h=>?_;iterate 2 (replace h:=Zv h b;cases h;simp only[*,go_sem,seval])
 rintro ⟨⟩ ⟨_,_,_⟩ e _ h;simp only[go_sem,seval,Zd]at e;obtain ⟨⟨_,_,_⟩,_,_,C⟩:=e;subst C;have:=ZY (A.args.length);iterate 2 (simp only[*,go_sem,seval];(refine Ze h (fun _ h=>?_) fun _ h=>?_<;>try simp only[*,go_sem,seval]);cases h)
 simp only[*,go_sem,seval];cases h;exact yD;refine Zb h fun _ o h=>Za (Zn4 o) ?_;cases h;exact yD
theorem Zbz {A:ByteArray}{r:Bool}(h:ZbH A=some r):Zp prog J0 190 [(false,[.str A])] [(false,[(false,.bool r)])]:=by
 refine fnk func190 rfl ?_;unfold ZbH at h;simp only[fnS,f190,Zu,go_sem,seval];refine Zb h fun _ a h=>Za (Zaw a)<|yA ?_;refine yB h (fun _ h=>?_) fun _ h=>?_;cases h;exact yD;refine Zb h fun _ b h=>Za (ZaK b) ?_;cases h;exact yD
theorem Zew {A:Zm}{r:List ByteArray}(h:Zdo A=some r):Zp prog J0 232 [(true,Xu A)] [(false,[(false,.sl 9 1 (A0 ZM r))])]:=by
 refine fnk func232 rfl ?_;unfold Zdo at h;simp only[fnS,f232,Zu,go_sem,seval];refine Zk h (fun i a st=>IV [(1,.bp 0 0),(3,.p false [.row 1]),(4,yL i)] [.box 100 [.c (.str A.rel),.c (yV A.args)],.row 9 1 (A0 ZM a) 2] st) [] [0,32] yF yD ?_ ?_;rintro _ _ a ⟨_,_,_⟩ _ b d f h _;simp only[go_sem,seval,Zd]at d;obtain ⟨⟨_,_,_⟩,g,_,B⟩:=d;subst B;have k:=WF.boxL f g (j:=1) rfl;have:=Z1 b;have:=Z3 b;have:=Zt (Z0 b) k;simp only[*,go_sem,seval];refine Zb h fun _ l h=>Za (ZaK l)<|yA ?_;refine yB h (fun _ h=>?_) fun _ h=>?_;refine Zb h fun _ m h=>Za (Zcr m)<|yA ?_;exact yR h [0,274];exact yR h [0,1];rintro a ⟨_,_,_⟩ e _ h;simp only[go_sem,seval,Zd]at e;obtain ⟨⟨_,_,_⟩,_,_,B⟩:=e;subst B;have:=ZY (A.args.length);cases h;exact yD
theorem Zgh {A:List Zj}{a:ByteArray}{r:List Zj}(h:ZaP A a=some r):ZsC prog J0 JF0 234 (false,[(false,.sl 206 2 (A0 Z5 A))]) [(false,[.str a])] [(false,[(false,.sl 206 2 (A0 Z5 r))])]:=by
 refine fng func234 rfl ?_;unfold ZaP at h;have j:Zcs ⟨#[63]⟩=true:=by decide
 simp only[fnG,f234,Zrh,go_sem,seval,j];refine Zb h fun O K h=>Za (ZaK K) ?_;simp only[*,go_sem,seval];refine Ze h (fun c2 h=>?_) (fun c2 h=>?_)<;>try simp only[*,go_sem,seval]
 .refine Zk h (fun i _ st=>IV [(0,.p false [.row 0]),(1,.p false [.c (.str a)]),(5,.p false [.c (.int .i64 (i:Int))])] [.row 206 2 (A0 Z5 A) 2] st) [] [0] yF ?_ ?_ ?_
  .simp only[*,go_sem,seval]
  .rintro P M ⟨⟩ ⟨sl,ob,n⟩ L d g k h l;simp only[go_sem,seval,Zd]at g;obtain ⟨⟨J,I,H⟩,e,C⟩:=g;subst C;have f:=WF.rowL k e;have q8:=Z1 d;have q9:=Z3 d;have q10:=Zt (Z0 d) f;simp only[*,go_sem,seval];refine Ze h (fun m h=>?_) (fun m h=>?_)<;>try simp only[*,go_sem,seval]
   .replace h:=Zv h l;obtain rfl:=A6 h;simp only[*,go_sem,seval]
   .refine ⟨_,[],[0],(A6 h).symm,yF,?_⟩;simp only[*,go_sem,seval]
  .rintro ⟨⟩ ⟨sl,ob,n⟩ b G h;simp only[go_sem,seval,Zd]at b;obtain ⟨⟨F,E,D⟩,B,C⟩:=b;subst C;have q15:=ZY (A.length);simp only[*,go_sem,seval];refine Zb h fun N o h=>Za (Zjj o) ?_;obtain ⟨q,h⟩:=ZD h;simp only[go_sem]at q;obtain ⟨t,h⟩:=ZD h;try simp only[Nat.reduceLeDiff]at t
   obtain rfl:=A6 h;simp only[*,go_sem,seval]
 .obtain rfl:=A6 h;simp only[*,go_sem,seval]
theorem Znl {I:Zc}{String_1:Zc}{r:Bool}(h:ZcJ I String_1=some r):Zp prog J0 105 [(true,YD I),(true,YD String_1)] [(false,[(false,.bool r)])]:=by
 refine fnk func105 rfl ?_;unfold ZcJ at h;simp only[fnS,f105,Zu,go_sem,seval];iterate 3 ((refine Ze h (fun _ h=>?_) fun _ h=>?_<;>try simp only[*,go_sem,seval]);cases h;simp only[*,go_sem,seval])
 refine Zk h (fun i _ st=>IV [(2,.bp 0 0),(3,.bp 1 0),(5,yL i)] [.box 37 [.c (yW I.rules),.c (yY I.ends),.c (yZ I.alphas),.c (zA I.nodes),.c (yU I.facts),.c (.int .i64 I.tries)],.box 37 [.c (yW String_1.rules),.c (yY String_1.ends),.c (yZ String_1.alphas),.c (zA String_1.nodes),.c (yU String_1.facts),.c (.int .i64 String_1.tries)]] st) [] [0,16] yF yD ?_ ?_;rintro _ _ ⟨⟩ ⟨_,_,_⟩ _ a f q h t;simp only[go_sem,seval,Zd]at f;obtain ⟨⟨_,_,_⟩,u,_,J⟩:=f;subst J;have v:=WF.boxL q u (j:=2) rfl;have:=Z1 a;have:=Z3 a;have:=Zt (Z0 a) v;obtain ⟨_,_,_,w,h⟩:=Za4 h;simp only[A9]at w;simp only[*,go_sem,seval];refine Zb h fun _ x h=>Za (ZdK x)<|yA ?_;refine yB h (fun _ h=>?_) fun _ h=>?_;exact yR h [0,1];replace h:=Zv h t;cases h;exact yD;rintro ⟨⟩ ⟨_,_,_⟩ g _ h;simp only[go_sem,seval,Zd]at g;obtain ⟨⟨_,_,_⟩,_,_,J⟩:=g;subst J;have:=ZY (I.alphas.length)
 simp only[*,go_sem,seval];refine Zk h (fun i _ st=>IV [(2,.bp 0 0),(3,.bp 1 0),(6,yL i)] [.box 37 [.c (yW I.rules),.c (yY I.ends),.c (yZ I.alphas),.c (zA I.nodes),.c (yU I.facts),.c (.int .i64 I.tries)],.box 37 [.c (yW String_1.rules),.c (yY String_1.ends),.c (yZ String_1.alphas),.c (zA String_1.nodes),.c (yU String_1.facts),.c (.int .i64 String_1.tries)]] st) [] [0,1] yF yD ?_ ?_;rintro _ _ ⟨⟩ ⟨_,_,_⟩ _ b k y h d;simp only[go_sem,seval,Zd]at k;obtain ⟨⟨_,_,_⟩,z,_,J⟩:=k;subst J;have A:=WF.boxL y z (j:=3) rfl;have:=Z1 b;have:=Z3 b;have:=Zt (Z0 b) A;obtain ⟨_,_,_,B,h⟩:=Za4 h;simp only[A9]at B;simp only[*,go_sem,seval];refine yB h (fun _ h=>?_) fun _ h=>?_;replace h:=Zv h d;cases h;exact yD;refine yB h (fun _ h=>?_) fun _ h=>?_;replace h:=Zv h d;cases h;exact yD;refine Zb h fun _ C h=>Za (Zj9 C)<|yA ?_;refine yB h (fun _ h=>?_) fun _ h=>?_
 exact yR h [0,1];replace h:=Zv h d;cases h;exact yD;rintro ⟨⟩ ⟨_,_,_⟩ l _ h;simp only[go_sem,seval,Zd]at l;obtain ⟨⟨_,_,_⟩,_,_,J⟩:=l;subst J;have:=ZY (I.nodes.length);simp only[*,go_sem,seval];refine Zk h (fun i _ st=>IV [(2,.bp 0 0),(3,.bp 1 0),(7,yL i)] [.box 37 [.c (yW I.rules),.c (yY I.ends),.c (yZ I.alphas),.c (zA I.nodes),.c (yU I.facts),.c (.int .i64 I.tries)],.box 37 [.c (yW String_1.rules),.c (yY String_1.ends),.c (yZ String_1.alphas),.c (zA String_1.nodes),.c (yU String_1.facts),.c (.int .i64 String_1.tries)]] st) [] [0,1] yF yD ?_ ?_;rintro _ _ ⟨⟩ ⟨_,_,_⟩ _ e m D h E;simp only[go_sem,seval,Zd]at m;obtain ⟨⟨_,_,_⟩,F,_,J⟩:=m;subst J;have G:=WF.boxL D F (j:=1) rfl;have:=Z1 e;have:=Z3 e;have:=Zt (Z0 e) G;obtain ⟨_,_,_,H,h⟩:=Za4 h;simp only[A9]at H;simp only[*,go_sem,seval];refine yB h (fun _ h=>?_) fun _ h=>?_;replace h:=Zv h E
 cases h;exact yD;exact yR h [0,1];rintro ⟨⟩ ⟨_,_,_⟩ o _ h;simp only[go_sem,seval,Zd]at o;obtain ⟨⟨_,_,_⟩,_,_,J⟩:=o;subst J;have:=ZY (I.ends.length);cases h;exact yD
theorem Zc0 {A:List Zj}{r:Bool}(h:Zas A=some r):Zp prog J0 156 [(false,[.sl 206 2 (A0 Z5 A)])] [(false,[(false,.bool r)])]:=by
 refine fnk func156 rfl ?_;unfold Zas at h;simp only[fnS,f156,Zu,go_sem,seval];refine Zk h (fun i _ st=>IV [(0,yM (yX A)),(3,yL i)] [] st) [] [] yF yD ?_ ?_;rintro _ _ ⟨⟩ ⟨_,_,_⟩ _ a b f h d;simp only[go_sem,seval,Zd]at b;obtain ⟨⟨g,_⟩,B⟩:=b;subst B;have k:=WF.slotL f g (j:=0) rfl;have:=Z1 a;have:=Z3 a;have:=Zt (Z0 a) k;simp only[*,go_sem,seval];refine Zb h fun _ l h=>Za (ZaK l)<|yA ?_;refine yB h (fun _ h=>?_) fun _ h=>?_;refine Zb h fun _ m h=>Za (Zaw m)<|yA ?_;iterate 2 refine yB h (fun _ h=>?_) fun _ h=>?_
 obtain ⟨_,_,_,_,h⟩:=Za4 h;simp only[*,go_sem,seval];refine yB h (fun _ h=>?_) fun _ h=>?_;exact yR h [];replace h:=Zv h d;cases h;exact yD;refine ⟨_,[],[],(A6 h).symm,yF,?_⟩;iterate 2 (simp only[*,go_sem,seval];replace h:=Zv h d;cases h)
 simp only[*,go_sem,seval];rintro ⟨⟩ ⟨_,_,_⟩ e _ h;simp only[go_sem,seval,Zd]at e;obtain ⟨⟨_,_⟩,B⟩:=e;subst B;have:=ZY (A.length);cases h;exact yD
theorem Zhg {B:List Zj}{A:ByteArray}{r:(ByteArray×Bool)}(h:Zdz B A=some r):Zp prog J0 192 [(false,[.sl 206 2 (A0 Z5 B)]),(false,[.str A])] [(false,[(false,.str r.1)]),(false,[(false,.bool r.2)])]:=by
 refine fnk func192 rfl ?_;unfold Zdz at h;have e:Zcs ⟨#[]⟩=true:=by decide
 simp only[fnS,f192,Zu,go_sem,seval,e];refine Zb h fun _ f h=>Za (Zaw f)<|yA ?_;refine yB h (fun _ h=>?_) fun _ h=>?_;cases h;exact yD;refine Zk h (fun i _ st=>IV [(0,yM (yX B)),(1,yM (.str A)),(6,yL i)] [] st) [] [] yF yD ?_ ?_;rintro _ _ ⟨⟩ ⟨_,_,_⟩ _ a b g h k;simp only[go_sem,seval,Zd]at b;obtain ⟨⟨l,_,_⟩,C⟩:=b;subst C;have m:=WF.slotL g l (j:=0) rfl;have:=Z1 a;have:=Z3 a;have:=Zt (Z0 a) m;simp only[*,go_sem,seval];refine yB h (fun _ h=>?_) fun _ h=>?_;refine Zb h fun _ o h=>Za (ZaK o)<|yA ?_;refine yB h (fun _ h=>?_) fun _ h=>?_;replace h:=Zv h k;cases h;exact yD;exact yR h [];exact yR h [];rintro ⟨⟩ ⟨_,_,_⟩ d _ h;simp only[go_sem,seval,Zd]at d;obtain ⟨⟨_,_,_⟩,C⟩:=d;subst C;have:=ZY (B.length);cases h;exact yD
theorem Zl5 {A:List Zi}{B:List Zi}{r:Bool}(h:Zc9 A B=some r):Zp prog J0 108 [(false,[.sl 142 2 (A0 Yj A)]),(false,[.sl 142 2 (A0 Yj B)])] [(false,[(false,.bool r)])]:=by
 refine fnk func108 rfl ?_;unfold Zc9 at h;simp only[fnS,f108,Zu,go_sem,seval];refine yB h (fun _ h=>?_) fun _ h=>?_;cases h;exact yD;refine Zk h (fun i _ st=>IV [(0,yM (zD A)),(1,yM (zD B)),(5,yL i)] [] st) [] [] yF yD ?_ ?_;rintro _ _ ⟨⟩ ⟨_,_,_⟩ _ a b e h f;simp only[go_sem,seval,Zd]at b;obtain ⟨⟨g,_,_⟩,C⟩:=b;subst C;have k:=WF.slotL e g (j:=0) rfl;have:=Z1 a;have:=Z3 a;have:=Zt (Z0 a) k;obtain ⟨_,_,_,l,h⟩:=Za4 h;simp only[A9]at l;simp only[*,go_sem,seval];refine Zb h fun _ m h=>Za (ZiD m)<|yA ?_;refine yB h (fun _ h=>?_) fun _ h=>?_;refine Zb h fun _ o h=>Za (Zk1 o)<|yA ?_;refine yB h (fun _ h=>?_) fun _ h=>?_;refine ⟨_,[],[],(A6 h).symm,yF,?_⟩;iterate 2 (simp only[*,go_sem,seval];replace h:=Zv h f;cases h)
 simp only[*,go_sem,seval];rintro ⟨⟩ ⟨_,_,_⟩ d _ h;simp only[go_sem,seval,Zd]at d;obtain ⟨⟨_,_,_⟩,C⟩:=d;subst C;have:=ZY (A.length);cases h;exact yD
theorem Zt5 {a:Zc}{A:Int}{r:List Zh}(h:Zit a A=some r):Zp prog J0 110 [(true,YD a),(false,[.int .i64 A])] [(false,[(false,.sl 105 5 (A0 ZW r))])]:=by
 refine fnk func110 rfl ?_;unfold Zit at h;simp only[fnS,f110,Zu,go_sem,seval];refine Zba h (fun s st=>match s with|(d,e)=>IV [(1,yM (.int .i64 e)),(2,.bp 0 0),(5,.p false [.row 1])] [.box 37 [.c (yW a.rules),.c (yY a.ends),.c (yZ a.alphas),.c (zA a.nodes),.c (yU a.facts),.c (.int .i64 a.tries)],.row 105 5 (A0 ZW d) 2] st) [] [0,32] yF yD ?_;rintro ⟨d,e⟩ ⟨_,_,_⟩ _ f _ h g;simp only[go_sem,seval,Zd]at f;obtain ⟨⟨_,_,_⟩,_,_,B⟩:=f;subst B;simp only[*,go_sem,seval];refine Zb h fun _ i h=>Za (ZbU i)<|yA ?_;refine yB h (fun _ h=>?_) fun _ h=>?_;obtain ⟨_,_,_,_,h⟩:=Za4 h;simp only[*,go_sem,seval];refine Zb h fun _ j h=>Za (Zgb j) ?_;obtain ⟨_,h⟩:=ZD h;simp only[*,go_sem,seval];refine yB h (fun _ h=>?_) fun _ h=>?_;replace h:=Zv h g;cases h;exact yD;exact yR h [0,242];replace h:=Zv h g;cases h;exact yD
theorem Zpm {A:List Zh}{r:List Zh}(h:Zd4 A=some r):Zp prog J0 162 [(false,[.sl 105 5 (A0 ZW A)])] [(false,[(false,.sl 105 5 (A0 ZW r))])]:=by
 refine fnk func162 rfl ?_;unfold Zd4 at h;simp only[fnS,f162,Zu,go_sem,seval];refine Zk h (fun i a st=>IV [(3,.p false [.row 0]),(6,yM (zB A)),(7,yL A.length),(8,yL i)] [.row 105 5 (A0 ZW a) 2] st) [(false,3,0)] [80] yF yD ?_ ?_;rintro _ _ a ⟨_,_,_⟩ _ b d f h _;simp only[go_sem,seval,Zd]at d;obtain ⟨⟨_,g,_,_⟩,_,B⟩:=d;subst B;have k:=WF.slotL f g (j:=0) rfl;have:=Z1 b;have:=Z3 b;have:=Zt (Z0 b) k;simp only[*,go_sem,seval];refine Zb h fun _ l h=>Za (Zah l) ?_;obtain ⟨m,h⟩:=ZD h;try simp only[Nat.reduceLeDiff]at m
 simp only[*,go_sem,seval];exact yR h [145];rintro a ⟨_,_,_⟩ e _ h;simp only[go_sem,seval,Zd]at e;obtain ⟨⟨_,_,_,_⟩,_,B⟩:=e;subst B;have:=ZY (A.length);cases h;exact yD
theorem Znc {A:List Zi}{r:List Zi}(h:Zdm A=some r):Zp prog J0 74 [(false,[.sl 142 2 (A0 Yj A)])] [(false,[(false,.sl 142 2 (A0 Yj r))])]:=by
 refine fnk func74 rfl ?_;unfold Zdm at h;simp only[fnS,f74,Zu,go_sem,seval];refine Zk h (fun i a st=>IV [(3,.p false [.row 0]),(6,yM (zD A)),(7,yL A.length),(8,yL i)] [.row 142 2 (A0 Yj a) 2] st) [(false,3,0)] [80] yF yD ?_ ?_;rintro _ _ a ⟨_,_,_⟩ _ b d f h _;simp only[go_sem,seval,Zd]at d;obtain ⟨⟨_,g,_,_⟩,_,B⟩:=d;subst B;have k:=WF.slotL f g (j:=0) rfl;have:=Z1 b;have:=Z3 b;have:=Zt (Z0 b) k;simp only[*,go_sem,seval];refine Zb h fun _ l h=>Za (Yx l)<|yA ?_;refine Zb h fun _ m h=>Za (ZfH m) ?_;obtain ⟨o,h⟩:=ZD h;try simp only[Nat.reduceLeDiff]at o
 simp only[*,go_sem,seval];exact yR h [225];rintro a ⟨_,_,_⟩ e _ h;simp only[go_sem,seval,Zd]at e;obtain ⟨⟨_,_,_,_⟩,_,B⟩:=e;subst B;have:=ZY (A.length);cases h;exact yD
theorem Zbs {A:Zm}{r:Bool}(h:Q8 A=some r):Zp prog J0 220 [(true,Xu A)] [(false,[(false,.bool r)])]:=by
 refine fnk func220 rfl ?_;unfold Q8 at h;simp only[fnS,f220,Zu,go_sem,seval];refine Zb h fun _ e h=>Za (Zir e)<|yA ?_;iterate 2 refine yB h (fun _ h=>?_) fun _ h=>?_
 cases h;exact yD;refine Zk h (fun i _ st=>IV [(16,yM (yV A.args)),(17,yL A.args.length),(18,yL i)] [] st) [] [] yF yD ?_ ?_;rintro _ _ ⟨⟩ ⟨_,_,_⟩ _ a b f h g;simp only[go_sem,seval,Zd]at b;obtain ⟨⟨k,_,_⟩,B⟩:=b;subst B;have l:=WF.slotL f k (j:=0) rfl;have:=Z1 a;have:=Z3 a;have:=Zt (Z0 a) l;simp only[*,go_sem,seval];refine Zb h fun _ m h=>Za (Zbr m)<|yA ?_;refine yB h (fun _ h=>?_) fun _ h=>?_;exact yR h [];replace h:=Zv h g;cases h;exact yD;rintro ⟨⟩ ⟨_,_,_⟩ d _ h;simp only[go_sem,seval,Zd]at d;obtain ⟨⟨_,_,_⟩,B⟩:=d;subst B;have:=ZY (A.args.length);iterate 2 (cases h;exact yD)
theorem Zji {A:Zq}{B:Int}{r:List ByteArray}(h:ZcA A B=some r):Zp prog J0 200 [(true,ZB A),(false,[.int .i64 B])] [(false,[(false,.sl 9 1 (A0 ZM r))])]:=by
 refine fnk func200 rfl ?_;unfold ZcA at h;simp only[fnS,f200,Zu,go_sem,seval];refine Zk h (fun i a st=>IV [(1,yM (.int .i64 B)),(5,.p false [.row 0]),(9,yM (zB A.cond)),(10,yL A.cond.length),(11,yL i)] [.row 9 1 (A0 ZM a) 2] st) [(false,5,0)] [112] yF yD ?_ ?_;rintro _ _ a ⟨_,_,_⟩ _ b d f h _;simp only[go_sem,seval,Zd]at d;obtain ⟨⟨_,_,g,_,_⟩,_,C⟩:=d;subst C;have k:=WF.slotL f g (j:=0) rfl;have:=Z1 b;have:=Z3 b;have:=Zt (Z0 b) k;simp only[*,go_sem,seval];iterate 2 refine yB h (fun _ h=>?_) fun _ h=>?_
 refine Zb h fun _ l h=>Za (Zfa l) ?_;obtain ⟨_,h⟩:=ZD h;simp only[*,go_sem,seval];exact yR h [321];exact yR h [0];exact yR h [0];rintro a ⟨_,_,_⟩ e _ h;simp only[go_sem,seval,Zd]at e;obtain ⟨⟨_,_,_,_,_⟩,_,C⟩:=e;subst C;have:=ZY (A.cond.length);simp only[*,go_sem,seval];refine Zb h fun _ m h=>Za (Zdt m) ?_;cases h;exact yD
end
section
theorem Zgt {A:Zh}{r:List ByteArray}(h:ZbJ A=some r):Zp prog J0 239 [(true,ZW A)] [(false,[(false,.sl 9 1 (A0 ZM r))])]:=by
 refine fnk func239 rfl ?_;unfold ZbJ at h;simp only[fnS,f239,Zu,go_sem,seval];refine Zb h fun _ a h=>Za (Zl4 a)<|yA ?_;refine Zb h fun _ b h=>Za (Zfa b)<|yA ?_;refine Zb h fun _ c h=>Za (Zdt c) ?_;cases h;exact yD
theorem ZcI {A:Zf}{B:Zf}{r:Int}(h:QD A B=some r):Zp prog J0 166 [(true,Zo A),(true,Zo B)] [(false,[(false,.int .i64 r)])]:=by
 refine fnk func166 rfl ?_;unfold QD at h;simp only[fnS,f166,Zu,go_sem,seval];refine Zb h fun _ f h=>Za (ZlD f)<|yA ?_;refine yB h (fun _ h=>?_) fun _ h=>?_;cases h;exact yD;refine Zk h (fun i _ st=>IV [(2,.bp 0 0),(3,.bp 1 0),(6,yL i)] [zE 60 (Zo A),zE 60 (Zo B)] st) [] [0,16] yF yD ?_ ?_;rintro _ _ ⟨⟩ ⟨_,_,_⟩ _ a b g h d;simp only[go_sem,seval,Zd]at b;obtain ⟨⟨_,_,_⟩,k,_,C⟩:=b;subst C;have l:=WF.boxL g k (j:=1) rfl;have:=Z1 a;have:=Z3 a;have:=Zt (Z0 a) l;simp only[*,go_sem,seval];refine yB h (fun _ h=>?_) fun _ h=>?_;obtain ⟨_,_,_,m,h⟩:=Za4 h;simp only[A9]at m;simp only[*,go_sem,seval];refine Zb h fun _ o h=>Za (ZlF o)<|yA ?_;refine yB h (fun _ h=>?_) fun _ h=>?_;replace h:=Zv h d;cases h;exact yD;exact yR h [0,1];refine Zb h fun _ q h=>Za (Zam q) ?_;replace h:=Zv h d;cases h;exact yD;rintro ⟨⟩ ⟨_,_,_⟩ e _ h;simp only[go_sem,seval,Zd]at e;obtain ⟨⟨_,_,_⟩,_,_,C⟩:=e;subst C
 have:=ZY (A.args.length);simp only[*,go_sem,seval];refine Zb h fun _ t h=>Za (Zam t) ?_;cases h;exact yD
theorem Zqp {A:Zq}{String_1:Zq}{r:Bool}(h:Zfq A String_1=some r):Zp prog J0 210 [(true,ZB A),(true,ZB String_1)] [(false,[(false,.bool r)])]:=by
 refine fnk func210 rfl ?_;unfold Zfq at h;simp only[fnS,f210,Zu,go_sem,seval];iterate 2 refine yB h (fun _ h=>?_) fun _ h=>?_
 iterate 2 (cases h;simp only[*,go_sem,seval];refine Ze h (fun _ h=>?_) fun _ h=>?_<;>try simp only[*,go_sem,seval])
 cases h;exact yD;refine Zk h (fun i _ st=>IV [(2,.bp 0 0),(3,.bp 1 0),(39,yL A.cond.length),(40,yL i)] [zE 118 (ZB A),zE 118 (ZB String_1)] st) [] [0,16] yF yD ?_ ?_;rintro _ _ ⟨⟩ ⟨_,_,_⟩ _ a d l h m;simp only[go_sem,seval,Zd]at d;obtain ⟨⟨_,_,_,_⟩,o,_,B⟩:=d;subst B;have q:=WF.boxL l o (j:=2) rfl;have:=Z1 a;have:=Z3 a;have:=Zt (Z0 a) q;obtain ⟨_,_,_,t,h⟩:=Za4 h;simp only[A9]at t;simp only[*,go_sem,seval];refine Zb h fun _ u h=>Za (ZgD u)<|yA ?_;refine yB h (fun _ h=>?_) fun _ h=>?_;exact yR h [0,1];replace h:=Zv h m;cases h;exact yD;rintro ⟨⟩ ⟨_,_,_⟩ e _ h;simp only[go_sem,seval,Zd]at e;obtain ⟨⟨_,_,_,_⟩,_,_,B⟩:=e;subst B;have:=ZY (A.cond.length);simp only[*,go_sem,seval];refine Zk h (fun i _ st=>IV [(2,.bp 0 0),(3,.bp 1 0),(58,yL A.thn.length),(59,yL i)] [zE 118 (ZB A),zE 118 (ZB String_1)] st) [] [0,1] yF yD ?_ ?_
 rintro _ _ ⟨⟩ ⟨_,_,_⟩ _ b f v h g;simp only[go_sem,seval,Zd]at f;obtain ⟨⟨_,_,_,_⟩,w,_,B⟩:=f;subst B;have x:=WF.boxL v w (j:=3) rfl;have:=Z1 b;have:=Z3 b;have:=Zt (Z0 b) x;obtain ⟨_,_,_,y,h⟩:=Za4 h;simp only[A9]at y;simp only[*,go_sem,seval];refine yB h (fun _ h=>?_) fun _ h=>?_;replace h:=Zv h g;cases h;exact yD;refine Zb h fun _ z h=>Za (ZbS z)<|yA ?_;refine yB h (fun _ h=>?_) fun _ h=>?_;exact yR h [0,1];replace h:=Zv h g;cases h;exact yD;rintro ⟨⟩ ⟨_,_,_⟩ k _ h;simp only[go_sem,seval,Zd]at k;obtain ⟨⟨_,_,_,_⟩,_,_,B⟩:=k;subst B;have:=ZY (A.thn.length);iterate 2 (cases h;exact yD)
theorem Znv {A:List Zi}{B:List Zi}{r:Bool}(h:Zc2 A B=some r):Zp prog J0 172 [(false,[.sl 142 2 (A0 Yj A)]),(false,[.sl 142 2 (A0 Yj B)])] [(false,[(false,.bool r)])]:=by
 refine fnk func172 rfl ?_;unfold Zc2 at h;simp only[fnS,f172,Zu,go_sem,seval];refine yB h (fun _ h=>?_) fun _ h=>?_;cases h;exact yD;refine Zk h (fun i _ st=>IV [(0,yM (zD A)),(1,yM (zD B)),(12,yL A.length),(13,yL i)] [] st) [] [] yF yD ?_ ?_;rintro _ _ ⟨⟩ ⟨_,_,_⟩ _ a b e h f;simp only[go_sem,seval,Zd]at b;obtain ⟨⟨g,_,_,_⟩,C⟩:=b;subst C;have k:=WF.slotL e g (j:=0) rfl;have:=Z1 a;have:=Z3 a;have:=Zt (Z0 a) k;obtain ⟨_,_,_,l,h⟩:=Za4 h;simp only[A9]at l;simp only[*,go_sem,seval];refine Zb h fun _ m h=>Za (Zfx m)<|yA ?_;refine yB h (fun _ h=>?_) fun _ h=>?_;refine Zb h fun _ o h=>Za (ZnS o)<|yA ?_;refine yB h (fun _ h=>?_) fun _ h=>?_;refine ⟨_,[],[],(A6 h).symm,yF,?_⟩;iterate 2 (simp only[*,go_sem,seval];replace h:=Zv h f;cases h)
 simp only[*,go_sem,seval];rintro ⟨⟩ ⟨_,_,_⟩ d _ h;simp only[go_sem,seval,Zd]at d;obtain ⟨⟨_,_,_,_⟩,C⟩:=d;subst C;have:=ZY (A.length);cases h;exact yD
theorem ZnB {A:Zq}{r:List Zj}(h:Zdi A=some r):Zp prog J0 245 [(true,ZB A)] [(false,[(false,.sl 206 2 (A0 Z5 r))])]:=by
 refine fnk func245 rfl ?_;unfold Zdi at h;simp only[fnS,f245,Zu,go_sem,seval];refine Zk h (fun i a st=>IV [(3,.p false [.row 0]),(7,yM (zB A.cond)),(8,yL A.cond.length),(9,yL i)] [.row 9 1 (A0 ZM a) 2] st) [(false,3,0)] [112] yF yD ?_ ?_;rintro _ _ a ⟨_,_,_⟩ _ b d f h _;simp only[go_sem,seval,Zd]at d;obtain ⟨⟨_,g,_,_⟩,_,B⟩:=d;subst B;have k:=WF.slotL f g (j:=0) rfl;have:=Z1 b;have:=Z3 b;have:=Zt (Z0 b) k;simp only[*,go_sem,seval];refine Zb h fun _ l h=>Za (Zl4 l) ?_;obtain ⟨_,h⟩:=ZD h;simp only[*,go_sem,seval];exact yR h [129];rintro a ⟨_,_,_⟩ e _ h;simp only[go_sem,seval,Zd]at e;obtain ⟨⟨_,_,_,_⟩,_,B⟩:=e;subst B;have:=ZY (A.cond.length);simp only[*,go_sem,seval];refine Zb h fun _ m h=>Za (Zh2 m) ?_;cases h;exact yD
theorem Zlo {A:Zm}{r:Zm}(h:ZeY A=some r):Zp prog J0 248 [(true,Xu A)] [(true,[(false,.str r.rel),(false,.sl 9 1 (A0 ZM r.args))])]:=by
 refine fnk func248 rfl ?_;unfold ZeY at h;simp only[fnS,f248,Zu,go_sem,seval];refine Zb h fun _ a h=>Za (Zh2 a)<|yA ?_;refine Zb h fun _ b h=>Za (Zh1 b) ?_;cases h;exact yD
theorem ZtH {a:List Zj}{b:ByteArray}{d:ByteArray}{r:((List Zj)×Bool)}(h:Ziv a b d=some r):Zp prog J0 222 [(false,[.sl 206 2 (A0 Z5 a)]),(false,[.str b]),(false,[.str d])] [(false,[(false,.sl 206 2 (A0 Z5 r.1))]),(false,[(false,.bool r.2)])]:=by
 refine fnk func222 rfl ?_;unfold Ziv at h;simp only[fnS,f222,Zu,go_sem,seval];refine Zb h fun _ o h=>Za (ZcQ o)<|yA ?_;refine yB h (fun _ h=>?_) fun _ h=>?_;refine Zb h fun _ q h=>Za (ZdB q)<|yA ?_;refine yB h (fun _ h=>?_) fun _ h=>?_;refine Zb h fun _ t h=>Za (Zav t)<|yA ?_;refine yB h (fun _ h=>?_) fun _ h=>?_;refine Zb h fun _ u h=>Za (ZhF u)<|yA ?_;iterate 2 refine yB h (fun _ h=>?_) fun _ h=>?_
 refine Zb h fun _ v h=>Za (ZfH v) ?_;iterate 2 (cases h;exact yD)
 refine yB h (fun _ h=>?_) fun _ h=>?_;cases h;exact yD;refine Zk h (fun i s st=>match s with|(e,f)=>IV [(1,yM (.str b)),(2,yM (.str d)),(10,.p false [.row 0]),(11,yM (.bool f)),(42,yM (yX a)),(43,yL a.length),(44,yL i)] [.row 206 2 (A0 Z5 e) 2] st) [(false,10,0)] [512] yF yD ?_ ?_;rintro _ _ ⟨e,f⟩ ⟨_,_,_⟩ _ g l x h _;simp only[go_sem,seval,Zd]at l;obtain ⟨⟨_,_,_,_,y,_,_⟩,_,G⟩:=l;subst G;have z:=WF.slotL x y (j:=0) rfl;have:=Z1 g;have:=Z3 g;have:=Zt (Z0 g) z;simp only[*,go_sem,seval];refine yB h (fun _ h=>?_) fun _ h=>?_;obtain ⟨A,h⟩:=ZD h;try simp only[Nat.reduceLeDiff]at A
 simp only[*,go_sem,seval];exact yR h [257];refine Ze h (fun k h=>?_) (fun k h=>?_);have B:=k;obtain ⟨C,h⟩:=ZD h;try simp only[Nat.reduceLeDiff]at C
 simp only[*,go_sem,seval];exact yR h [257];have B:=k;obtain ⟨D,h⟩:=ZD h;try simp only[Nat.reduceLeDiff]at D
 obtain ⟨E,h⟩:=ZD h;try simp only[Nat.reduceLeDiff]at E
 simp only[*,go_sem,seval];exact yR h [385];rintro ⟨e,f⟩ ⟨_,_,_⟩ m _ h;simp only[go_sem,seval,Zd]at m;obtain ⟨⟨_,_,_,_,_,_,_⟩,_,G⟩:=m;subst G;have:=ZY (a.length);simp only[*,go_sem,seval];refine yB h (fun _ h=>?_) fun _ h=>?_;cases h;exact yD;obtain ⟨F,h⟩:=ZD h;try simp only[Nat.reduceLeDiff]at F
 iterate 4 (cases h;exact yD)
theorem ZuD {a:Zc}{F:Int}{r:List Zh}(h:Zis a F=some r):Zp prog J0 218 [(true,YD a),(false,[.int .i64 F])] [(false,[(false,.sl 105 5 (A0 ZW r))])]:=by
 refine fnk func218 rfl ?_;unfold Zis at h;simp only[fnS,f218,Zu,go_sem,seval];iterate 2 ((refine Ze h (fun _ h=>?_) fun _ h=>?_<;>try simp only[*,go_sem,seval]);cases h;simp only[*,go_sem,seval])
 refine Zba h (fun s st=>match s with|(b,d)=>IV [(1,yM (.int .i64 d)),(2,.bp 0 0),(5,.p false [.row 1])] [.box 37 [.c (yW a.rules),.c (yY a.ends),.c (yZ a.alphas),.c (zA a.nodes),.c (yU a.facts),.c (.int .i64 a.tries)],.row 3 1 (A0 Ye b) 2] st) [(false,5,0)] [0,192] yF yD ?_;rintro ⟨b,d⟩ ⟨_,_,_⟩ _ i _ h j;simp only[go_sem,seval,Zd]at i;obtain ⟨⟨_,_,_⟩,_,_,G⟩:=i;subst G;obtain ⟨q,h⟩:=ZD h;try simp only[Nat.reduceLeDiff]at q
 obtain ⟨_,_,_,_,h⟩:=Za4 h;simp only[*,go_sem,seval];refine yB h (fun _ h=>?_) fun _ h=>?_;refine Zba h (fun s st=>match s with|(k,f)=>IV [(2,.bp 0 0),(5,.p false [.row 1]),(7,.p false [.row 2]),(8,yM (.int .i64 f))] [.box 37 [.c (yW a.rules),.c (yY a.ends),.c (yZ a.alphas),.c (zA a.nodes),.c (yU a.facts),.c (.int .i64 a.tries)],.row 3 1 (A0 Ye (b++[d])) 2,.row 105 5 (A0 ZW k) 2] st) [(false,7,0)] [0,50,386] yF yD ?_;rintro ⟨k,f⟩ ⟨_,_,_⟩ _ l _ h t;simp only[go_sem,seval,Zd]at l;obtain ⟨⟨_,_,_,_⟩,_,_,_,G⟩:=l;subst G;simp only[*,go_sem,seval];refine yB h (fun _ h=>?_) fun _ h=>?_;obtain ⟨_,h⟩:=ZD h;obtain ⟨u,v,h⟩:=XH h;have w:(A0 Ye b++[Ye d])[(Int.toNat f)]?=some (Ye u):=by rw [show A0 Ye b++[Ye d]=A0 Ye (b++[d]) by rw [AK];rfl,AA,v];rfl
 simp only[Zsm]at w;obtain ⟨_,_,_,_,h⟩:=Za4 h;simp only[*,go_sem,seval];refine Zb h fun _ x h=>Za (Zah x) ?_;obtain ⟨y,h⟩:=ZD h;try simp only[Nat.reduceLeDiff]at y
 simp only[*,go_sem,seval];exact yR h [0,1,227];replace h:=Zv h t;replace h:=Zv h j;cases h;exact yD;refine yB h (fun _ h=>?_) fun _ h=>?_;refine Zba h (fun s st=>match s with|(m,g)=>IV [(2,.bp 0 0),(5,.p false [.row 1]),(7,.p false [.row 2]),(8,yM (.int .i64 g))] [.box 37 [.c (yW a.rules),.c (yY a.ends),.c (yZ a.alphas),.c (zA a.nodes),.c (yU a.facts),.c (.int .i64 a.tries)],.row 3 1 (A0 Ye (b++[d])) 2,.row 105 5 (A0 ZW m) 2] st) [(false,7,0)] [0,50,386] yF yD ?_;rintro ⟨m,g⟩ ⟨_,_,_⟩ _ o _ h z;simp only[go_sem,seval,Zd]at o;obtain ⟨⟨_,_,_,_⟩,_,_,_,G⟩:=o;subst G;simp only[*,go_sem,seval];refine yB h (fun _ h=>?_) fun _ h=>?_;obtain ⟨_,h⟩:=ZD h;obtain ⟨A,B,h⟩:=XH h;have C:(A0 Ye b++[Ye d])[(Int.toNat g)]?=some (Ye A):=by rw [show A0 Ye b++[Ye d]=A0 Ye (b++[d]) by rw [AK];rfl,AA,B];rfl
 simp only[Zsm]at C;obtain ⟨_,_,_,_,h⟩:=Za4 h;simp only[*,go_sem,seval];refine Zb h fun _ D h=>Za (Zah D) ?_;obtain ⟨E,h⟩:=ZD h;try simp only[Nat.reduceLeDiff]at E
 simp only[*,go_sem,seval];exact yR h [0,1,227];replace h:=Zv h z;replace h:=Zv h j;cases h;exact yD;exact yR h [0,50]
end
section
theorem Zka {A:List Zq}{r:List Zq}(h:ZdA A=some r):Zp prog J0 55 [(false,[.sl 118 4 (A0 ZB A)])] [(false,[(false,.sl 118 4 (A0 ZB r))])]:=by
 refine fnk func55 rfl ?_;unfold ZdA at h;simp only[fnS,f55,Zu,go_sem,seval];refine Zk h (fun i a st=>IV [(0,yM (yW A)),(3,.p false [.row 0]),(4,yL i)] [.row 118 4 (A0 ZB a) 2] st) [] [16] yF yD ?_ ?_;rintro _ _ a ⟨_,_,_⟩ _ b d f h _;simp only[go_sem,seval,Zd]at d;obtain ⟨⟨g,_,_⟩,_,B⟩:=d;subst B;have k:=WF.slotL f g (j:=0) rfl;have:=Z1 b;have:=Z3 b;have:=Zt (Z0 b) k;simp only[*,go_sem,seval];refine Zb h fun _ l h=>Za (ZuP l) ?_;obtain ⟨m,h⟩:=ZD h;try simp only[Nat.reduceLeDiff]at m
 simp only[*,go_sem,seval];exact yR h [177];rintro a ⟨_,_,_⟩ e _ h;simp only[go_sem,seval,Zd]at e;obtain ⟨⟨_,_,_⟩,_,B⟩:=e;subst B;have:=ZY (A.length);cases h;exact yD
theorem Zlu {A:List Zi}{r:List Zi}(h:Zbb A=some r):Zp prog J0 60 [(false,[.sl 142 2 (A0 Yj A)])] [(false,[(false,.sl 142 2 (A0 Yj r))])]:=by
 refine fnk func60 rfl ?_;unfold Zbb at h;simp only[fnS,f60,Zu,go_sem,seval];refine Zk h (fun i a st=>IV [(0,yM (zD A)),(3,.p false [.row 0]),(4,yL i)] [.row 142 2 (A0 Yj a) 2] st) [] [16] yF yD ?_ ?_;rintro _ _ a ⟨_,_,_⟩ _ b d f h _;simp only[go_sem,seval,Zd]at d;obtain ⟨⟨g,_,_⟩,_,B⟩:=d;subst B;have k:=WF.slotL f g (j:=0) rfl;have:=Z1 b;have:=Z3 b;have:=Zt (Z0 b) k;simp only[*,go_sem,seval];refine Zb h fun _ l h=>Za (ZmX l) ?_;obtain ⟨m,h⟩:=ZD h;try simp only[Nat.reduceLeDiff]at m
 simp only[*,go_sem,seval];exact yR h [177];rintro a ⟨_,_,_⟩ e _ h;simp only[go_sem,seval,Zd]at e;obtain ⟨⟨_,_,_⟩,_,B⟩:=e;subst B;have:=ZY (A.length);cases h;exact yD
theorem Zgs {A:List Zf}{r:Bool}(h:Zch A=some r):Zp prog J0 100 [(false,[.sl 60 2 (A0 Zo A)])] [(false,[(false,.bool r)])]:=by
 refine fnk func100 rfl ?_;unfold Zch at h;simp only[fnS,f100,Zu,go_sem,seval];refine Zk h (fun i _ st=>IV [(0,yM (yU A)),(3,yL i)] [] st) [] [] yF yD ?_ ?_;rintro _ _ ⟨⟩ ⟨_,_,_⟩ _ a b f h d;simp only[go_sem,seval,Zd]at b;obtain ⟨⟨g,_⟩,B⟩:=b;subst B;have k:=WF.slotL f g (j:=0) rfl;have:=Z1 a;have:=Z3 a;have:=Zt (Z0 a) k;simp only[*,go_sem,seval];refine Zb h fun _ l h=>Za (Zjm l)<|yA ?_;iterate 2 refine yB h (fun _ h=>?_) fun _ h=>?_
 obtain ⟨_,_,_,_,h⟩:=Za4 h;simp only[*,go_sem,seval];refine Zb h fun _ m h=>Za (Za0 m)<|yA ?_;refine yB h (fun _ h=>?_) fun _ h=>?_;replace h:=Zv h d;cases h;exact yD;exact yR h [];exact yR h [];replace h:=Zv h d;cases h;exact yD;rintro ⟨⟩ ⟨_,_,_⟩ e _ h;simp only[go_sem,seval,Zd]at e;obtain ⟨⟨_,_⟩,B⟩:=e;subst B;have:=ZY (A.length);cases h;exact yD
theorem Zvi {a:List Zf}{F:Zf}{r:List Zf}(h:Zlw a F=some r):Zp prog J0 103 [(false,[.sl 60 2 (A0 Zo a)]),(true,Zo F)] [(false,[(false,.sl 60 2 (A0 Zo r))])]:=by
 refine fnk func103 rfl ?_;unfold Zlw at h;simp only[fnS,f103,Zu,go_sem,seval];refine Zk h (fun i s st=>match s with|(b,d)=>IV [(0,yM (yU a)),(3,.bp 0 0),(5,.p false [.row 1]),(6,yM (.bool d)),(7,yL i)] [zE 60 (Zo F),.row 60 2 (A0 Zo b) 2] st) [] [0,32] yF yD ?_ ?_;rintro _ _ ⟨b,d⟩ ⟨_,_,_⟩ _ e f k h _;simp only[go_sem,seval,Zd]at f;obtain ⟨⟨l,_,_,_,_⟩,_,_,G⟩:=f;subst G;have m:=WF.slotL k l (j:=0) rfl;have:=Z1 e;have:=Z3 e;have:=Zt (Z0 e) m;simp only[*,go_sem,seval];refine yB h (fun _ h=>?_) fun _ h=>?_;refine Zb h fun _ o h=>Za (Qy o) ?_;obtain ⟨q,h⟩:=ZD h;try simp only[Nat.reduceLeDiff]at q
 simp only[*,go_sem,seval];exact yR h [0,354];refine Zb h fun _ t h=>Za (Za0 t)<|yA ?_;refine yB h (fun _ h=>?_) fun _ h=>?_;refine Zb h fun _ u h=>Za (Za0 u)<|yA ?_;refine yB h (fun _ h=>?_) fun _ h=>?_;refine Zb h fun _ v h=>Za (Qy v) ?_;obtain ⟨w,h⟩:=ZD h;try simp only[Nat.reduceLeDiff]at w
 simp only[*,go_sem,seval];refine Zb h fun _ x h=>Za (Qy x) ?_;obtain ⟨y,h⟩:=ZD h;try simp only[Nat.reduceLeDiff]at y
 simp only[*,go_sem,seval];exact yR h [0,578];refine Zb h fun _ z h=>Za (Qy z) ?_;obtain ⟨A,h⟩:=ZD h;try simp only[Nat.reduceLeDiff]at A
 simp only[*,go_sem,seval];exact yR h [0,482];refine Zb h fun _ B h=>Za (Qy B) ?_;obtain ⟨C,h⟩:=ZD h;try simp only[Nat.reduceLeDiff]at C
 simp only[*,go_sem,seval];exact yR h [0,354];rintro ⟨b,d⟩ ⟨_,_,_⟩ g _ h;simp only[go_sem,seval,Zd]at g;obtain ⟨⟨_,_,_,_,_⟩,_,_,G⟩:=g;subst G;have:=ZY (a.length);simp only[*,go_sem,seval];refine yB h (fun _ h=>?_) fun _ h=>?_;cases h;exact yD;refine Zb h fun _ D h=>Za (Qy D) ?_;obtain ⟨E,h⟩:=ZD h;try simp only[Nat.reduceLeDiff]at E
 cases h;exact yD
theorem Za8 {A:Zm}{r:Bool}(h:Zac A=some r):Zp prog J0 155 [(true,Xu A)] [(false,[(false,.bool r)])]:=by
 refine fnk func155 rfl ?_;unfold Zac at h;simp only[fnS,f155,Zu,go_sem,seval];refine Zk h (fun i _ st=>IV [(1,.bp 0 0),(3,yL i)] [.box 100 [.c (.str A.rel),.c (yV A.args)]] st) [] [0] yF yD ?_ ?_;rintro _ _ ⟨⟩ ⟨_,_,_⟩ _ a b e h f;simp only[go_sem,seval,Zd]at b;obtain ⟨⟨_,_⟩,g,B⟩:=b;subst B;have k:=WF.boxL e g (j:=1) rfl;have:=Z1 a;have:=Z3 a;have:=Zt (Z0 a) k;simp only[*,go_sem,seval];refine Zb h fun _ l h=>Za (Zbz l)<|yA ?_;refine yB h (fun _ h=>?_) fun _ h=>?_;exact yR h [0];replace h:=Zv h f;cases h;exact yD;rintro ⟨⟩ ⟨_,_,_⟩ d _ h;simp only[go_sem,seval,Zd]at d;obtain ⟨⟨_,_⟩,_,B⟩:=d;subst B;have:=ZY (A.args.length);simp only[*,go_sem,seval];refine Zb h fun _ m h=>Za (ZjD m)<|yA ?_;refine yB h (fun _ h=>?_) fun _ h=>?_;iterate 2 (cases h;exact yD)
theorem ZfK {C:Zq}{B:Int}{r:List ByteArray}(h:Zbg C B=some r):Zp prog J0 226 [(true,ZB C),(false,[.int .i64 B])] [(false,[(false,.sl 9 1 (A0 ZM r))])]:=by
 refine fnk func226 rfl ?_;unfold Zbg at h;simp only[fnS,f226,Zu,go_sem,seval];refine Zk h (fun i a st=>IV [(1,yM (.int .i64 B)),(2,.bp 0 0),(5,.p false [.row 1]),(6,yL i)] [zE 118 (ZB C),.row 9 1 (A0 ZM a) 2] st) [] [0,32] yF yD ?_ ?_;rintro b _ a ⟨_,_,_⟩ _ d g q h t;simp only[go_sem,seval,Zd]at g;obtain ⟨⟨_,_,_,_⟩,u,_,D⟩:=g;subst D;have v:=WF.boxL q u (j:=2) rfl;have:=Z1 d;have:=Z3 d;have:=Zt (Z0 d) v;simp only[*,go_sem,seval];iterate 2 refine yB h (fun _ h=>?_) fun _ h=>?_
 refine Zb h fun k w h=>Za (Zew w)<|yA ?_;refine Zk h (fun i e st=>IV [(1,yM (.int .i64 B)),(2,.bp 0 0),(5,.p false [.row 1]),(6,yL b),(7,.p false [.row 2]),(8,yL i),(16,yL b),(17,yM (.int .i64 B)),(18,yM (.bool (decide ((b:Int)<B))))] [zE 118 (ZB C),.row 9 1 (A0 ZM e) 2,.row 9 1 (A0 ZM k) 2] st) [] [0,1,370] yF yD ?_ ?_;rintro _ _ e ⟨_,_,_⟩ _ f l x h _;simp only[go_sem,seval,Zd]at l;obtain ⟨⟨_,_,_,_,_,_,_,_,_⟩,_,_,y,D⟩:=l;subst D;have z:=WF.rowL x y;have:=Z1 f;have:=Z3 f;have:=Zt (Z0 f) z;simp only[*,go_sem,seval];refine Zb h fun _ A h=>Za (Zcr A)<|yA ?_;exact yR h [0,147,2];rintro e ⟨_,_,_⟩ m _ h;simp only[go_sem,seval,Zd]at m;obtain ⟨⟨_,_,_,_,_,_,_,_,_⟩,_,_,_,D⟩:=m;subst D;have:=ZY (k.length);simp only[*,go_sem,seval];exact yR h [0,1];exact yR h [0,1];replace h:=Zv h t;cases h;exact yD;rintro a ⟨_,_,_⟩ o _ h;simp only[go_sem,seval,Zd]at o;obtain ⟨⟨_,_,_,_⟩,_,_,D⟩:=o
 subst D;have:=ZY (C.cond.length);cases h;exact yD
theorem ZdY {A:Zh}{r:List ByteArray}(h:ZaG A=some r):Zp prog J0 227 [(true,ZW A)] [(false,[(false,.sl 9 1 (A0 ZM r))])]:=by
 refine fnk func227 rfl ?_;unfold ZaG at h;simp only[fnS,f227,Zu,go_sem,seval];refine Zb h fun _ a h=>Za (Zew a)<|yA ?_;refine Zb h fun _ b h=>Za (ZaK b)<|yA ?_;refine yB h (fun _ h=>?_) fun _ h=>?_;refine Zb h fun _ c h=>Za (Zcr c)<|yA ?_;refine Zb h fun _ d h=>Za (ZaK d)<|yA ?_;refine yB h (fun _ h=>?_) fun _ h=>?_;refine Zb h fun _ e h=>Za (Zcr e) ?_;iterate 2 (cases h;exact yD)
 refine Zb h fun _ f h=>Za (ZaK f)<|yA ?_;refine yB h (fun _ h=>?_) fun _ h=>?_;refine Zb h fun _ g h=>Za (Zcr g) ?_;iterate 2 (cases h;exact yD)
theorem Znd {B:Zq}{r:List Zj}(h:ZcV B=some r):Zp prog J0 187 [(true,ZB B)] [(false,[(false,.sl 206 2 (A0 Z5 r))])]:=by
 refine fnk func187 rfl ?_;unfold ZcV at h;simp only[fnS,f187,Zu,go_sem,seval];refine Zk h (fun i b st=>IV [(1,.bp 0 0),(3,.p false [.row 1]),(4,yL i)] [zE 118 (ZB B),.row 206 2 (A0 Z5 b) 2] st) [] [0,32] yF yD ?_ ?_;rintro m o b ⟨_,_,_⟩ _ a f q h _;simp only[go_sem,seval,Zd]at f;obtain ⟨⟨_,_,_⟩,t,_,C⟩:=f;subst C;have u:=WF.boxL q t (j:=2) rfl;have:=Z1 a;have:=Z3 a;have:=Zt (Z0 a) u;simp only[*,go_sem,seval];refine Zk h (fun i d st=>IV [(1,.bp 0 0),(3,.p false [.row 1]),(4,yL m),(5,yL i)] [zE 118 (ZB B),.row 206 2 (A0 Z5 d) 2] st) [] [0,1] yF yD ?_ ?_;rintro _ _ d ⟨_,_,_⟩ _ e g v h _;simp only[go_sem,seval,Zd]at g;obtain ⟨⟨_,_,_,_⟩,w,_,C⟩:=g;subst C;have x:=WF.elL (WF.boxD v w (j:=2) rfl) a (j:=2) rfl;have:=Z1 e;have:=Z3 e;have:=Zt (Z0 e) x;simp only[*,go_sem,seval];obtain ⟨_,y,h⟩:=XH h;refine ZnK (Zgh y)<|yA ?_;exact yR h [0,338];rintro d ⟨_,_,_⟩ k _ h
 simp only[go_sem,seval,Zd]at k;obtain ⟨⟨_,_,_,_⟩,_,_,C⟩:=k;subst C;have:=ZY (o.pattern.args.length);simp only[*,go_sem,seval];obtain ⟨_,z,h⟩:=XH h;refine ZnK (Zgh z)<|yA ?_;obtain ⟨_,A,h⟩:=XH h;refine ZnK (Zgh A)<|yA ?_;exact yR h [0,418];rintro b ⟨_,_,_⟩ l _ h;simp only[go_sem,seval,Zd]at l;obtain ⟨⟨_,_,_⟩,_,_,C⟩:=l;subst C;have:=ZY (B.cond.length);cases h;exact yD
theorem Zls {A:Zm}{r:Zm}(h:Ze3 A=some r):Zp prog J0 189 [(true,Xu A)] [(true,[(false,.str r.rel),(false,.sl 9 1 (A0 ZM r.args))])]:=by
 refine fnk func189 rfl ?_;unfold Ze3 at h;simp only[fnS,f189,Zu,go_sem,seval];refine Zk h (fun i a st=>IV [(1,.bp 0 0),(2,.bp 1 0),(3,.p false [.row 2]),(4,yL i)] [.box 100 [.c (.str A.rel),.c (yV A.args)],.box 100 [.c (.str ⟨#[]⟩),.nil 9 1],.row 206 2 (A0 Z5 a) 2] st) [] [0,16,32] yF yD ?_ ?_;rintro _ _ a ⟨_,_,_⟩ _ b d f h _;simp only[go_sem,seval,Zd]at d;obtain ⟨⟨_,_,_,_⟩,g,_,_,B⟩:=d;subst B;have k:=WF.boxL f g (j:=1) rfl;have:=Z1 b;have:=Z3 b;have:=Zt (Z0 b) k;simp only[*,go_sem,seval];obtain ⟨_,l,h⟩:=XH h;refine ZnK (Zgh l)<|yA ?_;exact yR h [0,1,179];rintro a ⟨_,_,_⟩ e _ h;simp only[go_sem,seval,Zd]at e;obtain ⟨⟨_,_,_,_⟩,_,_,_,B⟩:=e;subst B;have:=ZY (A.args.length);simp only[*,go_sem,seval];refine Zb h fun _ m h=>Za (ZeB m) ?_;cases h;exact yD
theorem Zs1 {C:List Zj}{B:ByteArray}{A:ByteArray}{r:((List Zj)×Bool)}(h:Ziy C B A=some r):Zp prog J0 157 [(false,[.sl 206 2 (A0 Z5 C)]),(false,[.str B]),(false,[.str A])] [(false,[(false,.sl 206 2 (A0 Z5 r.1))]),(false,[(false,.bool r.2)])]:=by
 refine fnk func157 rfl ?_;unfold Ziy at h;simp only[fnS,f157,Zu,go_sem,seval];refine Zb h fun _ a h=>Za (Zc0 a)<|yA ?_;refine yB h (fun _ h=>?_) fun _ h=>?_;refine Zb h fun _ b h=>Za (ZaK b)<|yA ?_;refine yB h (fun _ h=>?_) fun _ h=>?_;refine Zb h fun _ c h=>Za (Zaw c)<|yA ?_;refine yB h (fun _ h=>?_) fun _ h=>?_;refine Zb h fun _ d h=>Za (Zhg d)<|yA ?_;iterate 2 refine yB h (fun _ h=>?_) fun _ h=>?_
 refine Zb h fun _ e h=>Za (Zjs e) ?_;iterate 2 (cases h;exact yD)
 refine yB h (fun _ h=>?_) fun _ h=>?_;cases h;exact yD;refine Zb h fun _ f h=>Za (Zu9 f) ?_;iterate 4 (cases h;exact yD)
theorem ZkD {A:Zi}{B:Zi}{r:Int}(h:Qg A B=some r):Zp prog J0 158 [(true,Yj A),(true,Yj B)] [(false,[(false,.int .i64 r)])]:=by
 refine fnk func158 rfl ?_;unfold Qg at h;simp only[fnS,f158,Zu,go_sem,seval];refine Zk h (fun i _ st=>IV [(2,.bp 0 0),(3,.bp 1 0),(5,yL i)] [zE 142 (Yj A),zE 142 (Yj B)] st) [] [0,16] yF yD ?_ ?_;rintro _ _ ⟨⟩ ⟨_,_,_⟩ _ a d f h b;simp only[go_sem,seval,Zd]at d;obtain ⟨⟨_,_,_⟩,g,_,C⟩:=d;subst C;have k:=WF.boxL f g (j:=0) rfl;have:=Z1 a;have:=Z3 a;have:=Zt (Z0 a) k;simp only[*,go_sem,seval];refine yB h (fun _ h=>?_) fun _ h=>?_;obtain ⟨_,_,_,l,h⟩:=Za4 h;simp only[A9]at l;simp only[*,go_sem,seval];refine Zb h fun _ m h=>Za (Za0 m)<|yA ?_;refine yB h (fun _ h=>?_) fun _ h=>?_;replace h:=Zv h b;cases h;exact yD;exact yR h [0,1];refine yB h (fun _ h=>?_) fun _ h=>?_;replace h:=Zv h b;cases h;exact yD;refine yB h (fun _ h=>?_) fun _ h=>?_;iterate 2 (replace h:=Zv h b;cases h;simp only[*,go_sem,seval])
 rintro ⟨⟩ ⟨_,_,_⟩ e _ h;simp only[go_sem,seval,Zd]at e;obtain ⟨⟨_,_,_⟩,_,_,C⟩:=e;subst C;have:=ZY (A.facts.length);iterate 2 (simp only[*,go_sem,seval];(refine Ze h (fun _ h=>?_) fun _ h=>?_<;>try simp only[*,go_sem,seval]);cases h)
 simp only[*,go_sem,seval];cases h;exact yD
theorem Zqk {A:Zq}{r:Zq}(h:Zfi A=some r):Zp prog J0 121 [(true,ZB A)] [(true,[(false,.str r.name),(false,.int .i64 r.priority),(false,.sl 105 5 (A0 ZW r.cond)),(false,.sl 173 3 (A0 Yd r.thn))])]:=by
 refine fnk func121 rfl ?_;unfold Zfi at h;simp only[fnS,f121,Zu,go_sem,seval];refine Zb h fun f g h=>Za (Zpm g)<|yA ?_;refine Zk h (fun i a st=>IV [(2,.bp 0 0),(3,.bp 1 0),(15,yM (zC A.thn)),(16,yL A.thn.length),(17,yL i)] [.box 118 [.c (.str ⟨#[]⟩),.c (.int .i64 0),.nil 105 5,.nil 173 3],.box 118 [.c (.str A.name),.c (.int .i64 A.priority),.row 2,.row 3],.row 105 5 (A0 ZW f) 2,.row 173 3 (A0 Yd a) 2] st) [(true,160,3)] [16,160,128,256] yF yD ?_ ?_;rintro _ _ a ⟨_,_,_⟩ _ b d k h _;simp only[go_sem,seval,Zd]at d;obtain ⟨⟨_,_,l,_,_⟩,_,_,_,_,B⟩:=d;subst B;have m:=WF.slotL k l (j:=0) rfl;have:=Z1 b;have:=Z3 b;have:=Zt (Z0 b) m;simp only[*,go_sem,seval];refine Zb h fun _ o h=>Za (ZdE o) ?_;obtain ⟨q,h⟩:=ZD h;try simp only[Nat.reduceLeDiff]at q
 simp only[*,go_sem,seval];exact yR h [0,1,2,228];rintro a ⟨_,_,_⟩ e _ h;simp only[go_sem,seval,Zd]at e;obtain ⟨⟨_,_,_,_,_⟩,_,_,_,_,B⟩:=e;subst B;have:=ZY (A.thn.length);cases h;exact yD
theorem Zik {A:Zh}{r:Bool}(h:Zfl A=some r):Zp prog J0 198 [(true,ZW A)] [(false,[(false,.bool r)])]:=by
 refine fnk func198 rfl ?_;unfold Zfl at h;have a:Zcs ⟨#[]⟩=true:=by decide
 simp only[fnS,f198,Zu,go_sem,seval,a];refine yB h (fun _ h=>?_) fun _ h=>?_;refine Zb h fun _ b h=>Za (Zbs b)<|yA ?_;iterate 2 refine yB h (fun _ h=>?_) fun _ h=>?_
 iterate 3 (cases h;exact yD)
 refine yB h (fun _ h=>?_) fun _ h=>?_;refine Zb h fun _ c h=>Za (Zbs c)<|yA ?_;iterate 2 refine yB h (fun _ h=>?_) fun _ h=>?_
 iterate 3 (cases h;exact yD)
 refine yB h (fun _ h=>?_) fun _ h=>?_;refine Zb h fun _ d h=>Za (Zbr d)<|yA ?_;refine yB h (fun _ h=>?_) fun _ h=>?_;refine Zb h fun _ e h=>Za (Zbr e)<|yA ?_;refine yB h (fun _ h=>?_) fun _ h=>?_;refine Zb h fun _ f h=>Za (ZbQ f) ?_;iterate 3 (cases h;exact yD)
 refine yB h (fun _ h=>?_) fun _ h=>?_;refine Zb h fun _ g h=>Za (Zbr g)<|yA ?_;refine yB h (fun _ h=>?_) fun _ h=>?_;refine Zb h fun _ i h=>Za (Zbr i)<|yA ?_;refine yB h (fun _ h=>?_) fun _ h=>?_;refine Zb h fun _ j h=>Za (ZbQ j) ?_;iterate 3 (cases h;exact yD)
 refine yB h (fun _ h=>?_) fun _ h=>?_;refine Zb h fun _ k h=>Za (Zbr k)<|yA ?_;refine yB h (fun _ h=>?_) fun _ h=>?_;refine Zb h fun _ l h=>Za (Zbr l)<|yA ?_;refine yB h (fun _ h=>?_) fun _ h=>?_;refine Zb h fun _ m h=>Za (ZbQ m) ?_;iterate 4 (cases h;exact yD)
theorem Zi9 {A:Zq}{C:Int}{B:ByteArray}{r:Bool}(h:Zab A C B=some r):Zp prog J0 240 [(true,ZB A),(false,[.int .i64 C]),(false,[.str B])] [(false,[(false,.bool r)])]:=by
 refine fnk func240 rfl ?_;unfold Zab at h;simp only[fnS,f240,Zu,go_sem,seval];refine Zk h (fun i _ st=>IV [(1,yM (.int .i64 C)),(2,yM (.str B)),(3,.bp 0 0),(12,yM (zB A.cond)),(13,yL A.cond.length),(14,yL i)] [zE 118 (ZB A)] st) [] [0] yF yD ?_ ?_;rintro _ _ ⟨⟩ ⟨_,_,_⟩ _ a d k h l;simp only[go_sem,seval,Zd]at d;obtain ⟨⟨_,_,_,m,_,_⟩,_,D⟩:=d;subst D;have o:=WF.slotL k m (j:=0) rfl;have:=Z1 a;have:=Z3 a;have:=Zt (Z0 a) o;simp only[*,go_sem,seval];refine yB h (fun _ h=>?_) fun _ h=>?_;refine Zb h fun _ q h=>Za (Zgt q)<|yA ?_;refine Zb h fun _ t h=>Za (ZeL t)<|yA ?_;refine yB h (fun _ h=>?_) fun _ h=>?_;replace h:=Zv h l;cases h;exact yD;exact yR h [0];exact yR h [0];rintro ⟨⟩ ⟨_,_,_⟩ e _ h;simp only[go_sem,seval,Zd]at e;obtain ⟨⟨_,_,_,_,_,_⟩,_,D⟩:=e;subst D;have:=ZY (A.cond.length);simp only[*,go_sem,seval]
 refine Zk h (fun i _ st=>IV [(2,yM (.str B)),(30,yM (zC A.thn)),(31,yL A.thn.length),(32,yL i)] [] st) [] [] yF yD ?_ ?_;rintro _ _ ⟨⟩ ⟨_,_,_⟩ _ b f u h v;simp only[go_sem,seval,Zd]at f;obtain ⟨⟨_,w,_,_⟩,D⟩:=f;subst D;have x:=WF.slotL u w (j:=0) rfl;have:=Z1 b;have:=Z3 b;have:=Zt (Z0 b) x;simp only[*,go_sem,seval];refine Zb h fun _ y h=>Za (ZeL y)<|yA ?_;refine yB h (fun _ h=>?_) fun _ h=>?_;replace h:=Zv h v;cases h;exact yD;exact yR h [];rintro ⟨⟩ ⟨_,_,_⟩ g _ h;simp only[go_sem,seval,Zd]at g;obtain ⟨⟨_,_,_,_⟩,D⟩:=g;subst D;have:=ZY (A.thn.length);cases h;exact yD
end
section
theorem Zp7 {A:ZV}{r:Bool}(h:Zfw A=some r):Zp prog J0 201 [(true,Yd A)] [(false,[(false,.bool r)])]:=by
 refine fnk func201 rfl ?_;unfold Zfw at h;simp only[fnS,f201,Zu,go_sem,seval];refine yB h (fun _ h=>?_) fun _ h=>?_;refine Zb h fun _ a h=>Za (Zbs a) ?_;cases h;exact yD;refine yB h (fun _ h=>?_) fun _ h=>?_;refine Zb h fun _ b h=>Za (Zbs b) ?_;cases h;exact yD;refine yB h (fun _ h=>?_) fun _ h=>?_;refine Zb h fun _ c h=>Za (ZbQ c) ?_;iterate 2 (cases h;exact yD)
theorem Zns {A:List Zh}{r:List ByteArray}(h:Zdq A=some r):Zp prog J0 205 [(false,[.sl 105 5 (A0 ZW A)])] [(false,[(false,.sl 9 1 (A0 ZM r))])]:=by
 refine fnk func205 rfl ?_;unfold Zdq at h;simp only[fnS,f205,Zu,go_sem,seval];refine Zk h (fun i a st=>IV [(3,.p false [.row 0]),(6,yM (zB A)),(7,yL A.length),(8,yL i)] [.row 9 1 (A0 ZM a) 2] st) [(false,3,0)] [80] yF yD ?_ ?_;rintro _ _ a ⟨_,_,_⟩ _ b d f h _;simp only[go_sem,seval,Zd]at d;obtain ⟨⟨_,g,_,_⟩,_,B⟩:=d;subst B;have k:=WF.slotL f g (j:=0) rfl;have:=Z1 b;have:=Z3 b;have:=Zt (Z0 b) k;simp only[*,go_sem,seval];refine Zb h fun _ l h=>Za (Zgt l) ?_;obtain ⟨_,h⟩:=ZD h;simp only[*,go_sem,seval];exact yR h [129];rintro a ⟨_,_,_⟩ e _ h;simp only[go_sem,seval,Zd]at e;obtain ⟨⟨_,_,_,_⟩,_,B⟩:=e;subst B;have:=ZY (A.length);cases h;exact yD
theorem Zgy {A:List Zf}{r:Bool}(h:Zcn A=some r):Zp prog J0 126 [(false,[.sl 60 2 (A0 Zo A)])] [(false,[(false,.bool r)])]:=by
 refine fnk func126 rfl ?_;unfold Zcn at h;simp only[fnS,f126,Zu,go_sem,seval];refine yB h (fun _ h=>?_) fun _ h=>?_;cases h;exact yD;refine Zk h (fun i _ st=>IV [(0,yM (yU A)),(8,yM (yU A)),(9,yL A.length),(10,yL i)] [] st) [] [] yF yD ?_ ?_;rintro _ _ ⟨⟩ ⟨_,_,_⟩ _ a b f h d;simp only[go_sem,seval,Zd]at b;obtain ⟨⟨g,_,_,_⟩,B⟩:=b;subst B;have k:=WF.slotL f g (j:=0) rfl;have:=Z1 a;have:=Z3 a;have:=Zt (Z0 a) k;simp only[*,go_sem,seval];refine Zb h fun _ l h=>Za (Zio l)<|yA ?_;iterate 2 refine yB h (fun _ h=>?_) fun _ h=>?_
 obtain ⟨_,_,_,_,h⟩:=Za4 h;simp only[*,go_sem,seval];refine Zb h fun _ m h=>Za (ZcI m)<|yA ?_;refine yB h (fun _ h=>?_) fun _ h=>?_;replace h:=Zv h d;cases h;exact yD;exact yR h [];exact yR h [];replace h:=Zv h d;cases h;exact yD;rintro ⟨⟩ ⟨_,_,_⟩ e _ h;simp only[go_sem,seval,Zd]at e;obtain ⟨⟨_,_,_,_⟩,B⟩:=e;subst B;have:=ZY (A.length);cases h;exact yD
theorem ZoR {A:List Zq}{B:List Zq}{r:Bool}(h:Zd9 A B=some r):Zp prog J0 167 [(false,[.sl 118 4 (A0 ZB A)]),(false,[.sl 118 4 (A0 ZB B)])] [(false,[(false,.bool r)])]:=by
 refine fnk func167 rfl ?_;unfold Zd9 at h;simp only[fnS,f167,Zu,go_sem,seval];refine yB h (fun _ h=>?_) fun _ h=>?_;cases h;exact yD;refine Zk h (fun i _ st=>IV [(0,yM (yW A)),(1,yM (yW B)),(12,yL A.length),(13,yL i)] [] st) [] [] yF yD ?_ ?_;rintro _ _ ⟨⟩ ⟨_,_,_⟩ _ a b e h f;simp only[go_sem,seval,Zd]at b;obtain ⟨⟨g,_,_,_⟩,C⟩:=b;subst C;have k:=WF.slotL e g (j:=0) rfl;have:=Z1 a;have:=Z3 a;have:=Zt (Z0 a) k;obtain ⟨_,_,_,l,h⟩:=Za4 h;simp only[A9]at l;simp only[*,go_sem,seval];refine Zb h fun _ m h=>Za (Zqp m)<|yA ?_;refine yB h (fun _ h=>?_) fun _ h=>?_;exact yR h [];replace h:=Zv h f;cases h;exact yD;rintro ⟨⟩ ⟨_,_,_⟩ d _ h;simp only[go_sem,seval,Zd]at d;obtain ⟨⟨_,_,_,_⟩,C⟩:=d;subst C;have:=ZY (A.length);cases h;exact yD
theorem Znm {A:Zq}{r:List Zh}(h:ZcX A=some r):Zp prog J0 214 [(true,ZB A)] [(false,[(false,.sl 105 5 (A0 ZW r))])]:=by
 refine fnk func214 rfl ?_;unfold ZcX at h;simp only[fnS,f214,Zu,go_sem,seval];refine Zb h fun f g h=>Za (ZnB g)<|yA ?_;refine Zk h (fun i a st=>IV [(3,.p false [.row 0]),(4,.p false [.row 1]),(10,yM (zB A.cond)),(11,yL A.cond.length),(12,yL i)] [.row 206 2 (A0 Z5 f) 2,.row 105 5 (A0 ZW a) 2] st) [(false,4,0)] [48,160] yF yD ?_ ?_;rintro _ _ a ⟨_,_,_⟩ _ b d k h _;simp only[go_sem,seval,Zd]at d;obtain ⟨⟨_,_,l,_,_⟩,_,_,B⟩:=d;subst B;have m:=WF.slotL k l (j:=0) rfl;have:=Z1 b;have:=Z3 b;have:=Zt (Z0 b) m;simp only[*,go_sem,seval];refine Zb h fun _ o h=>Za (Zh1 o) ?_;obtain ⟨q,h⟩:=ZD h;try simp only[Nat.reduceLeDiff]at q
 simp only[*,go_sem,seval];exact yR h [0,162];rintro a ⟨_,_,_⟩ e _ h;simp only[go_sem,seval,Zd]at e;obtain ⟨⟨_,_,_,_,_⟩,_,_,B⟩:=e;subst B;have:=ZY (A.cond.length);cases h;exact yD
theorem ZkT {a:Zc}{b:Int}{d:Zh}{r:(Int×Zc)}(h:ZaR a b d=some r):ZhN prog J0 JF0 215 37 [(false,.sl 118 4 (A0 ZB a.rules)),(false,.sl 3 1 (A0 Ye a.ends)),(false,.sl 103 3 (A0 ZG a.alphas)),(false,.sl 108 8 (A0 Z6 a.nodes)),(false,.sl 60 2 (A0 Zo a.facts)),(false,.int .i64 a.tries)] none [(false,[.int .i64 b]),(true,ZW d)] [(false,[(false,.int .i64 r.1)])] [(false,.sl 118 4 (A0 ZB r.2.rules)),(false,.sl 3 1 (A0 Ye r.2.ends)),(false,.sl 103 3 (A0 ZG r.2.alphas)),(false,.sl 108 8 (A0 Z6 r.2.nodes)),(false,.sl 60 2 (A0 Zo r.2.facts)),(false,.int .i64 r.2.tries)]:=by
 refine fno func215 rfl ?_;unfold ZaR at h;simp only[fnO,f215,ZgG,gvC,go_sem,seval];refine Zk h (fun i _ st=>IV [(0,.bp 0 0),(1,.p false [.c (.int .i64 b)]),(5,.bp 6 0),(13,.p false [.row 4]),(14,.p false [.c (.int .i64 (a.nodes.length:Int))]),(15,.p false [.c (.int .i64 (i:Int))])] [.box 37 [.row 1,.row 2,.row 3,.row 4,.row 5,.c (.int .i64 a.tries)],.row 118 4 (A0 ZB a.rules) 2,.row 3 1 (A0 Ye a.ends) 2,.row 103 3 (A0 ZG a.alphas) 2,.row 108 8 (A0 Z6 a.nodes) 2,.row 60 2 (A0 Zo a.facts) 2,.box 105 [.c (.int .i64 d.kind),.c (.str d.pattern.rel),.c (.sl 9 1 (A0 ZM d.pattern.args)),.c (.str d.left),.c (.str d.right)]] st) [] [0,1,2,3,4,5,6] yF ?_ ?_ ?_
 .simp only[*,go_sem,seval]
 .rintro i12 x13 ⟨⟩ ⟨sl,ob,n⟩ y1 f k l h m;simp only[go_sem,seval,Zd]at k;obtain ⟨⟨g5_0,g5_1,g5_5,g5_13,g5_14,g5_15⟩,og5_0,og5_1,og5_2,og5_3,g,og5_5,og5_6,hn⟩:=k;subst hn;have j:=WF.rowL l g;have q6:=Z1 f;have q7:=Z3 f;have q8:=Zt (Z0 f) j;simp only[*,go_sem,seval];refine Ze h (fun c9 h=>?_) (fun c9 h=>?_)<;>try simp only[*,go_sem,seval]
  .refine Ze h (fun o h=>?_) (fun o h=>?_)<;>try simp only[*,go_sem,seval]
   .refine Zb h fun v14 q h=>Za (ZgD q) ?_;simp only[*,go_sem,seval];refine Ze h (fun t h=>?_) (fun t h=>?_)<;>try simp only[*,go_sem,seval]
    .replace h:=Zv h m;obtain rfl:=A6 h;simp only[*,go_sem,seval]
    .refine ⟨_,[],[0,1,2,3,4,5,6],(A6 h).symm,yF,?_⟩;simp only[*,go_sem,seval]
   .refine ⟨_,[],[0,1,2,3,4,5,6],(A6 h).symm,yF,?_⟩;simp only[*,go_sem,seval]
  .refine ⟨_,[],[0,1,2,3,4,5,6],(A6 h).symm,yF,?_⟩;simp only[*,go_sem,seval]
 .rintro ⟨⟩ ⟨sl,ob,n⟩ e hW14 h;simp only[go_sem,seval,Zd]at e;obtain ⟨⟨g15_0,g15_1,g15_5,g15_13,g15_14,g15_15⟩,og15_0,og15_1,og15_2,og15_3,og15_4,og15_5,og15_6,hn⟩:=e;subst hn;have q16:=ZY (a.nodes.length);simp only[*,go_sem,seval];refine Ze h (fun u h=>?_) (fun u h=>?_)<;>try simp only[*,go_sem,seval]
  .refine Zb h fun v15 v h=>Za (Zlo v) ?_;simp only[*,go_sem,seval];obtain ⟨v16,w,h⟩:=XH h;refine Zjk (Zfg w) ?_;simp only[*,go_sem,seval];refine Zb h fun v17 x h=>Za (Zah x) ?_;obtain ⟨y,h⟩:=ZD h;try simp only[Nat.reduceLeDiff]at y
   obtain rfl:=A6 h;simp only[*,go_sem,seval]
  .refine Ze h (fun z h=>?_) (fun z h=>?_)<;>try simp only[*,go_sem,seval]
   .refine Zb h fun v18 A h=>Za (Zlo A) ?_;simp only[*,go_sem,seval];obtain ⟨v19,B,h⟩:=XH h;refine Zjk (Zfg B) ?_;simp only[*,go_sem,seval];refine Zb h fun v20 C h=>Za (Zah C) ?_;obtain ⟨D,h⟩:=ZD h;try simp only[Nat.reduceLeDiff]at D
    obtain rfl:=A6 h;simp only[*,go_sem,seval]
   .refine Zb h fun v21 E h=>Za (Zah E) ?_;obtain ⟨F,h⟩:=ZD h;try simp only[Nat.reduceLeDiff]at F
    obtain rfl:=A6 h;simp only[*,go_sem,seval]
theorem Zdb {A:Zm}{String_1:Zf}{B:List Zj}{r:((List Zj)×Bool)}(h:QX A String_1 B=some r):Zp prog J0 178 [(true,Xu A),(true,Zo String_1),(false,[.sl 206 2 (A0 Z5 B)])] [(false,[(false,.sl 206 2 (A0 Z5 r.1))]),(false,[(false,.bool r.2)])]:=by
 refine fnk func178 rfl ?_;unfold QX at h;simp only[fnS,f178,Zu,go_sem,seval];refine Zb h fun _ g h=>Za (Zbs g)<|yA ?_;refine yB h (fun _ h=>?_) fun _ h=>?_;refine Zb h fun _ k h=>Za (Zio k)<|yA ?_;refine yB h (fun _ h=>?_) fun _ h=>?_;refine Zb h fun _ l h=>Za (ZcQ l)<|yA ?_;iterate 3 refine yB h (fun _ h=>?_) fun _ h=>?_
 cases h;exact yD;refine Zb h fun _ m h=>Za (ZfH m)<|yA ?_;refine Zk h (fun i a st=>IV [(4,.bp 0 0),(8,.p false [.row 1]),(45,yM (yV A.args)),(46,yL A.args.length),(47,yL i)] [zE 60 (Zo String_1),.row 206 2 (A0 Z5 a) 2] st) [] [16,544] yF yD ?_ ?_;rintro _ _ a ⟨_,_,_⟩ _ b d o h e;simp only[go_sem,seval,Zd]at d;obtain ⟨⟨_,_,q,_,_⟩,_,_,C⟩:=d;subst C;have t:=WF.slotL o q (j:=0) rfl;have:=Z1 b;have:=Z3 b;have:=Zt (Z0 b) t;simp only[*,go_sem,seval];refine Zb h fun _ u h=>Za (Zav u)<|yA ?_;refine yB h (fun _ h=>?_) fun _ h=>?_;obtain ⟨_,_,_,v,h⟩:=Za4 h;simp only[A9]at v;simp only[*,go_sem,seval];refine yB h (fun _ h=>?_) fun _ h=>?_;exact yR h [0,1];replace h:=Zv h e;cases h;exact yD;obtain ⟨_,_,_,w,h⟩:=Za4 h;simp only[A9]at w;simp only[*,go_sem,seval];refine Zb h fun _ x h=>Za (ZtH x)<|yA ?_;refine yB h (fun _ h=>?_) fun _ h=>?_;exact yR h [0,242];replace h:=Zv h e
 cases h;exact yD;rintro a ⟨_,_,_⟩ f _ h;simp only[go_sem,seval,Zd]at f;obtain ⟨⟨_,_,_,_,_⟩,_,_,C⟩:=f;subst C;have:=ZY (A.args.length);iterate 5 (cases h;exact yD)
theorem Zrx {a:List Zf}{D:Zf}{r:List Zf}(h:ZgL a D=some r):Zp prog J0 176 [(false,[.sl 60 2 (A0 Zo a)]),(true,Zo D)] [(false,[(false,.sl 60 2 (A0 Zo r))])]:=by
 refine fnk func176 rfl ?_;unfold ZgL at h;simp only[fnS,f176,Zu,go_sem,seval];refine Zk h (fun i s st=>match s with|(b,d)=>IV [(3,.bp 0 0),(5,.p false [.row 1]),(6,yM (.bool d)),(9,yM (yU a)),(10,yL a.length),(11,yL i)] [zE 60 (Zo D),.row 60 2 (A0 Zo b) 2] st) [(false,5,0)] [0,112] yF yD ?_ ?_;rintro _ _ ⟨b,d⟩ ⟨_,_,_⟩ _ e f l h _;simp only[go_sem,seval,Zd]at f;obtain ⟨⟨_,_,_,m,_,_⟩,_,_,E⟩:=f;subst E;have o:=WF.slotL l m (j:=0) rfl;have:=Z1 e;have:=Z3 e;have:=Zt (Z0 e) o;simp only[*,go_sem,seval];refine yB h (fun _ h=>?_) fun _ h=>?_;refine Zb h fun _ q h=>Za (Qq q) ?_;obtain ⟨t,h⟩:=ZD h;try simp only[Nat.reduceLeDiff]at t
 simp only[*,go_sem,seval];exact yR h [0,274];refine Zb h fun _ u h=>Za (ZcI u)<|yA ?_;refine yB h (fun _ h=>?_) fun _ h=>?_;refine Zb h fun _ v h=>Za (Qq v) ?_;obtain ⟨w,h⟩:=ZD h;try simp only[Nat.reduceLeDiff]at w
 simp only[*,go_sem,seval];refine Zb h fun _ x h=>Za (Qq x) ?_;obtain ⟨y,h⟩:=ZD h;try simp only[Nat.reduceLeDiff]at y
 simp only[*,go_sem,seval];exact yR h [0,386];refine Zb h fun _ z h=>Za (Qq z) ?_;obtain ⟨A,h⟩:=ZD h;try simp only[Nat.reduceLeDiff]at A
 simp only[*,go_sem,seval];exact yR h [0,274];rintro ⟨b,d⟩ ⟨_,_,_⟩ g _ h;simp only[go_sem,seval,Zd]at g;obtain ⟨⟨_,_,_,_,_,_⟩,_,_,E⟩:=g;subst E;have:=ZY (a.length);simp only[*,go_sem,seval];refine yB h (fun _ h=>?_) fun _ h=>?_;cases h;exact yD;refine Zb h fun _ B h=>Za (Qq B) ?_;obtain ⟨C,h⟩:=ZD h;try simp only[Nat.reduceLeDiff]at C
 cases h;exact yD
theorem Zig {A:List Zf}{B:List Zf}{r:Int}(h:ZaC A B=some r):Zp prog J0 250 [(false,[.sl 60 2 (A0 Zo A)]),(false,[.sl 60 2 (A0 Zo B)])] [(false,[(false,.int .i64 r)])]:=by
 refine fnk func250 rfl ?_;unfold ZaC at h;simp only[fnS,f250,Zu,go_sem,seval];refine Zk h (fun i _ st=>IV [(0,yM (yU A)),(1,yM (yU B)),(5,yL i)] [] st) [] [] yF yD ?_ ?_;rintro _ _ ⟨⟩ ⟨_,_,_⟩ _ a b f h d;simp only[go_sem,seval,Zd]at b;obtain ⟨⟨g,_,_⟩,C⟩:=b;subst C;have k:=WF.slotL f g (j:=0) rfl;have:=Z1 a;have:=Z3 a;have:=Zt (Z0 a) k;simp only[*,go_sem,seval];refine yB h (fun _ h=>?_) fun _ h=>?_;obtain ⟨_,_,_,l,h⟩:=Za4 h;simp only[A9]at l;simp only[*,go_sem,seval];refine Zb h fun _ m h=>Za (ZcI m)<|yA ?_;refine yB h (fun _ h=>?_) fun _ h=>?_;replace h:=Zv h d;cases h;exact yD;exact yR h [];refine Zb h fun _ o h=>Za (Zam o) ?_;replace h:=Zv h d;cases h;exact yD;rintro ⟨⟩ ⟨_,_,_⟩ e _ h;simp only[go_sem,seval,Zd]at e;obtain ⟨⟨_,_,_⟩,C⟩:=e;subst C;have:=ZY (A.length);simp only[*,go_sem,seval];refine Zb h fun _ q h=>Za (Zam q) ?_;cases h;exact yD
end
end
end Go.Proofs.YtfdjdgdipgfmeaaGreatDoor
