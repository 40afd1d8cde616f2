/- Texts of this proof, joined: Shelf, LCompare, SortH, SortS, LAtoi, LItoa, Ext, Dp0, Dp1, Dp2, Dp3, Dp5, Dp4, Dp6, Dp7. What each holds is said at its theorems. -/
import Derived.Shelf.Small.Bits
import Derived.Shelf.Small.Strs
import Derived.Shelf.Strconv.Atoi
import Derived.Shelf.Strconv.Itoa0
import Derived.Shelf.Strconv.Itoa1
import Derived.Shelf.LaysM
import Derived.Shelf.Strconv.Itoa2
import Derived.Shelf.Strconv.Itoa3
import Derived.Shelf.Strconv.AtoiErrFast
import Derived.Shelf.Strconv.ParseIntEmpty
import Derived.Shelf.Strconv.AtoiFail
import Derived.Shelf.Strconv.Clone
import Derived.Shelf.Strconv.SyntaxError
import Derived.Shelf.LaysC
import Derived.Shelf.Strconv.ToError
import Derived.Shelf.Strconv.AtoiErr
import Derived.Shelf.Strconv.ErrVar
import Derived.Shelf.Sort.Plain
import Derived.Shelf.Slices.In.SortNone
import Derived.Shelf.Slices.In.SortNone2
import Derived.Test.YtcaokdmjlknmmaaGreatDoorProg
import Derived.Test.YtcaokdmjlknmmaaGreatDoorIsDeskQ5
import Derived.Test.YtcaokdmjlknmmaaGreatDoorIsDeskQ1
import Derived.Lib.AtoiErrMem
import Derived.Lib.AppendIntMem
import Derived.Lib.ItoaLen
open Array renaming getElem?_toList→AG,getElem?_modify→AH
open Bool renaming false_or→AK,or_false→AL
open Int renaming toNat_natCast→AB
open List renaming map→A0,getElem?_map→AC,eq_nil_of_length_eq_zero→AD,getElem?_take→AE,getElem?_drop→AF,size_toArray→AI,map_map→AJ,map_append→AM
open Option.some renaming inj→AA
open Go.Proofs.Tryz
set_option linter.unusedSimpArgs false
set_option linter.unusedVariables false
set_option maxRecDepth 1000000
set_option maxHeartbeats 4000000
namespace Go.Proofs
open Go.Shelf
def lays106_ren:Go.Shelf.Ren:=⟨fun|106=>172|213=>210|265=>228|n=>n,fun|9=>9|3=>3|n=>n,fun|n=>n⟩
theorem lays106:Go.Proofs.Lays.n106 prog lays106_ren:={
 mixed:=by kernel_rfl
 f106:=func172.trans (congrArg some (by kernel_rfl))
 f213:=func210.trans (congrArg some (by kernel_rfl))
 f265:=func228.trans (congrArg some (by kernel_rfl))
 t3:=underlying3
 a3:=isAgg3
 z3:=sizeOf3
 v3:=zeroValue3
 t9:=underlying9
 a9:=isAgg9
 z9:=sizeOf9
 v9:=zeroValue9 }
open Go.RowKit in
theorem strings_Compare (a b:ByteArray) (w:World):
 Calls prog 172 #[.string a,.string b] w fun e w'=>e=.returned (.int .i64 (Lib.compareBytes a.data.toList b.data.toList))/\w'=w:=Any.strings_Compare lays106 a b w
def lays172_ren:Go.Shelf.Ren:=⟨fun|172=>229|244=>244|245=>245|247=>261|279=>262|280=>263|281=>264|282=>265|287=>273|316=>274|171=>246|205=>275|321=>278|322=>279|243=>266|246=>276|283=>280|284=>281|285=>282|286=>283|129=>260|317=>284|318=>285|319=>286|320=>287|337=>288|338=>289|n=>n,fun|9=>9|3=>3|75=>259|76=>260|4=>4|5=>5|167=>286|37=>266|0=>0|85=>287|2=>2|168=>289|53=>285|175=>298|46=>270|210=>302|127=>309|145=>312|143=>310|21=>21|171=>313|173=>315|212=>319|51=>283|20=>20|213=>320|232=>322|233=>323|80=>324|n=>n,fun|15=>1|16=>2|17=>3|18=>4|19=>5|n=>n⟩
theorem lays172:Go.Proofs.Lays.n172 prog lays172_ren:={
 mixed:=by kernel_rfl
 f129:=func260.trans (congrArg some (by kernel_rfl))
 f171:=func246.trans (congrArg some (by kernel_rfl))
 f172:=func229.trans (congrArg some (by kernel_rfl))
 f205:=func275.trans (congrArg some (by kernel_rfl))
 f243:=func266.trans (congrArg some (by kernel_rfl))
 f244:=func244.trans (congrArg some (by kernel_rfl))
 f245:=func245.trans (congrArg some (by kernel_rfl))
 f246:=func276.trans (congrArg some (by kernel_rfl))
 f247:=func261.trans (congrArg some (by kernel_rfl))
 f279:=func262.trans (congrArg some (by kernel_rfl))
 f280:=func263.trans (congrArg some (by kernel_rfl))
 f281:=func264.trans (congrArg some (by kernel_rfl))
 f282:=func265.trans (congrArg some (by kernel_rfl))
 f283:=func280.trans (congrArg some (by kernel_rfl))
 f284:=func281.trans (congrArg some (by kernel_rfl))
 f285:=func282.trans (congrArg some (by kernel_rfl))
 f286:=func283.trans (congrArg some (by kernel_rfl))
 f287:=func273.trans (congrArg some (by kernel_rfl))
 f316:=func274.trans (congrArg some (by kernel_rfl))
 f317:=func284.trans (congrArg some (by kernel_rfl))
 f318:=func285.trans (congrArg some (by kernel_rfl))
 f319:=func286.trans (congrArg some (by kernel_rfl))
 f320:=func287.trans (congrArg some (by kernel_rfl))
 f321:=func278.trans (congrArg some (by kernel_rfl))
 f322:=func279.trans (congrArg some (by kernel_rfl))
 f337:=func288.trans (congrArg some (by kernel_rfl))
 f338:=func289.trans (congrArg some (by kernel_rfl))
 t0:=underlying0
 a0:=isAgg0
 z0:=sizeOf0
 v0:=zeroValue0
 t2:=underlying2
 a2:=isAgg2
 z2:=sizeOf2
 v2:=zeroValue2
 t3:=underlying3
 a3:=isAgg3
 z3:=sizeOf3
 v3:=zeroValue3
 t4:=underlying4
 a4:=isAgg4
 z4:=sizeOf4
 v4:=zeroValue4
 t5:=underlying5
 a5:=isAgg5
 z5:=sizeOf5
 v5:=zeroValue5
 t9:=underlying9
 a9:=isAgg9
 z9:=sizeOf9
 v9:=zeroValue9
 t20:=underlying20
 a20:=isAgg20
 z20:=sizeOf20
 v20:=zeroValue20
 t21:=underlying21
 a21:=isAgg21
 z21:=sizeOf21
 v21:=zeroValue21
 t37:=underlying266
 a37:=isAgg266
 z37:=sizeOf266
 v37:=zeroValue266
 t46:=underlying270
 a46:=isAgg270
 z46:=sizeOf270
 v46:=zeroValue270
 t51:=underlying283
 a51:=isAgg283
 z51:=sizeOf283
 v51:=zeroValue283
 t53:=underlying285
 a53:=isAgg285
 z53:=sizeOf285
 v53:=zeroValue285
 t75:=underlying259
 a75:=isAgg259
 z75:=sizeOf259
 v75:=zeroValue259
 t76:=underlying260
 a76:=isAgg260
 z76:=sizeOf260
 v76:=zeroValue260
 t85:=underlying287
 a85:=isAgg287
 z85:=sizeOf287
 v85:=zeroValue287
 t127:=underlying309
 a127:=isAgg309
 z127:=sizeOf309
 v127:=zeroValue309
 t143:=underlying310
 a143:=isAgg310
 z143:=sizeOf310
 v143:=zeroValue310
 t145:=underlying312
 a145:=isAgg312
 z145:=sizeOf312
 v145:=zeroValue312
 t167:=underlying286
 a167:=isAgg286
 z167:=sizeOf286
 v167:=zeroValue286
 t168:=underlying289
 a168:=isAgg289
 z168:=sizeOf289
 v168:=zeroValue289
 t171:=underlying313
 a171:=isAgg313
 z171:=sizeOf313
 v171:=zeroValue313
 t173:=underlying315
 a173:=isAgg315
 z173:=sizeOf315
 v173:=zeroValue315
 t175:=underlying298
 a175:=isAgg298
 z175:=sizeOf298
 v175:=zeroValue298
 t210:=underlying302
 a210:=isAgg302
 z210:=sizeOf302
 v210:=zeroValue302
 t212:=underlying319
 a212:=isAgg319
 z212:=sizeOf319
 v212:=zeroValue319
 t213:=underlying320
 a213:=isAgg320
 z213:=sizeOf320
 t232:=underlying322
 a232:=isAgg322
 z232:=sizeOf322
 v232:=zeroValue322
 t233:=underlying323
 a233:=isAgg323
 z233:=sizeOf323
 v233:=zeroValue323
 g15:=by kernel_rfl
 g16:=by kernel_rfl
 g17:=by kernel_rfl
 g18:=by kernel_rfl
 g19:=by kernel_rfl }
open Go.RowKit in
theorem strconv_Atoi (s:ByteArray) (n:Int) (hl:s.size<=18) (h:Lib.atoi s.data.toList=some n) (w:World):
 Calls prog 229 #[.string s] w fun e w'=>e=.returned (.tuple #[.int .i64 n,.nilIface])/\∃t,w'=Lib.bytesWorld w 5 t:=Any.strconv_Atoi lays172 s n hl h w
def laysM171_ren:Go.Shelf.Ren:=⟨fun|171=>246|243=>266|246=>276|283=>280|284=>281|285=>282|286=>283|129=>260|317=>284|318=>285|319=>286|320=>287|337=>288|338=>289|n=>n,fun|3=>3|9=>9|2=>2|4=>4|171=>313|0=>0|53=>285|37=>266|5=>5|173=>315|212=>319|51=>283|20=>20|213=>320|46=>270|232=>322|233=>323|n=>n,fun|17=>3|18=>4|19=>5|n=>n⟩
theorem laysM171:Go.Proofs.LaysM.n171 prog laysM171_ren:={
 mixed:=by kernel_rfl
 f129:=func260.trans (congrArg some (by kernel_rfl))
 f171:=func246.trans (congrArg some (by kernel_rfl))
 f243:=func266.trans (congrArg some (by kernel_rfl))
 f246:=func276.trans (congrArg some (by kernel_rfl))
 f283:=func280.trans (congrArg some (by kernel_rfl))
 f284:=func281.trans (congrArg some (by kernel_rfl))
 f285:=func282.trans (congrArg some (by kernel_rfl))
 f286:=func283.trans (congrArg some (by kernel_rfl))
 f317:=func284.trans (congrArg some (by kernel_rfl))
 f318:=func285.trans (congrArg some (by kernel_rfl))
 f319:=func286.trans (congrArg some (by kernel_rfl))
 f320:=func287.trans (congrArg some (by kernel_rfl))
 f337:=func288.trans (congrArg some (by kernel_rfl))
 f338:=func289.trans (congrArg some (by kernel_rfl))
 t0:=underlying0
 a0:=isAgg0
 z0:=sizeOf0
 v0:=zeroValue0
 t2:=underlying2
 a2:=isAgg2
 z2:=sizeOf2
 v2:=zeroValue2
 t3:=underlying3
 a3:=isAgg3
 z3:=sizeOf3
 v3:=zeroValue3
 t4:=underlying4
 a4:=isAgg4
 z4:=sizeOf4
 v4:=zeroValue4
 t5:=underlying5
 a5:=isAgg5
 z5:=sizeOf5
 v5:=zeroValue5
 t9:=underlying9
 a9:=isAgg9
 z9:=sizeOf9
 v9:=zeroValue9
 t20:=underlying20
 a20:=isAgg20
 z20:=sizeOf20
 v20:=zeroValue20
 t37:=underlying266
 a37:=isAgg266
 z37:=sizeOf266
 v37:=zeroValue266
 t46:=underlying270
 a46:=isAgg270
 z46:=sizeOf270
 v46:=zeroValue270
 t51:=underlying283
 a51:=isAgg283
 z51:=sizeOf283
 v51:=zeroValue283
 t53:=underlying285
 a53:=isAgg285
 z53:=sizeOf285
 v53:=zeroValue285
 t171:=underlying313
 a171:=isAgg313
 z171:=sizeOf313
 v171:=zeroValue313
 t173:=underlying315
 a173:=isAgg315
 z173:=sizeOf315
 v173:=zeroValue315
 t212:=underlying319
 a212:=isAgg319
 z212:=sizeOf319
 v212:=zeroValue319
 t213:=underlying320
 a213:=isAgg320
 z213:=sizeOf320
 t232:=underlying322
 a232:=isAgg322
 z232:=sizeOf322
 v232:=zeroValue322
 t233:=underlying323
 a233:=isAgg323
 z233:=sizeOf323
 v233:=zeroValue323
 g17:=by kernel_rfl
 g18:=by kernel_rfl
 g19:=by kernel_rfl
 i0:=by kernel_rfl
 i2:=by kernel_rfl
 i3:=by kernel_rfl
 i4:=by kernel_rfl
 i5:=by kernel_rfl
 i9:=by kernel_rfl
 i20:=by kernel_rfl
 i37:=by kernel_rfl
 i46:=by kernel_rfl
 i51:=by kernel_rfl
 i53:=by kernel_rfl
 i171:=by kernel_rfl
 i173:=by kernel_rfl
 i212:=by kernel_rfl
 i232:=by kernel_rfl
 i233:=by kernel_rfl
 m17:=by kernel_rfl
 m18:=by kernel_rfl
 m19:=by kernel_rfl }
open Go.RowKit Go.Sort Go.Lib in
theorem strconv_Itoa (n : Int) (h0 : -9223372036854775808 ≤ n) (h1 : n ≤ 9223372036854775807) (w : World) (htab : Lib.TabIs prog w "internal/strconv.uint64pow10" .u64 Lib.pow10Tab) :
 Calls prog 246 #[.int .i64 n] w fun e w'=>e=.returned (.string ⟨(Lib.itoa n).toArray⟩)/\∃k os,w'=grow (w.drewN k) os:=Any.strconv_Itoa laysM171 n h0 h1 w htab
def laysC172_ren:Go.Shelf.Ren:=⟨fun|172=>229|244=>244|245=>245|247=>261|279=>262|280=>263|281=>264|282=>265|287=>273|316=>274|171=>246|205=>275|321=>278|322=>279|243=>266|246=>276|283=>280|284=>281|285=>282|286=>283|129=>260|317=>284|318=>285|319=>286|320=>287|337=>288|338=>289|n=>n,fun|9=>9|3=>3|75=>259|76=>260|4=>4|5=>5|167=>286|37=>266|0=>0|85=>287|2=>2|168=>289|53=>285|175=>298|46=>270|210=>302|127=>309|145=>312|143=>310|21=>21|171=>313|173=>315|212=>319|51=>283|20=>20|213=>320|232=>322|233=>323|80=>324|n=>n,fun|15=>1|16=>2|17=>3|18=>4|19=>5|n=>n⟩
theorem laysC172:Go.Proofs.LaysC.n172 prog laysC172_ren:={
 mixed:=by kernel_rfl
 f129:=func260.trans (congrArg some (by kernel_rfl))
 f171:=func246.trans (congrArg some (by kernel_rfl))
 f172:=func229.trans (congrArg some (by kernel_rfl))
 f205:=func275.trans (congrArg some (by kernel_rfl))
 f243:=func266.trans (congrArg some (by kernel_rfl))
 f244:=func244.trans (congrArg some (by kernel_rfl))
 f245:=func245.trans (congrArg some (by kernel_rfl))
 f246:=func276.trans (congrArg some (by kernel_rfl))
 f247:=func261.trans (congrArg some (by kernel_rfl))
 f279:=func262.trans (congrArg some (by kernel_rfl))
 f280:=func263.trans (congrArg some (by kernel_rfl))
 f281:=func264.trans (congrArg some (by kernel_rfl))
 f282:=func265.trans (congrArg some (by kernel_rfl))
 f283:=func280.trans (congrArg some (by kernel_rfl))
 f284:=func281.trans (congrArg some (by kernel_rfl))
 f285:=func282.trans (congrArg some (by kernel_rfl))
 f286:=func283.trans (congrArg some (by kernel_rfl))
 f287:=func273.trans (congrArg some (by kernel_rfl))
 f316:=func274.trans (congrArg some (by kernel_rfl))
 f317:=func284.trans (congrArg some (by kernel_rfl))
 f318:=func285.trans (congrArg some (by kernel_rfl))
 f319:=func286.trans (congrArg some (by kernel_rfl))
 f320:=func287.trans (congrArg some (by kernel_rfl))
 f321:=func278.trans (congrArg some (by kernel_rfl))
 f322:=func279.trans (congrArg some (by kernel_rfl))
 f337:=func288.trans (congrArg some (by kernel_rfl))
 f338:=func289.trans (congrArg some (by kernel_rfl))
 t0:=underlying0
 a0:=isAgg0
 z0:=sizeOf0
 v0:=zeroValue0
 t2:=underlying2
 a2:=isAgg2
 z2:=sizeOf2
 v2:=zeroValue2
 t3:=underlying3
 a3:=isAgg3
 z3:=sizeOf3
 v3:=zeroValue3
 t4:=underlying4
 a4:=isAgg4
 z4:=sizeOf4
 v4:=zeroValue4
 t5:=underlying5
 a5:=isAgg5
 z5:=sizeOf5
 v5:=zeroValue5
 t9:=underlying9
 a9:=isAgg9
 z9:=sizeOf9
 v9:=zeroValue9
 t20:=underlying20
 a20:=isAgg20
 z20:=sizeOf20
 v20:=zeroValue20
 t21:=underlying21
 a21:=isAgg21
 z21:=sizeOf21
 v21:=zeroValue21
 t37:=underlying266
 a37:=isAgg266
 z37:=sizeOf266
 v37:=zeroValue266
 t46:=underlying270
 a46:=isAgg270
 z46:=sizeOf270
 v46:=zeroValue270
 t51:=underlying283
 a51:=isAgg283
 z51:=sizeOf283
 v51:=zeroValue283
 t53:=underlying285
 a53:=isAgg285
 z53:=sizeOf285
 v53:=zeroValue285
 t75:=underlying259
 a75:=isAgg259
 z75:=sizeOf259
 v75:=zeroValue259
 t76:=underlying260
 a76:=isAgg260
 z76:=sizeOf260
 v76:=zeroValue260
 t85:=underlying287
 a85:=isAgg287
 z85:=sizeOf287
 v85:=zeroValue287
 t127:=underlying309
 a127:=isAgg309
 z127:=sizeOf309
 v127:=zeroValue309
 t143:=underlying310
 a143:=isAgg310
 z143:=sizeOf310
 v143:=zeroValue310
 t145:=underlying312
 a145:=isAgg312
 z145:=sizeOf312
 v145:=zeroValue312
 t167:=underlying286
 a167:=isAgg286
 z167:=sizeOf286
 v167:=zeroValue286
 t168:=underlying289
 a168:=isAgg289
 z168:=sizeOf289
 v168:=zeroValue289
 t171:=underlying313
 a171:=isAgg313
 z171:=sizeOf313
 v171:=zeroValue313
 t173:=underlying315
 a173:=isAgg315
 z173:=sizeOf315
 v173:=zeroValue315
 t175:=underlying298
 a175:=isAgg298
 z175:=sizeOf298
 v175:=zeroValue298
 t210:=underlying302
 a210:=isAgg302
 z210:=sizeOf302
 v210:=zeroValue302
 t212:=underlying319
 a212:=isAgg319
 z212:=sizeOf319
 v212:=zeroValue319
 t213:=underlying320
 a213:=isAgg320
 z213:=sizeOf320
 t232:=underlying322
 a232:=isAgg322
 z232:=sizeOf322
 v232:=zeroValue322
 t233:=underlying323
 a233:=isAgg323
 z233:=sizeOf323
 v233:=zeroValue323
 g15:=by kernel_rfl
 g16:=by kernel_rfl
 g17:=by kernel_rfl
 g18:=by kernel_rfl
 g19:=by kernel_rfl
 t80:=underlying324
 a80:=isAgg324
 z80:=sizeOf324
 v80:=zeroValue324
 i0:=by kernel_rfl
 i2:=by kernel_rfl
 i3:=by kernel_rfl
 i4:=by kernel_rfl
 i5:=by kernel_rfl
 i9:=by kernel_rfl
 i20:=by kernel_rfl
 i21:=by kernel_rfl
 i37:=by kernel_rfl
 i46:=by kernel_rfl
 i51:=by kernel_rfl
 i53:=by kernel_rfl
 i75:=by kernel_rfl
 i76:=by kernel_rfl
 i80:=by kernel_rfl
 i85:=by kernel_rfl
 i127:=by kernel_rfl
 i143:=by kernel_rfl
 i145:=by kernel_rfl
 i167:=by kernel_rfl
 i168:=by kernel_rfl
 i171:=by kernel_rfl
 i173:=by kernel_rfl
 i175:=by kernel_rfl
 i210:=by kernel_rfl
 i212:=by kernel_rfl
 i232:=by kernel_rfl
 i233:=by kernel_rfl
 m15:=by kernel_rfl
 m16:=by kernel_rfl
 m17:=by kernel_rfl
 m18:=by kernel_rfl
 m19:=by kernel_rfl
 c0:=by kernel_rfl
 c2:=by kernel_rfl
 c3:=by kernel_rfl
 c4:=by kernel_rfl
 c5:=by kernel_rfl
 c9:=by kernel_rfl
 c20:=by kernel_rfl
 c21:=by kernel_rfl
 c37:=by kernel_rfl
 c46:=by kernel_rfl
 c51:=by kernel_rfl
 c53:=by kernel_rfl
 c75:=by kernel_rfl
 c76:=by kernel_rfl
 c80:=by kernel_rfl
 c85:=by kernel_rfl
 c127:=by kernel_rfl
 c143:=by kernel_rfl
 c145:=by kernel_rfl
 c167:=by kernel_rfl
 c168:=by kernel_rfl
 c171:=by kernel_rfl
 c173:=by kernel_rfl
 c175:=by kernel_rfl
 c210:=by kernel_rfl
 c212:=by kernel_rfl
 c213:=by kernel_rfl
 c232:=by kernel_rfl
 c233:=by kernel_rfl }
open Go.RowKit in
theorem strconv_Atoi_err_var (s : ByteArray) (hl : s.size ≤ 18) (h : Lib.atoi s.data.toList = none) (tp : TypeId) (p : Value) (w : World) (hvar : w.var? prog "strconv.ErrSyntax" = some #[.iface tp p]) :
 Calls prog 229 #[.string s] w fun e w'=>∃N,e=.returned (.tuple #[.int .i64 0,.iface 289 (.pointer (some ⟨N,0,none⟩))])/\w.heap.size<=N/\w'.heap[N]?=some (.cells #[.string ⟨#[65,116,111,105]⟩,.string s,.iface tp p] 302 (0,0))/\Below w.heap.size w w':=Any.strconv_Atoi_err_var laysC172 s hl h tp p w hvar
def lays192_ren:Go.Shelf.Ren:=⟨fun|192=>209|190=>227|125=>243|258=>242|128=>259|129=>260|302=>250|303=>251|304=>252|305=>253|306=>254|307=>255|308=>256|309=>257|310=>258|333=>267|329=>268|330=>269|334=>270|335=>271|336=>272|344=>277|n=>n,fun|31=>81|0=>0|9=>9|3=>3|46=>270|51=>283|53=>285|4=>4|183=>276|182=>275|131=>243|5=>5|218=>292|222=>296|228=>305|229=>306|n=>n,fun|n=>n⟩
theorem lays192:Go.Proofs.Lays.n192 prog lays192_ren:={
 mixed:=by kernel_rfl
 f125:=func243.trans (congrArg some (by kernel_rfl))
 f128:=func259.trans (congrArg some (by kernel_rfl))
 f129:=func260.trans (congrArg some (by kernel_rfl))
 f190:=func227.trans (congrArg some (by kernel_rfl))
 f192:=func209.trans (congrArg some (by kernel_rfl))
 f258:=func242.trans (congrArg some (by kernel_rfl))
 f302:=func250.trans (congrArg some (by kernel_rfl))
 f303:=func251.trans (congrArg some (by kernel_rfl))
 f304:=func252.trans (congrArg some (by kernel_rfl))
 f305:=func253.trans (congrArg some (by kernel_rfl))
 f306:=func254.trans (congrArg some (by kernel_rfl))
 f307:=func255.trans (congrArg some (by kernel_rfl))
 f308:=func256.trans (congrArg some (by kernel_rfl))
 f309:=func257.trans (congrArg some (by kernel_rfl))
 f310:=func258.trans (congrArg some (by kernel_rfl))
 f329:=func268.trans (congrArg some (by kernel_rfl))
 f330:=func269.trans (congrArg some (by kernel_rfl))
 f333:=func267.trans (congrArg some (by kernel_rfl))
 f334:=func270.trans (congrArg some (by kernel_rfl))
 f335:=func271.trans (congrArg some (by kernel_rfl))
 f336:=func272.trans (congrArg some (by kernel_rfl))
 f344:=func277.trans (congrArg some (by kernel_rfl))
 t0:=underlying0
 a0:=isAgg0
 z0:=sizeOf0
 v0:=zeroValue0
 t3:=underlying3
 a3:=isAgg3
 z3:=sizeOf3
 v3:=zeroValue3
 t4:=underlying4
 a4:=isAgg4
 z4:=sizeOf4
 v4:=zeroValue4
 t5:=underlying5
 a5:=isAgg5
 z5:=sizeOf5
 v5:=zeroValue5
 t9:=underlying9
 a9:=isAgg9
 z9:=sizeOf9
 v9:=zeroValue9
 t31:=underlying81
 a31:=isAgg81
 z31:=sizeOf81
 v31:=zeroValue81
 t46:=underlying270
 a46:=isAgg270
 z46:=sizeOf270
 v46:=zeroValue270
 t51:=underlying283
 a51:=isAgg283
 z51:=sizeOf283
 v51:=zeroValue283
 t53:=underlying285
 a53:=isAgg285
 z53:=sizeOf285
 v53:=zeroValue285
 t131:=underlying243
 a131:=isAgg243
 z131:=sizeOf243
 v131:=zeroValue243
 t182:=underlying275
 a182:=isAgg275
 z182:=sizeOf275
 v182:=zeroValue275
 t183:=underlying276
 a183:=isAgg276
 z183:=sizeOf276
 v183:=zeroValue276
 t218:=underlying292
 a218:=isAgg292
 z218:=sizeOf292
 v218:=zeroValue292
 t222:=underlying296
 a222:=isAgg296
 z222:=sizeOf296
 v222:=zeroValue296
 t228:=underlying305
 a228:=isAgg305
 z228:=sizeOf305
 v228:=zeroValue305
 t229:=underlying306
 a229:=isAgg306
 z229:=sizeOf306
 v229:=zeroValue306 }
open Go.Sort Go.RowKit in
theorem sort_Strings (a off cap:Nat) (ss:List (List UInt8)) (w:World) (hH:Holds encStr w a off ss.toArray) (b:a<w.heap.size) (c:ss.length<4611686018427387904):
  Calls prog 209 #[.slice (some ⟨a,off,none⟩) ss.length cap] w fun e w'=>
   e=.returned (.tuple #[])/\∃n os,w'=grow (putRow encStr (Sort.ahead w n) a off (ss.mergeSort fun x y=>decide (x<=y)).toArray) os:=Any.sort_Strings lays192 a off cap ss w hH b c
open Go.RowKit Go.Sort in
theorem sort_Strings_none (p:Option Addr) (cap:Nat) (w:World):
 Calls prog 209 #[.slice p 0 cap] w fun e w'=>e=.returned (.tuple #[])/\w'=w:=Any.sort_Strings_none lays192 p cap w
end Go.Proofs
namespace Go.Proofs.YtcaokdmjlknmmaaGreatDoor
section
open Go.RowKit
theorem ZvB {J:World->Prop}{a b:ByteArray}{r:Int}(h:Zfl a b=some r):Zm prog J 172 [(false,[.str a]),(false,[.str b])] [(false,[(false,.int .i64 r)])]:=by
 obtain rfl:=AA h
 refine ⟨⟨f172,func172,yO,yO⟩,fun w z vs hj hz c=>?_⟩
 obtain ⟨v,u,L,M,rfl,⟨rfl,_⟩,rfl,_⟩:=ZwM c
 refine (strings_Compare a b w).mono ?_
 rintro e w' ⟨rfl,rfl⟩
 exact ⟨_,z,rfl,Zqc ⟨⟨rfl,rfl⟩,rfl⟩,fun b h=>h,Below.refl _ _⟩
end
section
open Go.RowKit Go.Sort
theorem Zu2 {α:Type}[Inhabited α] {P:Program}{J:World->Prop}{JF:Nat->Prop}(a:α->Value) (el:α->List CT) (I:∀(w:World) x v L,RCs w (el x) v L->v=[a x]) (K:∀(w w':World) x,RCs w (el x) [a x] []->RCs w' (el x) [a x] []) (u:∀l:List α,Zbj (l.map el)=true) {f:FuncId}{e:TypeId}{zs d:List α}(hc:Q1 P f) (hd:d.length=zs.length) (C:∀x∈d,x∈zs)
  (hN:∀p cap w,Calls P f #[.slice p 0 cap] w fun e w'=>e=.returned (.tuple #[])/\w'=w)
  (hC:∀i off cap w,Holds a w i off zs.toArray->i<w.heap.size->Calls P f #[.slice (some ⟨i,off,none⟩) zs.length cap] w fun e w'=>e=.returned (.tuple #[])/\∃n os,w'=grow (putRow a (Sort.ahead w n) i off d.toArray) os):
  Zpg P J JF f (.row e 1 (zs.map el)) [] [] (.row e 1 (d.map el)):=by
 refine ⟨hc,fun w z q v0 vs hj hqf hz hh ha=>?_⟩
 cases vs with
 |cons _ _=>exact ha.elim
 |nil=>
 obtain ⟨hfl,hm,hq,cs,c,M⟩:=hh
 have N:∀(l:List α) (cs:List Value) (L:List Nat),REs w 1 (l.map el) cs L->cs=l.map a/\(L=[]->∀x∈l,RCs w (el x) [a x] []):=by
  intro l
  induction l with
  |nil=>intro cs L h;exact ⟨h.1,fun _ x mx=>by simp at mx⟩
  |cons x l ih=>
   rintro cs L ⟨c1,c2,L1,L2,rfl,rfl,h3,h4⟩
   obtain ⟨i1,i2⟩:=ih _ _ h4
   have e1:=I _ _ _ _ h3.1
   refine ⟨by rw [e1,i1];rfl,fun hL y my=>?_⟩
   obtain ⟨l1,l2⟩:=List.append_eq_nil_iff.1 hL
   rcases List.mem_cons.1 my with rfl|my
   .rw [<-e1,<-l1];exact h3.1
   .exact i2 l2 y my
 obtain ⟨e1,e2⟩:=N zs cs [] M
 have e2:=e2 rfl
 subst e1
 have D:∀(w':World) (l:List α),(∀x∈l,x∈zs)->REs w' 1 (l.map el) (l.map a) []:=by
  intro w' l
  induction l with
  |nil=>intro _;exact ⟨rfl,rfl⟩
  |cons x l ih=>intro hl;exact ⟨[a x],l.map a,[],[],rfl,rfl,⟨K w w' x (e2 x (hl x yG)),rfl⟩,ih fun y my=>hl y (by simp [my])⟩
 have O:(zs.map el).length=zs.length:=by simp
 rw [O]at c
 have t:∀w':World,w'.os=w.os->w'.tape=w.tape->w'.output=w.output->w.heap.size<=w'.heap.size->(∀k,k<w.heap.size->¬q=some k->w'.heap[k]?=w.heap[k]?)->w'.ownsV 0 e 1 v0 d.length (d.map a)->∃v n,Ending.returned (.tuple #[])=.returned v/\ZiY w' w.heap.size n [] v/\(∀b,inQ z q b->n b)/\ZtU w' n q (.row e 1 (d.map el)) v0/\ZCC q w w':=
  fun w' h1 h2 h3 h4 h5 h6=>⟨_,inQ z q,rfl,⟨[],[],⟨rfl,rfl⟩,Own.nil _ _,rfl⟩,fun _ h=>h,⟨u d,yE,hq,d.map a,by simpa using h6,D w' d C⟩,⟨h1,h2,h3,h4,h5⟩⟩
 rcases Nat.eq_zero_or_pos zs.length with h0|h0
 .have Q:zs=[]:=AD h0
  have R:d=[]:=AD (hd.trans h0)
  obtain ⟨A,cap,hv⟩:=ZeK c
  rw [h0]at hv
  subst hv
  refine (hN A cap w).mono ?_
  rintro e' w' ⟨rfl,rfl⟩
  exact t w' rfl rfl rfl (Nat.le_refl _) (fun _ _ _=>rfl) (by rw [R];rw [Q]at c;exact c)
 .rcases c.2 with ⟨h',hl0⟩|⟨g,o,cap,m,h',hb,hg,hnc,S,E,B⟩
  .omega
  .subst h'
   have F:g<w.heap.size:=(Array.getElem?_eq_some_iff.1 hg).1
   have G:∀j,j<zs.length->m[o+j]?=some (a zs[j]!):=fun j hj=>by
    have:=congrArg (fun l=>l[j]?) B
    simp only[Nat.mul_one,AE,hj,if_true,AF,AG,AC]at this
    rw [this]
    simp [List.getElem!_eq_getElem?_getD,hj]
   refine (hC g o cap w (fun j hj=>?_) F).mono ?_
   .have H:j<zs.length:=by simpa using hj
    refine ⟨?_,by simp [World.frozen?,hg]⟩
    simp only[World.cell?,hg,Option.isSome_none,Bool.false_eq_true,if_false]
    rw [G j H]
    simp [H]
   .rintro e' w' ⟨rfl,n,os,rfl⟩
    have hh:(putRow a (Sort.ahead w n) g o d.toArray).heap[g]?=some (.cells (putCells a o d.toArray m) e (0,0)):=by
     simp only[putRow,mapBlock,heap_ahead,AH,if_true,hg,Option.map_some,onCells]
    refine t _ rfl rfl rfl yG (fun k hk T=>?_) ⟨yG,.inr ⟨g,o,cap,putCells a o d.toArray m,by rw [hd],yE,?_,yE,S,by simpa [putCells]using E,?_⟩⟩
    .rw [heap_grow_old _ _ (by simpa using hk)]
     simp only[putRow,mapBlock,heap_ahead,AH]
     rw [if_neg (fun e=>T (by rw [<-hq];simp [Value.ownBlock,e]))]
    .rw [heap_grow_old _ _ (by simpa using F)];exact hh
    .apply List.ext_getElem?
     intro j
     simp only[Nat.mul_one,AE,AF,AC,AG,putCells,Array.getElem?_mapIdx,AI]
     by_cases hj:j<d.length
     .have U:o+j<m.size:=by omega
      simp [hj,U]
     .simp [hj]
end
section
open Go.RowKit Go.Sort
theorem ZnK {J:World->Prop}{JF:Nat->Prop}{l r:List ByteArray}(h:ZcI l=some r):Zpg prog J JF 209 (.row 9 1 (l.map ZH)) [] [] (.row 9 1 (r.map ZH)):=by
 obtain ⟨h1,h2⟩:=ZM h
 obtain rfl:=AA h2
 have e1:l.map ZH=(l.map toL).map fun x=>ZH (ofL x):=by rw [AJ];exact List.map_congr_left fun x _=>by simp [Zjc]
 have e2:(Zfo l).map ZH=((l.map toL).mergeSort fun x y=>decide (x<=y)).map fun x=>ZH (ofL x):=by simp [Zfo,AJ,Function.comp_def]
 rw [e1,e2]
 refine Zu2 encStr (fun x=>ZH (ofL x)) (fun w x v L h=>?_) (fun w w' x h=>h) (fun l=>Zcq (fun _=>rfl) l) ⟨f209,func209,yO,yO⟩ yG (fun x hx=>by simpa using hx) (fun p cap w=>sort_Strings_none p cap w) (fun a off cap w hH hb=>sort_Strings a off cap (l.map toL) w hH hb (by simp;omega))
 obtain ⟨u,vs,L1,L2,rfl,rfl,q1,rfl,rfl⟩:=h
 rw [q1.1]
 rfl
end
section
open Go.RowKit
theorem ZBr {J : World → Prop} (hJ : ∀ w, J w → ∃ tp p, w.var? prog "strconv.ErrSyntax" = some #[.iface tp p]) {s : ByteArray} {r : Int × Bool} (h : Zl2 s = some r) : Zm prog J 229 [(false, [.str s])] [(false, [(false, .int .i64 r.1)]), (false, [(false, .ifc r.2)])] := by
 obtain ⟨h1,h2⟩:=ZM h
 refine ⟨⟨f229,func229,yO,yO⟩,fun w z vs hj hz hargs=>?_⟩
 obtain ⟨v,L,rfl,rfl,_⟩:=ZmJ hargs
 cases ha:Lib.atoi (toL s) with
 |some n=>
  rw [ha]at h2
  obtain rfl:=AA h2
  refine (strconv_Atoi s n h1 ha w).mono ?_
  rintro e w' ⟨rfl,t,rfl⟩
  exact ⟨_,z,rfl,ZpW ⟨⟨rfl,rfl⟩,rfl⟩ ⟨⟨rfl,rfl,rfl⟩,rfl⟩,fun b h=>h,Lib.bytesWorld_below _ _ _⟩
 |none=>
  rw [ha]at h2
  obtain rfl:=AA h2
  obtain ⟨tp,p,hv⟩:=hJ w hj
  refine (strconv_Atoi_err_var s h1 ha tp p w hv).mono ?_
  rintro e w' ⟨N,rfl,_,_,hb⟩
  exact ⟨_,z,rfl,ZpW ⟨⟨rfl,rfl⟩,rfl⟩ ⟨⟨rfl,rfl,_,_,rfl⟩,rfl⟩,fun b h=>h,hb⟩
end
section
open Go.RowKit Go.Sort Go.Lib
theorem ZAA {J : World → Prop} (hJ : ∀ w, J w → Lib.TabIs prog w "internal/strconv.uint64pow10" .u64 Lib.pow10Tab) {n : Int} {r : ByteArray} (h : Zph n = some r) : Zm prog J 246 [(false, [.int .i64 n])] [(false, [(false, .str r)])] := by
 obtain ⟨h1,h2⟩:=ZM h
 obtain rfl:=AA h2
 refine ⟨⟨f246,func246,yO,yO⟩,fun w z vs hj hz hargs=>?_⟩
 obtain ⟨v,L,rfl,rfl,_⟩:=ZmJ hargs
 refine (strconv_Itoa n h1.1 h1.2 w (hJ w hj)).mono ?_
 rintro e w' ⟨rfl,k,os,rfl⟩
 refine ⟨_,z,rfl,Zqc ⟨⟨rfl,rfl,?_⟩,rfl⟩,fun b h=>h,below_grow _ _ (Nat.le_refl _) _ _⟩
 have:=Lib.itoa_length_le n h1.1 h1.2
 show (Lib.itoa n).toArray.size<=_
 rw [AI]
 omega
end
theorem Zjs {a b:ByteArray}{r:Int}(h:Zfl a b=some r):Zm prog J0 172 [(false,[.str a]),(false,[.str b])] [(false,[(false,.int .i64 r)])]:=ZvB h
theorem Zj3 {l r:List ByteArray}(h:ZcI l=some r):Zpg prog J0 JF0 209 (.row 9 1 (l.map ZH)) [] [] (.row 9 1 (r.map ZH)):=ZnK h
theorem Zvv {s:ByteArray}{r:Int×Bool}(h:Zl2 s=some r):Zm prog J0 229 [(false,[.str s])] [(false,[(false,.int .i64 r.1)]),(false,[(false,.ifc r.2)])]:=ZBr ZA2 h
theorem Zuo {n:Int}{r:ByteArray}(h:Zph n=some r):Zm prog J0 246 [(false,[.int .i64 n])] [(false,[(false,.str r)])]:=ZAA ZB4 h
section
theorem yA{p q:Prop}(h:q)(e:p=q:=by simp only[*,go_sem,seval];try rfl):p:=e▸h
theorem yD{p:Prop}(e:p:=by simp only[*,go_sem,seval]):p:=e
theorem yB{α:Type}{G q v:Prop}{b:Bool}{x y:Option α}{r:α}(h:(if b=true then x else y)=some r)(h1:b=true→x=some r→q)(h2:b=false→y=some r→v)(e:∀(_:b=true)(_:x=some r),G=q:=by intro _ _;(try simp only[*,go_sem,seval]);try rfl)(f:∀(_:b=false)(_:y=some r),G=v:=by intro _ _;(try simp only[*,go_sem,seval]);try rfl):G:=Zc h (fun a c=>(e a c)▸h1 a c) fun a c=>(f a c)▸h2 a c
theorem yC{σ ρ:Type}{s:σ}{y:σ⊕ρ}{C:σ→List (Bool×Nat×Nat)→List Nat→Prop}(h:some (.inl s)=some y)(ms:List (Bool×Nat×Nat))(k:List Nat)(d:k.Nodup:=by decide)(e:C s ms k:=by simp only[*,go_sem,seval]):∃s' ms k,y=.inl s'∧k.Nodup∧C s' ms k:=⟨s,ms,k,(Option.some.inj h).symm,d,e⟩
theorem yR{σ ρ:Type}{s:σ}{y:σ⊕ρ}{C:σ→List (Bool×Nat×Nat)→List Nat→Prop}(h:some (.inl s)=some y)(k:List Nat)(d:k.Nodup:=by decide)(e:C s [] k:=by simp only[*,go_sem,seval]):∃s' ms k,y=.inl s'∧k.Nodup∧C s' ms k:=⟨s,[],k,(Option.some.inj h).symm,d,e⟩
def yL(n:Nat):SV:=.p false [.c (.int .i64 (n:Int))]
def yM(x:CT):SV:=.p false [.c x]
def zH(t:Nat)(l:List CT):Ob:=.box t (l.map .c)
attribute [go_sem] yL yM zH List.map_cons List.map_nil
def yU(l:List ByteArray):CT:=.sl 9 1 (List.map ZH l)
attribute [go_sem] yU
def yV(l:List Zk):CT:=.sl 83 2 (List.map Zw l)
attribute [go_sem] yV
def yW(l:List Zl):CT:=.sl 64 4 (List.map Zy l)
attribute [go_sem] yW
def yX(l:List Zg):CT:=.sl 218 2 (List.map ZO l)
attribute [go_sem] yX
def yY(l:List Zf):CT:=.sl 107 5 (List.map ZE l)
attribute [go_sem] yY
def yZ(l:List Int):CT:=.sl 3 1 (List.map Z8 l)
attribute [go_sem] yZ
def zA(l:List ZY):CT:=.sl 117 3 (List.map ZQ l)
attribute [go_sem] zA
def zB(l:List Z7):CT:=.sl 103 3 (List.map Z0 l)
attribute [go_sem] zB
def zC(l:List ZL):CT:=.sl 110 8 (List.map Ym l)
attribute [go_sem] zC
def zD(l:List Z2):CT:=.sl 85 3 (List.map YF l)
attribute [go_sem] zD
def zE(l:List ZX):CT:=.sl 88 2 (List.map Yu l)
attribute [go_sem] zE
def zF(l:List Zs):CT:=.sl 167 2 (List.map Xv l)
attribute [go_sem] zF
def zG(l:List Y3):CT:=.sl 97 4 (List.map Qh l)
attribute [go_sem] zG
theorem XK {x_0:Int}{least_1:Int}{most_2:Int}{r:Bool}(h:XJ x_0 least_1 most_2=some r):Zm prog J0 35 [(false,[.int .i64 x_0]),(false,[.int .i64 least_1]),(false,[.int .i64 most_2])] [(false,[(false,.bool r)])]:=by
 refine fnk func35 rfl ?_
 unfold XJ at h
 simp only[fnS,f35,Zq,go_sem,seval]
 refine yB h (fun _ h=>?_) fun _ h=>?_
 iterate 2 (cases h;exact yD)
theorem Zbd {a:(List ByteArray)}{b:ByteArray}{r:(List ByteArray)}(h:Zbb a b=some r):Zm prog J0 191 [(false,[.sl 9 1 (A0 ZH a)]),(false,[.str b])] [(false,[(false,.sl 9 1 (A0 ZH r))])]:=by
 refine fnk func191 rfl ?_
 unfold Zbb at h
 simp only[fnS,f191,Zq,go_sem,seval]
 refine Zi h (fun i s st=>match s with|(d,e)=>IV [(0,yM (yU a)),(1,yM (.str b)),(5,.p false [.row 0]),(6,yM (.bool e)),(7,yL i)] [.row 9 1 (A0 ZH d) 2] st) [] [16] yF yD ?_ ?_
 rintro _ _ ⟨d,e⟩ ⟨_,_,_⟩ _ f g l h _
 simp only[go_sem,seval,Zd]at g
 obtain ⟨⟨m,_,_,_,_⟩,_,hn⟩:=g
 subst hn
 have o:=WF.slotL l m (j:=0) rfl
 have:=ZR f
 have:=ZT f
 have:=Zp (ZS f) o
 simp only[*,go_sem,seval]
 refine yB h (fun _ h=>?_) fun _ h=>?_
 obtain ⟨q,h⟩:=ZM h
 try simp only[Nat.reduceLeDiff]at q
 simp only[*,go_sem,seval]
 exact yR h [321]
 refine yB h (fun _ h=>?_) fun _ h=>?_
 obtain ⟨t,h⟩:=ZM h
 try simp only[Nat.reduceLeDiff]at t
 simp only[*,go_sem,seval]
 exact yR h [321]
 refine yB h (fun _ h=>?_) fun _ h=>?_
 obtain ⟨u,h⟩:=ZM h
 try simp only[Nat.reduceLeDiff]at u
 simp only[*,go_sem,seval]
 exact yR h [433]
 obtain ⟨v,h⟩:=ZM h
 try simp only[Nat.reduceLeDiff]at v
 obtain ⟨w,h⟩:=ZM h
 try simp only[Nat.reduceLeDiff]at w
 simp only[*,go_sem,seval]
 exact yR h [513]
 rintro ⟨d,e⟩ ⟨_,_,_⟩ k _ h
 simp only[go_sem,seval,Zd]at k
 obtain ⟨⟨_,_,_,_,_⟩,_,hn⟩:=k
 subst hn
 have:=ZN (a.length)
 simp only[*,go_sem,seval]
 refine yB h (fun _ h=>?_) fun _ h=>?_
 cases h;exact yD
 obtain ⟨x,h⟩:=ZM h
 try simp only[Nat.reduceLeDiff]at x
 cases h;exact yD
theorem Q0 {l_0:(List ByteArray)}{s_1:ByteArray}{r:Bool}(h:YU l_0 s_1=some r):Zm prog J0 136 [(false,[.sl 9 1 (A0 ZH l_0)]),(false,[.str s_1])] [(false,[(false,.bool r)])]:=by
 refine fnk func136 rfl ?_
 unfold YU at h
 simp only[fnS,f136,Zq,go_sem,seval]
 refine Zi h (fun i _ st=>IV [(0,yM (yU l_0)),(1,yM (.str s_1)),(5,yL i)] [] st) [] [] yF yD ?_ ?_
 rintro _ _ ⟨⟩ ⟨_,_,_⟩ _ a b e h f
 simp only[go_sem,seval,Zd]at b
 obtain ⟨⟨g,_,_⟩,hn⟩:=b
 subst hn
 have k:=WF.slotL e g (j:=0) rfl
 have:=ZR a
 have:=ZT a
 have:=Zp (ZS a) k
 simp only[*,go_sem,seval]
 refine yB h (fun _ h=>?_) fun _ h=>?_
 replace h:=Zt h f
 cases h;exact yD
 exact yR h []
 rintro ⟨⟩ ⟨_,_,_⟩ d _ h
 simp only[go_sem,seval,Zd]at d
 obtain ⟨⟨_,_,_⟩,hn⟩:=d
 subst hn
 have:=ZN (l_0.length)
 cases h;exact yD
theorem Zh8 {l_0:(List Zl)}{name_1:ByteArray}{r:Int}(h:ZdX l_0 name_1=some r):Zm prog J0 85 [(false,[.sl 64 4 (A0 Zy l_0)]),(false,[.str name_1])] [(false,[(false,.int .i64 r)])]:=by
 refine fnk func85 rfl ?_
 unfold ZdX at h
 simp only[fnS,f85,Zq,go_sem,seval]
 refine Zi h (fun i _ st=>IV [(0,yM (yW l_0)),(1,yM (.str name_1)),(5,yL i)] [] st) [] [] yF yD ?_ ?_
 rintro _ _ ⟨⟩ ⟨_,_,_⟩ _ a b e h f
 simp only[go_sem,seval,Zd]at b
 obtain ⟨⟨g,_,_⟩,hn⟩:=b
 subst hn
 have k:=WF.slotL e g (j:=0) rfl
 have:=ZR a
 have:=ZT a
 have:=Zp (ZS a) k
 simp only[*,go_sem,seval]
 refine yB h (fun _ h=>?_) fun _ h=>?_
 replace h:=Zt h f
 cases h;exact yD
 exact yR h []
 rintro ⟨⟩ ⟨_,_,_⟩ d _ h
 simp only[go_sem,seval,Zd]at d
 obtain ⟨⟨_,_,_⟩,hn⟩:=d
 subst hn
 have:=ZN (l_0.length)
 cases h;exact yD
theorem ZjR {l_0:(List ByteArray)}{r:(List ByteArray)}(h:ZdC l_0=some r):Zm prog J0 99 [(false,[.sl 9 1 (A0 ZH l_0)])] [(false,[(false,.sl 9 1 (A0 ZH r))])]:=by
 refine fnk func99 rfl ?_
 unfold ZdC at h
 simp only[fnS,f99,Zq,go_sem,seval]
 obtain ⟨_,h⟩:=ZM h
 cases h;exact yD
theorem ZlB {a_0:ByteArray}{b_1:ByteArray}{r:Int}(h:ZhA a_0 b_1=some r):Zm prog J0 148 [(false,[.str a_0]),(false,[.str b_1])] [(false,[(false,.int .i64 r)])]:=by
 refine fnk func148 rfl ?_
 unfold ZhA at h
 simp only[fnS,f148,Zq,go_sem,seval]
 refine yB h (fun a h=>?_) fun a h=>?_
 cases h;exact yD
 refine Zc h (fun c2 h=>?_) (fun c2 h=>?_)
 have b:=c2
 try simp only[a,AK,AL]at b
 cases h;exact yD
 have b:=c2
 try simp only[a,AK,AL]at b
 cases h;exact yD
theorem Zkk {n_0:Int}{r:ByteArray}(h:Za3 n_0=some r):Zm prog J0 223 [(false,[.int .i64 n_0])] [(false,[(false,.str r)])]:=by
 refine fnk func223 rfl ?_
 unfold Za3 at h
 have f:ZaR ⟨#[45,57,50,50,51,51,55,50,48,51,54,56,53,52,55,55,53,56,48,56]⟩=true:=by decide
 have g:ZaR ⟨#[]⟩=true:=by decide
 have i:¬((10:Int)=0):=by decide
 simp only[fnS,f223,Zq,go_sem,seval,f,g,i]
 refine yB h (fun _ h=>?_) fun _ h=>?_
 cases h;exact yD
 refine yB h (fun _ h=>?_) fun _ h=>?_
 cases h
 refine Zaj h (fun s st=>match s with|(a,b)=>IV [(0,yM (.int .i64 a)),(3,yM (.str b))] [] st) [] [] yF yD ?_
 rintro ⟨a,b⟩ ⟨_,_,_⟩ _ d _ h j
 simp only[go_sem,seval,Zd]at d
 obtain ⟨⟨_,_⟩,hn⟩:=d
 subst hn
 obtain ⟨_,h⟩:=ZM h
 simp only[*,go_sem,seval]
 refine yB h (fun _ h=>?_) fun _ h=>?_
 replace h:=Zt h j
 cases h;exact yD
 exact yR h []
theorem Zhi {n_0:Int}{r:ByteArray}(h:Zap n_0=some r):Zm prog J0 223 [(false,[.int .i64 n_0])] [(false,[(false,.str r)])]:=by
 refine fnk func223 rfl ?_
 unfold Zap at h
 have f:ZaR ⟨#[45,57,50,50,51,51,55,50,48,51,54,56,53,52,55,55,53,56,48,56]⟩=true:=by decide
 have g:ZaR ⟨#[45]⟩=true:=by decide
 have i:ZaR ⟨#[]⟩=true:=by decide
 have j:¬((10:Int)=0):=by decide
 simp only[fnS,f223,Zq,go_sem,seval,f,g,i,j]
 refine yB h (fun _ h=>?_) fun _ h=>?_
 cases h;exact yD
 refine yB h (fun _ h=>?_) fun _ h=>?_
 refine ZE9 h fun _ k h=>Zb (Zkk k) ?_
 obtain ⟨l,h⟩:=ZM h
 simp only[go_sem]at l
 cases h;exact yD
 refine Zaj h (fun s st=>match s with|(a,b)=>IV [(0,yM (.int .i64 a)),(3,yM (.str b))] [] st) [] [] yF yD ?_
 rintro ⟨a,b⟩ ⟨_,_,_⟩ _ d _ h m
 simp only[go_sem,seval,Zd]at d
 obtain ⟨⟨_,_⟩,hn⟩:=d
 subst hn
 obtain ⟨_,h⟩:=ZM h
 simp only[*,go_sem,seval]
 refine yB h (fun _ h=>?_) fun _ h=>?_
 replace h:=Zt h m
 cases h;exact yD
 exact yR h []
theorem ZrC {r_0:Zl}{r:Int}(h:Zi9 r_0=some r):Zm prog J0 86 [(true,Zy r_0)] [(false,[(false,.int .i64 r)])]:=by
 refine fnk func86 rfl ?_
 unfold Zi9 at h
 simp only[fnS,f86,Zq,go_sem,seval]
 refine Zi h (fun i a st=>IV [(1,.bp 0 0),(3,yM (.int .i64 a)),(4,yL i)] [zH 64 (Zy r_0)] st) [] [0] yF yD ?_ ?_
 rintro _ _ a ⟨_,_,_⟩ _ b d f h _
 simp only[go_sem,seval,Zd]at d
 obtain ⟨⟨_,_,_⟩,g,hn⟩:=d
 subst hn
 have k:=WF.boxL f g (j:=2) rfl
 have:=ZR b
 have:=ZT b
 have:=Zp (ZS b) k
 simp only[*,go_sem,seval]
 refine yB h (fun _ h=>?_) fun _ h=>?_
 exact yR h [0]
 exact yR h [0]
 rintro a ⟨_,_,_⟩ e _ h
 simp only[go_sem,seval,Zd]at e
 obtain ⟨⟨_,_,_⟩,_,hn⟩:=e
 subst hn
 have:=ZN (r_0.cond.length)
 cases h;exact yD
theorem ZkV {a_0:(List Int)}{b_1:(List Int)}{r:Bool}(h:ZaD a_0 b_1=some r):Zm prog J0 87 [(false,[.sl 3 1 (A0 Z8 a_0)]),(false,[.sl 3 1 (A0 Z8 b_1)])] [(false,[(false,.bool r)])]:=by
 refine fnk func87 rfl ?_
 unfold ZaD at h
 simp only[fnS,f87,Zq,go_sem,seval]
 refine yB h (fun _ h=>?_) fun _ h=>?_
 cases h;exact yD
 refine Zi h (fun i _ st=>IV [(0,yM (yZ a_0)),(1,yM (yZ b_1)),(5,yL i)] [] st) [] [] yF yD ?_ ?_
 rintro _ _ ⟨⟩ ⟨_,_,_⟩ _ a b e h f
 simp only[go_sem,seval,Zd]at b
 obtain ⟨⟨g,_,_⟩,hn⟩:=b
 subst hn
 have k:=WF.slotL e g (j:=0) rfl
 have:=ZR a
 have:=ZT a
 have:=Zp (ZS a) k
 obtain ⟨_,_,_,l,h⟩:=Qj h
 simp only[AB]at l
 simp only[*,go_sem,seval]
 refine yB h (fun _ h=>?_) fun _ h=>?_
 replace h:=Zt h f
 cases h;exact yD
 exact yR h []
 rintro ⟨⟩ ⟨_,_,_⟩ d _ h
 simp only[go_sem,seval,Zd]at d
 obtain ⟨⟨_,_,_⟩,hn⟩:=d
 subst hn
 have:=ZN (a_0.length)
 cases h;exact yD
theorem Zfk {a_0:(List ByteArray)}{b_1:(List ByteArray)}{r:Bool}(h:ZcG a_0 b_1=some r):Zm prog J0 98 [(false,[.sl 9 1 (A0 ZH a_0)]),(false,[.sl 9 1 (A0 ZH b_1)])] [(false,[(false,.bool r)])]:=by
 refine fnk func98 rfl ?_
 unfold ZcG at h
 simp only[fnS,f98,Zq,go_sem,seval]
 refine yB h (fun _ h=>?_) fun _ h=>?_
 cases h;exact yD
 refine Zi h (fun i _ st=>IV [(0,yM (yU a_0)),(1,yM (yU b_1)),(5,yL i)] [] st) [] [] yF yD ?_ ?_
 rintro _ _ ⟨⟩ ⟨_,_,_⟩ _ a b e h f
 simp only[go_sem,seval,Zd]at b
 obtain ⟨⟨g,_,_⟩,hn⟩:=b
 subst hn
 have k:=WF.slotL e g (j:=0) rfl
 have:=ZR a
 have:=ZT a
 have:=Zp (ZS a) k
 obtain ⟨_,_,_,l,h⟩:=Qj h
 simp only[AB]at l
 simp only[*,go_sem,seval]
 refine yB h (fun _ h=>?_) fun _ h=>?_
 exact yR h []
 replace h:=Zt h f
 cases h;exact yD
 rintro ⟨⟩ ⟨_,_,_⟩ d _ h
 simp only[go_sem,seval,Zd]at d
 obtain ⟨⟨_,_,_⟩,hn⟩:=d
 subst hn
 have:=ZN (a_0.length)
 cases h;exact yD
theorem ZdR {s_0:ByteArray}{a_1:(List Zg)}{r:ByteArray}(h:Q2 s_0 a_1=some r):Zm prog J0 196 [(false,[.str s_0]),(false,[.sl 218 2 (A0 ZO a_1)])] [(false,[(false,.str r)])]:=by
 refine fnk func196 rfl ?_
 unfold Q2 at h
 have e:ZaR ⟨#[]⟩=true:=by decide
 simp only[fnS,f196,Zq,go_sem,seval,e]
 refine Zi h (fun i _ st=>IV [(0,yM (.str s_0)),(1,yM (yX a_1)),(5,yL i)] [] st) [] [] yF yD ?_ ?_
 rintro _ _ ⟨⟩ ⟨_,_,_⟩ _ a b f h g
 simp only[go_sem,seval,Zd]at b
 obtain ⟨⟨_,k,_⟩,hn⟩:=b
 subst hn
 have l:=WF.slotL f k (j:=0) rfl
 have:=ZR a
 have:=ZT a
 have:=Zp (ZS a) l
 simp only[*,go_sem,seval]
 refine yB h (fun _ h=>?_) fun _ h=>?_
 replace h:=Zt h g
 cases h;exact yD
 exact yR h []
 rintro ⟨⟩ ⟨_,_,_⟩ d _ h
 simp only[go_sem,seval,Zd]at d
 obtain ⟨⟨_,_,_⟩,hn⟩:=d
 subst hn
 have:=ZN (a_1.length)
 cases h;exact yD
theorem Zgs {b_0:(List Zg)}{r:(List Zg)}(h:ZcW b_0=some r):Zm prog J0 152 [(false,[.sl 218 2 (A0 ZO b_0)])] [(false,[(false,.sl 218 2 (A0 ZO r))])]:=by
 refine fnk func152 rfl ?_
 unfold ZcW at h
 simp only[fnS,f152,Zq,go_sem,seval]
 obtain ⟨_,h⟩:=ZM h
 cases h;exact yD
theorem Ztg {a:(List Zg)}{b:ByteArray}{d:ByteArray}{r:(List Zg)}(h:ZiW a b d=some r):Zm prog J0 199 [(false,[.sl 218 2 (A0 ZO a)]),(false,[.str b]),(false,[.str d])] [(false,[(false,.sl 218 2 (A0 ZO r))])]:=by
 refine fnk func199 rfl ?_
 unfold ZiW at h
 simp only[fnS,f199,Zq,go_sem,seval]
 refine Zi h (fun i s st=>match s with|(e,f)=>IV [(0,yM (yX a)),(1,yM (.str b)),(2,yM (.str d)),(7,.p false [.row 0]),(8,yM (.bool f)),(9,yL i)] [.row 218 2 (A0 ZO e) 2] st) [] [16] yF yD ?_ ?_
 rintro _ _ ⟨e,f⟩ ⟨_,_,_⟩ _ g l o h _
 simp only[go_sem,seval,Zd]at l
 obtain ⟨⟨q,_,_,_,_,_⟩,_,hn⟩:=l
 subst hn
 have t:=WF.slotL o q (j:=0) rfl
 have:=ZR g
 have:=ZT g
 have:=Zp (ZS g) t
 simp only[*,go_sem,seval]
 refine yB h (fun _ h=>?_) fun _ h=>?_
 obtain ⟨u,h⟩:=ZM h
 try simp only[Nat.reduceLeDiff]at u
 simp only[*,go_sem,seval]
 exact yR h [337]
 refine Zc h (fun k h=>?_) (fun k h=>?_)
 have v:=k
 obtain ⟨w,h⟩:=ZM h
 try simp only[Nat.reduceLeDiff]at w
 simp only[*,go_sem,seval]
 exact yR h [337]
 have v:=k
 obtain ⟨x,h⟩:=ZM h
 try simp only[Nat.reduceLeDiff]at x
 obtain ⟨y,h⟩:=ZM h
 try simp only[Nat.reduceLeDiff]at y
 simp only[*,go_sem,seval]
 exact yR h [465]
 rintro ⟨e,f⟩ ⟨_,_,_⟩ m _ h
 simp only[go_sem,seval,Zd]at m
 obtain ⟨⟨_,_,_,_,_,_⟩,_,hn⟩:=m
 subst hn
 have:=ZN (a.length)
 simp only[*,go_sem,seval]
 refine yB h (fun _ h=>?_) fun _ h=>?_
 cases h;exact yD
 obtain ⟨z,h⟩:=ZM h
 try simp only[Nat.reduceLeDiff]at z
 cases h;exact yD
theorem Zio {a_0:(List Zg)}{b_1:(List Zg)}{r:Bool}(h:Zdk a_0 b_1=some r):Zm prog J0 95 [(false,[.sl 218 2 (A0 ZO a_0)]),(false,[.sl 218 2 (A0 ZO b_1)])] [(false,[(false,.bool r)])]:=by
 refine fnk func95 rfl ?_
 unfold Zdk at h
 simp only[fnS,f95,Zq,go_sem,seval]
 refine yB h (fun _ h=>?_) fun _ h=>?_
 cases h;exact yD
 refine Zi h (fun i _ st=>IV [(0,yM (yX a_0)),(1,yM (yX b_1)),(5,yL i)] [] st) [] [] yF yD ?_ ?_
 rintro _ _ ⟨⟩ ⟨_,_,_⟩ _ a b e h f
 simp only[go_sem,seval,Zd]at b
 obtain ⟨⟨g,_,_⟩,hn⟩:=b
 subst hn
 have k:=WF.slotL e g (j:=0) rfl
 have:=ZR a
 have:=ZT a
 have:=Zp (ZS a) k
 obtain ⟨_,_,_,l,h⟩:=Qj h
 simp only[AB]at l
 simp only[*,go_sem,seval]
 refine yB h (fun _ h=>?_) fun _ h=>?_
 exact yR h []
 replace h:=Zt h f
 cases h;exact yD
 rintro ⟨⟩ ⟨_,_,_⟩ d _ h
 simp only[go_sem,seval,Zd]at d
 obtain ⟨⟨_,_,_⟩,hn⟩:=d
 subst hn
 have:=ZN (a_0.length)
 cases h;exact yD
theorem Qp {s_0:ByteArray}{r:Bool}(h:QI s_0=some r):Zm prog J0 171 [(false,[.str s_0])] [(false,[(false,.bool r)])]:=by
 refine fnk func171 rfl ?_
 unfold QI at h
 simp only[fnS,f171,Zq,go_sem,seval]
 iterate 2 ((refine Zc h (fun _ h=>?_) fun _ h=>?_<;>try simp only[*,go_sem,seval]);cases h;simp only[*,go_sem,seval])
 refine Zi h (fun i _ st=>IV [(0,yM (.str s_0)),(3,yL i)] [] st) [] [] yF yD ?_ ?_
 rintro _ _ ⟨⟩ ⟨_,_,_⟩ _ b d f h a
 simp only[go_sem,seval,Zd]at d
 obtain ⟨⟨g,_⟩,hn⟩:=d
 subst hn
 have k:=WF.slotS f g (j:=0) rfl
 have:=ZpP b
 have:=Zxs b
 have:=Zp (ZtR b) k
 simp only[*,go_sem,seval]
 iterate 2 refine yB h (fun _ h=>?_) fun _ h=>?_
 replace h:=Zt h a
 cases h;exact yD
 refine yB h (fun _ h=>?_) fun _ h=>?_
 replace h:=Zt h a
 cases h;exact yD
 exact yR h []
 iterate 2 refine yB h (fun _ h=>?_) fun _ h=>?_
 replace h:=Zt h a
 cases h;exact yD
 refine yB h (fun _ h=>?_) fun _ h=>?_
 replace h:=Zt h a
 cases h;exact yD
 exact yR h []
 exact yR h []
 rintro ⟨⟩ ⟨_,_,_⟩ e _ h
 simp only[go_sem,seval,Zd]at e
 obtain ⟨⟨_,_⟩,hn⟩:=e
 subst hn
 have:=ZN (s_0.size)
 cases h;exact yD
theorem ZaH {p_0:Zj}{r:Bool}(h:Xi p_0=some r):Zm prog J0 205 [(true,YD p_0)] [(false,[(false,.bool r)])]:=by
 refine fnk func205 rfl ?_
 unfold Xi at h
 have a:ZaR ⟨#[]⟩=true:=by decide
 simp only[fnS,f205,Zq,go_sem,seval,a]
 refine yB h (fun _ h=>?_) fun _ h=>?_
 iterate 2 (cases h;exact yD)
theorem Zci {l_0:(List ByteArray)}{r:(List ByteArray)}(h:X0 l_0=some r):Zm prog J0 169 [(false,[.sl 9 1 (A0 ZH l_0)])] [(false,[(false,.sl 9 1 (A0 ZH r))])]:=by
 refine fnk func169 rfl ?_
 unfold X0 at h
 simp only[fnS,f169,Zq,go_sem,seval]
 obtain ⟨_,h⟩:=ZM h
 simp only[*,go_sem,seval]
 obtain ⟨a,g,h⟩:=Za h
 refine ZA6 (Zj3 g)<|yA ?_
 refine Zi h (fun i b st=>IV [(3,.p false [.row 0]),(4,.p false [.row 1]),(11,.p false [.row 0]),(12,yL a.length),(13,yL i)] [.row 9 1 (A0 ZH a) 2,.row 9 1 (A0 ZH b) 2] st) [(false,4,0)] [32,160] yF yD ?_ ?_
 rintro _ _ b ⟨_,_,_⟩ _ d e j h _
 simp only[go_sem,seval,Zd]at e
 obtain ⟨⟨_,_,_,_,_⟩,k,_,hn⟩:=e
 subst hn
 have l:=WF.rowL j k
 have:=ZR d
 have:=ZT d
 have:=Zp (ZS d) l
 simp only[*,go_sem,seval]
 refine yB h (fun _ h=>?_) fun _ h=>?_
 obtain ⟨m,h⟩:=ZM h
 try simp only[Nat.reduceLeDiff]at m
 simp only[*,go_sem,seval]
 exact yR h [0,322]
 obtain ⟨_,h⟩:=ZM h
 obtain ⟨_,_,h⟩:=Za h
 simp only[*,go_sem,seval]
 refine yB h (fun _ h=>?_) fun _ h=>?_
 exact yR h [0,1]
 obtain ⟨o,h⟩:=ZM h
 try simp only[Nat.reduceLeDiff]at o
 simp only[*,go_sem,seval]
 exact yR h [0,322]
 rintro b ⟨_,_,_⟩ f _ h
 simp only[go_sem,seval,Zd]at f
 obtain ⟨⟨_,_,_,_,_⟩,_,_,hn⟩:=f
 subst hn
 have:=ZN (a.length)
 cases h;exact yD
theorem Zds {l_0:(List ByteArray)}{s_1:ByteArray}{r:Bool}(h:ZaJ l_0 s_1=some r):Zm prog J0 168 [(false,[.sl 9 1 (A0 ZH l_0)]),(false,[.str s_1])] [(false,[(false,.bool r)])]:=by
 refine fnk func168 rfl ?_
 unfold ZaJ at h
 simp only[fnS,f168,Zq,go_sem,seval]
 refine Zi h (fun i _ st=>IV [(1,yM (.str s_1)),(7,yM (yU l_0)),(8,yL l_0.length),(9,yL i)] [] st) [] [] yF yD ?_ ?_
 rintro _ _ ⟨⟩ ⟨_,_,_⟩ _ a b e h f
 simp only[go_sem,seval,Zd]at b
 obtain ⟨⟨_,g,_,_⟩,hn⟩:=b
 subst hn
 have k:=WF.slotL e g (j:=0) rfl
 have:=ZR a
 have:=ZT a
 have:=Zp (ZS a) k
 simp only[*,go_sem,seval]
 refine yB h (fun _ h=>?_) fun _ h=>?_
 replace h:=Zt h f
 cases h;exact yD
 exact yR h []
 rintro ⟨⟩ ⟨_,_,_⟩ d _ h
 simp only[go_sem,seval,Zd]at d
 obtain ⟨⟨_,_,_,_⟩,hn⟩:=d
 subst hn
 have:=ZN (l_0.length)
 cases h;exact yD
theorem ZdM {l_0:(List ByteArray)}{r:(List ByteArray)}(h:Q3 l_0=some r):Zm prog J0 119 [(false,[.sl 9 1 (A0 ZH l_0)])] [(false,[(false,.sl 9 1 (A0 ZH r))])]:=by
 refine fnk func119 rfl ?_
 unfold Q3 at h
 simp only[fnS,f119,Zq,go_sem,seval]
 obtain ⟨_,h⟩:=ZM h
 cases h;exact yD
theorem Zh6 {l_0:(List Zl)}{name_1:ByteArray}{r:Int}(h:QB l_0 name_1=some r):Zm prog J0 108 [(false,[.sl 64 4 (A0 Zy l_0)]),(false,[.str name_1])] [(false,[(false,.int .i64 r)])]:=by
 refine fnk func108 rfl ?_
 unfold QB at h
 simp only[fnS,f108,Zq,go_sem,seval]
 refine Zi h (fun i _ st=>IV [(1,yM (.str name_1)),(7,yM (yW l_0)),(8,yL l_0.length),(9,yL i)] [] st) [] [] yF yD ?_ ?_
 rintro _ _ ⟨⟩ ⟨_,_,_⟩ _ a b e h f
 simp only[go_sem,seval,Zd]at b
 obtain ⟨⟨_,g,_,_⟩,hn⟩:=b
 subst hn
 have k:=WF.slotL e g (j:=0) rfl
 have:=ZR a
 have:=ZT a
 have:=Zp (ZS a) k
 simp only[*,go_sem,seval]
 refine yB h (fun _ h=>?_) fun _ h=>?_
 replace h:=Zt h f
 cases h;exact yD
 exact yR h []
 rintro ⟨⟩ ⟨_,_,_⟩ d _ h
 simp only[go_sem,seval,Zd]at d
 obtain ⟨⟨_,_,_,_⟩,hn⟩:=d
 subst hn
 have:=ZN (l_0.length)
 cases h;exact yD
theorem Zcz {a_0:Int}{b_1:Int}{r:Int}(h:X2 a_0 b_1=some r):Zm prog J0 174 [(false,[.int .i64 a_0]),(false,[.int .i64 b_1])] [(false,[(false,.int .i64 r)])]:=by
 refine fnk func174 rfl ?_
 unfold X2 at h
 simp only[fnS,f174,Zq,go_sem,seval]
 iterate 2 ((refine Zc h (fun _ h=>?_) fun _ h=>?_<;>try simp only[*,go_sem,seval]);cases h;simp only[*,go_sem,seval])
 cases h;exact yD
theorem Zgr {n_0:Int}{r:ByteArray}(h:Qn n_0=some r):Zm prog J0 230 [(false,[.int .i64 n_0])] [(false,[(false,.str r)])]:=by
 refine fnk func230 rfl ?_
 unfold Qn at h
 have a:ZaR ⟨#[]⟩=true:=by decide
 simp only[fnS,f230,Zq,go_sem,seval,a]
 refine ZE9 h fun _ b h=>Zb (Zuo b) ?_
 cases h;exact yD
theorem Zh2 {a_0:(List Int)}{b_1:(List Int)}{r:Bool}(h:Zcp a_0 b_1=some r):Zm prog J0 109 [(false,[.sl 3 1 (A0 Z8 a_0)]),(false,[.sl 3 1 (A0 Z8 b_1)])] [(false,[(false,.bool r)])]:=by
 refine fnk func109 rfl ?_
 unfold Zcp at h
 simp only[fnS,f109,Zq,go_sem,seval]
 refine yB h (fun _ h=>?_) fun _ h=>?_
 cases h;exact yD
 refine Zi h (fun i _ st=>IV [(0,yM (yZ a_0)),(1,yM (yZ b_1)),(12,yL a_0.length),(13,yL i)] [] st) [] [] yF yD ?_ ?_
 rintro _ _ ⟨⟩ ⟨_,_,_⟩ _ a b e h f
 simp only[go_sem,seval,Zd]at b
 obtain ⟨⟨g,_,_,_⟩,hn⟩:=b
 subst hn
 have k:=WF.slotL e g (j:=0) rfl
 have:=ZR a
 have:=ZT a
 have:=Zp (ZS a) k
 obtain ⟨_,_,_,l,h⟩:=Qj h
 simp only[AB]at l
 simp only[*,go_sem,seval]
 refine yB h (fun _ h=>?_) fun _ h=>?_
 replace h:=Zt h f
 cases h;exact yD
 exact yR h []
 rintro ⟨⟩ ⟨_,_,_⟩ d _ h
 simp only[go_sem,seval,Zd]at d
 obtain ⟨⟨_,_,_,_⟩,hn⟩:=d
 subst hn
 have:=ZN (a_0.length)
 cases h;exact yD
theorem Zgt {a_0:(List ByteArray)}{b_1:(List ByteArray)}{r:Bool}(h:Zbs a_0 b_1=some r):Zm prog J0 118 [(false,[.sl 9 1 (A0 ZH a_0)]),(false,[.sl 9 1 (A0 ZH b_1)])] [(false,[(false,.bool r)])]:=by
 refine fnk func118 rfl ?_
 unfold Zbs at h
 simp only[fnS,f118,Zq,go_sem,seval]
 refine yB h (fun _ h=>?_) fun _ h=>?_
 cases h;exact yD
 refine Zi h (fun i _ st=>IV [(0,yM (yU a_0)),(1,yM (yU b_1)),(12,yL a_0.length),(13,yL i)] [] st) [] [] yF yD ?_ ?_
 rintro _ _ ⟨⟩ ⟨_,_,_⟩ _ a b e h f
 simp only[go_sem,seval,Zd]at b
 obtain ⟨⟨g,_,_,_⟩,hn⟩:=b
 subst hn
 have k:=WF.slotL e g (j:=0) rfl
 have:=ZR a
 have:=ZT a
 have:=Zp (ZS a) k
 obtain ⟨_,_,_,l,h⟩:=Qj h
 simp only[AB]at l
 simp only[*,go_sem,seval]
 refine yB h (fun _ h=>?_) fun _ h=>?_
 exact yR h []
 replace h:=Zt h f
 cases h;exact yD
 rintro ⟨⟩ ⟨_,_,_⟩ d _ h
 simp only[go_sem,seval,Zd]at d
 obtain ⟨⟨_,_,_,_⟩,hn⟩:=d
 subst hn
 have:=ZN (a_0.length)
 cases h;exact yD
theorem ZlE {a_0:(List Zg)}{b_1:(List Zg)}{r:Bool}(h:Zda a_0 b_1=some r):Zm prog J0 175 [(false,[.sl 218 2 (A0 ZO a_0)]),(false,[.sl 218 2 (A0 ZO b_1)])] [(false,[(false,.bool r)])]:=by
 refine fnk func175 rfl ?_
 unfold Zda at h
 simp only[fnS,f175,Zq,go_sem,seval]
 refine yB h (fun _ h=>?_) fun _ h=>?_
 cases h;exact yD
 refine Zi h (fun i _ st=>IV [(0,yM (yX a_0)),(1,yM (yX b_1)),(12,yL a_0.length),(13,yL i)] [] st) [] [] yF yD ?_ ?_
 rintro _ _ ⟨⟩ ⟨_,_,_⟩ _ a b e h f
 simp only[go_sem,seval,Zd]at b
 obtain ⟨⟨g,_,_,_⟩,hn⟩:=b
 subst hn
 have k:=WF.slotL e g (j:=0) rfl
 have:=ZR a
 have:=ZT a
 have:=Zp (ZS a) k
 obtain ⟨_,_,_,l,h⟩:=Qj h
 simp only[AB]at l
 simp only[*,go_sem,seval]
 refine yB h (fun _ h=>?_) fun _ h=>?_
 exact yR h []
 replace h:=Zt h f
 cases h;exact yD
 rintro ⟨⟩ ⟨_,_,_⟩ d _ h
 simp only[go_sem,seval,Zd]at d
 obtain ⟨⟨_,_,_,_⟩,hn⟩:=d
 subst hn
 have:=ZN (a_0.length)
 cases h;exact yD
end
section
theorem Zck {s_0:ByteArray}{a_1:(List Zg)}{r:ByteArray}(h:QO s_0 a_1=some r):Zm prog J0 234 [(false,[.str s_0]),(false,[.sl 218 2 (A0 ZO a_1)])] [(false,[(false,.str r)])]:=by
 refine fnk func234 rfl ?_
 unfold QO at h
 have e:ZaR ⟨#[]⟩=true:=by decide
 simp only[fnS,f234,Zq,go_sem,seval,e]
 refine Zi h (fun i _ st=>IV [(0,yM (.str s_0)),(7,yM (yX a_1)),(8,yL a_1.length),(9,yL i)] [] st) [] [] yF yD ?_ ?_
 rintro _ _ ⟨⟩ ⟨_,_,_⟩ _ a b f h g
 simp only[go_sem,seval,Zd]at b
 obtain ⟨⟨_,k,_,_⟩,hn⟩:=b
 subst hn
 have l:=WF.slotL f k (j:=0) rfl
 have:=ZR a
 have:=ZT a
 have:=Zp (ZS a) l
 simp only[*,go_sem,seval]
 refine yB h (fun _ h=>?_) fun _ h=>?_
 replace h:=Zt h g
 cases h;exact yD
 exact yR h []
 rintro ⟨⟩ ⟨_,_,_⟩ d _ h
 simp only[go_sem,seval,Zd]at d
 obtain ⟨⟨_,_,_,_⟩,hn⟩:=d
 subst hn
 have:=ZN (a_1.length)
 cases h;exact yD
theorem Zhb {b_0:(List Zg)}{r:(List Zg)}(h:ZbA b_0=some r):Zm prog J0 236 [(false,[.sl 218 2 (A0 ZO b_0)])] [(false,[(false,.sl 218 2 (A0 ZO r))])]:=by
 refine fnk func236 rfl ?_
 unfold ZbA at h
 simp only[fnS,f236,Zq,go_sem,seval]
 obtain ⟨_,h⟩:=ZM h
 cases h;exact yD
end
section
theorem Qk {s_0:ByteArray}{r:Bool}(h:QG s_0=some r):Zm prog J0 142 [(false,[.str s_0])] [(false,[(false,.bool r)])]:=by
 refine fnk func142 rfl ?_
 unfold QG at h
 simp only[fnS,f142,Zq,go_sem,seval]
 refine Zi h (fun i _ st=>IV [(0,yM (.str s_0)),(3,yL i)] [] st) [] [] yF yD ?_ ?_
 rintro _ _ ⟨⟩ ⟨_,_,_⟩ _ a b e h f
 simp only[go_sem,seval,Zd]at b
 obtain ⟨⟨g,_⟩,hn⟩:=b
 subst hn
 have k:=WF.slotS e g (j:=0) rfl
 have:=ZpP a
 have:=Zxs a
 have:=Zp (ZtR a) k
 simp only[*,go_sem,seval]
 refine ZE9 h fun _ l h=>Zb (XK l)<|yA ?_
 refine yB h (fun _ h=>?_) fun _ h=>?_
 exact yR h []
 refine ZE9 h fun _ m h=>Zb (XK m)<|yA ?_
 refine yB h (fun _ h=>?_) fun _ h=>?_
 exact yR h []
 replace h:=Zt h f
 cases h;exact yD
 rintro ⟨⟩ ⟨_,_,_⟩ d _ h
 simp only[go_sem,seval,Zd]at d
 obtain ⟨⟨_,_⟩,hn⟩:=d
 subst hn
 have:=ZN (s_0.size)
 simp only[*,go_sem,seval]
 refine ZE9 h fun _ o h=>Zb (XK o) ?_
 cases h;exact yD
theorem ZeL {f_0:Zk}{r:Zk}(h:Zdd f_0=some r):Zm prog J0 47 [(true,Zw f_0)] [(true,[(false,.str r.rel),(false,.sl 9 1 (A0 ZH r.args))])]:=by
 refine fnk func47 rfl ?_
 unfold Zdd at h
 simp only[fnS,f47,Zq,go_sem,seval]
 refine ZE9 h fun _ a h=>Zb (ZjR a) ?_
 cases h;exact yD
theorem Ze6 {s_0:ByteArray}{r:(Int×Bool)}(h:Zau s_0=some r):Zm prog J0 197 [(false,[.str s_0])] [(false,[(false,.int .i64 r.1)]),(false,[(false,.bool r.2)])]:=by
 refine fnk func197 rfl ?_
 unfold Zau at h
 simp only[fnS,f197,Zq,go_sem,seval]
 refine ZE9 h fun _ g h=>Zb (XK g)<|yA ?_
 refine yB h (fun _ h=>?_) fun _ h=>?_
 refine Zi h (fun i a st=>IV [(0,yM (.str s_0)),(4,yM (.int .i64 a)),(5,yL i)] [] st) [] [] yF yD ?_ ?_
 rintro _ _ a ⟨_,_,_⟩ _ b d k h e
 simp only[go_sem,seval,Zd]at d
 obtain ⟨⟨l,_,_⟩,hn⟩:=d
 subst hn
 have m:=WF.slotS k l (j:=0) rfl
 have:=ZpP b
 have:=Zxs b
 have:=Zp (ZtR b) m
 simp only[*,go_sem,seval]
 refine yB h (fun _ h=>?_) fun _ h=>?_
 replace h:=Zt h e
 cases h;exact yD
 refine yB h (fun _ h=>?_) fun _ h=>?_
 replace h:=Zt h e
 cases h;exact yD
 exact yR h []
 rintro a ⟨_,_,_⟩ f _ h
 simp only[go_sem,seval,Zd]at f
 obtain ⟨⟨_,_,_⟩,hn⟩:=f
 subst hn
 have:=ZN (s_0.size)
 simp only[*,go_sem,seval]
 refine ZE9 h fun _ o h=>Zb (Zhi o)<|yA ?_
 refine yB h (fun _ h=>?_) fun _ h=>?_
 iterate 3 (cases h;exact yD)
theorem ZmR {e_0:Yq}{x_1:ZX}{r:Bool}(h:ZcN e_0 x_1=some r):Zm prog J0 36 [(true,ZjL e_0),(true,Yu x_1)] [(false,[(false,.bool r)])]:=by
 refine fnk func36 rfl ?_
 unfold ZcN at h
 simp only[fnS,f36,Zq,go_sem,seval]
 refine ZE9 h fun _ e h=>Zb (Zh8 e)<|yA ?_
 refine yB h (fun _ h=>?_) fun _ h=>?_
 cases h;exact yD
 obtain ⟨_,_,_,_,h⟩:=Qj h
 simp only[*,go_sem,seval]
 refine ZE9 h fun _ f h=>Zb (ZrC f)<|yA ?_
 refine yB h (fun _ h=>?_) fun _ h=>?_
 cases h;exact yD
 refine Zi h (fun i _ st=>IV [(2,.bp 0 0),(3,.bp 1 0),(6,yL i)] [.box 43 [.c (yW e_0.rules),.c (zD e_0.memory),.c (.int .i64 e_0.clock),.c (zE e_0.fired),.c (.bool e_0.halted),.c (zG e_0.log)],zH 88 (Yu x_1)] st) [] [0,16] yF yD ?_ ?_
 rintro _ _ ⟨⟩ ⟨_,_,_⟩ _ a b g h k
 simp only[go_sem,seval,Zd]at b
 obtain ⟨⟨_,_,_⟩,_,l,hn⟩:=b
 subst hn
 have m:=WF.boxL g l (j:=1) rfl
 have:=ZR a
 have:=ZT a
 have:=Zp (ZS a) m
 simp only[*,go_sem,seval]
 refine ZE9 h fun _ o h=>Zb (XK o)<|yA ?_
 refine yB h (fun _ h=>?_) fun _ h=>?_
 exact yR h [0,1]
 replace h:=Zt h k
 cases h;exact yD
 rintro ⟨⟩ ⟨_,_,_⟩ d _ h
 simp only[go_sem,seval,Zd]at d
 obtain ⟨⟨_,_,_⟩,_,_,hn⟩:=d
 subst hn
 have:=ZN (x_1.times.length)
 cases h;exact yD
theorem Znz {l_0:(List ZX)}{x_1:Zht}{r:Bool}(h:Zel l_0 x_1=some r):Zm prog J0 37 [(false,[.sl 88 2 (A0 Yu l_0)]),(true,ZtQ x_1)] [(false,[(false,.bool r)])]:=by
 refine fnk func37 rfl ?_
 unfold Zel at h
 simp only[fnS,f37,Zq,go_sem,seval]
 refine Zi h (fun i _ st=>IV [(0,yM (zE l_0)),(3,.bp 0 0),(5,yL i)] [.box 94 [.c (.str x_1.mtch.rule),.c (yV x_1.mtch.facts),.c (yX x_1.mtch.binding),.c (.int .i64 x_1.priority),.c (yZ x_1.times),.c (.int .i64 x_1.specific),.c (.int .i64 x_1.ordr)]] st) [] [0] yF yD ?_ ?_
 rintro _ _ ⟨⟩ ⟨_,_,_⟩ _ a b e h f
 simp only[go_sem,seval,Zd]at b
 obtain ⟨⟨g,_,_⟩,_,hn⟩:=b
 subst hn
 have k:=WF.slotL e g (j:=0) rfl
 have:=ZR a
 have:=ZT a
 have:=Zp (ZS a) k
 simp only[*,go_sem,seval]
 refine yB h (fun _ h=>?_) fun _ h=>?_
 refine ZE9 h fun _ l h=>Zb (ZkV l)<|yA ?_
 refine yB h (fun _ h=>?_) fun _ h=>?_
 replace h:=Zt h f
 cases h;exact yD
 exact yR h [0]
 exact yR h [0]
 rintro ⟨⟩ ⟨_,_,_⟩ d _ h
 simp only[go_sem,seval,Zd]at d
 obtain ⟨⟨_,_,_⟩,_,hn⟩:=d
 subst hn
 have:=ZN (l_0.length)
 cases h;exact yD
theorem ZrW {a_0:Zk}{b_1:Zk}{r:Bool}(h:ZlI a_0 b_1=some r):Zm prog J0 46 [(true,Zw a_0),(true,Zw b_1)] [(false,[(false,.bool r)])]:=by
 refine fnk func46 rfl ?_
 unfold ZlI at h
 simp only[fnS,f46,Zq,go_sem,seval]
 refine yB h (fun _ h=>?_) fun _ h=>?_
 refine ZE9 h fun _ a h=>Zb (Zfk a) ?_
 iterate 2 (cases h;exact yD)
theorem Zdm {a:Zf}{a_1:(List Zg)}{r:Zf}(h:Xe a a_1=some r):Zm prog J0 145 [(true,ZE a),(false,[.sl 218 2 (A0 ZO a_1)])] [(true,[(false,.int .i64 r.kind),(false,.str r.pattern.rel),(false,.sl 9 1 (A0 ZH r.pattern.args)),(false,.str r.left),(false,.str r.right)])]:=by
 refine fnk func145 rfl ?_
 unfold Xe at h
 simp only[fnS,f145,Zq,go_sem,seval]
 refine ZE9 h fun k l h=>Zb (ZdR l)<|yA ?_
 refine ZE9 h fun m o h=>Zb (ZdR o)<|yA ?_
 refine Zi h (fun i d st=>IV [(1,yM (yX a_1)),(2,.bp 0 0),(4,.bp 1 0),(5,.bp 2 0),(6,yL i)] [zH 107 (ZE a),.box 107 [.c (.int .i64 0),.c (.str ⟨#[]⟩),.nil 9 1,.c (.str ⟨#[]⟩),.c (.str ⟨#[]⟩)],.box 107 [.c (.int .i64 a.kind),.c (.str a.pattern.rel),.row 3,.c (.str k),.c (.str m)],.row 9 1 (A0 ZH d) 2] st) [(true,272,2)] [0,16,272,320] yF yD ?_ ?_
 rintro _ _ d ⟨_,_,_⟩ _ e f q h _
 simp only[go_sem,seval,Zd]at f
 obtain ⟨⟨_,_,_,_,_⟩,t,_,_,_,hn⟩:=f
 subst hn
 have u:=WF.boxL q t (j:=2) rfl
 have:=ZR e
 have:=ZT e
 have:=Zp (ZS e) u
 simp only[*,go_sem,seval]
 refine ZE9 h fun _ v h=>Zb (ZdR v) ?_
 obtain ⟨w,h⟩:=ZM h
 try simp only[Nat.reduceLeDiff]at w
 simp only[*,go_sem,seval]
 exact yR h [0,1,2,292]
 rintro d ⟨_,_,_⟩ g _ h
 simp only[go_sem,seval,Zd]at g
 obtain ⟨⟨_,_,_,_,_⟩,_,_,_,_,hn⟩:=g
 subst hn
 have:=ZN (a.pattern.args.length)
 cases h;exact yD
theorem ZiB {p_0:Zj}{r:Zj}(h:QD p_0=some r):Zm prog J0 194 [(true,YD p_0)] [(true,[(false,.str r.rel),(false,.sl 9 1 (A0 ZH r.args))])]:=by
 refine fnk func194 rfl ?_
 unfold QD at h
 simp only[fnS,f194,Zq,go_sem,seval]
 refine ZE9 h fun _ a h=>Zb (ZjR a) ?_
 cases h;exact yD
theorem ZaK {a_0:Zj}{b_1:Zj}{r:Bool}(h:XZ a_0 b_1=some r):Zm prog J0 49 [(true,YD a_0),(true,YD b_1)] [(false,[(false,.bool r)])]:=by
 refine fnk func49 rfl ?_
 unfold XZ at h
 simp only[fnS,f49,Zq,go_sem,seval]
 refine yB h (fun _ h=>?_) fun _ h=>?_
 refine ZE9 h fun _ a h=>Zb (Zfk a) ?_
 iterate 2 (cases h;exact yD)
theorem YX {s_0:ByteArray}{r:Bool}(h:XB s_0=some r):Zm prog J0 111 [(false,[.str s_0])] [(false,[(false,.bool r)])]:=by
 refine fnk func111 rfl ?_
 unfold XB at h
 simp only[fnS,f111,Zq,go_sem,seval]
 refine ZE9 h fun _ a h=>Zb (Qp a)<|yA ?_
 refine yB h (fun _ h=>?_) fun _ h=>?_
 obtain ⟨_,_,b,h⟩:=ZtL h
 try simp only[seval]at b
 iterate 2 (cases h;exact yD)
theorem ZcA {s_0:ByteArray}{r:Bool}(h:ZbR s_0=some r):Zm prog J0 208 [(false,[.str s_0])] [(false,[(false,.bool r)])]:=by
 refine fnk func208 rfl ?_
 unfold ZbR at h
 simp only[fnS,f208,Zq,go_sem,seval]
 refine yB h (fun _ h=>?_) fun _ h=>?_
 obtain ⟨_,_,a,h⟩:=ZtL h
 try simp only[seval]at a
 simp only[*,go_sem,seval]
 refine yB h (fun _ h=>?_) fun _ h=>?_
 obtain ⟨_,h⟩:=ZM h
 simp only[*,go_sem,seval]
 refine ZE9 h fun _ b h=>Zb (Qp b) ?_
 iterate 3 (cases h;exact yD)
theorem ZjG {x_0:Zf}{r:(List ByteArray)}(h:Zbz x_0=some r):Zm prog J0 226 [(true,ZE x_0)] [(false,[(false,.sl 9 1 (A0 ZH r))])]:=by
 refine fnk func226 rfl ?_
 unfold Zbz at h
 simp only[fnS,f226,Zq,go_sem,seval]
 refine ZE9 h fun _ a h=>Zb (ZdM a) ?_
 obtain ⟨b,h⟩:=ZM h
 try simp only[Nat.reduceLeDiff]at b
 cases h;exact yD
theorem ZcF {f_0:Zk}{r:Zk}(h:QA f_0=some r):Zm prog J0 68 [(true,Zw f_0)] [(true,[(false,.str r.rel),(false,.sl 9 1 (A0 ZH r.args))])]:=by
 refine fnk func68 rfl ?_
 unfold QA at h
 simp only[fnS,f68,Zq,go_sem,seval]
 refine ZE9 h fun _ a h=>Zb (ZdM a) ?_
 cases h;exact yD
theorem ZcE {s_0:ByteArray}{r:(Int×Bool)}(h:Q5 s_0=some r):Zm prog J0 211 [(false,[.str s_0])] [(false,[(false,.int .i64 r.1)]),(false,[(false,.bool r.2)])]:=by
 refine fnk func211 rfl ?_
 unfold Q5 at h
 simp only[fnS,f211,Zq,go_sem,seval]
 iterate 2 ((refine Zc h (fun _ h=>?_) fun _ h=>?_<;>try simp only[*,go_sem,seval]);cases h;simp only[*,go_sem,seval])
 refine ZE9 h fun _ a h=>Zb (Zvv a)<|yA ?_
 iterate 2 refine yB h (fun _ h=>?_) fun _ h=>?_
 cases h;exact yD
 refine yB h (fun _ h=>?_) fun _ h=>?_
 cases h;exact yD
 refine ZE9 h fun _ b h=>Zb (Zgr b)<|yA ?_
 refine yB h (fun _ h=>?_) fun _ h=>?_
 iterate 3 (cases h;exact yD)
theorem ZkX {e_0:Yq}{f_1:ZX}{r:Bool}(h:ZbU e_0 f_1=some r):Zm prog J0 60 [(true,ZjL e_0),(true,Yu f_1)] [(false,[(false,.bool r)])]:=by
 refine fnk func60 rfl ?_
 unfold ZbU at h
 simp only[fnS,f60,Zq,go_sem,seval]
 refine ZE9 h fun _ o h=>Zb (Zh6 o)<|yA ?_
 refine yB h (fun _ h=>?_) fun _ h=>?_
 cases h;exact yD
 obtain ⟨b,_,_,_,h⟩:=Qj h
 simp only[*,go_sem,seval]
 refine Zi h (fun i a st=>IV [(2,.bp 0 0),(3,.bp 1 0),(6,yM (.int .i64 a)),(23,yM (yY b.cond)),(24,yL b.cond.length),(25,yL i)] [.box 43 [.c (yW e_0.rules),.c (zD e_0.memory),.c (.int .i64 e_0.clock),.c (zE e_0.fired),.c (.bool e_0.halted),.c (zG e_0.log)],zH 88 (Yu f_1)] st) [] [0,16] yF yD ?_ ?_
 rintro _ _ a ⟨_,_,_⟩ _ d f q h _
 simp only[go_sem,seval,Zd]at f
 obtain ⟨⟨_,_,_,t,_,_⟩,_,_,hn⟩:=f
 subst hn
 have u:=WF.slotL q t (j:=0) rfl
 have:=ZR d
 have:=ZT d
 have:=Zp (ZS d) u
 simp only[*,go_sem,seval]
 refine yB h (fun _ h=>?_) fun _ h=>?_
 exact yR h [0,1]
 exact yR h [0,1]
 rintro a ⟨_,_,_⟩ g _ h
 simp only[go_sem,seval,Zd]at g
 obtain ⟨⟨_,_,_,_,_,_⟩,_,_,hn⟩:=g
 subst hn
 have:=ZN (b.cond.length)
 simp only[*,go_sem,seval]
 refine Zi h (fun i _ st=>IV [(2,.bp 0 0),(3,.bp 1 0),(6,yM (.int .i64 a)),(36,yM (yZ f_1.times)),(37,yL f_1.times.length),(38,yL i)] [.box 43 [.c (yW e_0.rules),.c (zD e_0.memory),.c (.int .i64 e_0.clock),.c (zE e_0.fired),.c (.bool e_0.halted),.c (zG e_0.log)],zH 88 (Yu f_1)] st) [] [0,1] yF yD ?_ ?_
 rintro _ _ ⟨⟩ ⟨_,_,_⟩ _ e k v h l
 simp only[go_sem,seval,Zd]at k
 obtain ⟨⟨_,_,_,w,_,_⟩,_,_,hn⟩:=k
 subst hn
 have x:=WF.slotL v w (j:=0) rfl
 have:=ZR e
 have:=ZT e
 have:=Zp (ZS e) x
 simp only[*,go_sem,seval]
 refine yB h (fun _ h=>?_) fun _ h=>?_
 replace h:=Zt h l
 cases h;exact yD
 refine yB h (fun _ h=>?_) fun _ h=>?_
 replace h:=Zt h l
 cases h;exact yD
 exact yR h [0,1]
 rintro ⟨⟩ ⟨_,_,_⟩ m _ h
 simp only[go_sem,seval,Zd]at m
 obtain ⟨⟨_,_,_,_,_,_⟩,_,_,hn⟩:=m
 subst hn
 have:=ZN (f_1.times.length)
 cases h;exact yD
theorem Zla {a_0:ZX}{b_1:ZX}{r:Bool}(h:ZbD a_0 b_1=some r):Zm prog J0 61 [(true,Yu a_0),(true,Yu b_1)] [(false,[(false,.bool r)])]:=by
 refine fnk func61 rfl ?_
 unfold ZbD at h
 simp only[fnS,f61,Zq,go_sem,seval]
 refine yB h (fun _ h=>?_) fun _ h=>?_
 refine ZE9 h fun _ a h=>Zb (Zh2 a) ?_
 iterate 2 (cases h;exact yD)
theorem ZaE {a_0:Zj}{b_1:Zj}{r:Bool}(h:Xh a_0 b_1=some r):Zm prog J0 113 [(true,YD a_0),(true,YD b_1)] [(false,[(false,.bool r)])]:=by
 refine fnk func113 rfl ?_
 unfold Xh at h
 simp only[fnS,f113,Zq,go_sem,seval]
 refine yB h (fun _ h=>?_) fun _ h=>?_
 refine ZE9 h fun _ a h=>Zb (Zgt a) ?_
 iterate 2 (cases h;exact yD)
theorem ZnP {a_0:Zk}{b_1:Zk}{r:Bool}(h:Zem a_0 b_1=some r):Zm prog J0 67 [(true,Zw a_0),(true,Zw b_1)] [(false,[(false,.bool r)])]:=by
 refine fnk func67 rfl ?_
 unfold Zem at h
 simp only[fnS,f67,Zq,go_sem,seval]
 refine yB h (fun _ h=>?_) fun _ h=>?_
 refine ZE9 h fun _ a h=>Zb (Zgt a) ?_
 iterate 2 (cases h;exact yD)
theorem Zfh {p_0:Zj}{r:Zj}(h:QL p_0=some r):Zm prog J0 232 [(true,YD p_0)] [(true,[(false,.str r.rel),(false,.sl 9 1 (A0 ZH r.args))])]:=by
 refine fnk func232 rfl ?_
 unfold QL at h
 simp only[fnS,f232,Zq,go_sem,seval]
 refine ZE9 h fun _ a h=>Zb (ZdM a) ?_
 cases h;exact yD
theorem Zgd {a:Zf}{a_1:(List Zg)}{r:Zf}(h:ZaO a a_1=some r):Zm prog J0 214 [(true,ZE a),(false,[.sl 218 2 (A0 ZO a_1)])] [(true,[(false,.int .i64 r.kind),(false,.str r.pattern.rel),(false,.sl 9 1 (A0 ZH r.pattern.args)),(false,.str r.left),(false,.str r.right)])]:=by
 refine fnk func214 rfl ?_
 unfold ZaO at h
 simp only[fnS,f214,Zq,go_sem,seval]
 refine ZE9 h fun k l h=>Zb (Zck l)<|yA ?_
 refine ZE9 h fun m o h=>Zb (Zck o)<|yA ?_
 refine Zi h (fun i d st=>IV [(1,yM (yX a_1)),(4,.bp 0 0),(5,.bp 1 0),(26,yM (yU a.pattern.args)),(27,yL a.pattern.args.length),(28,yL i)] [.box 107 [.c (.int .i64 0),.c (.str ⟨#[]⟩),.nil 9 1,.c (.str ⟨#[]⟩),.c (.str ⟨#[]⟩)],.box 107 [.c (.int .i64 a.kind),.c (.str a.pattern.rel),.row 2,.c (.str k),.c (.str m)],.row 9 1 (A0 ZH d) 2] st) [(true,208,2)] [16,208,416] yF yD ?_ ?_
 rintro _ _ d ⟨_,_,_⟩ _ e f q h _
 simp only[go_sem,seval,Zd]at f
 obtain ⟨⟨_,_,_,t,_,_⟩,_,_,_,hn⟩:=f
 subst hn
 have u:=WF.slotL q t (j:=0) rfl
 have:=ZR e
 have:=ZT e
 have:=Zp (ZS e) u
 simp only[*,go_sem,seval]
 refine ZE9 h fun _ v h=>Zb (Zck v) ?_
 obtain ⟨w,h⟩:=ZM h
 try simp only[Nat.reduceLeDiff]at w
 simp only[*,go_sem,seval]
 exact yR h [0,1,179]
 rintro d ⟨_,_,_⟩ g _ h
 simp only[go_sem,seval,Zd]at g
 obtain ⟨⟨_,_,_,_,_,_⟩,_,_,_,hn⟩:=g
 subst hn
 have:=ZN (a.pattern.args.length)
 cases h;exact yD
end
section
theorem YV {s_0:ByteArray}{r:Bool}(h:Xx s_0=some r):Zm prog J0 89 [(false,[.str s_0])] [(false,[(false,.bool r)])]:=by
 refine fnk func89 rfl ?_
 unfold Xx at h
 simp only[fnS,f89,Zq,go_sem,seval]
 refine ZE9 h fun _ a h=>Zb (Qk a)<|yA ?_
 refine yB h (fun _ h=>?_) fun _ h=>?_
 obtain ⟨_,_,b,h⟩:=ZtL h
 try simp only[seval]at b
 simp only[*,go_sem,seval]
 refine ZE9 h fun _ c h=>Zb (XK c) ?_
 iterate 2 (cases h;exact yD)
theorem Qx {s_0:ByteArray}{r:Bool}(h:ZaC s_0=some r):Zm prog J0 193 [(false,[.str s_0])] [(false,[(false,.bool r)])]:=by
 refine fnk func193 rfl ?_
 unfold ZaC at h
 simp only[fnS,f193,Zq,go_sem,seval]
 refine yB h (fun _ h=>?_) fun _ h=>?_
 obtain ⟨_,_,a,h⟩:=ZtL h
 try simp only[seval]at a
 simp only[*,go_sem,seval]
 refine yB h (fun _ h=>?_) fun _ h=>?_
 obtain ⟨_,h⟩:=ZM h
 simp only[*,go_sem,seval]
 refine ZE9 h fun _ b h=>Zb (Qk b) ?_
 iterate 3 (cases h;exact yD)
theorem ZiR {l_0:(List Z2)}{r:(List Zk)}(h:ZdG l_0=some r):Zm prog J0 14 [(false,[.sl 85 3 (A0 YF l_0)])] [(false,[(false,.sl 83 2 (A0 Zw r))])]:=by
 refine fnk func14 rfl ?_
 unfold ZdG at h
 simp only[fnS,f14,Zq,go_sem,seval]
 refine Zi h (fun i a st=>IV [(0,yM (zD l_0)),(3,.p false [.row 0]),(4,yL i)] [.row 83 2 (A0 Zw a) 2] st) [] [16] yF yD ?_ ?_
 rintro _ _ a ⟨_,_,_⟩ _ b d f h _
 simp only[go_sem,seval,Zd]at d
 obtain ⟨⟨g,_,_⟩,_,hn⟩:=d
 subst hn
 have k:=WF.slotL f g (j:=0) rfl
 have:=ZR b
 have:=ZT b
 have:=Zp (ZS b) k
 simp only[*,go_sem,seval]
 refine ZE9 h fun _ l h=>Zb (ZeL l) ?_
 obtain ⟨m,h⟩:=ZM h
 try simp only[Nat.reduceLeDiff]at m
 simp only[*,go_sem,seval]
 exact yR h [193]
 rintro a ⟨_,_,_⟩ e _ h
 simp only[go_sem,seval,Zd]at e
 obtain ⟨⟨_,_,_⟩,_,hn⟩:=e
 subst hn
 have:=ZN (l_0.length)
 cases h;exact yD
theorem ZeR {a_0:ByteArray}{b_1:ByteArray}{r:Int}(h:XC a_0 b_1=some r):Zm prog J0 149 [(false,[.str a_0]),(false,[.str b_1])] [(false,[(false,.int .i64 r)])]:=by
 refine fnk func149 rfl ?_
 unfold XC at h
 simp only[fnS,f149,Zq,go_sem,seval]
 refine ZE9 h fun _ a h=>Zb (Ze6 a)<|yA ?_
 refine ZE9 h fun _ b h=>Zb (Ze6 b)<|yA ?_
 iterate 3 refine yB h (fun _ h=>?_) fun _ h=>?_
 cases h;exact yD
 refine yB h (fun _ h=>?_) fun _ h=>?_
 iterate 3 (cases h;exact yD)
 refine yB h (fun _ h=>?_) fun _ h=>?_
 cases h;exact yD
 refine ZE9 h fun _ c h=>Zb (ZlB c) ?_
 cases h;exact yD
theorem ZdL {a_0:(List Zk)}{b_1:(List Zk)}{r:Bool}(h:Zbr a_0 b_1=some r):Zm prog J0 13 [(false,[.sl 83 2 (A0 Zw a_0)]),(false,[.sl 83 2 (A0 Zw b_1)])] [(false,[(false,.bool r)])]:=by
 refine fnk func13 rfl ?_
 unfold Zbr at h
 simp only[fnS,f13,Zq,go_sem,seval]
 refine yB h (fun _ h=>?_) fun _ h=>?_
 cases h;exact yD
 refine Zi h (fun i _ st=>IV [(0,yM (yV a_0)),(1,yM (yV b_1)),(5,yL i)] [] st) [] [] yF yD ?_ ?_
 rintro _ _ ⟨⟩ ⟨_,_,_⟩ _ a b e h f
 simp only[go_sem,seval,Zd]at b
 obtain ⟨⟨g,_,_⟩,hn⟩:=b
 subst hn
 have k:=WF.slotL e g (j:=0) rfl
 have:=ZR a
 have:=ZT a
 have:=Zp (ZS a) k
 obtain ⟨_,_,_,l,h⟩:=Qj h
 simp only[AB]at l
 simp only[*,go_sem,seval]
 refine ZE9 h fun _ m h=>Zb (ZrW m)<|yA ?_
 refine yB h (fun _ h=>?_) fun _ h=>?_
 exact yR h []
 replace h:=Zt h f
 cases h;exact yD
 rintro ⟨⟩ ⟨_,_,_⟩ d _ h
 simp only[go_sem,seval,Zd]at d
 obtain ⟨⟨_,_,_⟩,hn⟩:=d
 subst hn
 have:=ZN (a_0.length)
 cases h;exact yD
theorem Zgz {x_0:Zf}{r:Zf}(h:ZcV x_0=some r):Zm prog J0 97 [(true,ZE x_0)] [(true,[(false,.int .i64 r.kind),(false,.str r.pattern.rel),(false,.sl 9 1 (A0 ZH r.pattern.args)),(false,.str r.left),(false,.str r.right)])]:=by
 refine fnk func97 rfl ?_
 unfold ZcV at h
 simp only[fnS,f97,Zq,go_sem,seval]
 refine ZE9 h fun _ a h=>Zb (Zdm a) ?_
 cases h;exact yD
theorem Ze7 {a_0:Zf}{b_1:Zf}{r:Bool}(h:Zbl a_0 b_1=some r):Zm prog J0 48 [(true,ZE a_0),(true,ZE b_1)] [(false,[(false,.bool r)])]:=by
 refine fnk func48 rfl ?_
 unfold Zbl at h
 simp only[fnS,f48,Zq,go_sem,seval]
 refine yB h (fun _ h=>?_) fun _ h=>?_
 refine ZE9 h fun _ a h=>Zb (ZaK a)<|yA ?_
 iterate 2 refine yB h (fun _ h=>?_) fun _ h=>?_
 iterate 4 (cases h;exact yD)
theorem ZjM {b:Ze}{a:Zj}{r:(Int×Ze)}(h:ZdF b a=some r):Zf4 prog J0 JF0 146 48 [(false,.sl 64 4 (A0 Zy b.rules)),(false,.sl 3 1 (A0 Z8 b.ends)),(false,.sl 103 3 (A0 Z0 b.alphas)),(false,.sl 110 8 (A0 Ym b.nodes)),(false,.sl 83 2 (A0 Zw b.facts)),(false,.int .i64 b.tries)] (some (true,[(false,.str a.rel),(false,.sl 9 1 (A0 ZH a.args))])) [] [(false,[(false,.int .i64 r.1)])] [(false,.sl 64 4 (A0 Zy r.2.rules)),(false,.sl 3 1 (A0 Z8 r.2.ends)),(false,.sl 103 3 (A0 Z0 r.2.alphas)),(false,.sl 110 8 (A0 Ym r.2.nodes)),(false,.sl 83 2 (A0 Zw r.2.facts)),(false,.int .i64 r.2.tries)]:=by
 refine fno func146 rfl ?_
 unfold ZdF at h
 simp only[fnO,f146,Ze8,gvC,go_sem,seval]
 refine Zi h (fun i _ st=>IV [(0,.bp 0 0),(3,.bp 6 0),(5,.p false [.c (.int .i64 ((i:Nat):Int))])] [.box 48 [.row 1,.row 2,.row 3,.row 4,.row 5,.c (.int .i64 b.tries)],.row 64 4 (A0 Zy b.rules) 2,.row 3 1 (A0 Z8 b.ends) 2,.row 103 3 (A0 Z0 b.alphas) 2,.row 110 8 (A0 Ym b.nodes) 2,.row 83 2 (A0 Zw b.facts) 2,.box 101 [.c (.str a.rel),.row 7],.row 9 1 (A0 ZH a.args) 2] st) [] [0,1,2,3,4,5,7,6] yF ?_ ?_ ?_
 .simp only[*,go_sem,seval]
 .rintro i6 x7 ⟨⟩ ⟨sl,ob,n⟩ y1 e j k h l
  simp only[go_sem,seval,Zd]at j
  obtain ⟨⟨g5_0,g5_3,g5_5⟩,og5_0,og5_1,og5_2,f,og5_4,og5_5,og5_6,og5_7,hn⟩:=j
  subst hn
  have g:=WF.rowL k f
  have q6:=ZR e
  have q7:=ZT e
  have q8:=Zp (ZS e) g
  simp only[*,go_sem,seval]
  refine ZE9 h fun v8 e9 h=>Zb (ZaK e9) ?_
  simp only[*,go_sem,seval]
  refine Zc h (fun m h=>?_) (fun m h=>?_)<;>try simp only[*,go_sem,seval]
  .replace h:=Zt h l
   obtain rfl:=AA h
   simp only[*,go_sem,seval]
  .refine ⟨_,[],[0,1,2,3,4,5,6,7],(AA h).symm,yF,?_⟩
   simp only[*,go_sem,seval]
 .rintro ⟨⟩ ⟨sl,ob,n⟩ d hW12 h
  simp only[go_sem,seval,Zd]at d
  obtain ⟨⟨g13_0,g13_3,g13_5⟩,og13_0,og13_1,og13_2,og13_3,og13_4,og13_5,og13_6,og13_7,hn⟩:=d
  subst hn
  have q14:=ZN (b.alphas.length)
  obtain ⟨o,h⟩:=ZM h
  try simp only[Nat.reduceLeDiff]at o
  obtain rfl:=AA h
  simp only[*,go_sem,seval]
theorem ZhQ {s_0:ByteArray}{r:Bool}(h:Zeo s_0=some r):Zm prog J0 224 [(false,[.str s_0])] [(false,[(false,.bool r)])]:=by
 refine fnk func224 rfl ?_
 unfold Zeo at h
 simp only[fnS,f224,Zq,go_sem,seval]
 refine ZE9 h fun _ a h=>Zb (Ze6 a) ?_
 cases h;exact yD
theorem ZhK {l_0:(List Zk)}{r:(List Zk)}(h:Zcf l_0=some r):Zm prog J0 156 [(false,[.sl 83 2 (A0 Zw l_0)])] [(false,[(false,.sl 83 2 (A0 Zw r))])]:=by
 refine fnk func156 rfl ?_
 unfold Zcf at h
 simp only[fnS,f156,Zq,go_sem,seval]
 refine Zi h (fun i a st=>IV [(0,yM (yV l_0)),(3,.p false [.row 0]),(4,yL i)] [.row 83 2 (A0 Zw a) 2] st) [] [16] yF yD ?_ ?_
 rintro _ _ a ⟨_,_,_⟩ _ b d f h _
 simp only[go_sem,seval,Zd]at d
 obtain ⟨⟨g,_,_⟩,_,hn⟩:=d
 subst hn
 have k:=WF.slotL f g (j:=0) rfl
 have:=ZR b
 have:=ZT b
 have:=Zp (ZS b) k
 simp only[*,go_sem,seval]
 refine ZE9 h fun _ l h=>Zb (ZeL l) ?_
 obtain ⟨m,h⟩:=ZM h
 try simp only[Nat.reduceLeDiff]at m
 simp only[*,go_sem,seval]
 exact yR h [177]
 rintro a ⟨_,_,_⟩ e _ h
 simp only[go_sem,seval,Zd]at e
 obtain ⟨⟨_,_,_⟩,_,hn⟩:=e
 subst hn
 have:=ZN (l_0.length)
 cases h;exact yD
theorem Zag {s_0:ByteArray}{r:Bool}(h:Q8 s_0=some r):Zm prog J0 204 [(false,[.str s_0])] [(false,[(false,.bool r)])]:=by
 refine fnk func204 rfl ?_
 unfold Q8 at h
 simp only[fnS,f204,Zq,go_sem,seval]
 refine ZE9 h fun _ a h=>Zb (Qp a)<|yA ?_
 refine yB h (fun _ h=>?_) fun _ h=>?_
 cases h;exact yD
 refine ZE9 h fun _ b h=>Zb (ZcA b) ?_
 cases h;exact yD
theorem Zd9 {l_0:(List ByteArray)}{r:(List ByteArray)}(h:Zas l_0=some r):Zm prog J0 167 [(false,[.sl 9 1 (A0 ZH l_0)])] [(false,[(false,.sl 9 1 (A0 ZH r))])]:=by
 refine fnk func167 rfl ?_
 unfold Zas at h
 simp only[fnS,f167,Zq,go_sem,seval]
 refine Zi h (fun i a st=>IV [(3,.p false [.row 0]),(6,yM (yU l_0)),(7,yL l_0.length),(8,yL i)] [.row 9 1 (A0 ZH a) 2] st) [(false,3,0)] [80] yF yD ?_ ?_
 rintro _ _ a ⟨_,_,_⟩ _ b d f h _
 simp only[go_sem,seval,Zd]at d
 obtain ⟨⟨_,g,_,_⟩,_,hn⟩:=d
 subst hn
 have k:=WF.slotL f g (j:=0) rfl
 have:=ZR b
 have:=ZT b
 have:=Zp (ZS b) k
 simp only[*,go_sem,seval]
 refine ZE9 h fun _ l h=>Zb (ZcA l)<|yA ?_
 refine yB h (fun _ h=>?_) fun _ h=>?_
 obtain ⟨m,h⟩:=ZM h
 try simp only[Nat.reduceLeDiff]at m
 simp only[*,go_sem,seval]
 exact yR h [145]
 exact yR h [0]
 rintro a ⟨_,_,_⟩ e _ h
 simp only[go_sem,seval,Zd]at e
 obtain ⟨⟨_,_,_,_⟩,_,hn⟩:=e
 subst hn
 have:=ZN (l_0.length)
 cases h;exact yD
theorem ZjF {l_0:(List Z2)}{r:(List Zk)}(h:Zbq l_0=some r):Zm prog J0 22 [(false,[.sl 85 3 (A0 YF l_0)])] [(false,[(false,.sl 83 2 (A0 Zw r))])]:=by
 refine fnk func22 rfl ?_
 unfold Zbq at h
 simp only[fnS,f22,Zq,go_sem,seval]
 refine Zi h (fun i a st=>IV [(3,.p false [.row 0]),(6,yM (zD l_0)),(7,yL l_0.length),(8,yL i)] [.row 83 2 (A0 Zw a) 2] st) [(false,3,0)] [80] yF yD ?_ ?_
 rintro _ _ a ⟨_,_,_⟩ _ b d f h _
 simp only[go_sem,seval,Zd]at d
 obtain ⟨⟨_,g,_,_⟩,_,hn⟩:=d
 subst hn
 have k:=WF.slotL f g (j:=0) rfl
 have:=ZR b
 have:=ZT b
 have:=Zp (ZS b) k
 simp only[*,go_sem,seval]
 refine ZE9 h fun _ l h=>Zb (ZcF l) ?_
 obtain ⟨m,h⟩:=ZM h
 try simp only[Nat.reduceLeDiff]at m
 simp only[*,go_sem,seval]
 exact yR h [161]
 rintro a ⟨_,_,_⟩ e _ h
 simp only[go_sem,seval,Zd]at e
 obtain ⟨⟨_,_,_,_⟩,_,hn⟩:=e
 subst hn
 have:=ZN (l_0.length)
 cases h;exact yD
theorem Xm {f_0:Zk}{r:Bool}(h:XW f_0=some r):Zm prog J0 110 [(true,Zw f_0)] [(false,[(false,.bool r)])]:=by
 refine fnk func110 rfl ?_
 unfold XW at h
 simp only[fnS,f110,Zq,go_sem,seval]
 refine ZE9 h fun _ e h=>Zb (YX e)<|yA ?_
 iterate 2 refine yB h (fun _ h=>?_) fun _ h=>?_
 cases h;exact yD
 refine Zi h (fun i _ st=>IV [(16,yM (yU f_0.args)),(17,yL f_0.args.length),(18,yL i)] [] st) [] [] yF yD ?_ ?_
 rintro _ _ ⟨⟩ ⟨_,_,_⟩ _ a b f h g
 simp only[go_sem,seval,Zd]at b
 obtain ⟨⟨k,_,_⟩,hn⟩:=b
 subst hn
 have l:=WF.slotL f k (j:=0) rfl
 have:=ZR a
 have:=ZT a
 have:=Zp (ZS a) l
 simp only[*,go_sem,seval]
 refine ZE9 h fun _ m h=>Zb (Qp m)<|yA ?_
 refine yB h (fun _ h=>?_) fun _ h=>?_
 exact yR h []
 replace h:=Zt h g
 cases h;exact yD
 rintro ⟨⟩ ⟨_,_,_⟩ d _ h
 simp only[go_sem,seval,Zd]at d
 obtain ⟨⟨_,_,_⟩,hn⟩:=d
 subst hn
 have:=ZN (f_0.args.length)
 iterate 2 (cases h;exact yD)
theorem Zjt {a_0:ByteArray}{b_1:ByteArray}{r:Int}(h:Zah a_0 b_1=some r):Zm prog J0 173 [(false,[.str a_0]),(false,[.str b_1])] [(false,[(false,.int .i64 r)])]:=by
 refine fnk func173 rfl ?_
 unfold Zah at h
 simp only[fnS,f173,Zq,go_sem,seval]
 refine ZE9 h fun _ a h=>Zb (ZcE a)<|yA ?_
 refine ZE9 h fun _ b h=>Zb (ZcE b)<|yA ?_
 iterate 2 refine yB h (fun _ h=>?_) fun _ h=>?_
 refine ZE9 h fun _ c h=>Zb (Zcz c) ?_
 iterate 2 (cases h;exact yD)
 refine yB h (fun _ h=>?_) fun _ h=>?_
 cases h;exact yD
 refine ZE9 h fun _ d h=>Zb (Zjs d) ?_
 cases h;exact yD
theorem ZeV {a_0:Zf}{b_1:Zf}{r:Bool}(h:Zaq a_0 b_1=some r):Zm prog J0 114 [(true,ZE a_0),(true,ZE b_1)] [(false,[(false,.bool r)])]:=by
 refine fnk func114 rfl ?_
 unfold Zaq at h
 simp only[fnS,f114,Zq,go_sem,seval]
 iterate 3 refine yB h (fun _ h=>?_) fun _ h=>?_
 refine ZE9 h fun _ a h=>Zb (ZaE a) ?_
 iterate 4 (cases h;exact yD)
theorem ZbJ {a_0:(List Zk)}{b_1:(List Zk)}{r:Bool}(h:Qo a_0 b_1=some r):Zm prog J0 21 [(false,[.sl 83 2 (A0 Zw a_0)]),(false,[.sl 83 2 (A0 Zw b_1)])] [(false,[(false,.bool r)])]:=by
 refine fnk func21 rfl ?_
 unfold Qo at h
 simp only[fnS,f21,Zq,go_sem,seval]
 refine yB h (fun _ h=>?_) fun _ h=>?_
 cases h;exact yD
 refine Zi h (fun i _ st=>IV [(0,yM (yV a_0)),(1,yM (yV b_1)),(12,yL a_0.length),(13,yL i)] [] st) [] [] yF yD ?_ ?_
 rintro _ _ ⟨⟩ ⟨_,_,_⟩ _ a b e h f
 simp only[go_sem,seval,Zd]at b
 obtain ⟨⟨g,_,_,_⟩,hn⟩:=b
 subst hn
 have k:=WF.slotL e g (j:=0) rfl
 have:=ZR a
 have:=ZT a
 have:=Zp (ZS a) k
 obtain ⟨_,_,_,l,h⟩:=Qj h
 simp only[AB]at l
 simp only[*,go_sem,seval]
 refine ZE9 h fun _ m h=>Zb (ZnP m)<|yA ?_
 refine yB h (fun _ h=>?_) fun _ h=>?_
 exact yR h []
 replace h:=Zt h f
 cases h;exact yD
 rintro ⟨⟩ ⟨_,_,_⟩ d _ h
 simp only[go_sem,seval,Zd]at d
 obtain ⟨⟨_,_,_,_⟩,hn⟩:=d
 subst hn
 have:=ZN (a_0.length)
 cases h;exact yD
theorem QN {x_0:Zf}{r:Zf}(h:YN x_0=some r):Zm prog J0 217 [(true,ZE x_0)] [(true,[(false,.int .i64 r.kind),(false,.str r.pattern.rel),(false,.sl 9 1 (A0 ZH r.pattern.args)),(false,.str r.left),(false,.str r.right)])]:=by
 refine fnk func217 rfl ?_
 unfold YN at h
 simp only[fnS,f217,Zq,go_sem,seval]
 refine ZE9 h fun _ a h=>Zb (Zfh a) ?_
 cases h;exact yD
theorem Zf9 {a:(List ByteArray)}{r:(List Zg)}(h:Qy a=some r):Zm prog J0 233 [(false,[.sl 9 1 (A0 ZH a)])] [(false,[(false,.sl 218 2 (A0 ZO r))])]:=by
 refine fnk func233 rfl ?_
 unfold Qy at h
 have k:ZaR ⟨#[63]⟩=true:=by decide
 simp only[fnS,f233,Zq,go_sem,seval,k]
 refine Zi h (fun i s st=>match s with|(b,d)=>IV [(3,.p false [.row 0]),(4,.p false [.row 1]),(8,yM (yU a)),(9,yL a.length),(10,yL i)] [.row 218 2 (A0 ZO d) 2,.map .str .bool (A0 eSB b)] st) [(false,3,0)] [112,32] yF yD ?_ ?_
 rintro _ _ ⟨b,d⟩ ⟨_,_,_⟩ _ e f m h _
 simp only[go_sem,seval,Zd]at f
 obtain ⟨⟨_,_,o,_,_⟩,_,_,hn⟩:=f
 subst hn
 have q:=WF.slotL m o (j:=0) rfl
 have:=ZR e
 have:=ZT e
 have:=Zp (ZS e) q
 simp only[*,go_sem,seval]
 refine ZE9 h fun _ t h=>Zb (ZcA t)<|yA ?_
 iterate 2 refine yB h (fun _ h=>?_) fun _ h=>?_
 exact yR h [0,1]
 refine ZE9 h fun _ u h=>Zb (Zgr u) ?_
 obtain ⟨v,h⟩:=ZM h
 simp only[go_sem]at v
 obtain ⟨w,h⟩:=ZM h
 try simp only[Nat.reduceLeDiff]at w
 simp only[*,go_sem,seval]
 exact yR h [386,1]
 exact yR h [0,1]
 rintro ⟨b,d⟩ ⟨_,_,_⟩ g _ h
 simp only[go_sem,seval,Zd]at g
 obtain ⟨⟨_,_,_,_,_⟩,_,_,hn⟩:=g
 subst hn
 have:=ZN (a.length)
 cases h;exact yD
theorem Zd3 {b:Ze}{a:Zj}{r:(Int×Ze)}(h:XL b a=some r):Zf4 prog J0 JF0 215 48 [(false,.sl 64 4 (A0 Zy b.rules)),(false,.sl 3 1 (A0 Z8 b.ends)),(false,.sl 103 3 (A0 Z0 b.alphas)),(false,.sl 110 8 (A0 Ym b.nodes)),(false,.sl 83 2 (A0 Zw b.facts)),(false,.int .i64 b.tries)] (some (true,[(false,.str a.rel),(false,.sl 9 1 (A0 ZH a.args))])) [] [(false,[(false,.int .i64 r.1)])] [(false,.sl 64 4 (A0 Zy r.2.rules)),(false,.sl 3 1 (A0 Z8 r.2.ends)),(false,.sl 103 3 (A0 Z0 r.2.alphas)),(false,.sl 110 8 (A0 Ym r.2.nodes)),(false,.sl 83 2 (A0 Zw r.2.facts)),(false,.int .i64 r.2.tries)]:=by
 refine fno func215 rfl ?_
 unfold XL at h
 simp only[fnO,f215,Ze8,gvC,go_sem,seval]
 refine Zi h (fun i _ st=>IV [(0,.bp 0 0),(3,.bp 6 0),(10,.p false [.row 3]),(11,.p false [.c (.int .i64 ((b.alphas.length:Nat):Int))]),(12,.p false [.c (.int .i64 ((i:Nat):Int))])] [.box 48 [.row 1,.row 2,.row 3,.row 4,.row 5,.c (.int .i64 b.tries)],.row 64 4 (A0 Zy b.rules) 2,.row 3 1 (A0 Z8 b.ends) 2,.row 103 3 (A0 Z0 b.alphas) 2,.row 110 8 (A0 Ym b.nodes) 2,.row 83 2 (A0 Zw b.facts) 2,.box 101 [.c (.str a.rel),.row 7],.row 9 1 (A0 ZH a.args) 2] st) [] [0,1,2,3,4,5,7,6] yF ?_ ?_ ?_
 .simp only[*,go_sem,seval]
 .rintro i6 x7 ⟨⟩ ⟨sl,ob,n⟩ y1 e j k h l
  simp only[go_sem,seval,Zd]at j
  obtain ⟨⟨g5_0,g5_3,g5_10,g5_11,g5_12⟩,og5_0,og5_1,og5_2,f,og5_4,og5_5,og5_6,og5_7,hn⟩:=j
  subst hn
  have g:=WF.rowL k f
  have q6:=ZR e
  have q7:=ZT e
  have q8:=Zp (ZS e) g
  simp only[*,go_sem,seval]
  refine ZE9 h fun v8 e9 h=>Zb (ZaE e9) ?_
  simp only[*,go_sem,seval]
  refine Zc h (fun m h=>?_) (fun m h=>?_)<;>try simp only[*,go_sem,seval]
  .replace h:=Zt h l
   obtain rfl:=AA h
   simp only[*,go_sem,seval]
  .refine ⟨_,[],[0,1,2,3,4,5,6,7],(AA h).symm,yF,?_⟩
   simp only[*,go_sem,seval]
 .rintro ⟨⟩ ⟨sl,ob,n⟩ d hW12 h
  simp only[go_sem,seval,Zd]at d
  obtain ⟨⟨g13_0,g13_3,g13_10,g13_11,g13_12⟩,og13_0,og13_1,og13_2,og13_3,og13_4,og13_5,og13_6,og13_7,hn⟩:=d
  subst hn
  have q14:=ZN (b.alphas.length)
  obtain ⟨o,h⟩:=ZM h
  try simp only[Nat.reduceLeDiff]at o
  obtain rfl:=AA h
  simp only[*,go_sem,seval]
theorem Zgp {l_0:(List Zk)}{r:(List Zk)}(h:Zaf l_0=some r):Zm prog J0 179 [(false,[.sl 83 2 (A0 Zw l_0)])] [(false,[(false,.sl 83 2 (A0 Zw r))])]:=by
 refine fnk func179 rfl ?_
 unfold Zaf at h
 simp only[fnS,f179,Zq,go_sem,seval]
 refine Zi h (fun i a st=>IV [(3,.p false [.row 0]),(6,yM (yV l_0)),(7,yL l_0.length),(8,yL i)] [.row 83 2 (A0 Zw a) 2] st) [(false,3,0)] [80] yF yD ?_ ?_
 rintro _ _ a ⟨_,_,_⟩ _ b d f h _
 simp only[go_sem,seval,Zd]at d
 obtain ⟨⟨_,g,_,_⟩,_,hn⟩:=d
 subst hn
 have k:=WF.slotL f g (j:=0) rfl
 have:=ZR b
 have:=ZT b
 have:=Zp (ZS b) k
 simp only[*,go_sem,seval]
 refine ZE9 h fun _ l h=>Zb (ZcF l) ?_
 obtain ⟨m,h⟩:=ZM h
 try simp only[Nat.reduceLeDiff]at m
 simp only[*,go_sem,seval]
 exact yR h [145]
 rintro a ⟨_,_,_⟩ e _ h
 simp only[go_sem,seval,Zd]at e
 obtain ⟨⟨_,_,_,_⟩,_,hn⟩:=e
 subst hn
 have:=ZN (l_0.length)
 cases h;exact yD
theorem Zb1 {b_0:(List Zg)}{r:Bool}(h:Qm b_0=some r):Zm prog J0 235 [(false,[.sl 218 2 (A0 ZO b_0)])] [(false,[(false,.bool r)])]:=by
 refine fnk func235 rfl ?_
 unfold Qm at h
 simp only[fnS,f235,Zq,go_sem,seval]
 refine yB h (fun _ h=>?_) fun _ h=>?_
 cases h;exact yD
 refine Zi h (fun i _ st=>IV [(0,yM (yX b_0)),(8,yM (yX b_0)),(9,yL b_0.length),(10,yL i)] [] st) [] [] yF yD ?_ ?_
 rintro _ _ ⟨⟩ ⟨_,_,_⟩ _ a b f h d
 simp only[go_sem,seval,Zd]at b
 obtain ⟨⟨g,_,_,_⟩,hn⟩:=b
 subst hn
 have k:=WF.slotL f g (j:=0) rfl
 have:=ZR a
 have:=ZT a
 have:=Zp (ZS a) k
 simp only[*,go_sem,seval]
 refine ZE9 h fun _ l h=>Zb (ZcA l)<|yA ?_
 refine yB h (fun _ h=>?_) fun _ h=>?_
 refine ZE9 h fun _ m h=>Zb (Qp m)<|yA ?_
 iterate 2 refine yB h (fun _ h=>?_) fun _ h=>?_
 obtain ⟨_,_,_,_,h⟩:=Qj h
 simp only[*,go_sem,seval]
 refine yB h (fun _ h=>?_) fun _ h=>?_
 exact yR h []
 replace h:=Zt h d
 cases h;exact yD
 refine ⟨_,[],[],(AA h).symm,yF,?_⟩
 iterate 2 (simp only[*,go_sem,seval];replace h:=Zt h d;cases h)
 simp only[*,go_sem,seval]
 rintro ⟨⟩ ⟨_,_,_⟩ e _ h
 simp only[go_sem,seval,Zd]at e
 obtain ⟨⟨_,_,_,_⟩,hn⟩:=e
 subst hn
 have:=ZN (b_0.length)
 cases h;exact yD
theorem ZfK {b_0:(List Zg)}{term_1:ByteArray}{r:(ByteArray×Bool)}(h:Zcd b_0 term_1=some r):Zm prog J0 247 [(false,[.sl 218 2 (A0 ZO b_0)]),(false,[.str term_1])] [(false,[(false,.str r.1)]),(false,[(false,.bool r.2)])]:=by
 refine fnk func247 rfl ?_
 unfold Zcd at h
 have e:ZaR ⟨#[]⟩=true:=by decide
 simp only[fnS,f247,Zq,go_sem,seval,e]
 refine ZE9 h fun _ f h=>Zb (Qp f)<|yA ?_
 refine yB h (fun _ h=>?_) fun _ h=>?_
 cases h;exact yD
 refine ZE9 h fun _ g h=>Zb (ZcA g)<|yA ?_
 refine yB h (fun _ h=>?_) fun _ h=>?_
 refine Zi h (fun i _ st=>IV [(1,yM (.str term_1)),(14,yM (yX b_0)),(15,yL b_0.length),(16,yL i)] [] st) [] [] yF yD ?_ ?_
 rintro _ _ ⟨⟩ ⟨_,_,_⟩ _ a b k h l
 simp only[go_sem,seval,Zd]at b
 obtain ⟨⟨_,m,_,_⟩,hn⟩:=b
 subst hn
 have o:=WF.slotL k m (j:=0) rfl
 have:=ZR a
 have:=ZT a
 have:=Zp (ZS a) o
 simp only[*,go_sem,seval]
 refine yB h (fun _ h=>?_) fun _ h=>?_
 replace h:=Zt h l
 cases h;exact yD
 exact yR h []
 rintro ⟨⟩ ⟨_,_,_⟩ d _ h
 simp only[go_sem,seval,Zd]at d
 obtain ⟨⟨_,_,_,_⟩,hn⟩:=d
 subst hn
 have:=ZN (b_0.length)
 iterate 2 (cases h;exact yD)
end
section
theorem ZgF {r_0:Zl}{n_1:Int}{r:(List ByteArray)}(h:Zbx r_0 n_1=some r):Zm prog J0 165 [(true,Zy r_0),(false,[.int .i64 n_1])] [(false,[(false,.sl 9 1 (A0 ZH r))])]:=by
 refine fnk func165 rfl ?_
 unfold Zbx at h
 simp only[fnS,f165,Zq,go_sem,seval]
 refine Zi h (fun i a st=>IV [(1,yM (.int .i64 n_1)),(5,.p false [.row 0]),(9,yM (yY r_0.cond)),(10,yL r_0.cond.length),(11,yL i)] [.row 9 1 (A0 ZH a) 2] st) [(false,5,0)] [112] yF yD ?_ ?_
 rintro _ _ a ⟨_,_,_⟩ _ b d f h _
 simp only[go_sem,seval,Zd]at d
 obtain ⟨⟨_,_,g,_,_⟩,_,hn⟩:=d
 subst hn
 have k:=WF.slotL f g (j:=0) rfl
 have:=ZR b
 have:=ZT b
 have:=Zp (ZS b) k
 simp only[*,go_sem,seval]
 iterate 2 refine yB h (fun _ h=>?_) fun _ h=>?_
 refine ZE9 h fun _ l h=>Zb (Zd9 l) ?_
 obtain ⟨_,h⟩:=ZM h
 simp only[*,go_sem,seval]
 exact yR h [321]
 exact yR h [0]
 exact yR h [0]
 rintro a ⟨_,_,_⟩ e _ h
 simp only[go_sem,seval,Zd]at e
 obtain ⟨⟨_,_,_,_,_⟩,_,hn⟩:=e
 subst hn
 have:=ZN (r_0.cond.length)
 simp only[*,go_sem,seval]
 refine ZE9 h fun _ m h=>Zb (Zci m) ?_
 cases h;exact yD
theorem ZeX {x_0:Zf}{r:(List ByteArray)}(h:Zax x_0=some r):Zm prog J0 206 [(true,ZE x_0)] [(false,[(false,.sl 9 1 (A0 ZH r))])]:=by
 refine fnk func206 rfl ?_
 unfold Zax at h
 simp only[fnS,f206,Zq,go_sem,seval]
 refine ZE9 h fun _ a h=>Zb (ZjG a)<|yA ?_
 refine ZE9 h fun _ b h=>Zb (Zd9 b)<|yA ?_
 refine ZE9 h fun _ c h=>Zb (Zci c) ?_
 cases h;exact yD
theorem Zjn {a_0:Zk}{b_1:Zk}{r:Int}(h:Zaa a_0 b_1=some r):Zm prog J0 112 [(true,Zw a_0),(true,Zw b_1)] [(false,[(false,.int .i64 r)])]:=by
 refine fnk func112 rfl ?_
 unfold Zaa at h
 simp only[fnS,f112,Zq,go_sem,seval]
 refine ZE9 h fun _ f h=>Zb (Zjs f)<|yA ?_
 refine yB h (fun _ h=>?_) fun _ h=>?_
 cases h;exact yD
 refine Zi h (fun i _ st=>IV [(2,.bp 0 0),(3,.bp 1 0),(6,yL i)] [zH 83 (Zw a_0),zH 83 (Zw b_1)] st) [] [0,16] yF yD ?_ ?_
 rintro _ _ ⟨⟩ ⟨_,_,_⟩ _ a b g h d
 simp only[go_sem,seval,Zd]at b
 obtain ⟨⟨_,_,_⟩,k,_,hn⟩:=b
 subst hn
 have l:=WF.boxL g k (j:=1) rfl
 have:=ZR a
 have:=ZT a
 have:=Zp (ZS a) l
 simp only[*,go_sem,seval]
 refine yB h (fun _ h=>?_) fun _ h=>?_
 obtain ⟨_,_,_,m,h⟩:=Qj h
 simp only[AB]at m
 simp only[*,go_sem,seval]
 refine ZE9 h fun _ o h=>Zb (Zjt o)<|yA ?_
 refine yB h (fun _ h=>?_) fun _ h=>?_
 replace h:=Zt h d
 cases h;exact yD
 exact yR h [0,1]
 refine ZE9 h fun _ q h=>Zb (Zcz q) ?_
 replace h:=Zt h d
 cases h;exact yD
 rintro ⟨⟩ ⟨_,_,_⟩ e _ h
 simp only[go_sem,seval,Zd]at e
 obtain ⟨⟨_,_,_⟩,_,_,hn⟩:=e
 subst hn
 have:=ZN (a_0.args.length)
 simp only[*,go_sem,seval]
 refine ZE9 h fun _ t h=>Zb (Zcz t) ?_
 cases h;exact yD
theorem ZoW {x_0:Y3}{r:Bool}(h:QM x_0=some r):Zm prog J0 62 [(true,Qh x_0)] [(false,[(false,.bool r)])]:=by
 refine fnk func62 rfl ?_
 unfold QM at h
 have a:ZaR ⟨#[]⟩=true:=by decide
 simp only[fnS,f62,Zq,go_sem,seval,a]
 iterate 3 refine yB h (fun _ h=>?_) fun _ h=>?_
 refine ZE9 h fun _ b h=>Zb (Xm b) ?_
 iterate 2 (cases h;exact yD)
 iterate 2 refine yB h (fun _ h=>?_) fun _ h=>?_
 refine ZE9 h fun _ c h=>Zb (Xm c) ?_
 iterate 2 (cases h;exact yD)
 refine yB h (fun _ h=>?_) fun _ h=>?_
 refine ZE9 h fun _ d h=>Zb (YX d)<|yA ?_
 refine yB h (fun _ h=>?_) fun _ h=>?_
 iterate 2 (cases h;exact yD)
 refine yB h (fun _ h=>?_) fun _ h=>?_
 refine ZE9 h fun _ e h=>Zb (YX e)<|yA ?_
 refine yB h (fun _ h=>?_) fun _ h=>?_
 iterate 2 (cases h;exact yD)
 refine yB h (fun _ h=>?_) fun _ h=>?_
 refine ZE9 h fun _ f h=>Zb (YX f)<|yA ?_
 refine yB h (fun _ h=>?_) fun _ h=>?_
 refine ZE9 h fun _ g h=>Zb (Xm g) ?_
 iterate 2 (cases h;exact yD)
 refine yB h (fun _ h=>?_) fun _ h=>?_
 refine ZE9 h fun _ i h=>Zb (YX i)<|yA ?_
 refine yB h (fun _ h=>?_) fun _ h=>?_
 refine ZE9 h fun _ j h=>Zb (Xm j) ?_
 iterate 3 (cases h;exact yD)
 iterate 2 refine yB h (fun _ h=>?_) fun _ h=>?_
 refine ZE9 h fun _ k h=>Zb (Xm k) ?_
 iterate 2 (cases h;exact yD)
 iterate 2 refine yB h (fun _ h=>?_) fun _ h=>?_
 refine ZE9 h fun _ l h=>Zb (Xm l) ?_
 iterate 2 (cases h;exact yD)
 refine yB h (fun _ h=>?_) fun _ h=>?_
 refine ZE9 h fun _ m h=>Zb (YX m)<|yA ?_
 refine yB h (fun _ h=>?_) fun _ h=>?_
 iterate 2 (cases h;exact yD)
 refine yB h (fun _ h=>?_) fun _ h=>?_
 refine ZE9 h fun _ o h=>Zb (YX o)<|yA ?_
 refine yB h (fun _ h=>?_) fun _ h=>?_
 iterate 2 (cases h;exact yD)
 refine yB h (fun _ h=>?_) fun _ h=>?_
 refine ZE9 h fun _ p h=>Zb (YX p)<|yA ?_
 refine yB h (fun _ h=>?_) fun _ h=>?_
 refine ZE9 h fun _ q h=>Zb (Xm q) ?_
 iterate 2 (cases h;exact yD)
 refine yB h (fun _ h=>?_) fun _ h=>?_
 refine ZE9 h fun _ t h=>Zb (YX t)<|yA ?_
 refine yB h (fun _ h=>?_) fun _ h=>?_
 refine ZE9 h fun _ u h=>Zb (Xm u) ?_
 iterate 3 (cases h;exact yD)
theorem Zny {append_0:Zl}{String_1:Zl}{r:Bool}(h:ZdO append_0 String_1=some r):Zm prog J0 66 [(true,Zy append_0),(true,Zy String_1)] [(false,[(false,.bool r)])]:=by
 refine fnk func66 rfl ?_
 unfold ZdO at h
 simp only[fnS,f66,Zq,go_sem,seval]
 iterate 2 refine yB h (fun _ h=>?_) fun _ h=>?_
 iterate 2 (cases h;simp only[*,go_sem,seval];refine Zc h (fun _ h=>?_) fun _ h=>?_<;>try simp only[*,go_sem,seval])
 cases h;exact yD
 refine Zi h (fun i _ st=>IV [(2,.bp 0 0),(3,.bp 1 0),(39,yL append_0.cond.length),(40,yL i)] [zH 64 (Zy append_0),zH 64 (Zy String_1)] st) [] [0,16] yF yD ?_ ?_
 rintro _ _ ⟨⟩ ⟨_,_,_⟩ _ a d l h m
 simp only[go_sem,seval,Zd]at d
 obtain ⟨⟨_,_,_,_⟩,o,_,hn⟩:=d
 subst hn
 have q:=WF.boxL l o (j:=2) rfl
 have:=ZR a
 have:=ZT a
 have:=Zp (ZS a) q
 obtain ⟨_,_,_,t,h⟩:=Qj h
 simp only[AB]at t
 simp only[*,go_sem,seval]
 refine ZE9 h fun _ u h=>Zb (ZeV u)<|yA ?_
 refine yB h (fun _ h=>?_) fun _ h=>?_
 exact yR h [0,1]
 replace h:=Zt h m
 cases h;exact yD
 rintro ⟨⟩ ⟨_,_,_⟩ e _ h
 simp only[go_sem,seval,Zd]at e
 obtain ⟨⟨_,_,_,_⟩,_,_,hn⟩:=e
 subst hn
 have:=ZN (append_0.cond.length)
 simp only[*,go_sem,seval]
 refine Zi h (fun i _ st=>IV [(2,.bp 0 0),(3,.bp 1 0),(58,yL append_0.thn.length),(59,yL i)] [zH 64 (Zy append_0),zH 64 (Zy String_1)] st) [] [0,1] yF yD ?_ ?_
 rintro _ _ ⟨⟩ ⟨_,_,_⟩ _ b f v h g
 simp only[go_sem,seval,Zd]at f
 obtain ⟨⟨_,_,_,_⟩,w,_,hn⟩:=f
 subst hn
 have x:=WF.boxL v w (j:=3) rfl
 have:=ZR b
 have:=ZT b
 have:=Zp (ZS b) x
 obtain ⟨_,_,_,y,h⟩:=Qj h
 simp only[AB]at y
 simp only[*,go_sem,seval]
 refine yB h (fun _ h=>?_) fun _ h=>?_
 replace h:=Zt h g
 cases h;exact yD
 refine ZE9 h fun _ z h=>Zb (ZaE z)<|yA ?_
 refine yB h (fun _ h=>?_) fun _ h=>?_
 exact yR h [0,1]
 replace h:=Zt h g
 cases h;exact yD
 rintro ⟨⟩ ⟨_,_,_⟩ k _ h
 simp only[go_sem,seval,Zd]at k
 obtain ⟨⟨_,_,_,_⟩,_,_,hn⟩:=k
 subst hn
 have:=ZN (append_0.thn.length)
 iterate 2 (cases h;exact yD)
theorem Zk9 {a_0:(List Zs)}{b_1:(List Zs)}{r:Bool}(h:ZbE a_0 b_1=some r):Zm prog J0 115 [(false,[.sl 167 2 (A0 Xv a_0)]),(false,[.sl 167 2 (A0 Xv b_1)])] [(false,[(false,.bool r)])]:=by
 refine fnk func115 rfl ?_
 unfold ZbE at h
 simp only[fnS,f115,Zq,go_sem,seval]
 refine yB h (fun _ h=>?_) fun _ h=>?_
 cases h;exact yD
 refine Zi h (fun i _ st=>IV [(0,yM (zF a_0)),(1,yM (zF b_1)),(12,yL a_0.length),(13,yL i)] [] st) [] [] yF yD ?_ ?_
 rintro _ _ ⟨⟩ ⟨_,_,_⟩ _ a b e h f
 simp only[go_sem,seval,Zd]at b
 obtain ⟨⟨g,_,_,_⟩,hn⟩:=b
 subst hn
 have k:=WF.slotL e g (j:=0) rfl
 have:=ZR a
 have:=ZT a
 have:=Zp (ZS a) k
 obtain ⟨_,_,_,l,h⟩:=Qj h
 simp only[AB]at l
 simp only[*,go_sem,seval]
 refine ZE9 h fun _ m h=>Zb (ZbJ m)<|yA ?_
 refine yB h (fun _ h=>?_) fun _ h=>?_
 refine ZE9 h fun _ o h=>Zb (ZlE o)<|yA ?_
 refine yB h (fun _ h=>?_) fun _ h=>?_
 refine ⟨_,[],[],(AA h).symm,yF,?_⟩
 iterate 2 (simp only[*,go_sem,seval];replace h:=Zt h f;cases h)
 simp only[*,go_sem,seval]
 rintro ⟨⟩ ⟨_,_,_⟩ d _ h
 simp only[go_sem,seval,Zd]at d
 obtain ⟨⟨_,_,_,_⟩,hn⟩:=d
 subst hn
 have:=ZN (a_0.length)
 cases h;exact yD
theorem ZmH {l_0:(List Zf)}{r:(List Zf)}(h:Zc9 l_0=some r):Zm prog J0 231 [(false,[.sl 107 5 (A0 ZE l_0)])] [(false,[(false,.sl 107 5 (A0 ZE r))])]:=by
 refine fnk func231 rfl ?_
 unfold Zc9 at h
 simp only[fnS,f231,Zq,go_sem,seval]
 refine Zi h (fun i a st=>IV [(3,.p false [.row 0]),(6,yM (yY l_0)),(7,yL l_0.length),(8,yL i)] [.row 107 5 (A0 ZE a) 2] st) [(false,3,0)] [80] yF yD ?_ ?_
 rintro _ _ a ⟨_,_,_⟩ _ b d f h _
 simp only[go_sem,seval,Zd]at d
 obtain ⟨⟨_,g,_,_⟩,_,hn⟩:=d
 subst hn
 have k:=WF.slotL f g (j:=0) rfl
 have:=ZR b
 have:=ZT b
 have:=Zp (ZS b) k
 simp only[*,go_sem,seval]
 refine ZE9 h fun _ l h=>Zb (QN l) ?_
 obtain ⟨m,h⟩:=ZM h
 try simp only[Nat.reduceLeDiff]at m
 simp only[*,go_sem,seval]
 exact yR h [145]
 rintro a ⟨_,_,_⟩ e _ h
 simp only[go_sem,seval,Zd]at e
 obtain ⟨⟨_,_,_,_⟩,_,hn⟩:=e
 subst hn
 have:=ZN (l_0.length)
 cases h;exact yD
theorem ZkT {r_0:Zl}{r:(List Zg)}(h:ZbB r_0=some r):Zm prog J0 213 [(true,Zy r_0)] [(false,[(false,.sl 218 2 (A0 ZO r))])]:=by
 refine fnk func213 rfl ?_
 unfold ZbB at h
 simp only[fnS,f213,Zq,go_sem,seval]
 refine Zi h (fun i a st=>IV [(3,.p false [.row 0]),(7,yM (yY r_0.cond)),(8,yL r_0.cond.length),(9,yL i)] [.row 9 1 (A0 ZH a) 2] st) [(false,3,0)] [112] yF yD ?_ ?_
 rintro _ _ a ⟨_,_,_⟩ _ b d f h _
 simp only[go_sem,seval,Zd]at d
 obtain ⟨⟨_,g,_,_⟩,_,hn⟩:=d
 subst hn
 have k:=WF.slotL f g (j:=0) rfl
 have:=ZR b
 have:=ZT b
 have:=Zp (ZS b) k
 simp only[*,go_sem,seval]
 refine ZE9 h fun _ l h=>Zb (ZjG l) ?_
 obtain ⟨_,h⟩:=ZM h
 simp only[*,go_sem,seval]
 exact yR h [129]
 rintro a ⟨_,_,_⟩ e _ h
 simp only[go_sem,seval,Zd]at e
 obtain ⟨⟨_,_,_,_⟩,_,hn⟩:=e
 subst hn
 have:=ZN (r_0.cond.length)
 simp only[*,go_sem,seval]
 refine ZE9 h fun _ m h=>Zb (Zf9 m) ?_
 cases h;exact yD
theorem ZjS {p_0:Zj}{r:Zj}(h:ZdH p_0=some r):Zm prog J0 216 [(true,YD p_0)] [(true,[(false,.str r.rel),(false,.sl 9 1 (A0 ZH r.args))])]:=by
 refine fnk func216 rfl ?_
 unfold ZdH at h
 simp only[fnS,f216,Zq,go_sem,seval]
 refine ZE9 h fun _ a h=>Zb (Zf9 a)<|yA ?_
 refine ZE9 h fun _ b h=>Zb (Zgd b) ?_
 cases h;exact yD
theorem Zr4 {a:(List Zg)}{b:ByteArray}{d:ByteArray}{r:((List Zg)×Bool)}(h:ZgX a b d=some r):Zm prog J0 237 [(false,[.sl 218 2 (A0 ZO a)]),(false,[.str b]),(false,[.str d])] [(false,[(false,.sl 218 2 (A0 ZO r.1))]),(false,[(false,.bool r.2)])]:=by
 refine fnk func237 rfl ?_
 unfold ZgX at h
 simp only[fnS,f237,Zq,go_sem,seval]
 refine ZE9 h fun _ o h=>Zb (Zb1 o)<|yA ?_
 refine yB h (fun _ h=>?_) fun _ h=>?_
 refine ZE9 h fun _ q h=>Zb (ZcA q)<|yA ?_
 refine yB h (fun _ h=>?_) fun _ h=>?_
 refine ZE9 h fun _ t h=>Zb (Qp t)<|yA ?_
 refine yB h (fun _ h=>?_) fun _ h=>?_
 refine ZE9 h fun _ u h=>Zb (ZfK u)<|yA ?_
 iterate 2 refine yB h (fun _ h=>?_) fun _ h=>?_
 refine ZE9 h fun _ v h=>Zb (Zhb v) ?_
 iterate 2 (cases h;exact yD)
 refine yB h (fun _ h=>?_) fun _ h=>?_
 cases h;exact yD
 refine Zi h (fun i s st=>match s with|(e,f)=>IV [(1,yM (.str b)),(2,yM (.str d)),(10,.p false [.row 0]),(11,yM (.bool f)),(42,yM (yX a)),(43,yL a.length),(44,yL i)] [.row 218 2 (A0 ZO e) 2] st) [(false,10,0)] [512] yF yD ?_ ?_
 rintro _ _ ⟨e,f⟩ ⟨_,_,_⟩ _ g l x h _
 simp only[go_sem,seval,Zd]at l
 obtain ⟨⟨_,_,_,_,y,_,_⟩,_,hn⟩:=l
 subst hn
 have z:=WF.slotL x y (j:=0) rfl
 have:=ZR g
 have:=ZT g
 have:=Zp (ZS g) z
 simp only[*,go_sem,seval]
 refine yB h (fun _ h=>?_) fun _ h=>?_
 obtain ⟨A,h⟩:=ZM h
 try simp only[Nat.reduceLeDiff]at A
 simp only[*,go_sem,seval]
 exact yR h [257]
 refine Zc h (fun k h=>?_) (fun k h=>?_)
 have B:=k
 obtain ⟨C,h⟩:=ZM h
 try simp only[Nat.reduceLeDiff]at C
 simp only[*,go_sem,seval]
 exact yR h [257]
 have B:=k
 obtain ⟨D,h⟩:=ZM h
 try simp only[Nat.reduceLeDiff]at D
 obtain ⟨E,h⟩:=ZM h
 try simp only[Nat.reduceLeDiff]at E
 simp only[*,go_sem,seval]
 exact yR h [385]
 rintro ⟨e,f⟩ ⟨_,_,_⟩ m _ h
 simp only[go_sem,seval,Zd]at m
 obtain ⟨⟨_,_,_,_,_,_,_⟩,_,hn⟩:=m
 subst hn
 have:=ZN (a.length)
 simp only[*,go_sem,seval]
 refine yB h (fun _ h=>?_) fun _ h=>?_
 cases h;exact yD
 obtain ⟨F,h⟩:=ZM h
 try simp only[Nat.reduceLeDiff]at F
 iterate 4 (cases h;exact yD)
theorem Zrd {a:Ze}{node_1:Int}{r:(List Zf)}(h:Zgo a node_1=some r):Zm prog J0 182 [(true,ZbV a),(false,[.int .i64 node_1])] [(false,[(false,.sl 107 5 (A0 ZE r))])]:=by
 refine fnk func182 rfl ?_
 unfold Zgo at h
 simp only[fnS,f182,Zq,go_sem,seval]
 iterate 2 ((refine Zc h (fun _ h=>?_) fun _ h=>?_<;>try simp only[*,go_sem,seval]);cases h;simp only[*,go_sem,seval])
 refine Zaj h (fun s st=>match s with|(b,d)=>IV [(1,yM (.int .i64 d)),(2,.bp 0 0),(5,.p false [.row 1])] [.box 48 [.c (yW a.rules),.c (yZ a.ends),.c (zB a.alphas),.c (zC a.nodes),.c (yV a.facts),.c (.int .i64 a.tries)],.row 3 1 (A0 Z8 b) 2] st) [(false,5,0)] [0,192] yF yD ?_
 rintro ⟨b,d⟩ ⟨_,_,_⟩ _ i _ h j
 simp only[go_sem,seval,Zd]at i
 obtain ⟨⟨_,_,_⟩,_,_,hn⟩:=i
 subst hn
 obtain ⟨q,h⟩:=ZM h
 try simp only[Nat.reduceLeDiff]at q
 obtain ⟨_,_,_,_,h⟩:=Qj h
 simp only[*,go_sem,seval]
 refine yB h (fun _ h=>?_) fun _ h=>?_
 refine Zaj h (fun s st=>match s with|(k,f)=>IV [(2,.bp 0 0),(5,.p false [.row 1]),(7,.p false [.row 2]),(8,yM (.int .i64 f))] [.box 48 [.c (yW a.rules),.c (yZ a.ends),.c (zB a.alphas),.c (zC a.nodes),.c (yV a.facts),.c (.int .i64 a.tries)],.row 3 1 (A0 Z8 (b++[d])) 2,.row 107 5 (A0 ZE k) 2] st) [(false,7,0)] [0,50,386] yF yD ?_
 rintro ⟨k,f⟩ ⟨_,_,_⟩ _ l _ h t
 simp only[go_sem,seval,Zd]at l
 obtain ⟨⟨_,_,_,_⟩,_,_,_,hn⟩:=l
 subst hn
 simp only[*,go_sem,seval]
 refine yB h (fun _ h=>?_) fun _ h=>?_
 obtain ⟨_,h⟩:=ZM h
 obtain ⟨u,v,h⟩:=Za h
 have w:(A0 Z8 b++[Z8 d])[(Int.toNat f)]?=some (Z8 u):=by rw [show A0 Z8 b++[Z8 d]=A0 Z8 (b++[d]) by rw [AM];rfl,AC,v];rfl
 simp only[ZpG]at w
 obtain ⟨_,_,_,_,h⟩:=Qj h
 simp only[*,go_sem,seval]
 refine ZE9 h fun _ x h=>Zb (QN x) ?_
 obtain ⟨y,h⟩:=ZM h
 try simp only[Nat.reduceLeDiff]at y
 simp only[*,go_sem,seval]
 exact yR h [0,1,227]
 replace h:=Zt h t
 replace h:=Zt h j
 cases h;exact yD
 refine yB h (fun _ h=>?_) fun _ h=>?_
 refine Zaj h (fun s st=>match s with|(m,g)=>IV [(2,.bp 0 0),(5,.p false [.row 1]),(7,.p false [.row 2]),(8,yM (.int .i64 g))] [.box 48 [.c (yW a.rules),.c (yZ a.ends),.c (zB a.alphas),.c (zC a.nodes),.c (yV a.facts),.c (.int .i64 a.tries)],.row 3 1 (A0 Z8 (b++[d])) 2,.row 107 5 (A0 ZE m) 2] st) [(false,7,0)] [0,50,386] yF yD ?_
 rintro ⟨m,g⟩ ⟨_,_,_⟩ _ o _ h z
 simp only[go_sem,seval,Zd]at o
 obtain ⟨⟨_,_,_,_⟩,_,_,_,hn⟩:=o
 subst hn
 simp only[*,go_sem,seval]
 refine yB h (fun _ h=>?_) fun _ h=>?_
 obtain ⟨_,h⟩:=ZM h
 obtain ⟨A,B,h⟩:=Za h
 have C:(A0 Z8 b++[Z8 d])[(Int.toNat g)]?=some (Z8 A):=by rw [show A0 Z8 b++[Z8 d]=A0 Z8 (b++[d]) by rw [AM];rfl,AC,B];rfl
 simp only[ZpG]at C
 obtain ⟨_,_,_,_,h⟩:=Qj h
 simp only[*,go_sem,seval]
 refine ZE9 h fun _ D h=>Zb (QN D) ?_
 obtain ⟨E,h⟩:=ZM h
 try simp only[Nat.reduceLeDiff]at E
 simp only[*,go_sem,seval]
 exact yR h [0,1,227]
 replace h:=Zt h z
 replace h:=Zt h j
 cases h;exact yD
 exact yR h [0,50]
end
section
theorem ZcS {p_0:Zj}{r:(List ByteArray)}(h:ZbY p_0=some r):Zm prog J0 140 [(true,YD p_0)] [(false,[(false,.sl 9 1 (A0 ZH r))])]:=by
 refine fnk func140 rfl ?_
 unfold ZbY at h
 simp only[fnS,f140,Zq,go_sem,seval]
 refine Zi h (fun i a st=>IV [(1,.bp 0 0),(3,.p false [.row 1]),(4,yL i)] [.box 101 [.c (.str p_0.rel),.c (yU p_0.args)],.row 9 1 (A0 ZH a) 2] st) [] [0,32] yF yD ?_ ?_
 rintro _ _ a ⟨_,_,_⟩ _ b d f h _
 simp only[go_sem,seval,Zd]at d
 obtain ⟨⟨_,_,_⟩,g,_,hn⟩:=d
 subst hn
 have k:=WF.boxL f g (j:=1) rfl
 have:=ZR b
 have:=ZT b
 have:=Zp (ZS b) k
 simp only[*,go_sem,seval]
 refine ZE9 h fun _ l h=>Zb (Qx l)<|yA ?_
 refine yB h (fun _ h=>?_) fun _ h=>?_
 refine ZE9 h fun _ m h=>Zb (Zbd m)<|yA ?_
 exact yR h [0,274]
 exact yR h [0,1]
 rintro a ⟨_,_,_⟩ e _ h
 simp only[go_sem,seval,Zd]at e
 obtain ⟨⟨_,_,_⟩,_,_,hn⟩:=e
 subst hn
 have:=ZN (p_0.args.length)
 cases h;exact yD
theorem Zal {s_0:ByteArray}{r:Bool}(h:Q9 s_0=some r):Zm prog J0 192 [(false,[.str s_0])] [(false,[(false,.bool r)])]:=by
 refine fnk func192 rfl ?_
 unfold Q9 at h
 simp only[fnS,f192,Zq,go_sem,seval]
 refine ZE9 h fun _ a h=>Zb (Qk a)<|yA ?_
 refine yB h (fun _ h=>?_) fun _ h=>?_
 cases h;exact yD
 refine ZE9 h fun _ b h=>Zb (Qx b) ?_
 cases h;exact yD
theorem Xl {f_0:Zk}{r:Bool}(h:XS f_0=some r):Zm prog J0 88 [(true,Zw f_0)] [(false,[(false,.bool r)])]:=by
 refine fnk func88 rfl ?_
 unfold XS at h
 simp only[fnS,f88,Zq,go_sem,seval]
 refine Zi h (fun i _ st=>IV [(1,.bp 0 0),(3,yL i)] [zH 83 (Zw f_0)] st) [] [0] yF yD ?_ ?_
 rintro _ _ ⟨⟩ ⟨_,_,_⟩ _ a b e h f
 simp only[go_sem,seval,Zd]at b
 obtain ⟨⟨_,_⟩,g,hn⟩:=b
 subst hn
 have k:=WF.boxL e g (j:=1) rfl
 have:=ZR a
 have:=ZT a
 have:=Zp (ZS a) k
 simp only[*,go_sem,seval]
 refine ZE9 h fun _ l h=>Zb (Qk l)<|yA ?_
 refine yB h (fun _ h=>?_) fun _ h=>?_
 exact yR h [0]
 replace h:=Zt h f
 cases h;exact yD
 rintro ⟨⟩ ⟨_,_,_⟩ d _ h
 simp only[go_sem,seval,Zd]at d
 obtain ⟨⟨_,_⟩,_,hn⟩:=d
 subst hn
 have:=ZN (f_0.args.length)
 simp only[*,go_sem,seval]
 refine ZE9 h fun _ m h=>Zb (YV m)<|yA ?_
 refine yB h (fun _ h=>?_) fun _ h=>?_
 iterate 2 (cases h;exact yD)
theorem Zi6 {a_0:Zk}{b_1:Zk}{r:Int}(h:Zaw a_0 b_1=some r):Zm prog J0 93 [(true,Zw a_0),(true,Zw b_1)] [(false,[(false,.int .i64 r)])]:=by
 refine fnk func93 rfl ?_
 unfold Zaw at h
 simp only[fnS,f93,Zq,go_sem,seval]
 refine yB h (fun _ h=>?_) fun _ h=>?_
 refine Zi h (fun i _ st=>IV [(2,.bp 0 0),(3,.bp 1 0),(5,yL i)] [zH 83 (Zw a_0),zH 83 (Zw b_1)] st) [] [0,16] yF yD ?_ ?_
 rintro _ _ ⟨⟩ ⟨_,_,_⟩ _ a d f h b
 simp only[go_sem,seval,Zd]at d
 obtain ⟨⟨_,_,_⟩,g,_,hn⟩:=d
 subst hn
 have k:=WF.boxL f g (j:=1) rfl
 have:=ZR a
 have:=ZT a
 have:=Zp (ZS a) k
 simp only[*,go_sem,seval]
 refine yB h (fun _ h=>?_) fun _ h=>?_
 obtain ⟨_,_,_,l,h⟩:=Qj h
 simp only[AB]at l
 simp only[*,go_sem,seval]
 refine ZE9 h fun _ m h=>Zb (ZeR m)<|yA ?_
 refine yB h (fun _ h=>?_) fun _ h=>?_
 replace h:=Zt h b
 cases h;exact yD
 exact yR h [0,1]
 refine yB h (fun _ h=>?_) fun _ h=>?_
 replace h:=Zt h b
 cases h;exact yD
 refine yB h (fun _ h=>?_) fun _ h=>?_
 iterate 2 (replace h:=Zt h b;cases h;simp only[*,go_sem,seval])
 rintro ⟨⟩ ⟨_,_,_⟩ e _ h
 simp only[go_sem,seval,Zd]at e
 obtain ⟨⟨_,_,_⟩,_,_,hn⟩:=e
 subst hn
 have:=ZN (a_0.args.length)
 iterate 2 (simp only[*,go_sem,seval];(refine Zc h (fun _ h=>?_) fun _ h=>?_<;>try simp only[*,go_sem,seval]);cases h)
 simp only[*,go_sem,seval]
 cases h;exact yD
 refine ZE9 h fun _ o h=>Zb (ZlB o) ?_
 cases h;exact yD
theorem ZqD {r_0:Zl}{r:Zl}(h:Zhk r_0=some r):Zm prog J0 143 [(true,Zy r_0)] [(true,[(false,.str r.name),(false,.int .i64 r.priority),(false,.sl 107 5 (A0 ZE r.cond)),(false,.sl 117 3 (A0 ZQ r.thn))])]:=by
 refine fnk func143 rfl ?_
 unfold Zhk at h
 simp only[fnS,f143,Zq,go_sem,seval]
 refine Zi h (fun i a st=>IV [(1,.bp 0 0),(2,.bp 1 0),(3,.bp 2 0),(4,yL i)] [zH 64 (Zy r_0),.box 64 [.c (.str ⟨#[]⟩),.c (.int .i64 0),.nil 107 5,.nil 117 3],.box 64 [.c (.str r_0.name),.c (.int .i64 r_0.priority),.row 3,.nil 117 3],.row 107 5 (A0 ZE a) 2] st) [(true,112,2)] [0,16,112,160] yF yD ?_ ?_
 rintro _ _ a ⟨_,_,_⟩ _ b f m h _
 simp only[go_sem,seval,Zd]at f
 obtain ⟨⟨_,_,_,_⟩,o,_,_,_,hn⟩:=f
 subst hn
 have q:=WF.boxL m o (j:=2) rfl
 have:=ZR b
 have:=ZT b
 have:=Zp (ZS b) q
 simp only[*,go_sem,seval]
 refine ZE9 h fun _ t h=>Zb (Zgz t) ?_
 obtain ⟨u,h⟩:=ZM h
 try simp only[Nat.reduceLeDiff]at u
 simp only[*,go_sem,seval]
 exact yR h [0,1,2,228]
 rintro a ⟨_,_,_⟩ g _ h
 simp only[go_sem,seval,Zd]at g
 obtain ⟨⟨_,_,_,_⟩,_,_,_,_,hn⟩:=g
 subst hn
 have:=ZN (r_0.cond.length)
 simp only[*,go_sem,seval]
 refine Zi h (fun i d st=>IV [(1,.bp 0 0),(2,.bp 1 0),(3,.bp 2 0),(5,yL i)] [zH 64 (Zy r_0),.box 64 [.c (.str ⟨#[]⟩),.c (.int .i64 0),.nil 107 5,.nil 117 3],.box 64 [.c (.str r_0.name),.c (.int .i64 r_0.priority),.row 3,.row 4],.row 107 5 (A0 ZE a) 2,.row 117 3 (A0 ZQ d) 2] st) [(true,2,3)] [0,1,2,3,100] yF yD ?_ ?_
 rintro _ _ d ⟨_,_,_⟩ _ e k v h _
 simp only[go_sem,seval,Zd]at k
 obtain ⟨⟨_,_,_,_⟩,w,_,_,_,_,hn⟩:=k
 subst hn
 have x:=WF.boxL v w (j:=3) rfl
 have:=ZR e
 have:=ZT e
 have:=Zp (ZS e) x
 simp only[*,go_sem,seval]
 refine ZE9 h fun _ y h=>Zb (ZiB y) ?_
 obtain ⟨z,h⟩:=ZM h
 try simp only[Nat.reduceLeDiff]at z
 simp only[*,go_sem,seval]
 exact yR h [0,1,2,3,357]
 rintro d ⟨_,_,_⟩ l _ h
 simp only[go_sem,seval,Zd]at l
 obtain ⟨⟨_,_,_,_⟩,_,_,_,_,_,hn⟩:=l
 subst hn
 have:=ZN (r_0.thn.length)
 cases h;exact yD
theorem Zez {l_0:(List Zg)}{a:ByteArray}{r:(List Zg)}(h:QH l_0 a=some r):Zo2 prog J0 JF0 195 (false,[(false,.sl 218 2 (A0 ZO l_0))]) [(false,[.str a])] [(false,[(false,.sl 218 2 (A0 ZO r))])]:=by
 refine fng func195 rfl ?_
 unfold QH at h
 have j:ZaR ⟨#[63]⟩=true:=by decide
 simp only[fnG,f195,ZoI,go_sem,seval,j]
 refine ZE9 h fun v1 e1 h=>Zb (Qx e1) ?_
 simp only[*,go_sem,seval]
 refine Zc h (fun c2 h=>?_) (fun c2 h=>?_)<;>try simp only[*,go_sem,seval]
 .refine Zi h (fun i _ st=>IV [(0,.p false [.row 0]),(1,.p false [.c (.str a)]),(5,.p false [.c (.int .i64 ((i:Nat):Int))])] [.row 218 2 (A0 ZO l_0) 2] st) [] [0] yF ?_ ?_ ?_
  .simp only[*,go_sem,seval]
  .rintro i6 x7 ⟨⟩ ⟨sl,ob,n⟩ y3 d g k h l
   simp only[go_sem,seval,Zd]at g
   obtain ⟨⟨g7_0,g7_1,g7_5⟩,e,hn⟩:=g
   subst hn
   have f:=WF.rowL k e
   have q8:=ZR d
   have q9:=ZT d
   have q10:=Zp (ZS d) f
   simp only[*,go_sem,seval]
   refine Zc h (fun m h=>?_) (fun m h=>?_)<;>try simp only[*,go_sem,seval]
   .replace h:=Zt h l
    obtain rfl:=AA h
    simp only[*,go_sem,seval]
   .refine ⟨_,[],[0],(AA h).symm,yF,?_⟩
    simp only[*,go_sem,seval]
  .rintro ⟨⟩ ⟨sl,ob,n⟩ b hW13 h
   simp only[go_sem,seval,Zd]at b
   obtain ⟨⟨g14_0,g14_1,g14_5⟩,og14_0,hn⟩:=b
   subst hn
   have q15:=ZN (l_0.length)
   simp only[*,go_sem,seval]
   refine ZE9 h fun v8 o h=>Zb (Zhi o) ?_
   obtain ⟨q,h⟩:=ZM h
   simp only[go_sem]at q
   obtain ⟨t,h⟩:=ZM h
   try simp only[Nat.reduceLeDiff]at t
   obtain rfl:=AA h
   simp only[*,go_sem,seval]
 .obtain rfl:=AA h
  simp only[*,go_sem,seval]
theorem Zk2 {append_0:Ze}{String_1:Ze}{r:Bool}(h:ZbI append_0 String_1=some r):Zm prog J0 41 [(true,ZbV append_0),(true,ZbV String_1)] [(false,[(false,.bool r)])]:=by
 refine fnk func41 rfl ?_
 unfold ZbI at h
 simp only[fnS,f41,Zq,go_sem,seval]
 iterate 3 ((refine Zc h (fun _ h=>?_) fun _ h=>?_<;>try simp only[*,go_sem,seval]);cases h;simp only[*,go_sem,seval])
 refine Zi h (fun i _ st=>IV [(2,.bp 0 0),(3,.bp 1 0),(5,yL i)] [.box 48 [.c (yW append_0.rules),.c (yZ append_0.ends),.c (zB append_0.alphas),.c (zC append_0.nodes),.c (yV append_0.facts),.c (.int .i64 append_0.tries)],.box 48 [.c (yW String_1.rules),.c (yZ String_1.ends),.c (zB String_1.alphas),.c (zC String_1.nodes),.c (yV String_1.facts),.c (.int .i64 String_1.tries)]] st) [] [0,16] yF yD ?_ ?_
 rintro _ _ ⟨⟩ ⟨_,_,_⟩ _ a f q h t
 simp only[go_sem,seval,Zd]at f
 obtain ⟨⟨_,_,_⟩,u,_,hn⟩:=f
 subst hn
 have v:=WF.boxL q u (j:=2) rfl
 have:=ZR a
 have:=ZT a
 have:=Zp (ZS a) v
 obtain ⟨_,_,_,w,h⟩:=Qj h
 simp only[AB]at w
 simp only[*,go_sem,seval]
 refine ZE9 h fun _ x h=>Zb (ZaK x)<|yA ?_
 refine yB h (fun _ h=>?_) fun _ h=>?_
 exact yR h [0,1]
 replace h:=Zt h t
 cases h;exact yD
 rintro ⟨⟩ ⟨_,_,_⟩ g _ h
 simp only[go_sem,seval,Zd]at g
 obtain ⟨⟨_,_,_⟩,_,_,hn⟩:=g
 subst hn
 have:=ZN (append_0.alphas.length)
 simp only[*,go_sem,seval]
 refine Zi h (fun i _ st=>IV [(2,.bp 0 0),(3,.bp 1 0),(6,yL i)] [.box 48 [.c (yW append_0.rules),.c (yZ append_0.ends),.c (zB append_0.alphas),.c (zC append_0.nodes),.c (yV append_0.facts),.c (.int .i64 append_0.tries)],.box 48 [.c (yW String_1.rules),.c (yZ String_1.ends),.c (zB String_1.alphas),.c (zC String_1.nodes),.c (yV String_1.facts),.c (.int .i64 String_1.tries)]] st) [] [0,1] yF yD ?_ ?_
 rintro _ _ ⟨⟩ ⟨_,_,_⟩ _ b k y h d
 simp only[go_sem,seval,Zd]at k
 obtain ⟨⟨_,_,_⟩,z,_,hn⟩:=k
 subst hn
 have A:=WF.boxL y z (j:=3) rfl
 have:=ZR b
 have:=ZT b
 have:=Zp (ZS b) A
 obtain ⟨_,_,_,B,h⟩:=Qj h
 simp only[AB]at B
 simp only[*,go_sem,seval]
 refine yB h (fun _ h=>?_) fun _ h=>?_
 replace h:=Zt h d
 cases h;exact yD
 refine yB h (fun _ h=>?_) fun _ h=>?_
 replace h:=Zt h d
 cases h;exact yD
 refine ZE9 h fun _ C h=>Zb (Ze7 C)<|yA ?_
 refine yB h (fun _ h=>?_) fun _ h=>?_
 exact yR h [0,1]
 replace h:=Zt h d
 cases h;exact yD
 rintro ⟨⟩ ⟨_,_,_⟩ l _ h
 simp only[go_sem,seval,Zd]at l
 obtain ⟨⟨_,_,_⟩,_,_,hn⟩:=l
 subst hn
 have:=ZN (append_0.nodes.length)
 simp only[*,go_sem,seval]
 refine Zi h (fun i _ st=>IV [(2,.bp 0 0),(3,.bp 1 0),(7,yL i)] [.box 48 [.c (yW append_0.rules),.c (yZ append_0.ends),.c (zB append_0.alphas),.c (zC append_0.nodes),.c (yV append_0.facts),.c (.int .i64 append_0.tries)],.box 48 [.c (yW String_1.rules),.c (yZ String_1.ends),.c (zB String_1.alphas),.c (zC String_1.nodes),.c (yV String_1.facts),.c (.int .i64 String_1.tries)]] st) [] [0,1] yF yD ?_ ?_
 rintro _ _ ⟨⟩ ⟨_,_,_⟩ _ e m D h E
 simp only[go_sem,seval,Zd]at m
 obtain ⟨⟨_,_,_⟩,F,_,hn⟩:=m
 subst hn
 have G:=WF.boxL D F (j:=1) rfl
 have:=ZR e
 have:=ZT e
 have:=Zp (ZS e) G
 obtain ⟨_,_,_,H,h⟩:=Qj h
 simp only[AB]at H
 simp only[*,go_sem,seval]
 refine yB h (fun _ h=>?_) fun _ h=>?_
 replace h:=Zt h E
 cases h;exact yD
 exact yR h [0,1]
 rintro ⟨⟩ ⟨_,_,_⟩ o _ h
 simp only[go_sem,seval,Zd]at o
 obtain ⟨⟨_,_,_⟩,_,_,hn⟩:=o
 subst hn
 have:=ZN (append_0.ends.length)
 cases h;exact yD
theorem ZbO {b_0:(List Zg)}{r:Bool}(h:Ql b_0=some r):Zm prog J0 151 [(false,[.sl 218 2 (A0 ZO b_0)])] [(false,[(false,.bool r)])]:=by
 refine fnk func151 rfl ?_
 unfold Ql at h
 simp only[fnS,f151,Zq,go_sem,seval]
 refine Zi h (fun i _ st=>IV [(0,yM (yX b_0)),(3,yL i)] [] st) [] [] yF yD ?_ ?_
 rintro _ _ ⟨⟩ ⟨_,_,_⟩ _ a b f h d
 simp only[go_sem,seval,Zd]at b
 obtain ⟨⟨g,_⟩,hn⟩:=b
 subst hn
 have k:=WF.slotL f g (j:=0) rfl
 have:=ZR a
 have:=ZT a
 have:=Zp (ZS a) k
 simp only[*,go_sem,seval]
 refine ZE9 h fun _ l h=>Zb (Qx l)<|yA ?_
 refine yB h (fun _ h=>?_) fun _ h=>?_
 refine ZE9 h fun _ m h=>Zb (Qk m)<|yA ?_
 iterate 2 refine yB h (fun _ h=>?_) fun _ h=>?_
 obtain ⟨_,_,_,_,h⟩:=Qj h
 simp only[*,go_sem,seval]
 refine yB h (fun _ h=>?_) fun _ h=>?_
 exact yR h []
 replace h:=Zt h d
 cases h;exact yD
 refine ⟨_,[],[],(AA h).symm,yF,?_⟩
 iterate 2 (simp only[*,go_sem,seval];replace h:=Zt h d;cases h)
 simp only[*,go_sem,seval]
 rintro ⟨⟩ ⟨_,_,_⟩ e _ h
 simp only[go_sem,seval,Zd]at e
 obtain ⟨⟨_,_⟩,hn⟩:=e
 subst hn
 have:=ZN (b_0.length)
 cases h;exact yD
theorem ZfS {b_0:(List Zg)}{term_1:ByteArray}{r:(ByteArray×Bool)}(h:Zcn b_0 term_1=some r):Zm prog J0 198 [(false,[.sl 218 2 (A0 ZO b_0)]),(false,[.str term_1])] [(false,[(false,.str r.1)]),(false,[(false,.bool r.2)])]:=by
 refine fnk func198 rfl ?_
 unfold Zcn at h
 have e:ZaR ⟨#[]⟩=true:=by decide
 simp only[fnS,f198,Zq,go_sem,seval,e]
 refine ZE9 h fun _ f h=>Zb (Qk f)<|yA ?_
 refine yB h (fun _ h=>?_) fun _ h=>?_
 cases h;exact yD
 refine Zi h (fun i _ st=>IV [(0,yM (yX b_0)),(1,yM (.str term_1)),(6,yL i)] [] st) [] [] yF yD ?_ ?_
 rintro _ _ ⟨⟩ ⟨_,_,_⟩ _ a b g h k
 simp only[go_sem,seval,Zd]at b
 obtain ⟨⟨l,_,_⟩,hn⟩:=b
 subst hn
 have m:=WF.slotL g l (j:=0) rfl
 have:=ZR a
 have:=ZT a
 have:=Zp (ZS a) m
 simp only[*,go_sem,seval]
 refine yB h (fun _ h=>?_) fun _ h=>?_
 refine ZE9 h fun _ o h=>Zb (Qx o)<|yA ?_
 refine yB h (fun _ h=>?_) fun _ h=>?_
 replace h:=Zt h k
 cases h;exact yD
 exact yR h []
 exact yR h []
 rintro ⟨⟩ ⟨_,_,_⟩ d _ h
 simp only[go_sem,seval,Zd]at d
 obtain ⟨⟨_,_,_⟩,hn⟩:=d
 subst hn
 have:=ZN (b_0.length)
 cases h;exact yD
theorem Zjv {a_0:(List Zs)}{b_1:(List Zs)}{r:Bool}(h:Zb7 a_0 b_1=some r):Zm prog J0 43 [(false,[.sl 167 2 (A0 Xv a_0)]),(false,[.sl 167 2 (A0 Xv b_1)])] [(false,[(false,.bool r)])]:=by
 refine fnk func43 rfl ?_
 unfold Zb7 at h
 simp only[fnS,f43,Zq,go_sem,seval]
 refine yB h (fun _ h=>?_) fun _ h=>?_
 cases h;exact yD
 refine Zi h (fun i _ st=>IV [(0,yM (zF a_0)),(1,yM (zF b_1)),(5,yL i)] [] st) [] [] yF yD ?_ ?_
 rintro _ _ ⟨⟩ ⟨_,_,_⟩ _ a b e h f
 simp only[go_sem,seval,Zd]at b
 obtain ⟨⟨g,_,_⟩,hn⟩:=b
 subst hn
 have k:=WF.slotL e g (j:=0) rfl
 have:=ZR a
 have:=ZT a
 have:=Zp (ZS a) k
 obtain ⟨_,_,_,l,h⟩:=Qj h
 simp only[AB]at l
 simp only[*,go_sem,seval]
 refine ZE9 h fun _ m h=>Zb (ZdL m)<|yA ?_
 refine yB h (fun _ h=>?_) fun _ h=>?_
 refine ZE9 h fun _ o h=>Zb (Zio o)<|yA ?_
 refine yB h (fun _ h=>?_) fun _ h=>?_
 refine ⟨_,[],[],(AA h).symm,yF,?_⟩
 iterate 2 (simp only[*,go_sem,seval];replace h:=Zt h f;cases h)
 simp only[*,go_sem,seval]
 rintro ⟨⟩ ⟨_,_,_⟩ d _ h
 simp only[go_sem,seval,Zd]at d
 obtain ⟨⟨_,_,_⟩,hn⟩:=d
 subst hn
 have:=ZN (a_0.length)
 cases h;exact yD
theorem Zqt {t_0:Zs}{r:Zs}(h:ZgH t_0=some r):Zm prog J0 155 [(true,Xv t_0)] [(true,[(false,.sl 83 2 (A0 Zw r.facts)),(false,.sl 218 2 (A0 ZO r.binding))])]:=by
 refine fnk func155 rfl ?_
 unfold ZgH at h
 simp only[fnS,f155,Zq,go_sem,seval]
 refine ZE9 h fun _ a h=>Zb (ZhK a)<|yA ?_
 refine ZE9 h fun _ b h=>Zb (Zgs b) ?_
 cases h;exact yD
theorem Zrt {a:Ze}{node_1:Int}{r:(List Zf)}(h:ZgC a node_1=some r):Zm prog J0 45 [(true,ZbV a),(false,[.int .i64 node_1])] [(false,[(false,.sl 107 5 (A0 ZE r))])]:=by
 refine fnk func45 rfl ?_
 unfold ZgC at h
 simp only[fnS,f45,Zq,go_sem,seval]
 refine Zaj h (fun s st=>match s with|(d,e)=>IV [(1,yM (.int .i64 e)),(2,.bp 0 0),(5,.p false [.row 1])] [.box 48 [.c (yW a.rules),.c (yZ a.ends),.c (zB a.alphas),.c (zC a.nodes),.c (yV a.facts),.c (.int .i64 a.tries)],.row 107 5 (A0 ZE d) 2] st) [] [0,32] yF yD ?_
 rintro ⟨d,e⟩ ⟨_,_,_⟩ _ f _ h g
 simp only[go_sem,seval,Zd]at f
 obtain ⟨⟨_,_,_⟩,_,_,hn⟩:=f
 subst hn
 simp only[*,go_sem,seval]
 refine ZE9 h fun _ i h=>Zb (XK i)<|yA ?_
 refine yB h (fun _ h=>?_) fun _ h=>?_
 obtain ⟨_,_,_,_,h⟩:=Qj h
 simp only[*,go_sem,seval]
 refine ZE9 h fun _ j h=>Zb (Zgz j) ?_
 obtain ⟨_,h⟩:=ZM h
 simp only[*,go_sem,seval]
 refine yB h (fun _ h=>?_) fun _ h=>?_
 replace h:=Zt h g
 cases h;exact yD
 exact yR h [0,242]
 replace h:=Zt h g
 cases h;exact yD
theorem Znk {append_0:Zl}{String_1:Zl}{r:Bool}(h:Zes append_0 String_1=some r):Zm prog J0 15 [(true,Zy append_0),(true,Zy String_1)] [(false,[(false,.bool r)])]:=by
 refine fnk func15 rfl ?_
 unfold Zes at h
 simp only[fnS,f15,Zq,go_sem,seval]
 iterate 2 refine yB h (fun _ h=>?_) fun _ h=>?_
 iterate 2 (cases h;simp only[*,go_sem,seval];refine Zc h (fun _ h=>?_) fun _ h=>?_<;>try simp only[*,go_sem,seval])
 cases h;exact yD
 refine Zi h (fun i _ st=>IV [(2,.bp 0 0),(3,.bp 1 0),(5,yL i)] [zH 64 (Zy append_0),zH 64 (Zy String_1)] st) [] [0,16] yF yD ?_ ?_
 rintro _ _ ⟨⟩ ⟨_,_,_⟩ _ a d l h m
 simp only[go_sem,seval,Zd]at d
 obtain ⟨⟨_,_,_⟩,o,_,hn⟩:=d
 subst hn
 have q:=WF.boxL l o (j:=2) rfl
 have:=ZR a
 have:=ZT a
 have:=Zp (ZS a) q
 obtain ⟨_,_,_,t,h⟩:=Qj h
 simp only[AB]at t
 simp only[*,go_sem,seval]
 refine ZE9 h fun _ u h=>Zb (Ze7 u)<|yA ?_
 refine yB h (fun _ h=>?_) fun _ h=>?_
 exact yR h [0,1]
 replace h:=Zt h m
 cases h;exact yD
 rintro ⟨⟩ ⟨_,_,_⟩ e _ h
 simp only[go_sem,seval,Zd]at e
 obtain ⟨⟨_,_,_⟩,_,_,hn⟩:=e
 subst hn
 have:=ZN (append_0.cond.length)
 simp only[*,go_sem,seval]
 refine Zi h (fun i _ st=>IV [(2,.bp 0 0),(3,.bp 1 0),(6,yL i)] [zH 64 (Zy append_0),zH 64 (Zy String_1)] st) [] [0,1] yF yD ?_ ?_
 rintro _ _ ⟨⟩ ⟨_,_,_⟩ _ b f v h g
 simp only[go_sem,seval,Zd]at f
 obtain ⟨⟨_,_,_⟩,w,_,hn⟩:=f
 subst hn
 have x:=WF.boxL v w (j:=3) rfl
 have:=ZR b
 have:=ZT b
 have:=Zp (ZS b) x
 obtain ⟨_,_,_,y,h⟩:=Qj h
 simp only[AB]at y
 simp only[*,go_sem,seval]
 refine yB h (fun _ h=>?_) fun _ h=>?_
 replace h:=Zt h g
 cases h;exact yD
 refine ZE9 h fun _ z h=>Zb (ZaK z)<|yA ?_
 refine yB h (fun _ h=>?_) fun _ h=>?_
 exact yR h [0,1]
 replace h:=Zt h g
 cases h;exact yD
 rintro ⟨⟩ ⟨_,_,_⟩ k _ h
 simp only[go_sem,seval,Zd]at k
 obtain ⟨⟨_,_,_⟩,_,_,hn⟩:=k
 subst hn
 have:=ZN (append_0.thn.length)
 iterate 2 (cases h;exact yD)
theorem Zad {p_0:Zj}{r:Bool}(h:XQ p_0=some r):Zm prog J0 203 [(true,YD p_0)] [(false,[(false,.bool r)])]:=by
 refine fnk func203 rfl ?_
 unfold XQ at h
 simp only[fnS,f203,Zq,go_sem,seval]
 refine ZE9 h fun _ e h=>Zb (YX e)<|yA ?_
 iterate 2 refine yB h (fun _ h=>?_) fun _ h=>?_
 cases h;exact yD
 refine Zi h (fun i _ st=>IV [(16,yM (yU p_0.args)),(17,yL p_0.args.length),(18,yL i)] [] st) [] [] yF yD ?_ ?_
 rintro _ _ ⟨⟩ ⟨_,_,_⟩ _ a b f h g
 simp only[go_sem,seval,Zd]at b
 obtain ⟨⟨k,_,_⟩,hn⟩:=b
 subst hn
 have l:=WF.slotL f k (j:=0) rfl
 have:=ZR a
 have:=ZT a
 have:=Zp (ZS a) l
 simp only[*,go_sem,seval]
 refine ZE9 h fun _ m h=>Zb (Zag m)<|yA ?_
 refine yB h (fun _ h=>?_) fun _ h=>?_
 exact yR h []
 replace h:=Zt h g
 cases h;exact yD
 rintro ⟨⟩ ⟨_,_,_⟩ d _ h
 simp only[go_sem,seval,Zd]at d
 obtain ⟨⟨_,_,_⟩,hn⟩:=d
 subst hn
 have:=ZN (p_0.args.length)
 iterate 2 (cases h;exact yD)
end
section
theorem Zeh {r_0:Zl}{n_1:Int}{r:(List ByteArray)}(h:Zao r_0 n_1=some r):Zm prog J0 133 [(true,Zy r_0),(false,[.int .i64 n_1])] [(false,[(false,.sl 9 1 (A0 ZH r))])]:=by
 refine fnk func133 rfl ?_
 unfold Zao at h
 simp only[fnS,f133,Zq,go_sem,seval]
 refine Zi h (fun i a st=>IV [(1,yM (.int .i64 n_1)),(2,.bp 0 0),(5,.p false [.row 1]),(6,yL i)] [zH 64 (Zy r_0),.row 9 1 (A0 ZH a) 2] st) [] [0,32] yF yD ?_ ?_
 rintro b _ a ⟨_,_,_⟩ _ d g q h t
 simp only[go_sem,seval,Zd]at g
 obtain ⟨⟨_,_,_,_⟩,u,_,hn⟩:=g
 subst hn
 have v:=WF.boxL q u (j:=2) rfl
 have:=ZR d
 have:=ZT d
 have:=Zp (ZS d) v
 simp only[*,go_sem,seval]
 iterate 2 refine yB h (fun _ h=>?_) fun _ h=>?_
 refine ZE9 h fun k w h=>Zb (ZcS w)<|yA ?_
 refine Zi h (fun i e st=>IV [(1,yM (.int .i64 n_1)),(2,.bp 0 0),(5,.p false [.row 1]),(6,yL b),(7,.p false [.row 2]),(8,yL i),(16,yL b),(17,yM (.int .i64 n_1)),(18,yM (.bool (decide (((b:Nat):Int)<n_1))))] [zH 64 (Zy r_0),.row 9 1 (A0 ZH e) 2,.row 9 1 (A0 ZH k) 2] st) [] [0,1,370] yF yD ?_ ?_
 rintro _ _ e ⟨_,_,_⟩ _ f l x h _
 simp only[go_sem,seval,Zd]at l
 obtain ⟨⟨_,_,_,_,_,_,_,_,_⟩,_,_,y,hn⟩:=l
 subst hn
 have z:=WF.rowL x y
 have:=ZR f
 have:=ZT f
 have:=Zp (ZS f) z
 simp only[*,go_sem,seval]
 refine ZE9 h fun _ A h=>Zb (Zbd A)<|yA ?_
 exact yR h [0,147,2]
 rintro e ⟨_,_,_⟩ m _ h
 simp only[go_sem,seval,Zd]at m
 obtain ⟨⟨_,_,_,_,_,_,_,_,_⟩,_,_,_,hn⟩:=m
 subst hn
 have:=ZN (k.length)
 simp only[*,go_sem,seval]
 exact yR h [0,1]
 exact yR h [0,1]
 replace h:=Zt h t
 cases h;exact yD
 rintro a ⟨_,_,_⟩ o _ h
 simp only[go_sem,seval,Zd]at o
 obtain ⟨⟨_,_,_,_⟩,_,_,hn⟩:=o
 subst hn
 have:=ZN (r_0.cond.length)
 cases h;exact yD
theorem Zan {p_0:Zj}{r:Bool}(h:XR p_0=some r):Zm prog J0 150 [(true,YD p_0)] [(false,[(false,.bool r)])]:=by
 refine fnk func150 rfl ?_
 unfold XR at h
 simp only[fnS,f150,Zq,go_sem,seval]
 refine Zi h (fun i _ st=>IV [(1,.bp 0 0),(3,yL i)] [.box 101 [.c (.str p_0.rel),.c (yU p_0.args)]] st) [] [0] yF yD ?_ ?_
 rintro _ _ ⟨⟩ ⟨_,_,_⟩ _ a b e h f
 simp only[go_sem,seval,Zd]at b
 obtain ⟨⟨_,_⟩,g,hn⟩:=b
 subst hn
 have k:=WF.boxL e g (j:=1) rfl
 have:=ZR a
 have:=ZT a
 have:=Zp (ZS a) k
 simp only[*,go_sem,seval]
 refine ZE9 h fun _ l h=>Zb (Zal l)<|yA ?_
 refine yB h (fun _ h=>?_) fun _ h=>?_
 exact yR h [0]
 replace h:=Zt h f
 cases h;exact yD
 rintro ⟨⟩ ⟨_,_,_⟩ d _ h
 simp only[go_sem,seval,Zd]at d
 obtain ⟨⟨_,_⟩,_,hn⟩:=d
 subst hn
 have:=ZN (p_0.args.length)
 simp only[*,go_sem,seval]
 refine ZE9 h fun _ m h=>Zb (YV m)<|yA ?_
 refine yB h (fun _ h=>?_) fun _ h=>?_
 iterate 2 (cases h;exact yD)
theorem ZcH {x_0:Zf}{r:(List ByteArray)}(h:Qv x_0=some r):Zm prog J0 135 [(true,ZE x_0)] [(false,[(false,.sl 9 1 (A0 ZH r))])]:=by
 refine fnk func135 rfl ?_
 unfold Qv at h
 simp only[fnS,f135,Zq,go_sem,seval]
 refine ZE9 h fun _ a h=>Zb (ZcS a)<|yA ?_
 refine ZE9 h fun _ b h=>Zb (Qx b)<|yA ?_
 refine yB h (fun _ h=>?_) fun _ h=>?_
 refine ZE9 h fun _ c h=>Zb (Zbd c)<|yA ?_
 refine ZE9 h fun _ d h=>Zb (Qx d)<|yA ?_
 refine yB h (fun _ h=>?_) fun _ h=>?_
 refine ZE9 h fun _ e h=>Zb (Zbd e) ?_
 iterate 2 (cases h;exact yD)
 refine ZE9 h fun _ f h=>Zb (Qx f)<|yA ?_
 refine yB h (fun _ h=>?_) fun _ h=>?_
 refine ZE9 h fun _ g h=>Zb (Zbd g) ?_
 iterate 2 (cases h;exact yD)
theorem Zia {l_0:(List Zk)}{r:Bool}(h:Zcw l_0=some r):Zm prog J0 40 [(false,[.sl 83 2 (A0 Zw l_0)])] [(false,[(false,.bool r)])]:=by
 refine fnk func40 rfl ?_
 unfold Zcw at h
 simp only[fnS,f40,Zq,go_sem,seval]
 refine Zi h (fun i _ st=>IV [(0,yM (yV l_0)),(3,yL i)] [] st) [] [] yF yD ?_ ?_
 rintro _ _ ⟨⟩ ⟨_,_,_⟩ _ a b f h d
 simp only[go_sem,seval,Zd]at b
 obtain ⟨⟨g,_⟩,hn⟩:=b
 subst hn
 have k:=WF.slotL f g (j:=0) rfl
 have:=ZR a
 have:=ZT a
 have:=Zp (ZS a) k
 simp only[*,go_sem,seval]
 refine ZE9 h fun _ l h=>Zb (Xl l)<|yA ?_
 iterate 2 refine yB h (fun _ h=>?_) fun _ h=>?_
 obtain ⟨_,_,_,_,h⟩:=Qj h
 simp only[*,go_sem,seval]
 refine ZE9 h fun _ m h=>Zb (Zi6 m)<|yA ?_
 refine yB h (fun _ h=>?_) fun _ h=>?_
 replace h:=Zt h d
 cases h;exact yD
 exact yR h []
 exact yR h []
 replace h:=Zt h d
 cases h;exact yD
 rintro ⟨⟩ ⟨_,_,_⟩ e _ h
 simp only[go_sem,seval,Zd]at e
 obtain ⟨⟨_,_⟩,hn⟩:=e
 subst hn
 have:=ZN (l_0.length)
 cases h;exact yD
theorem ZpC {x_0:Y3}{r:Bool}(h:Zcl x_0=some r):Zm prog J0 38 [(true,Qh x_0)] [(false,[(false,.bool r)])]:=by
 refine fnk func38 rfl ?_
 unfold Zcl at h
 have a:ZaR ⟨#[]⟩=true:=by decide
 simp only[fnS,f38,Zq,go_sem,seval,a]
 iterate 3 refine yB h (fun _ h=>?_) fun _ h=>?_
 refine ZE9 h fun _ b h=>Zb (Xl b) ?_
 iterate 2 (cases h;exact yD)
 iterate 2 refine yB h (fun _ h=>?_) fun _ h=>?_
 refine ZE9 h fun _ c h=>Zb (Xl c) ?_
 iterate 2 (cases h;exact yD)
 refine yB h (fun _ h=>?_) fun _ h=>?_
 refine ZE9 h fun _ d h=>Zb (YV d)<|yA ?_
 refine yB h (fun _ h=>?_) fun _ h=>?_
 iterate 2 (cases h;exact yD)
 refine yB h (fun _ h=>?_) fun _ h=>?_
 refine ZE9 h fun _ e h=>Zb (YV e)<|yA ?_
 refine yB h (fun _ h=>?_) fun _ h=>?_
 iterate 2 (cases h;exact yD)
 refine yB h (fun _ h=>?_) fun _ h=>?_
 refine ZE9 h fun _ f h=>Zb (YV f)<|yA ?_
 refine yB h (fun _ h=>?_) fun _ h=>?_
 refine ZE9 h fun _ g h=>Zb (Xl g) ?_
 iterate 2 (cases h;exact yD)
 refine yB h (fun _ h=>?_) fun _ h=>?_
 refine ZE9 h fun _ i h=>Zb (YV i)<|yA ?_
 refine yB h (fun _ h=>?_) fun _ h=>?_
 refine ZE9 h fun _ j h=>Zb (Xl j) ?_
 iterate 3 (cases h;exact yD)
 iterate 2 refine yB h (fun _ h=>?_) fun _ h=>?_
 refine ZE9 h fun _ k h=>Zb (Xl k) ?_
 iterate 2 (cases h;exact yD)
 iterate 2 refine yB h (fun _ h=>?_) fun _ h=>?_
 refine ZE9 h fun _ l h=>Zb (Xl l) ?_
 iterate 2 (cases h;exact yD)
 refine yB h (fun _ h=>?_) fun _ h=>?_
 refine ZE9 h fun _ m h=>Zb (YV m)<|yA ?_
 refine yB h (fun _ h=>?_) fun _ h=>?_
 iterate 2 (cases h;exact yD)
 refine yB h (fun _ h=>?_) fun _ h=>?_
 refine ZE9 h fun _ o h=>Zb (YV o)<|yA ?_
 refine yB h (fun _ h=>?_) fun _ h=>?_
 iterate 2 (cases h;exact yD)
 refine yB h (fun _ h=>?_) fun _ h=>?_
 refine ZE9 h fun _ p h=>Zb (YV p)<|yA ?_
 refine yB h (fun _ h=>?_) fun _ h=>?_
 refine ZE9 h fun _ q h=>Zb (Xl q) ?_
 iterate 2 (cases h;exact yD)
 refine yB h (fun _ h=>?_) fun _ h=>?_
 refine ZE9 h fun _ t h=>Zb (YV t)<|yA ?_
 refine yB h (fun _ h=>?_) fun _ h=>?_
 refine ZE9 h fun _ u h=>Zb (Xl u) ?_
 iterate 3 (cases h;exact yD)
theorem Zna {l_0:(List Zl)}{r:(List Zl)}(h:ZdZ l_0=some r):Zm prog J0 90 [(false,[.sl 64 4 (A0 Zy l_0)])] [(false,[(false,.sl 64 4 (A0 Zy r))])]:=by
 refine fnk func90 rfl ?_
 unfold ZdZ at h
 simp only[fnS,f90,Zq,go_sem,seval]
 refine Zi h (fun i a st=>IV [(0,yM (yW l_0)),(3,.p false [.row 0]),(4,yL i)] [.row 64 4 (A0 Zy a) 2] st) [] [16] yF yD ?_ ?_
 rintro _ _ a ⟨_,_,_⟩ _ b d f h _
 simp only[go_sem,seval,Zd]at d
 obtain ⟨⟨g,_,_⟩,_,hn⟩:=d
 subst hn
 have k:=WF.slotL f g (j:=0) rfl
 have:=ZR b
 have:=ZT b
 have:=Zp (ZS b) k
 simp only[*,go_sem,seval]
 refine ZE9 h fun _ l h=>Zb (ZqD l) ?_
 obtain ⟨m,h⟩:=ZM h
 try simp only[Nat.reduceLeDiff]at m
 simp only[*,go_sem,seval]
 exact yR h [177]
 rintro a ⟨_,_,_⟩ e _ h
 simp only[go_sem,seval,Zd]at e
 obtain ⟨⟨_,_,_⟩,_,hn⟩:=e
 subst hn
 have:=ZN (l_0.length)
 cases h;exact yD
theorem ZkZ {r_0:Zl}{r:(List Zg)}(h:Zb2 r_0=some r):Zm prog J0 144 [(true,Zy r_0)] [(false,[(false,.sl 218 2 (A0 ZO r))])]:=by
 refine fnk func144 rfl ?_
 unfold Zb2 at h
 simp only[fnS,f144,Zq,go_sem,seval]
 refine Zi h (fun i b st=>IV [(1,.bp 0 0),(3,.p false [.row 1]),(4,yL i)] [zH 64 (Zy r_0),.row 218 2 (A0 ZO b) 2] st) [] [0,32] yF yD ?_ ?_
 rintro m o b ⟨_,_,_⟩ _ a f q h _
 simp only[go_sem,seval,Zd]at f
 obtain ⟨⟨_,_,_⟩,t,_,hn⟩:=f
 subst hn
 have u:=WF.boxL q t (j:=2) rfl
 have:=ZR a
 have:=ZT a
 have:=Zp (ZS a) u
 simp only[*,go_sem,seval]
 refine Zi h (fun i d st=>IV [(1,.bp 0 0),(3,.p false [.row 1]),(4,yL m),(5,yL i)] [zH 64 (Zy r_0),.row 218 2 (A0 ZO d) 2] st) [] [0,1] yF yD ?_ ?_
 rintro _ _ d ⟨_,_,_⟩ _ e g v h _
 simp only[go_sem,seval,Zd]at g
 obtain ⟨⟨_,_,_,_⟩,w,_,hn⟩:=g
 subst hn
 have x:=WF.elL (WF.boxD v w (j:=2) rfl) a (j:=2) rfl
 have:=ZR e
 have:=ZT e
 have:=Zp (ZS e) x
 simp only[*,go_sem,seval]
 obtain ⟨_,y,h⟩:=Za h
 refine Zle (Zez y)<|yA ?_
 exact yR h [0,338]
 rintro d ⟨_,_,_⟩ k _ h
 simp only[go_sem,seval,Zd]at k
 obtain ⟨⟨_,_,_,_⟩,_,_,hn⟩:=k
 subst hn
 have:=ZN (o.pattern.args.length)
 simp only[*,go_sem,seval]
 obtain ⟨_,z,h⟩:=Za h
 refine Zle (Zez z)<|yA ?_
 obtain ⟨_,A,h⟩:=Za h
 refine Zle (Zez A)<|yA ?_
 exact yR h [0,418]
 rintro b ⟨_,_,_⟩ l _ h
 simp only[go_sem,seval,Zd]at l
 obtain ⟨⟨_,_,_⟩,_,_,hn⟩:=l
 subst hn
 have:=ZN (r_0.cond.length)
 cases h;exact yD
theorem Zjo {p_0:Zj}{r:Zj}(h:ZdE p_0=some r):Zm prog J0 147 [(true,YD p_0)] [(true,[(false,.str r.rel),(false,.sl 9 1 (A0 ZH r.args))])]:=by
 refine fnk func147 rfl ?_
 unfold ZdE at h
 simp only[fnS,f147,Zq,go_sem,seval]
 refine Zi h (fun i a st=>IV [(1,.bp 0 0),(2,.bp 1 0),(3,.p false [.row 2]),(4,yL i)] [.box 101 [.c (.str p_0.rel),.c (yU p_0.args)],.box 101 [.c (.str ⟨#[]⟩),.nil 9 1],.row 218 2 (A0 ZO a) 2] st) [] [0,16,32] yF yD ?_ ?_
 rintro _ _ a ⟨_,_,_⟩ _ b d f h _
 simp only[go_sem,seval,Zd]at d
 obtain ⟨⟨_,_,_,_⟩,g,_,_,hn⟩:=d
 subst hn
 have k:=WF.boxL f g (j:=1) rfl
 have:=ZR b
 have:=ZT b
 have:=Zp (ZS b) k
 simp only[*,go_sem,seval]
 obtain ⟨_,l,h⟩:=Za h
 refine Zle (Zez l)<|yA ?_
 exact yR h [0,1,179]
 rintro a ⟨_,_,_⟩ e _ h
 simp only[go_sem,seval,Zd]at e
 obtain ⟨⟨_,_,_,_⟩,_,_,_,hn⟩:=e
 subst hn
 have:=ZN (p_0.args.length)
 simp only[*,go_sem,seval]
 refine ZE9 h fun _ m h=>Zb (Zdm m) ?_
 cases h;exact yD
theorem Zqm {b_0:(List Zg)}{v_1:ByteArray}{value_2:ByteArray}{r:((List Zg)×Bool)}(h:ZgJ b_0 v_1 value_2=some r):Zm prog J0 153 [(false,[.sl 218 2 (A0 ZO b_0)]),(false,[.str v_1]),(false,[.str value_2])] [(false,[(false,.sl 218 2 (A0 ZO r.1))]),(false,[(false,.bool r.2)])]:=by
 refine fnk func153 rfl ?_
 unfold ZgJ at h
 simp only[fnS,f153,Zq,go_sem,seval]
 refine ZE9 h fun _ a h=>Zb (ZbO a)<|yA ?_
 refine yB h (fun _ h=>?_) fun _ h=>?_
 refine ZE9 h fun _ b h=>Zb (Qx b)<|yA ?_
 refine yB h (fun _ h=>?_) fun _ h=>?_
 refine ZE9 h fun _ c h=>Zb (Qk c)<|yA ?_
 refine yB h (fun _ h=>?_) fun _ h=>?_
 refine ZE9 h fun _ d h=>Zb (ZfS d)<|yA ?_
 iterate 2 refine yB h (fun _ h=>?_) fun _ h=>?_
 refine ZE9 h fun _ e h=>Zb (Zgs e) ?_
 iterate 2 (cases h;exact yD)
 refine yB h (fun _ h=>?_) fun _ h=>?_
 cases h;exact yD
 refine ZE9 h fun _ f h=>Zb (Ztg f) ?_
 iterate 4 (cases h;exact yD)
theorem ZgM {x_0:Zf}{r:Bool}(h:Zd5 x_0=some r):Zm prog J0 163 [(true,ZE x_0)] [(false,[(false,.bool r)])]:=by
 refine fnk func163 rfl ?_
 unfold Zd5 at h
 have a:ZaR ⟨#[]⟩=true:=by decide
 simp only[fnS,f163,Zq,go_sem,seval,a]
 refine yB h (fun _ h=>?_) fun _ h=>?_
 refine ZE9 h fun _ b h=>Zb (Zad b)<|yA ?_
 iterate 2 refine yB h (fun _ h=>?_) fun _ h=>?_
 iterate 3 (cases h;exact yD)
 refine yB h (fun _ h=>?_) fun _ h=>?_
 refine ZE9 h fun _ c h=>Zb (Zad c)<|yA ?_
 iterate 2 refine yB h (fun _ h=>?_) fun _ h=>?_
 iterate 3 (cases h;exact yD)
 refine yB h (fun _ h=>?_) fun _ h=>?_
 refine ZE9 h fun _ d h=>Zb (Zag d)<|yA ?_
 refine yB h (fun _ h=>?_) fun _ h=>?_
 refine ZE9 h fun _ e h=>Zb (Zag e)<|yA ?_
 refine yB h (fun _ h=>?_) fun _ h=>?_
 refine ZE9 h fun _ f h=>Zb (ZaH f) ?_
 iterate 3 (cases h;exact yD)
 refine yB h (fun _ h=>?_) fun _ h=>?_
 refine ZE9 h fun _ g h=>Zb (Zag g)<|yA ?_
 refine yB h (fun _ h=>?_) fun _ h=>?_
 refine ZE9 h fun _ i h=>Zb (Zag i)<|yA ?_
 refine yB h (fun _ h=>?_) fun _ h=>?_
 refine ZE9 h fun _ j h=>Zb (ZaH j) ?_
 iterate 3 (cases h;exact yD)
 refine yB h (fun _ h=>?_) fun _ h=>?_
 refine ZE9 h fun _ k h=>Zb (Zag k)<|yA ?_
 refine yB h (fun _ h=>?_) fun _ h=>?_
 refine ZE9 h fun _ l h=>Zb (Zag l)<|yA ?_
 refine yB h (fun _ h=>?_) fun _ h=>?_
 refine ZE9 h fun _ m h=>Zb (ZaH m) ?_
 iterate 4 (cases h;exact yD)
theorem ZgE {r_0:Zl}{k_1:Int}{v_2:ByteArray}{r:Bool}(h:XV r_0 k_1 v_2=some r):Zm prog J0 207 [(true,Zy r_0),(false,[.int .i64 k_1]),(false,[.str v_2])] [(false,[(false,.bool r)])]:=by
 refine fnk func207 rfl ?_
 unfold XV at h
 simp only[fnS,f207,Zq,go_sem,seval]
 refine Zi h (fun i _ st=>IV [(1,yM (.int .i64 k_1)),(2,yM (.str v_2)),(3,.bp 0 0),(12,yM (yY r_0.cond)),(13,yL r_0.cond.length),(14,yL i)] [zH 64 (Zy r_0)] st) [] [0] yF yD ?_ ?_
 rintro _ _ ⟨⟩ ⟨_,_,_⟩ _ a d k h l
 simp only[go_sem,seval,Zd]at d
 obtain ⟨⟨_,_,_,m,_,_⟩,_,hn⟩:=d
 subst hn
 have o:=WF.slotL k m (j:=0) rfl
 have:=ZR a
 have:=ZT a
 have:=Zp (ZS a) o
 simp only[*,go_sem,seval]
 refine yB h (fun _ h=>?_) fun _ h=>?_
 refine ZE9 h fun _ q h=>Zb (ZeX q)<|yA ?_
 refine ZE9 h fun _ t h=>Zb (Zds t)<|yA ?_
 refine yB h (fun _ h=>?_) fun _ h=>?_
 replace h:=Zt h l
 cases h;exact yD
 exact yR h [0]
 exact yR h [0]
 rintro ⟨⟩ ⟨_,_,_⟩ e _ h
 simp only[go_sem,seval,Zd]at e
 obtain ⟨⟨_,_,_,_,_,_⟩,_,hn⟩:=e
 subst hn
 have:=ZN (r_0.cond.length)
 simp only[*,go_sem,seval]
 refine Zi h (fun i _ st=>IV [(2,yM (.str v_2)),(30,yM (zA r_0.thn)),(31,yL r_0.thn.length),(32,yL i)] [] st) [] [] yF yD ?_ ?_
 rintro _ _ ⟨⟩ ⟨_,_,_⟩ _ b f u h v
 simp only[go_sem,seval,Zd]at f
 obtain ⟨⟨_,w,_,_⟩,hn⟩:=f
 subst hn
 have x:=WF.slotL u w (j:=0) rfl
 have:=ZR b
 have:=ZT b
 have:=Zp (ZS b) x
 simp only[*,go_sem,seval]
 refine ZE9 h fun _ y h=>Zb (Zds y)<|yA ?_
 refine yB h (fun _ h=>?_) fun _ h=>?_
 replace h:=Zt h v
 cases h;exact yD
 exact yR h []
 rintro ⟨⟩ ⟨_,_,_⟩ g _ h
 simp only[go_sem,seval,Zd]at g
 obtain ⟨⟨_,_,_,_⟩,hn⟩:=g
 subst hn
 have:=ZN (r_0.thn.length)
 cases h;exact yD
theorem Znn {a_0:ZY}{r:Bool}(h:Zei a_0=some r):Zm prog J0 166 [(true,ZQ a_0)] [(false,[(false,.bool r)])]:=by
 refine fnk func166 rfl ?_
 unfold Zei at h
 simp only[fnS,f166,Zq,go_sem,seval]
 refine yB h (fun _ h=>?_) fun _ h=>?_
 refine ZE9 h fun _ a h=>Zb (Zad a) ?_
 cases h;exact yD
 refine yB h (fun _ h=>?_) fun _ h=>?_
 refine ZE9 h fun _ b h=>Zb (Zad b) ?_
 cases h;exact yD
 refine yB h (fun _ h=>?_) fun _ h=>?_
 refine ZE9 h fun _ c h=>Zb (ZaH c) ?_
 iterate 2 (cases h;exact yD)
theorem Zk7 {l_0:(List Zf)}{r:(List ByteArray)}(h:ZbC l_0=some r):Zm prog J0 170 [(false,[.sl 107 5 (A0 ZE l_0)])] [(false,[(false,.sl 9 1 (A0 ZH r))])]:=by
 refine fnk func170 rfl ?_
 unfold ZbC at h
 simp only[fnS,f170,Zq,go_sem,seval]
 refine Zi h (fun i a st=>IV [(3,.p false [.row 0]),(6,yM (yY l_0)),(7,yL l_0.length),(8,yL i)] [.row 9 1 (A0 ZH a) 2] st) [(false,3,0)] [80] yF yD ?_ ?_
 rintro _ _ a ⟨_,_,_⟩ _ b d f h _
 simp only[go_sem,seval,Zd]at d
 obtain ⟨⟨_,g,_,_⟩,_,hn⟩:=d
 subst hn
 have k:=WF.slotL f g (j:=0) rfl
 have:=ZR b
 have:=ZT b
 have:=Zp (ZS b) k
 simp only[*,go_sem,seval]
 refine ZE9 h fun _ l h=>Zb (ZeX l) ?_
 obtain ⟨_,h⟩:=ZM h
 simp only[*,go_sem,seval]
 exact yR h [129]
 rintro a ⟨_,_,_⟩ e _ h
 simp only[go_sem,seval,Zd]at e
 obtain ⟨⟨_,_,_,_⟩,_,hn⟩:=e
 subst hn
 have:=ZN (l_0.length)
 cases h;exact yD
end
section
theorem ZhS {l_0:(List Zk)}{r:Bool}(h:Zbi l_0=some r):Zm prog J0 63 [(false,[.sl 83 2 (A0 Zw l_0)])] [(false,[(false,.bool r)])]:=by
 refine fnk func63 rfl ?_
 unfold Zbi at h
 simp only[fnS,f63,Zq,go_sem,seval]
 refine yB h (fun _ h=>?_) fun _ h=>?_
 cases h;exact yD
 refine Zi h (fun i _ st=>IV [(0,yM (yV l_0)),(8,yM (yV l_0)),(9,yL l_0.length),(10,yL i)] [] st) [] [] yF yD ?_ ?_
 rintro _ _ ⟨⟩ ⟨_,_,_⟩ _ a b f h d
 simp only[go_sem,seval,Zd]at b
 obtain ⟨⟨g,_,_,_⟩,hn⟩:=b
 subst hn
 have k:=WF.slotL f g (j:=0) rfl
 have:=ZR a
 have:=ZT a
 have:=Zp (ZS a) k
 simp only[*,go_sem,seval]
 refine ZE9 h fun _ l h=>Zb (Xm l)<|yA ?_
 iterate 2 refine yB h (fun _ h=>?_) fun _ h=>?_
 obtain ⟨_,_,_,_,h⟩:=Qj h
 simp only[*,go_sem,seval]
 refine ZE9 h fun _ m h=>Zb (Zjn m)<|yA ?_
 refine yB h (fun _ h=>?_) fun _ h=>?_
 replace h:=Zt h d
 cases h;exact yD
 exact yR h []
 exact yR h []
 replace h:=Zt h d
 cases h;exact yD
 rintro ⟨⟩ ⟨_,_,_⟩ e _ h
 simp only[go_sem,seval,Zd]at e
 obtain ⟨⟨_,_,_,_⟩,hn⟩:=e
 subst hn
 have:=ZN (l_0.length)
 cases h;exact yD
theorem Zg5 {a_0:(List Zl)}{b_1:(List Zl)}{r:Bool}(h:Zbv a_0 b_1=some r):Zm prog J0 20 [(false,[.sl 64 4 (A0 Zy a_0)]),(false,[.sl 64 4 (A0 Zy b_1)])] [(false,[(false,.bool r)])]:=by
 refine fnk func20 rfl ?_
 unfold Zbv at h
 simp only[fnS,f20,Zq,go_sem,seval]
 refine yB h (fun _ h=>?_) fun _ h=>?_
 cases h;exact yD
 refine Zi h (fun i _ st=>IV [(0,yM (yW a_0)),(1,yM (yW b_1)),(12,yL a_0.length),(13,yL i)] [] st) [] [] yF yD ?_ ?_
 rintro _ _ ⟨⟩ ⟨_,_,_⟩ _ a b e h f
 simp only[go_sem,seval,Zd]at b
 obtain ⟨⟨g,_,_,_⟩,hn⟩:=b
 subst hn
 have k:=WF.slotL e g (j:=0) rfl
 have:=ZR a
 have:=ZT a
 have:=Zp (ZS a) k
 obtain ⟨_,_,_,l,h⟩:=Qj h
 simp only[AB]at l
 simp only[*,go_sem,seval]
 refine ZE9 h fun _ m h=>Zb (Zny m)<|yA ?_
 refine yB h (fun _ h=>?_) fun _ h=>?_
 exact yR h []
 replace h:=Zt h f
 cases h;exact yD
 rintro ⟨⟩ ⟨_,_,_⟩ d _ h
 simp only[go_sem,seval,Zd]at d
 obtain ⟨⟨_,_,_,_⟩,hn⟩:=d
 subst hn
 have:=ZN (a_0.length)
 cases h;exact yD
theorem ZnD {r_0:Zl}{r:Zl}(h:Zen r_0=some r):Zm prog J0 212 [(true,Zy r_0)] [(true,[(false,.str r.name),(false,.int .i64 r.priority),(false,.sl 107 5 (A0 ZE r.cond)),(false,.sl 117 3 (A0 ZQ r.thn))])]:=by
 refine fnk func212 rfl ?_
 unfold Zen at h
 simp only[fnS,f212,Zq,go_sem,seval]
 refine ZE9 h fun f g h=>Zb (ZmH g)<|yA ?_
 refine Zi h (fun i a st=>IV [(2,.bp 0 0),(3,.bp 1 0),(15,yM (zA r_0.thn)),(16,yL r_0.thn.length),(17,yL i)] [.box 64 [.c (.str ⟨#[]⟩),.c (.int .i64 0),.nil 107 5,.nil 117 3],.box 64 [.c (.str r_0.name),.c (.int .i64 r_0.priority),.row 2,.row 3],.row 107 5 (A0 ZE f) 2,.row 117 3 (A0 ZQ a) 2] st) [(true,160,3)] [16,160,128,256] yF yD ?_ ?_
 rintro _ _ a ⟨_,_,_⟩ _ b d k h _
 simp only[go_sem,seval,Zd]at d
 obtain ⟨⟨_,_,l,_,_⟩,_,_,_,_,hn⟩:=d
 subst hn
 have m:=WF.slotL k l (j:=0) rfl
 have:=ZR b
 have:=ZT b
 have:=Zp (ZS b) m
 simp only[*,go_sem,seval]
 refine ZE9 h fun _ o h=>Zb (Zfh o) ?_
 obtain ⟨q,h⟩:=ZM h
 try simp only[Nat.reduceLeDiff]at q
 simp only[*,go_sem,seval]
 exact yR h [0,1,2,228]
 rintro a ⟨_,_,_⟩ e _ h
 simp only[go_sem,seval,Zd]at e
 obtain ⟨⟨_,_,_,_,_⟩,_,_,_,_,hn⟩:=e
 subst hn
 have:=ZN (r_0.thn.length)
 cases h;exact yD
theorem Zk1 {r_0:Zl}{r:(List Zf)}(h:ZbM r_0=some r):Zm prog J0 177 [(true,Zy r_0)] [(false,[(false,.sl 107 5 (A0 ZE r))])]:=by
 refine fnk func177 rfl ?_
 unfold ZbM at h
 simp only[fnS,f177,Zq,go_sem,seval]
 refine ZE9 h fun f g h=>Zb (ZkT g)<|yA ?_
 refine Zi h (fun i a st=>IV [(3,.p false [.row 0]),(4,.p false [.row 1]),(10,yM (yY r_0.cond)),(11,yL r_0.cond.length),(12,yL i)] [.row 218 2 (A0 ZO f) 2,.row 107 5 (A0 ZE a) 2] st) [(false,4,0)] [48,160] yF yD ?_ ?_
 rintro _ _ a ⟨_,_,_⟩ _ b d k h _
 simp only[go_sem,seval,Zd]at d
 obtain ⟨⟨_,_,l,_,_⟩,_,_,hn⟩:=d
 subst hn
 have m:=WF.slotL k l (j:=0) rfl
 have:=ZR b
 have:=ZT b
 have:=Zp (ZS b) m
 simp only[*,go_sem,seval]
 refine ZE9 h fun _ o h=>Zb (Zgd o) ?_
 obtain ⟨q,h⟩:=ZM h
 try simp only[Nat.reduceLeDiff]at q
 simp only[*,go_sem,seval]
 exact yR h [0,162]
 rintro a ⟨_,_,_⟩ e _ h
 simp only[go_sem,seval,Zd]at e
 obtain ⟨⟨_,_,_,_,_⟩,_,_,hn⟩:=e
 subst hn
 have:=ZN (r_0.cond.length)
 cases h;exact yD
theorem ZiC {a:Ze}{b:Int}{d:Zf}{r:(Int×Ze)}(h:QE a b d=some r):Zf4 prog J0 JF0 178 48 [(false,.sl 64 4 (A0 Zy a.rules)),(false,.sl 3 1 (A0 Z8 a.ends)),(false,.sl 103 3 (A0 Z0 a.alphas)),(false,.sl 110 8 (A0 Ym a.nodes)),(false,.sl 83 2 (A0 Zw a.facts)),(false,.int .i64 a.tries)] none [(false,[.int .i64 b]),(true,ZE d)] [(false,[(false,.int .i64 r.1)])] [(false,.sl 64 4 (A0 Zy r.2.rules)),(false,.sl 3 1 (A0 Z8 r.2.ends)),(false,.sl 103 3 (A0 Z0 r.2.alphas)),(false,.sl 110 8 (A0 Ym r.2.nodes)),(false,.sl 83 2 (A0 Zw r.2.facts)),(false,.int .i64 r.2.tries)]:=by
 refine fno func178 rfl ?_
 unfold QE at h
 simp only[fnO,f178,Ze8,gvC,go_sem,seval]
 refine Zi h (fun i _ st=>IV [(0,.bp 0 0),(1,.p false [.c (.int .i64 b)]),(5,.bp 6 0),(13,.p false [.row 4]),(14,.p false [.c (.int .i64 ((a.nodes.length:Nat):Int))]),(15,.p false [.c (.int .i64 ((i:Nat):Int))])] [.box 48 [.row 1,.row 2,.row 3,.row 4,.row 5,.c (.int .i64 a.tries)],.row 64 4 (A0 Zy a.rules) 2,.row 3 1 (A0 Z8 a.ends) 2,.row 103 3 (A0 Z0 a.alphas) 2,.row 110 8 (A0 Ym a.nodes) 2,.row 83 2 (A0 Zw a.facts) 2,.box 107 [.c (.int .i64 d.kind),.c (.str d.pattern.rel),.c (.sl 9 1 (A0 ZH d.pattern.args)),.c (.str d.left),.c (.str d.right)]] st) [] [0,1,2,3,4,5,6] yF ?_ ?_ ?_
 .simp only[*,go_sem,seval]
 .rintro i12 x13 ⟨⟩ ⟨sl,ob,n⟩ y1 f k l h m
  simp only[go_sem,seval,Zd]at k
  obtain ⟨⟨g5_0,g5_1,g5_5,g5_13,g5_14,g5_15⟩,og5_0,og5_1,og5_2,og5_3,g,og5_5,og5_6,hn⟩:=k
  subst hn
  have j:=WF.rowL l g
  have q6:=ZR f
  have q7:=ZT f
  have q8:=Zp (ZS f) j
  simp only[*,go_sem,seval]
  refine Zc h (fun c9 h=>?_) (fun c9 h=>?_)<;>try simp only[*,go_sem,seval]
  .refine Zc h (fun o h=>?_) (fun o h=>?_)<;>try simp only[*,go_sem,seval]
   .refine ZE9 h fun v14 q h=>Zb (ZeV q) ?_
    simp only[*,go_sem,seval]
    refine Zc h (fun t h=>?_) (fun t h=>?_)<;>try simp only[*,go_sem,seval]
    .replace h:=Zt h m
     obtain rfl:=AA h
     simp only[*,go_sem,seval]
    .refine ⟨_,[],[0,1,2,3,4,5,6],(AA h).symm,yF,?_⟩
     simp only[*,go_sem,seval]
   .refine ⟨_,[],[0,1,2,3,4,5,6],(AA h).symm,yF,?_⟩
    simp only[*,go_sem,seval]
  .refine ⟨_,[],[0,1,2,3,4,5,6],(AA h).symm,yF,?_⟩
   simp only[*,go_sem,seval]
 .rintro ⟨⟩ ⟨sl,ob,n⟩ e hW14 h
  simp only[go_sem,seval,Zd]at e
  obtain ⟨⟨g15_0,g15_1,g15_5,g15_13,g15_14,g15_15⟩,og15_0,og15_1,og15_2,og15_3,og15_4,og15_5,og15_6,hn⟩:=e
  subst hn
  have q16:=ZN (a.nodes.length)
  simp only[*,go_sem,seval]
  refine Zc h (fun u h=>?_) (fun u h=>?_)<;>try simp only[*,go_sem,seval]
  .refine ZE9 h fun v15 v h=>Zb (ZjS v) ?_
   simp only[*,go_sem,seval]
   obtain ⟨v16,w,h⟩:=Za h
   refine Zim (Zd3 w) ?_
   simp only[*,go_sem,seval]
   refine ZE9 h fun v17 x h=>Zb (QN x) ?_
   obtain ⟨y,h⟩:=ZM h
   try simp only[Nat.reduceLeDiff]at y
   obtain rfl:=AA h
   simp only[*,go_sem,seval]
  .refine Zc h (fun z h=>?_) (fun z h=>?_)<;>try simp only[*,go_sem,seval]
   .refine ZE9 h fun v18 A h=>Zb (ZjS A) ?_
    simp only[*,go_sem,seval]
    obtain ⟨v19,B,h⟩:=Za h
    refine Zim (Zd3 B) ?_
    simp only[*,go_sem,seval]
    refine ZE9 h fun v20 C h=>Zb (QN C) ?_
    obtain ⟨D,h⟩:=ZM h
    try simp only[Nat.reduceLeDiff]at D
    obtain rfl:=AA h
    simp only[*,go_sem,seval]
   .refine ZE9 h fun v21 E h=>Zb (QN E) ?_
    obtain ⟨F,h⟩:=ZM h
    try simp only[Nat.reduceLeDiff]at F
    obtain rfl:=AA h
    simp only[*,go_sem,seval]
theorem Zd2 {append_0:Zj}{String_1:Zk}{a_2:(List Zg)}{r:((List Zg)×Bool)}(h:Qt append_0 String_1 a_2=some r):Zm prog J0 218 [(true,YD append_0),(true,Zw String_1),(false,[.sl 218 2 (A0 ZO a_2)])] [(false,[(false,.sl 218 2 (A0 ZO r.1))]),(false,[(false,.bool r.2)])]:=by
 refine fnk func218 rfl ?_
 unfold Qt at h
 simp only[fnS,f218,Zq,go_sem,seval]
 refine ZE9 h fun _ g h=>Zb (Zad g)<|yA ?_
 refine yB h (fun _ h=>?_) fun _ h=>?_
 refine ZE9 h fun _ k h=>Zb (Xm k)<|yA ?_
 refine yB h (fun _ h=>?_) fun _ h=>?_
 refine ZE9 h fun _ l h=>Zb (Zb1 l)<|yA ?_
 iterate 3 refine yB h (fun _ h=>?_) fun _ h=>?_
 cases h;exact yD
 refine ZE9 h fun _ m h=>Zb (Zhb m)<|yA ?_
 refine Zi h (fun i a st=>IV [(4,.bp 0 0),(8,.p false [.row 1]),(45,yM (yU append_0.args)),(46,yL append_0.args.length),(47,yL i)] [zH 83 (Zw String_1),.row 218 2 (A0 ZO a) 2] st) [] [16,544] yF yD ?_ ?_
 rintro _ _ a ⟨_,_,_⟩ _ b d o h e
 simp only[go_sem,seval,Zd]at d
 obtain ⟨⟨_,_,q,_,_⟩,_,_,hn⟩:=d
 subst hn
 have t:=WF.slotL o q (j:=0) rfl
 have:=ZR b
 have:=ZT b
 have:=Zp (ZS b) t
 simp only[*,go_sem,seval]
 refine ZE9 h fun _ u h=>Zb (Qp u)<|yA ?_
 refine yB h (fun _ h=>?_) fun _ h=>?_
 obtain ⟨_,_,_,v,h⟩:=Qj h
 simp only[AB]at v
 simp only[*,go_sem,seval]
 refine yB h (fun _ h=>?_) fun _ h=>?_
 exact yR h [0,1]
 replace h:=Zt h e
 cases h;exact yD
 obtain ⟨_,_,_,w,h⟩:=Qj h
 simp only[AB]at w
 simp only[*,go_sem,seval]
 refine ZE9 h fun _ x h=>Zb (Zr4 x)<|yA ?_
 refine yB h (fun _ h=>?_) fun _ h=>?_
 exact yR h [0,242]
 replace h:=Zt h e
 cases h;exact yD
 rintro a ⟨_,_,_⟩ f _ h
 simp only[go_sem,seval,Zd]at f
 obtain ⟨⟨_,_,_,_,_⟩,_,_,hn⟩:=f
 subst hn
 have:=ZN (append_0.args.length)
 iterate 5 (cases h;exact yD)
end
end Go.Proofs.YtcaokdmjlknmmaaGreatDoor
