/- Texts of this proof, joined: DT, Shelf, SortH, SortZ, LCompare, SortS, LAtoi, LItoa, Ext, Dp0, Dp1, Dp3, Dp5, Dp6, Dp7, Dp9. What each holds is said at its theorems. -/
import Derived.Test.YtfehfkfdfmcgfaaGreatDoorFrameOfQ4
import Derived.Test.YtfehfkfdfmcgfaaGreatDoorFrameOfQ1
import Derived.Test.YtfehfkfdfmcgfaaGreatDoorProg
import Derived.Lib.LaidTab
import Derived.Lib.ItoaNum
import Derived.Shelf.Small.Strs
import Derived.Shelf.Small.Wraps
import Derived.Shelf.Strconv.Atoi
import Derived.Shelf.Strconv.Itoa0
import Derived.Shelf.Strconv.Itoa1
import Derived.Shelf.LaysM
import Derived.Shelf.Strconv.Itoa2
import Derived.Shelf.Strconv.Itoa3
import Derived.Shelf.Strconv.AtoiErrFast
import Derived.Shelf.Strconv.ParseIntEmpty
import Derived.Shelf.Strconv.AtoiFail
import Derived.Shelf.Strconv.Clone
import Derived.Shelf.Strconv.SyntaxError
import Derived.Shelf.LaysC
import Derived.Shelf.Strconv.ToError
import Derived.Shelf.Strconv.AtoiErr
import Derived.Shelf.Strconv.ErrVar
import Derived.Shelf.Sort.Plain
import Derived.Shelf.Slices.In.SortNone
import Derived.Shelf.Slices.In.SortNone2
import Derived.Lib.AtoiErrMem
import Derived.Lib.AppendIntMem
import Derived.Lib.ItoaLen
set_option linter.unusedSimpArgs false
set_option linter.unusedVariables false
namespace Go.Proofs.YtfehfkfdfmcgfaaGreatDoor
open Go.RowKit
def ttL:List (Nat × TI):=[
 (2,.atom (.c (.int .i64 0))),
 (3,.atom (.c (.int .i64 0))),
 (4,.atom (.c (.bool false))),
 (5,.atom (.c (.int .u8 0))),
 (9,.atom (.c (.str ⟨#[]⟩))),
 (12,.atom (.c (.int .u64 0))),
 (14,.strct [⟨0,1,false⟩,⟨1,1,false⟩] 2 [.c (.str ⟨#[]⟩),.c (.int .u64 0)]),
 (20,.ifc),
 (21,.atom (.c (.int .i32 0))),
 (22,.slice 5 1 1 [.c (.int .u8 0)]),
 (24,.slice 42 4 72 [.c (.str ⟨#[]⟩),.c (.int .i64 0),.nil 173 5,.nil 50 3]),
 (25,.slice 45 2 40 [.c (.str ⟨#[]⟩),.nil 9 1]),
 (33,.slice 38 3 64 [.c (.str ⟨#[]⟩),.nil 45 2,.nil 166 2]),
 (36,.slice 166 2 32 [.c (.str ⟨#[]⟩),.c (.str ⟨#[]⟩)]),
 (38,.strct [⟨0,1,false⟩,⟨1,1,false⟩,⟨2,1,false⟩] 3 [.c (.str ⟨#[]⟩),.nil 45 2,.nil 166 2]),
 (39,.slice 173 5 80 [.c (.int .i64 0),.c (.str ⟨#[]⟩),.nil 9 1,.c (.str ⟨#[]⟩),.c (.str ⟨#[]⟩)]),
 (40,.slice 50 3 48 [.c (.int .i64 0),.c (.str ⟨#[]⟩),.nil 9 1]),
 (42,.strct [⟨0,1,false⟩,⟨1,1,false⟩,⟨2,1,false⟩,⟨3,1,false⟩] 4 [.c (.str ⟨#[]⟩),.c (.int .i64 0),.nil 173 5,.nil 50 3]),
 (43,.slice 9 1 16 [.c (.str ⟨#[]⟩)]),
 (45,.strct [⟨0,1,false⟩,⟨1,1,false⟩] 2 [.c (.str ⟨#[]⟩),.nil 9 1]),
 (48,.strct [⟨0,1,false⟩,⟨1,1,false⟩] 2 [.c (.str ⟨#[]⟩),.nil 9 1]),
 (50,.strct [⟨0,1,false⟩,⟨1,2,true⟩] 3 [.c (.int .i64 0),.c (.str ⟨#[]⟩),.nil 9 1]),
 (58,.slice 126 4 72 [.c (.str ⟨#[]⟩),.c (.int .i64 0),.nil 228 5,.nil 231 3]),
 (59,.slice 86 2 40 [.c (.str ⟨#[]⟩),.nil 9 1]),
 (62,.slice 199 3 56 [.c (.int .i64 0),.nil 3 1,.nil 3 1]),
 (64,.strct [⟨0,1,false⟩,⟨1,1,false⟩] 2 [.c (.int .i64 0),.nil 199 3]),
 (65,.slice 3 1 8 [.c (.int .i64 0)]),
 (67,.strct [⟨0,2,true⟩,⟨2,1,false⟩,⟨3,1,false⟩] 4 [.c (.int .i64 0),.nil 199 3,.nil 3 1,.nil 3 1]),
 (80,.slice 25 1 24 [.nil 45 2]),
 (86,.strct [⟨0,1,false⟩,⟨1,1,false⟩] 2 [.c (.str ⟨#[]⟩),.nil 9 1]),
 (110,.map .str .bool),
 (116,.slice 120 2 48 [.nil 45 2,.nil 166 2]),
 (120,.strct [⟨0,1,false⟩,⟨1,1,false⟩] 2 [.nil 45 2,.nil 166 2]),
 (123,.slice 228 5 80 [.c (.int .i64 0),.c (.str ⟨#[]⟩),.nil 9 1,.c (.str ⟨#[]⟩),.c (.str ⟨#[]⟩)]),
 (124,.slice 231 3 48 [.c (.int .i64 0),.c (.str ⟨#[]⟩),.nil 9 1]),
 (126,.strct [⟨0,1,false⟩,⟨1,1,false⟩,⟨2,1,false⟩,⟨3,1,false⟩] 4 [.c (.str ⟨#[]⟩),.c (.int .i64 0),.nil 228 5,.nil 231 3]),
 (152,.strct [⟨0,1,false⟩,⟨1,1,false⟩,⟨2,1,false⟩] 3 [.nil 5 1,.c (.int .i64 0),.c (.int .i64 0)]),
 (155,.slice 204 2 40 [.c (.str ⟨#[]⟩),.nil 45 2]),
 (158,.slice 4 1 1 [.c (.bool false)]),
 (160,.slice 208 3 64 [.c (.str ⟨#[]⟩),.nil 45 2,.nil 166 2]),
 (166,.strct [⟨0,1,false⟩,⟨1,1,false⟩] 2 [.c (.str ⟨#[]⟩),.c (.str ⟨#[]⟩)]),
 (173,.strct [⟨0,1,false⟩,⟨1,2,true⟩,⟨3,1,false⟩,⟨4,1,false⟩] 5 [.c (.int .i64 0),.c (.str ⟨#[]⟩),.nil 9 1,.c (.str ⟨#[]⟩),.c (.str ⟨#[]⟩)]),
 (199,.strct [⟨0,1,false⟩,⟨1,1,false⟩,⟨2,1,false⟩] 3 [.c (.int .i64 0),.nil 3 1,.nil 3 1]),
 (204,.strct [⟨0,1,false⟩,⟨1,1,false⟩] 2 [.c (.str ⟨#[]⟩),.nil 45 2]),
 (208,.strct [⟨0,1,false⟩,⟨1,2,true⟩] 3 [.c (.str ⟨#[]⟩),.nil 45 2,.nil 166 2]),
 (226,.strct [⟨0,1,false⟩,⟨1,1,false⟩] 2 [.c (.str ⟨#[]⟩),.nil 9 1]),
 (228,.strct [⟨0,1,false⟩,⟨1,2,true⟩,⟨3,1,false⟩,⟨4,1,false⟩] 5 [.c (.int .i64 0),.c (.str ⟨#[]⟩),.nil 9 1,.c (.str ⟨#[]⟩),.c (.str ⟨#[]⟩)]),
 (231,.strct [⟨0,1,false⟩,⟨1,2,true⟩] 3 [.c (.int .i64 0),.c (.str ⟨#[]⟩),.nil 9 1]),
 (241,.atom (.c (.int .u64 0))),
 (270,.ifc),
 (271,.ifc),
 (283,.atom (.c (.int .u32 0))),
 (285,.atom (.c (.int .u64 0))),
 (330,.strct [⟨0,1,false⟩] 1 [.c (.str ⟨#[]⟩)])]
def tt (t:Nat):Option TI:=Zwj ttL t
theorem htt:∀t i,tt t=some i→TOk Tryz.prog t i:=Zwi ttL (by kernel_rfl)
theorem hmix:Tryz.prog.follows .mixedOrders=true:=by kernel_rfl
def ZxG : List (String × (Array Value → Prop)) := [("internal/strconv.uint64pow10", fun cs => cs = (Lib.pow10Tab.map fun z => Value.int .u64 z).toArray), ("strconv.ErrSyntax", fun cs => ∃ tp p, cs = #[.iface tp p])]
def J0:World→Prop:=ZxT Tryz.prog ZxG
def JF0:Nat→Prop:=Zx0 Tryz.prog ZxG
theorem hJ0:JOk J0 JF0:=ZxO _ _
theorem ZzO (w : World) (h : J0 w) : Lib.TabIs Tryz.prog w "internal/strconv.uint64pow10" .u64 Lib.pow10Tab := by
 obtain ⟨cs,h1,h2⟩:=h _ (List.mem_cons_self ..)
 rw [h2] at h1
 exact h1
theorem ZAB (w : World) (h : J0 w) : ∃ tp p, w.var? Tryz.prog "strconv.ErrSyntax" = some #[.iface tp p] := by
 obtain ⟨cs, h1, tp, p, h2⟩ := h ("strconv.ErrSyntax", fun cs => ∃ tp p, cs = #[.iface tp p]) (by simp [ZxG])
 rw [h2] at h1
 exact ⟨tp,p,h1⟩
def hdL:List (Nat × Nat):=[(17,2),(18,2),(30,2),(45,2),(48,2),(58,3),(59,1),(60,1),(67,2),(70,2),(77,3),(84,2),(85,2),(108,1),(110,1),(111,1),(112,1),(118,1),(124,1),(126,1),(164,1),(172,2),(173,1),(174,1),(175,1),(186,1),(210,1),(239,1),(240,1),(250,1),(251,1),(255,4),(284,1),(285,1),(286,1),(287,1),(288,1),(315,1),(316,1),(317,1),(340,1),(341,1),(342,1),(355,1),(356,1)]
def ZxZ:List (Nat × Nat)→Nat→Nat
 | [],_=>0
 | p::r,f=>match Nat.beq p.1 f with | true=>p.2 | false=>ZxZ r f
def hds (f:FuncId):Nat:=ZxZ hdL f
theorem ZEK:(SC Tryz.prog J0 JF0 hds).hd 3=0:=_root_.id (by kernel_rfl)
theorem ZEv:(SC Tryz.prog J0 JF0 hds).hd 4=0:=_root_.id (by kernel_rfl)
theorem ZEt:(SC Tryz.prog J0 JF0 hds).hd 5=0:=_root_.id (by kernel_rfl)
theorem ZE3:(SC Tryz.prog J0 JF0 hds).hd 8=0:=_root_.id (by kernel_rfl)
theorem ZEp:(SC Tryz.prog J0 JF0 hds).hd 9=0:=_root_.id (by kernel_rfl)
theorem ZDO:(SC Tryz.prog J0 JF0 hds).hd 11=0:=_root_.id (by kernel_rfl)
theorem ZD7:(SC Tryz.prog J0 JF0 hds).hd 12=0:=_root_.id (by kernel_rfl)
theorem ZDh:(SC Tryz.prog J0 JF0 hds).hd 13=0:=_root_.id (by kernel_rfl)
theorem ZCr:(SC Tryz.prog J0 JF0 hds).hd 14=0:=_root_.id (by kernel_rfl)
theorem ZDN:(SC Tryz.prog J0 JF0 hds).hd 15=0:=_root_.id (by kernel_rfl)
theorem ZDF:(SC Tryz.prog J0 JF0 hds).hd 16=0:=_root_.id (by kernel_rfl)
theorem ZCx:(SC Tryz.prog J0 JF0 hds).hd 17=2:=_root_.id (by kernel_rfl)
theorem ZDT:(SC Tryz.prog J0 JF0 hds).hd 18=2:=_root_.id (by kernel_rfl)
theorem ZDz:(SC Tryz.prog J0 JF0 hds).hd 19=0:=_root_.id (by kernel_rfl)
theorem ZDD:(SC Tryz.prog J0 JF0 hds).hd 20=0:=_root_.id (by kernel_rfl)
theorem ZDf:(SC Tryz.prog J0 JF0 hds).hd 21=0:=_root_.id (by kernel_rfl)
theorem ZC4:(SC Tryz.prog J0 JF0 hds).hd 22=0:=_root_.id (by kernel_rfl)
theorem ZEk:(SC Tryz.prog J0 JF0 hds).hd 23=0:=_root_.id (by kernel_rfl)
theorem ZDs:(SC Tryz.prog J0 JF0 hds).hd 24=0:=_root_.id (by kernel_rfl)
theorem ZDi:(SC Tryz.prog J0 JF0 hds).hd 25=0:=_root_.id (by kernel_rfl)
theorem ZCt:(SC Tryz.prog J0 JF0 hds).hd 26=0:=_root_.id (by kernel_rfl)
theorem ZDg:(SC Tryz.prog J0 JF0 hds).hd 27=0:=_root_.id (by kernel_rfl)
theorem ZEd:(SC Tryz.prog J0 JF0 hds).hd 28=0:=_root_.id (by kernel_rfl)
theorem ZEh:(SC Tryz.prog J0 JF0 hds).hd 29=0:=_root_.id (by kernel_rfl)
theorem ZD6:(SC Tryz.prog J0 JF0 hds).hd 30=2:=_root_.id (by kernel_rfl)
theorem ZD3:(SC Tryz.prog J0 JF0 hds).hd 33=0:=_root_.id (by kernel_rfl)
theorem ZDE:(SC Tryz.prog J0 JF0 hds).hd 36=0:=_root_.id (by kernel_rfl)
theorem ZDU:(SC Tryz.prog J0 JF0 hds).hd 45=2:=_root_.id (by kernel_rfl)
theorem ZCI:(SC Tryz.prog J0 JF0 hds).hd 46=0:=_root_.id (by kernel_rfl)
theorem ZCz:(SC Tryz.prog J0 JF0 hds).hd 47=0:=_root_.id (by kernel_rfl)
theorem ZCH:(SC Tryz.prog J0 JF0 hds).hd 48=2:=_root_.id (by kernel_rfl)
theorem ZDJ:(SC Tryz.prog J0 JF0 hds).hd 49=0:=_root_.id (by kernel_rfl)
theorem ZCA:(SC Tryz.prog J0 JF0 hds).hd 50=0:=_root_.id (by kernel_rfl)
theorem ZC2:(SC Tryz.prog J0 JF0 hds).hd 58=3:=_root_.id (by kernel_rfl)
theorem ZCp:(SC Tryz.prog J0 JF0 hds).hd 59=1:=_root_.id (by kernel_rfl)
theorem ZCY:(SC Tryz.prog J0 JF0 hds).hd 60=1:=_root_.id (by kernel_rfl)
theorem ZDe:(SC Tryz.prog J0 JF0 hds).hd 61=0:=_root_.id (by kernel_rfl)
theorem ZDA:(SC Tryz.prog J0 JF0 hds).hd 62=0:=_root_.id (by kernel_rfl)
theorem ZEb:(SC Tryz.prog J0 JF0 hds).hd 63=0:=_root_.id (by kernel_rfl)
theorem ZCX:(SC Tryz.prog J0 JF0 hds).hd 64=0:=_root_.id (by kernel_rfl)
theorem ZDc:(SC Tryz.prog J0 JF0 hds).hd 65=0:=_root_.id (by kernel_rfl)
theorem ZEg:(SC Tryz.prog J0 JF0 hds).hd 66=0:=_root_.id (by kernel_rfl)
theorem ZEa:(SC Tryz.prog J0 JF0 hds).hd 67=2:=_root_.id (by kernel_rfl)
theorem ZC6:(SC Tryz.prog J0 JF0 hds).hd 68=0:=_root_.id (by kernel_rfl)
theorem ZDC:(SC Tryz.prog J0 JF0 hds).hd 69=0:=_root_.id (by kernel_rfl)
theorem ZCG:(SC Tryz.prog J0 JF0 hds).hd 70=2:=_root_.id (by kernel_rfl)
theorem ZDM:(SC Tryz.prog J0 JF0 hds).hd 71=0:=_root_.id (by kernel_rfl)
theorem ZCM:(SC Tryz.prog J0 JF0 hds).hd 72=0:=_root_.id (by kernel_rfl)
theorem ZDK:(SC Tryz.prog J0 JF0 hds).hd 73=0:=_root_.id (by kernel_rfl)
theorem ZDb:(SC Tryz.prog J0 JF0 hds).hd 74=0:=_root_.id (by kernel_rfl)
theorem ZD8:(SC Tryz.prog J0 JF0 hds).hd 75=0:=_root_.id (by kernel_rfl)
theorem ZDV:(SC Tryz.prog J0 JF0 hds).hd 76=0:=_root_.id (by kernel_rfl)
theorem ZDX:(SC Tryz.prog J0 JF0 hds).hd 77=3:=_root_.id (by kernel_rfl)
theorem ZEe:(SC Tryz.prog J0 JF0 hds).hd 78=0:=_root_.id (by kernel_rfl)
theorem ZEc:(SC Tryz.prog J0 JF0 hds).hd 79=0:=_root_.id (by kernel_rfl)
theorem ZDa:(SC Tryz.prog J0 JF0 hds).hd 80=0:=_root_.id (by kernel_rfl)
theorem ZCQ:(SC Tryz.prog J0 JF0 hds).hd 81=0:=_root_.id (by kernel_rfl)
theorem ZCE:(SC Tryz.prog J0 JF0 hds).hd 82=0:=_root_.id (by kernel_rfl)
theorem ZDy:(SC Tryz.prog J0 JF0 hds).hd 83=0:=_root_.id (by kernel_rfl)
theorem ZC8:(SC Tryz.prog J0 JF0 hds).hd 84=2:=_root_.id (by kernel_rfl)
theorem ZEj:(SC Tryz.prog J0 JF0 hds).hd 85=2:=_root_.id (by kernel_rfl)
theorem ZD9:(SC Tryz.prog J0 JF0 hds).hd 86=0:=_root_.id (by kernel_rfl)
theorem ZEi:(SC Tryz.prog J0 JF0 hds).hd 87=0:=_root_.id (by kernel_rfl)
theorem ZDQ:(SC Tryz.prog J0 JF0 hds).hd 88=0:=_root_.id (by kernel_rfl)
theorem ZC1:(SC Tryz.prog J0 JF0 hds).hd 89=0:=_root_.id (by kernel_rfl)
theorem ZDS:(SC Tryz.prog J0 JF0 hds).hd 91=0:=_root_.id (by kernel_rfl)
theorem ZDv:(SC Tryz.prog J0 JF0 hds).hd 92=0:=_root_.id (by kernel_rfl)
theorem ZCs:(SC Tryz.prog J0 JF0 hds).hd 94=0:=_root_.id (by kernel_rfl)
theorem ZDu:(SC Tryz.prog J0 JF0 hds).hd 95=0:=_root_.id (by kernel_rfl)
theorem ZBQ:(SC Tryz.prog J0 JF0 hds).hd 108=1:=_root_.id (by kernel_rfl)
theorem ZAn:(SC Tryz.prog J0 JF0 hds).hd 109=0:=_root_.id (by kernel_rfl)
theorem Zz2:(SC Tryz.prog J0 JF0 hds).hd 110=1:=_root_.id (by kernel_rfl)
theorem ZAb:(SC Tryz.prog J0 JF0 hds).hd 111=1:=_root_.id (by kernel_rfl)
theorem ZB8:(SC Tryz.prog J0 JF0 hds).hd 112=1:=_root_.id (by kernel_rfl)
theorem ZAu:(SC Tryz.prog J0 JF0 hds).hd 113=0:=_root_.id (by kernel_rfl)
theorem Zyr:(SC Tryz.prog J0 JF0 hds).hd 114=0:=_root_.id (by kernel_rfl)
theorem Zyp:(SC Tryz.prog J0 JF0 hds).hd 115=0:=_root_.id (by kernel_rfl)
theorem Zyz:(SC Tryz.prog J0 JF0 hds).hd 116=0:=_root_.id (by kernel_rfl)
theorem ZAM:(SC Tryz.prog J0 JF0 hds).hd 117=0:=_root_.id (by kernel_rfl)
theorem ZBD:(SC Tryz.prog J0 JF0 hds).hd 118=1:=_root_.id (by kernel_rfl)
theorem ZCm:(SC Tryz.prog J0 JF0 hds).hd 119=0:=_root_.id (by kernel_rfl)
theorem ZyY:(SC Tryz.prog J0 JF0 hds).hd 120=0:=_root_.id (by kernel_rfl)
theorem ZA5:(SC Tryz.prog J0 JF0 hds).hd 124=1:=_root_.id (by kernel_rfl)
theorem ZyI:(SC Tryz.prog J0 JF0 hds).hd 125=0:=_root_.id (by kernel_rfl)
theorem ZAx:(SC Tryz.prog J0 JF0 hds).hd 126=1:=_root_.id (by kernel_rfl)
theorem Zzk:(SC Tryz.prog J0 JF0 hds).hd 127=0:=_root_.id (by kernel_rfl)
theorem ZyR:(SC Tryz.prog J0 JF0 hds).hd 128=0:=_root_.id (by kernel_rfl)
theorem Zx3:(SC Tryz.prog J0 JF0 hds).hd 129=0:=_root_.id (by kernel_rfl)
theorem ZAD:(SC Tryz.prog J0 JF0 hds).hd 130=0:=_root_.id (by kernel_rfl)
theorem ZB4:(SC Tryz.prog J0 JF0 hds).hd 131=0:=_root_.id (by kernel_rfl)
theorem ZzN:(SC Tryz.prog J0 JF0 hds).hd 132=0:=_root_.id (by kernel_rfl)
theorem ZAp:(SC Tryz.prog J0 JF0 hds).hd 133=0:=_root_.id (by kernel_rfl)
theorem ZyG:(SC Tryz.prog J0 JF0 hds).hd 134=0:=_root_.id (by kernel_rfl)
theorem ZzR:(SC Tryz.prog J0 JF0 hds).hd 135=0:=_root_.id (by kernel_rfl)
theorem ZB9:(SC Tryz.prog J0 JF0 hds).hd 136=0:=_root_.id (by kernel_rfl)
theorem ZzP:(SC Tryz.prog J0 JF0 hds).hd 137=0:=_root_.id (by kernel_rfl)
theorem ZBm:(SC Tryz.prog J0 JF0 hds).hd 138=0:=_root_.id (by kernel_rfl)
theorem ZAH:(SC Tryz.prog J0 JF0 hds).hd 139=0:=_root_.id (by kernel_rfl)
theorem ZAE:(SC Tryz.prog J0 JF0 hds).hd 140=0:=_root_.id (by kernel_rfl)
theorem ZBi:(SC Tryz.prog J0 JF0 hds).hd 141=0:=_root_.id (by kernel_rfl)
theorem ZA3:(SC Tryz.prog J0 JF0 hds).hd 142=0:=_root_.id (by kernel_rfl)
theorem Zzj:(SC Tryz.prog J0 JF0 hds).hd 143=0:=_root_.id (by kernel_rfl)
theorem ZAy:(SC Tryz.prog J0 JF0 hds).hd 144=0:=_root_.id (by kernel_rfl)
theorem Zx4:(SC Tryz.prog J0 JF0 hds).hd 145=0:=_root_.id (by kernel_rfl)
theorem ZyH:(SC Tryz.prog J0 JF0 hds).hd 146=0:=_root_.id (by kernel_rfl)
theorem ZyS:(SC Tryz.prog J0 JF0 hds).hd 147=0:=_root_.id (by kernel_rfl)
theorem Zyk:(SC Tryz.prog J0 JF0 hds).hd 148=0:=_root_.id (by kernel_rfl)
theorem ZAd:(SC Tryz.prog J0 JF0 hds).hd 149=0:=_root_.id (by kernel_rfl)
theorem ZBG:(SC Tryz.prog J0 JF0 hds).hd 150=0:=_root_.id (by kernel_rfl)
theorem ZBE:(SC Tryz.prog J0 JF0 hds).hd 151=0:=_root_.id (by kernel_rfl)
theorem ZzS:(SC Tryz.prog J0 JF0 hds).hd 152=0:=_root_.id (by kernel_rfl)
theorem ZBh:(SC Tryz.prog J0 JF0 hds).hd 153=0:=_root_.id (by kernel_rfl)
theorem ZzZ:(SC Tryz.prog J0 JF0 hds).hd 154=0:=_root_.id (by kernel_rfl)
theorem ZB2:(SC Tryz.prog J0 JF0 hds).hd 155=0:=_root_.id (by kernel_rfl)
theorem ZBy:(SC Tryz.prog J0 JF0 hds).hd 158=0:=_root_.id (by kernel_rfl)
theorem ZBa:(SC Tryz.prog J0 JF0 hds).hd 159=0:=_root_.id (by kernel_rfl)
theorem ZzL:(SC Tryz.prog J0 JF0 hds).hd 162=0:=_root_.id (by kernel_rfl)
theorem ZAN:(SC Tryz.prog J0 JF0 hds).hd 163=0:=_root_.id (by kernel_rfl)
theorem Zy4:(SC Tryz.prog J0 JF0 hds).hd 164=1:=_root_.id (by kernel_rfl)
theorem ZzW:(SC Tryz.prog J0 JF0 hds).hd 170=0:=_root_.id (by kernel_rfl)
theorem ZBz:(SC Tryz.prog J0 JF0 hds).hd 171=0:=_root_.id (by kernel_rfl)
theorem ZA8:(SC Tryz.prog J0 JF0 hds).hd 172=2:=_root_.id (by kernel_rfl)
theorem ZBV:(SC Tryz.prog J0 JF0 hds).hd 173=1:=_root_.id (by kernel_rfl)
theorem Zz9:(SC Tryz.prog J0 JF0 hds).hd 174=1:=_root_.id (by kernel_rfl)
theorem ZB6:(SC Tryz.prog J0 JF0 hds).hd 175=1:=_root_.id (by kernel_rfl)
theorem ZB3:(SC Tryz.prog J0 JF0 hds).hd 176=0:=_root_.id (by kernel_rfl)
theorem ZzQ:(SC Tryz.prog J0 JF0 hds).hd 177=0:=_root_.id (by kernel_rfl)
theorem Zyn:(SC Tryz.prog J0 JF0 hds).hd 178=0:=_root_.id (by kernel_rfl)
theorem Zyx:(SC Tryz.prog J0 JF0 hds).hd 179=0:=_root_.id (by kernel_rfl)
theorem ZyZ:(SC Tryz.prog J0 JF0 hds).hd 180=0:=_root_.id (by kernel_rfl)
theorem ZBF:(SC Tryz.prog J0 JF0 hds).hd 181=0:=_root_.id (by kernel_rfl)
theorem ZAX:(SC Tryz.prog J0 JF0 hds).hd 182=0:=_root_.id (by kernel_rfl)
theorem Zzs:(SC Tryz.prog J0 JF0 hds).hd 183=0:=_root_.id (by kernel_rfl)
theorem ZzI:(SC Tryz.prog J0 JF0 hds).hd 184=0:=_root_.id (by kernel_rfl)
theorem ZzT:(SC Tryz.prog J0 JF0 hds).hd 185=0:=_root_.id (by kernel_rfl)
theorem ZA9:(SC Tryz.prog J0 JF0 hds).hd 186=1:=_root_.id (by kernel_rfl)
theorem ZAP:(SC Tryz.prog J0 JF0 hds).hd 187=0:=_root_.id (by kernel_rfl)
theorem Zzg:(SC Tryz.prog J0 JF0 hds).hd 188=0:=_root_.id (by kernel_rfl)
theorem ZyV:(SC Tryz.prog J0 JF0 hds).hd 189=0:=_root_.id (by kernel_rfl)
theorem ZyB:(SC Tryz.prog J0 JF0 hds).hd 190=0:=_root_.id (by kernel_rfl)
theorem Zzz:(SC Tryz.prog J0 JF0 hds).hd 191=0:=_root_.id (by kernel_rfl)
theorem ZBS:(SC Tryz.prog J0 JF0 hds).hd 192=0:=_root_.id (by kernel_rfl)
theorem ZBL:(SC Tryz.prog J0 JF0 hds).hd 193=0:=_root_.id (by kernel_rfl)
theorem ZBw:(SC Tryz.prog J0 JF0 hds).hd 194=0:=_root_.id (by kernel_rfl)
theorem ZzF:(SC Tryz.prog J0 JF0 hds).hd 195=0:=_root_.id (by kernel_rfl)
theorem Zy7:(SC Tryz.prog J0 JF0 hds).hd 196=0:=_root_.id (by kernel_rfl)
theorem ZAq:(SC Tryz.prog J0 JF0 hds).hd 197=0:=_root_.id (by kernel_rfl)
theorem ZzY:(SC Tryz.prog J0 JF0 hds).hd 198=0:=_root_.id (by kernel_rfl)
theorem ZAo:(SC Tryz.prog J0 JF0 hds).hd 199=0:=_root_.id (by kernel_rfl)
theorem ZzG:(SC Tryz.prog J0 JF0 hds).hd 200=0:=_root_.id (by kernel_rfl)
theorem ZyT:(SC Tryz.prog J0 JF0 hds).hd 201=0:=_root_.id (by kernel_rfl)
theorem ZyL:(SC Tryz.prog J0 JF0 hds).hd 202=0:=_root_.id (by kernel_rfl)
theorem Zys:(SC Tryz.prog J0 JF0 hds).hd 203=0:=_root_.id (by kernel_rfl)
theorem Zzt:(SC Tryz.prog J0 JF0 hds).hd 204=0:=_root_.id (by kernel_rfl)
theorem ZAl:(SC Tryz.prog J0 JF0 hds).hd 205=0:=_root_.id (by kernel_rfl)
theorem Zyf:(SC Tryz.prog J0 JF0 hds).hd 206=0:=_root_.id (by kernel_rfl)
theorem ZBq:(SC Tryz.prog J0 JF0 hds).hd 207=0:=_root_.id (by kernel_rfl)
theorem ZAv:(SC Tryz.prog J0 JF0 hds).hd 208=0:=_root_.id (by kernel_rfl)
theorem Zzi:(SC Tryz.prog J0 JF0 hds).hd 209=0:=_root_.id (by kernel_rfl)
theorem ZAw:(SC Tryz.prog J0 JF0 hds).hd 210=1:=_root_.id (by kernel_rfl)
theorem ZCh:(SC Tryz.prog J0 JF0 hds).hd 211=0:=_root_.id (by kernel_rfl)
theorem Zyi:(SC Tryz.prog J0 JF0 hds).hd 212=0:=_root_.id (by kernel_rfl)
theorem ZCo:(SC Tryz.prog J0 JF0 hds).hd 213=0:=_root_.id (by kernel_rfl)
theorem ZAI:(SC Tryz.prog J0 JF0 hds).hd 214=0:=_root_.id (by kernel_rfl)
theorem ZCe:(SC Tryz.prog J0 JF0 hds).hd 215=0:=_root_.id (by kernel_rfl)
theorem ZBM:(SC Tryz.prog J0 JF0 hds).hd 216=0:=_root_.id (by kernel_rfl)
theorem ZAh:(SC Tryz.prog J0 JF0 hds).hd 219=0:=_root_.id (by kernel_rfl)
theorem ZBP:(SC Tryz.prog J0 JF0 hds).hd 220=0:=_root_.id (by kernel_rfl)
theorem ZAY:(SC Tryz.prog J0 JF0 hds).hd 221=0:=_root_.id (by kernel_rfl)
theorem ZAk:(SC Tryz.prog J0 JF0 hds).hd 222=0:=_root_.id (by kernel_rfl)
theorem Zze:(SC Tryz.prog J0 JF0 hds).hd 223=0:=_root_.id (by kernel_rfl)
theorem ZyO:(SC Tryz.prog J0 JF0 hds).hd 224=0:=_root_.id (by kernel_rfl)
theorem ZBR:(SC Tryz.prog J0 JF0 hds).hd 225=0:=_root_.id (by kernel_rfl)
theorem Zy5:(SC Tryz.prog J0 JF0 hds).hd 226=0:=_root_.id (by kernel_rfl)
theorem Zx6:(SC Tryz.prog J0 JF0 hds).hd 227=0:=_root_.id (by kernel_rfl)
theorem ZCn:(SC Tryz.prog J0 JF0 hds).hd 234=0:=_root_.id (by kernel_rfl)
theorem ZAF:(SC Tryz.prog J0 JF0 hds).hd 235=0:=_root_.id (by kernel_rfl)
theorem ZCg:(SC Tryz.prog J0 JF0 hds).hd 236=0:=_root_.id (by kernel_rfl)
theorem ZyJ:(SC Tryz.prog J0 JF0 hds).hd 237=0:=_root_.id (by kernel_rfl)
theorem ZzB:(SC Tryz.prog J0 JF0 hds).hd 238=0:=_root_.id (by kernel_rfl)
theorem Zzc:(SC Tryz.prog J0 JF0 hds).hd 239=1:=_root_.id (by kernel_rfl)
theorem Zzn:(SC Tryz.prog J0 JF0 hds).hd 240=1:=_root_.id (by kernel_rfl)
theorem ZAU:(SC Tryz.prog J0 JF0 hds).hd 241=0:=_root_.id (by kernel_rfl)
theorem ZCa:(SC Tryz.prog J0 JF0 hds).hd 242=0:=_root_.id (by kernel_rfl)
theorem Zzu:(SC Tryz.prog J0 JF0 hds).hd 243=0:=_root_.id (by kernel_rfl)
theorem ZBg:(SC Tryz.prog J0 JF0 hds).hd 244=0:=_root_.id (by kernel_rfl)
theorem ZyP:(SC Tryz.prog J0 JF0 hds).hd 245=0:=_root_.id (by kernel_rfl)
theorem Zyy:(SC Tryz.prog J0 JF0 hds).hd 246=0:=_root_.id (by kernel_rfl)
theorem ZzV:(SC Tryz.prog J0 JF0 hds).hd 247=0:=_root_.id (by kernel_rfl)
theorem ZzX:(SC Tryz.prog J0 JF0 hds).hd 248=0:=_root_.id (by kernel_rfl)
theorem ZBl:(SC Tryz.prog J0 JF0 hds).hd 249=0:=_root_.id (by kernel_rfl)
theorem ZzA:(SC Tryz.prog J0 JF0 hds).hd 250=1:=_root_.id (by kernel_rfl)
theorem ZB7:(SC Tryz.prog J0 JF0 hds).hd 251=1:=_root_.id (by kernel_rfl)
theorem Zzl:(SC Tryz.prog J0 JF0 hds).hd 252=0:=_root_.id (by kernel_rfl)
theorem ZAm:(SC Tryz.prog J0 JF0 hds).hd 253=0:=_root_.id (by kernel_rfl)
theorem ZAz:(SC Tryz.prog J0 JF0 hds).hd 254=0:=_root_.id (by kernel_rfl)
theorem ZAG:(SC Tryz.prog J0 JF0 hds).hd 255=4:=_root_.id (by kernel_rfl)
theorem ZyA:(SC Tryz.prog J0 JF0 hds).hd 256=0:=_root_.id (by kernel_rfl)
theorem Zz5:(SC Tryz.prog J0 JF0 hds).hd 257=0:=_root_.id (by kernel_rfl)
theorem ZAW:(SC Tryz.prog J0 JF0 hds).hd 258=0:=_root_.id (by kernel_rfl)
theorem ZyW:(SC Tryz.prog J0 JF0 hds).hd 259=0:=_root_.id (by kernel_rfl)
theorem Zzf:(SC Tryz.prog J0 JF0 hds).hd 260=0:=_root_.id (by kernel_rfl)
theorem ZAj:(SC Tryz.prog J0 JF0 hds).hd 261=0:=_root_.id (by kernel_rfl)
theorem ZAR:(SC Tryz.prog J0 JF0 hds).hd 262=0:=_root_.id (by kernel_rfl)
theorem Zy9:(SC Tryz.prog J0 JF0 hds).hd 263=0:=_root_.id (by kernel_rfl)
theorem Zym:(SC Tryz.prog J0 JF0 hds).hd 264=0:=_root_.id (by kernel_rfl)
theorem ZCf:(SC Tryz.prog J0 JF0 hds).hd 266=0:=_root_.id (by kernel_rfl)
theorem ZAO:(SC Tryz.prog J0 JF0 hds).hd 268=0:=_root_.id (by kernel_rfl)
theorem ZBk:(SC Tryz.prog J0 JF0 hds).hd 269=0:=_root_.id (by kernel_rfl)
theorem ZyX:(SC Tryz.prog J0 JF0 hds).hd 271=0:=_root_.id (by kernel_rfl)
theorem ZCj:(SC Tryz.prog J0 JF0 hds).hd 276=0:=_root_.id (by kernel_rfl)
theorem Zyt:(SC Tryz.prog J0 JF0 hds).hd 277=0:=_root_.id (by kernel_rfl)
theorem Zz3:(SC Tryz.prog J0 JF0 hds).hd 278=0:=_root_.id (by kernel_rfl)
theorem Zx7:(SC Tryz.prog J0 JF0 hds).hd 279=0:=_root_.id (by kernel_rfl)
theorem ZAs:(SC Tryz.prog J0 JF0 hds).hd 280=0:=_root_.id (by kernel_rfl)
theorem ZAA:(SC Tryz.prog J0 JF0 hds).hd 281=0:=_root_.id (by kernel_rfl)
theorem ZAQ:(SC Tryz.prog J0 JF0 hds).hd 282=0:=_root_.id (by kernel_rfl)
theorem Zyl:(SC Tryz.prog J0 JF0 hds).hd 283=0:=_root_.id (by kernel_rfl)
theorem Zyb:(SC Tryz.prog J0 JF0 hds).hd 284=1:=_root_.id (by kernel_rfl)
theorem ZBn:(SC Tryz.prog J0 JF0 hds).hd 285=1:=_root_.id (by kernel_rfl)
theorem ZBf:(SC Tryz.prog J0 JF0 hds).hd 286=1:=_root_.id (by kernel_rfl)
theorem ZBd:(SC Tryz.prog J0 JF0 hds).hd 287=1:=_root_.id (by kernel_rfl)
theorem ZA7:(SC Tryz.prog J0 JF0 hds).hd 288=1:=_root_.id (by kernel_rfl)
theorem Zzw:(SC Tryz.prog J0 JF0 hds).hd 289=0:=_root_.id (by kernel_rfl)
theorem ZBN:(SC Tryz.prog J0 JF0 hds).hd 290=0:=_root_.id (by kernel_rfl)
theorem Zzy:(SC Tryz.prog J0 JF0 hds).hd 291=0:=_root_.id (by kernel_rfl)
theorem ZAK:(SC Tryz.prog J0 JF0 hds).hd 292=0:=_root_.id (by kernel_rfl)
theorem ZBZ:(SC Tryz.prog J0 JF0 hds).hd 293=0:=_root_.id (by kernel_rfl)
theorem ZBs:(SC Tryz.prog J0 JF0 hds).hd 294=0:=_root_.id (by kernel_rfl)
theorem ZAZ:(SC Tryz.prog J0 JF0 hds).hd 295=0:=_root_.id (by kernel_rfl)
theorem ZBU:(SC Tryz.prog J0 JF0 hds).hd 297=0:=_root_.id (by kernel_rfl)
theorem ZBA:(SC Tryz.prog J0 JF0 hds).hd 298=0:=_root_.id (by kernel_rfl)
theorem ZBB:(SC Tryz.prog J0 JF0 hds).hd 311=0:=_root_.id (by kernel_rfl)
theorem Zyq:(SC Tryz.prog J0 JF0 hds).hd 312=0:=_root_.id (by kernel_rfl)
theorem Zz8:(SC Tryz.prog J0 JF0 hds).hd 313=0:=_root_.id (by kernel_rfl)
theorem Zyv:(SC Tryz.prog J0 JF0 hds).hd 314=0:=_root_.id (by kernel_rfl)
theorem ZBe:(SC Tryz.prog J0 JF0 hds).hd 315=1:=_root_.id (by kernel_rfl)
theorem Zz1:(SC Tryz.prog J0 JF0 hds).hd 316=1:=_root_.id (by kernel_rfl)
theorem ZyD:(SC Tryz.prog J0 JF0 hds).hd 317=1:=_root_.id (by kernel_rfl)
theorem Zyo:(SC Tryz.prog J0 JF0 hds).hd 318=0:=_root_.id (by kernel_rfl)
theorem ZA0:(SC Tryz.prog J0 JF0 hds).hd 319=0:=_root_.id (by kernel_rfl)
theorem ZBb:(SC Tryz.prog J0 JF0 hds).hd 322=0:=_root_.id (by kernel_rfl)
theorem ZAS:(SC Tryz.prog J0 JF0 hds).hd 338=0:=_root_.id (by kernel_rfl)
theorem ZBT:(SC Tryz.prog J0 JF0 hds).hd 339=0:=_root_.id (by kernel_rfl)
theorem ZCd:(SC Tryz.prog J0 JF0 hds).hd 340=1:=_root_.id (by kernel_rfl)
theorem ZB0:(SC Tryz.prog J0 JF0 hds).hd 341=1:=_root_.id (by kernel_rfl)
theorem ZBx:(SC Tryz.prog J0 JF0 hds).hd 342=1:=_root_.id (by kernel_rfl)
theorem Zye:(SC Tryz.prog J0 JF0 hds).hd 343=0:=_root_.id (by kernel_rfl)
theorem ZAL:(SC Tryz.prog J0 JF0 hds).hd 355=1:=_root_.id (by kernel_rfl)
theorem ZzM:(SC Tryz.prog J0 JF0 hds).hd 356=1:=_root_.id (by kernel_rfl)
theorem tt2:tt 2=some (.atom (.c (.int .i64 0))):=_root_.id rfl
theorem tt3:tt 3=some (.atom (.c (.int .i64 0))):=_root_.id rfl
theorem tt4:tt 4=some (.atom (.c (.bool false))):=_root_.id rfl
theorem tt5:tt 5=some (.atom (.c (.int .u8 0))):=_root_.id rfl
theorem tt9:tt 9=some (.atom (.c (.str ⟨#[]⟩))):=_root_.id rfl
theorem ZEN:tt 12=some (.atom (.c (.int .u64 0))):=_root_.id rfl
theorem ZEZ:tt 14=some (.strct [⟨0,1,false⟩,⟨1,1,false⟩] 2 [.c (.str ⟨#[]⟩),.c (.int .u64 0)]):=_root_.id rfl
theorem ZEW:tt 20=some (.ifc):=_root_.id rfl
theorem ZE2:tt 21=some (.atom (.c (.int .i32 0))):=_root_.id rfl
theorem ZEV:tt 22=some (.slice 5 1 1 [.c (.int .u8 0)]):=_root_.id rfl
theorem ZEH:tt 24=some (.slice 42 4 72 [.c (.str ⟨#[]⟩),.c (.int .i64 0),.nil 173 5,.nil 50 3]):=_root_.id rfl
theorem ZES:tt 25=some (.slice 45 2 40 [.c (.str ⟨#[]⟩),.nil 9 1]):=_root_.id rfl
theorem ZER:tt 33=some (.slice 38 3 64 [.c (.str ⟨#[]⟩),.nil 45 2,.nil 166 2]):=_root_.id rfl
theorem ZEA:tt 36=some (.slice 166 2 32 [.c (.str ⟨#[]⟩),.c (.str ⟨#[]⟩)]):=_root_.id rfl
theorem ZEB:tt 38=some (.strct [⟨0,1,false⟩,⟨1,1,false⟩,⟨2,1,false⟩] 3 [.c (.str ⟨#[]⟩),.nil 45 2,.nil 166 2]):=_root_.id rfl
theorem ZEJ:tt 39=some (.slice 173 5 80 [.c (.int .i64 0),.c (.str ⟨#[]⟩),.nil 9 1,.c (.str ⟨#[]⟩),.c (.str ⟨#[]⟩)]):=_root_.id rfl
theorem ZED:tt 40=some (.slice 50 3 48 [.c (.int .i64 0),.c (.str ⟨#[]⟩),.nil 9 1]):=_root_.id rfl
theorem ZEo:tt 42=some (.strct [⟨0,1,false⟩,⟨1,1,false⟩,⟨2,1,false⟩,⟨3,1,false⟩] 4 [.c (.str ⟨#[]⟩),.c (.int .i64 0),.nil 173 5,.nil 50 3]):=_root_.id rfl
theorem ZEQ:tt 43=some (.slice 9 1 16 [.c (.str ⟨#[]⟩)]):=_root_.id rfl
theorem ZE9:tt 45=some (.strct [⟨0,1,false⟩,⟨1,1,false⟩] 2 [.c (.str ⟨#[]⟩),.nil 9 1]):=_root_.id rfl
theorem ZFa:tt 48=some (.strct [⟨0,1,false⟩,⟨1,1,false⟩] 2 [.c (.str ⟨#[]⟩),.nil 9 1]):=_root_.id rfl
theorem ZEs:tt 50=some (.strct [⟨0,1,false⟩,⟨1,2,true⟩] 3 [.c (.int .i64 0),.c (.str ⟨#[]⟩),.nil 9 1]):=_root_.id rfl
theorem ZE7:tt 58=some (.slice 126 4 72 [.c (.str ⟨#[]⟩),.c (.int .i64 0),.nil 228 5,.nil 231 3]):=_root_.id rfl
theorem ZE5:tt 59=some (.slice 86 2 40 [.c (.str ⟨#[]⟩),.nil 9 1]):=_root_.id rfl
theorem ZEP:tt 62=some (.slice 199 3 56 [.c (.int .i64 0),.nil 3 1,.nil 3 1]):=_root_.id rfl
theorem ZEI:tt 64=some (.strct [⟨0,1,false⟩,⟨1,1,false⟩] 2 [.c (.int .i64 0),.nil 199 3]):=_root_.id rfl
theorem ZEm:tt 65=some (.slice 3 1 8 [.c (.int .i64 0)]):=_root_.id rfl
theorem ZEM:tt 67=some (.strct [⟨0,2,true⟩,⟨2,1,false⟩,⟨3,1,false⟩] 4 [.c (.int .i64 0),.nil 199 3,.nil 3 1,.nil 3 1]):=_root_.id rfl
theorem ZEw:tt 80=some (.slice 25 1 24 [.nil 45 2]):=_root_.id rfl
theorem ZE8:tt 86=some (.strct [⟨0,1,false⟩,⟨1,1,false⟩] 2 [.c (.str ⟨#[]⟩),.nil 9 1]):=_root_.id rfl
theorem ZCO:tt 110=some (.map .str .bool):=_root_.id rfl
theorem ZD4:tt 116=some (.slice 120 2 48 [.nil 45 2,.nil 166 2]):=_root_.id rfl
theorem ZDm:tt 120=some (.strct [⟨0,1,false⟩,⟨1,1,false⟩] 2 [.nil 45 2,.nil 166 2]):=_root_.id rfl
theorem ZDd:tt 123=some (.slice 228 5 80 [.c (.int .i64 0),.c (.str ⟨#[]⟩),.nil 9 1,.c (.str ⟨#[]⟩),.c (.str ⟨#[]⟩)]):=_root_.id rfl
theorem ZDt:tt 124=some (.slice 231 3 48 [.c (.int .i64 0),.c (.str ⟨#[]⟩),.nil 9 1]):=_root_.id rfl
theorem ZDx:tt 126=some (.strct [⟨0,1,false⟩,⟨1,1,false⟩,⟨2,1,false⟩,⟨3,1,false⟩] 4 [.c (.str ⟨#[]⟩),.c (.int .i64 0),.nil 228 5,.nil 231 3]):=_root_.id rfl
theorem ZDk:tt 152=some (.strct [⟨0,1,false⟩,⟨1,1,false⟩,⟨2,1,false⟩] 3 [.nil 5 1,.c (.int .i64 0),.c (.int .i64 0)]):=_root_.id rfl
theorem ZCD:tt 155=some (.slice 204 2 40 [.c (.str ⟨#[]⟩),.nil 45 2]):=_root_.id rfl
theorem ZCS:tt 158=some (.slice 4 1 1 [.c (.bool false)]):=_root_.id rfl
theorem ZDZ:tt 160=some (.slice 208 3 64 [.c (.str ⟨#[]⟩),.nil 45 2,.nil 166 2]):=_root_.id rfl
theorem ZCv:tt 166=some (.strct [⟨0,1,false⟩,⟨1,1,false⟩] 2 [.c (.str ⟨#[]⟩),.c (.str ⟨#[]⟩)]):=_root_.id rfl
theorem ZDn:tt 173=some (.strct [⟨0,1,false⟩,⟨1,2,true⟩,⟨3,1,false⟩,⟨4,1,false⟩] 5 [.c (.int .i64 0),.c (.str ⟨#[]⟩),.nil 9 1,.c (.str ⟨#[]⟩),.c (.str ⟨#[]⟩)]):=_root_.id rfl
theorem ZD1:tt 199=some (.strct [⟨0,1,false⟩,⟨1,1,false⟩,⟨2,1,false⟩] 3 [.c (.int .i64 0),.nil 3 1,.nil 3 1]):=_root_.id rfl
theorem ZCU:tt 204=some (.strct [⟨0,1,false⟩,⟨1,1,false⟩] 2 [.c (.str ⟨#[]⟩),.nil 45 2]):=_root_.id rfl
theorem ZCF:tt 208=some (.strct [⟨0,1,false⟩,⟨1,2,true⟩] 3 [.c (.str ⟨#[]⟩),.nil 45 2,.nil 166 2]):=_root_.id rfl
theorem ZC3:tt 226=some (.strct [⟨0,1,false⟩,⟨1,1,false⟩] 2 [.c (.str ⟨#[]⟩),.nil 9 1]):=_root_.id rfl
theorem ZCL:tt 228=some (.strct [⟨0,1,false⟩,⟨1,2,true⟩,⟨3,1,false⟩,⟨4,1,false⟩] 5 [.c (.int .i64 0),.c (.str ⟨#[]⟩),.nil 9 1,.c (.str ⟨#[]⟩),.c (.str ⟨#[]⟩)]):=_root_.id rfl
theorem ZCN:tt 231=some (.strct [⟨0,1,false⟩,⟨1,2,true⟩] 3 [.c (.int .i64 0),.c (.str ⟨#[]⟩),.nil 9 1]):=_root_.id rfl
theorem ZCq:tt 241=some (.atom (.c (.int .u64 0))):=_root_.id rfl
theorem ZEf:tt 270=some (.ifc):=_root_.id rfl
theorem ZD5:tt 271=some (.ifc):=_root_.id rfl
theorem ZCZ:tt 283=some (.atom (.c (.int .u32 0))):=_root_.id rfl
theorem ZCR:tt 285=some (.atom (.c (.int .u64 0))):=_root_.id rfl
theorem ZDl:tt 330=some (.strct [⟨0,1,false⟩] 1 [.c (.str ⟨#[]⟩)]):=_root_.id rfl
theorem fnk {f : FuncId} {fn : Func} {c : Code} {args : List (Bool × List CT)} {res : List RT} (hf : Tryz.prog.funcs[f]? = some fn) (hname : (fn.name == "runtime.NumGoroutine") = false) (hb : fn.body = some c) (hok : Xh (fun _ => none) tt hds false fn.ntmps c = true) (hlen : Nat.ble args.length fn.ntmps = true) (h : fnS (fun _ => none) tt (SC Tryz.prog J0 JF0 hds) fn.results.toList c args res) : Zk Tryz.prog J0 f args res := Zv4 htt hJ0 hmix hf hname hb hok hlen h
theorem fnb {f : FuncId} {fn : Func} {c : Code} {args : List (Bool × List CT)} {nb : NB} (hf : Tryz.prog.funcs[f]? = some fn) (hname : (fn.name == "runtime.NumGoroutine") = false) (hb : fn.body = some c) (hok : Xh (fun _ => none) tt hds false fn.ntmps c = true) (hlen : Nat.ble args.length fn.ntmps = true) (h : fnB (fun _ => none) tt (SC Tryz.prog J0 JF0 hds) fn.results.toList c args nb) : Zmx Tryz.prog J0 f args nb := ZtB htt hJ0 hmix hf hname hb hok hlen h
theorem fnn (t0 : Nat) {f : FuncId} {fn : Func} {c : Code} {args : List (Bool × List CT)} {res : List RT} (hf : Tryz.prog.funcs[f]? = some fn) (hname : (fn.name == "runtime.NumGoroutine") = false) (hb : fn.body = some c) (hok : Xh (fun _ => none) tt hds false fn.ntmps c = true) (hlen : Nat.ble args.length fn.ntmps = true) (h : fnN (fun _ => none) tt (SC Tryz.prog J0 JF0 hds) fn.results.toList t0 c args res) : Zk Tryz.prog J0 f args res := ZuH htt hJ0 hmix hf hname hb hok hlen t0 h
theorem ZJu (m : List (Nat × List Nat × Bool)) {f : FuncId} {fn : Func} {c : Code} {args : List (Bool × List CT)} {res : List RT} (hf : Tryz.prog.funcs[f]? = some fn) (hname : (fn.name == "runtime.NumGoroutine") = false) (hb : fn.body = some c) (hok : Xh (ZwW m) tt hds false fn.ntmps c = true) (hlen : Nat.ble args.length fn.ntmps = true) (h : fnS (ZwW m) tt (SC Tryz.prog J0 JF0 hds) fn.results.toList c args res) : Zk Tryz.prog J0 f args res := Zv4 htt hJ0 hmix hf hname hb hok hlen h
def Zl (x:Zb):List CT:=[.str x.rel,.sl 9 1 (List.map Zx x.args)]
theorem ZvR (x:Zb):Zl x=[.str x.rel,.sl 9 1 (List.map Zx x.args)]:=_root_.id rfl
def Z4 (x:Zs):List CT:=[.str x.var,.str x.value]
theorem Zu9 (x:Zs):Z4 x=[.str x.var,.str x.value]:=_root_.id rfl
theorem Zsc (l:List Zs):ZaN (l.map Z4)=true:=ZbO (fun _=>rfl) l
def Zc8 (x:Qg):List CT:=[.str x.rule,.sl 45 2 (List.map Zl x.facts),.sl 166 2 (List.map Z4 x.binding)]
theorem ZtT (x:Qg):Zc8 x=[.str x.rule,.sl 45 2 (List.map Zl x.facts),.sl 166 2 (List.map Z4 x.binding)]:=_root_.id rfl
def QA (x:Zv):List CT:=[.str x.rel,.sl 9 1 (List.map Zx x.args)]
theorem Zq5 (x:Zv):QA x=[.str x.rel,.sl 9 1 (List.map Zx x.args)]:=_root_.id rfl
def ZK (x:Zt):List CT:=[.int .i64 x.kind,.str x.pattern.rel,.sl 9 1 (List.map Zx x.pattern.args),.str x.left,.str x.right]
theorem Zwb (x:Zt):ZK x=[.int .i64 x.kind,.str x.pattern.rel,.sl 9 1 (List.map Zx x.pattern.args),.str x.left,.str x.right]:=_root_.id rfl
def ZG (x:Zz):List CT:=[.int .i64 x.kind,.str x.pattern.rel,.sl 9 1 (List.map Zx x.pattern.args)]
theorem Zsr (x:Zz):ZG x=[.int .i64 x.kind,.str x.pattern.rel,.sl 9 1 (List.map Zx x.pattern.args)]:=_root_.id rfl
def ZF (x:Zg):List CT:=[.str x.name,.int .i64 x.priority,.sl 173 5 (List.map ZK x.cond),.sl 50 3 (List.map ZG x.thn)]
theorem Zvs (x:Zg):ZF x=[.str x.name,.int .i64 x.priority,.sl 173 5 (List.map ZK x.cond),.sl 50 3 (List.map ZG x.thn)]:=_root_.id rfl
def ZE (x:Zf):List CT:=[.int .i64 x.for_,.sl 3 1 (List.map ZI x.inn),.sl 3 1 (List.map ZI x.outs)]
theorem Zsg (x:Zf):ZE x=[.int .i64 x.for_,.sl 3 1 (List.map ZI x.inn),.sl 3 1 (List.map ZI x.outs)]:=_root_.id rfl
def XY (x:Zr):List CT:=[.int .i64 x.nodes,.sl 199 3 (List.map ZE x.reasons)]
theorem ZqM (x:Zr):XY x=[.int .i64 x.nodes,.sl 199 3 (List.map ZE x.reasons)]:=_root_.id rfl
def ZAT (x:QZ):List CT:=[.int .i64 x.beliefs.nodes,.sl 199 3 (List.map ZE x.beliefs.reasons),.sl 3 1 (List.map ZI x.assumed),.sl 3 1 (List.map ZI x.bad)]
theorem Zut (x:QZ):ZAT x=[.int .i64 x.beliefs.nodes,.sl 199 3 (List.map ZE x.beliefs.reasons),.sl 3 1 (List.map ZI x.assumed),.sl 3 1 (List.map ZI x.bad)]:=_root_.id rfl
def YK (x:Zu):List CT:=[.sl 45 2 (List.map Zl x.facts),.sl 166 2 (List.map Z4 x.binding)]
theorem ZuG (x:Zu):YK x=[.sl 45 2 (List.map Zl x.facts),.sl 166 2 (List.map Z4 x.binding)]:=_root_.id rfl
def Zbj (x:ZJ):List CT:=[.sl 5 1 (List.map ZeK x.b),.int .i64 x.i,.int .i64 x.h]
theorem Zug (x:ZJ):Zbj x=[.sl 5 1 (List.map ZeK x.b),.int .i64 x.i,.int .i64 x.h]:=_root_.id rfl
def Zhi (x:ZaA):List CT:=[.str x.rule,.sl 45 2 (List.map Zl x.facts)]
theorem Zst (x:ZaA):Zhi x=[.str x.rule,.sl 45 2 (List.map Zl x.facts)]:=_root_.id rfl
def Ze9 (x:Xr):List CT:=[.str x.rule,.sl 45 2 (List.map Zl x.token.facts),.sl 166 2 (List.map Z4 x.token.binding)]
theorem ZoU (x:Xr):Ze9 x=[.str x.rule,.sl 45 2 (List.map Zl x.token.facts),.sl 166 2 (List.map Z4 x.token.binding)]:=_root_.id rfl
def Zse (x:(List Zb)):List CT:=[.sl 45 2 (List.map Zl x)]
theorem Zna (x:(List Zb)):Zse x=[.sl 45 2 (List.map Zl x)]:=_root_.id rfl
attribute [go_sem] tt2 tt3 tt4 tt5 tt9 ZEN ZEZ ZEW ZE2 ZEV ZEH ZES ZER ZEA ZEB ZEJ ZED ZEo ZEQ ZE9 ZFa ZEs ZE7 ZE5 ZEP ZEI ZEm ZEM ZEw ZE8 ZCO ZD4 ZDm ZDd ZDt ZDx ZDk ZCD ZCS ZDZ
attribute [go_sem] ZCv ZDn ZD1 ZCU ZCF ZC3 ZCL ZCN ZCq ZEf ZD5 ZCZ ZCR ZDl ZEK ZEv ZEt ZE3 ZEp ZDO ZD7 ZDh ZCr ZDN ZDF ZCx ZDT ZDz ZDD ZDf ZC4 ZEk ZDs ZDi ZCt ZDg ZEd ZEh ZD6 ZD3
attribute [go_sem] ZDE ZDU ZCI ZCz ZCH ZDJ ZCA ZC2 ZCp ZCY ZDe ZDA ZEb ZCX ZDc ZEg ZEa ZC6 ZDC ZCG ZDM ZCM ZDK ZDb ZD8 ZDV ZDX ZEe ZEc ZDa ZCQ ZCE ZDy ZC8 ZEj ZD9 ZEi ZDQ ZC1 ZDS
attribute [go_sem] ZDv ZCs ZDu ZBQ ZAn Zz2 ZAb ZB8 ZAu Zyr Zyp Zyz ZAM ZBD ZCm ZyY ZA5 ZyI ZAx Zzk ZyR Zx3 ZAD ZB4 ZzN ZAp ZyG ZzR ZB9 ZzP ZBm ZAH ZAE ZBi ZA3 Zzj ZAy Zx4 ZyH ZyS
attribute [go_sem] Zyk ZAd ZBG ZBE ZzS ZBh ZzZ ZB2 ZBy ZBa ZzL ZAN Zy4 ZzW ZBz ZA8 ZBV Zz9 ZB6 ZB3 ZzQ Zyn Zyx ZyZ ZBF ZAX Zzs ZzI ZzT ZA9 ZAP Zzg ZyV ZyB Zzz ZBS ZBL ZBw ZzF Zy7
attribute [go_sem] ZAq ZzY ZAo ZzG ZyT ZyL Zys Zzt ZAl Zyf ZBq ZAv Zzi ZAw ZCh Zyi ZCo ZAI ZCe ZBM ZAh ZBP ZAY ZAk Zze ZyO ZBR Zy5 Zx6 ZCn ZAF ZCg ZyJ ZzB Zzc Zzn ZAU ZCa Zzu ZBg
attribute [go_sem] ZyP Zyy ZzV ZzX ZBl ZzA ZB7 Zzl ZAm ZAz ZAG ZyA Zz5 ZAW ZyW Zzf ZAj ZAR Zy9 Zym ZCf ZAO ZBk ZyX ZCj Zyt Zz3 Zx7 ZAs ZAA ZAQ Zyl Zyb ZBn ZBf ZBd ZA7 Zzw ZBN Zzy
attribute [go_sem] ZAK ZBZ ZBs ZAZ ZBU ZBA ZBB Zyq Zz8 Zyv ZBe Zz1 ZyD Zyo ZA0 ZBb ZAS ZBT ZCd ZB0 ZBx Zye ZAL ZzM ZvR Zsc Zu9 ZtT Zq5 Zwb Zsr Zvs Zsg ZqM Zut ZuG Zug Zst ZoU Zna
end Go.Proofs.YtfehfkfdfmcgfaaGreatDoor
namespace Go.Proofs
open Go.Shelf
def Tryz.lays106_ren:Go.Shelf.Ren:=⟨fun | 106=>203 | 213=>265 | 265=>296 | n=>n,fun | 9=>9 | 3=>3 | n=>n,fun | n=>n⟩
theorem Tryz.lays106:Go.Proofs.Lays.n106 Tryz.prog Tryz.lays106_ren:={
 mixed:=by kernel_rfl
 f106:=Tryz.func203.trans (congrArg some (by kernel_rfl))
 f213:=Tryz.func265.trans (congrArg some (by kernel_rfl))
 f265:=Tryz.func296.trans (congrArg some (by kernel_rfl))
 t3:=Tryz.underlying3
 a3:=Tryz.isAgg3
 z3:=Tryz.sizeOf3
 v3:=Tryz.zeroValue3
 t9:=Tryz.underlying9
 a9:=Tryz.isAgg9
 z9:=Tryz.sizeOf9
 v9:=Tryz.zeroValue9 }
open Go.RowKit in
theorem Tryz.strings_Compare (a b:ByteArray) (w:World):
  Calls Tryz.prog 203 #[.string a,.string b] w fun e w'=>e=.returned (.int .i64 (Lib.compareBytes a.data.toList b.data.toList))∧w'=w:=Any.strings_Compare Tryz.lays106 a b w
def Tryz.lays172_ren:Go.Shelf.Ren:=⟨fun | 172=>297 | 244=>320 | 245=>321 | 247=>344 | 279=>345 | 280=>346 | 281=>347 | 282=>348 | 287=>357 | 316=>358 | 171=>322 | 205=>359 | 321=>362 | 322=>363 | 243=>349 | 246=>360 | 283=>364 | 284=>365 | 285=>366 | 286=>367 | 129=>310 | 317=>368 | 318=>369 | 319=>370 | 320=>371 | 337=>372 | 338=>373 | n=>n,fun | 9=>9 | 3=>3 | 75=>271 | 76=>272 | 4=>4 | 5=>5 | 167=>306 | 37=>22 | 0=>0 | 85=>307 | 2=>2 | 168=>309 | 53=>285 | 175=>318 | 46=>241 | 210=>322 | 127=>327 | 145=>330 | 143=>328 | 21=>21 | 171=>331 | 173=>333 | 212=>337 | 51=>283 | 20=>20 | 213=>338 | 232=>339 | 233=>340 | 80=>341 | n=>n,fun | 15=>1 | 16=>2 | 17=>3 | 18=>4 | 19=>5 | n=>n⟩
theorem Tryz.lays172:Go.Proofs.Lays.n172 Tryz.prog Tryz.lays172_ren:={
 mixed:=by kernel_rfl
 f129:=Tryz.func310.trans (congrArg some (by kernel_rfl))
 f171:=Tryz.func322.trans (congrArg some (by kernel_rfl))
 f172:=Tryz.func297.trans (congrArg some (by kernel_rfl))
 f205:=Tryz.func359.trans (congrArg some (by kernel_rfl))
 f243:=Tryz.func349.trans (congrArg some (by kernel_rfl))
 f244:=Tryz.func320.trans (congrArg some (by kernel_rfl))
 f245:=Tryz.func321.trans (congrArg some (by kernel_rfl))
 f246:=Tryz.func360.trans (congrArg some (by kernel_rfl))
 f247:=Tryz.func344.trans (congrArg some (by kernel_rfl))
 f279:=Tryz.func345.trans (congrArg some (by kernel_rfl))
 f280:=Tryz.func346.trans (congrArg some (by kernel_rfl))
 f281:=Tryz.func347.trans (congrArg some (by kernel_rfl))
 f282:=Tryz.func348.trans (congrArg some (by kernel_rfl))
 f283:=Tryz.func364.trans (congrArg some (by kernel_rfl))
 f284:=Tryz.func365.trans (congrArg some (by kernel_rfl))
 f285:=Tryz.func366.trans (congrArg some (by kernel_rfl))
 f286:=Tryz.func367.trans (congrArg some (by kernel_rfl))
 f287:=Tryz.func357.trans (congrArg some (by kernel_rfl))
 f316:=Tryz.func358.trans (congrArg some (by kernel_rfl))
 f317:=Tryz.func368.trans (congrArg some (by kernel_rfl))
 f318:=Tryz.func369.trans (congrArg some (by kernel_rfl))
 f319:=Tryz.func370.trans (congrArg some (by kernel_rfl))
 f320:=Tryz.func371.trans (congrArg some (by kernel_rfl))
 f321:=Tryz.func362.trans (congrArg some (by kernel_rfl))
 f322:=Tryz.func363.trans (congrArg some (by kernel_rfl))
 f337:=Tryz.func372.trans (congrArg some (by kernel_rfl))
 f338:=Tryz.func373.trans (congrArg some (by kernel_rfl))
 t0:=Tryz.underlying0
 a0:=Tryz.isAgg0
 z0:=Tryz.sizeOf0
 v0:=Tryz.zeroValue0
 t2:=Tryz.underlying2
 a2:=Tryz.isAgg2
 z2:=Tryz.sizeOf2
 v2:=Tryz.zeroValue2
 t3:=Tryz.underlying3
 a3:=Tryz.isAgg3
 z3:=Tryz.sizeOf3
 v3:=Tryz.zeroValue3
 t4:=Tryz.underlying4
 a4:=Tryz.isAgg4
 z4:=Tryz.sizeOf4
 v4:=Tryz.zeroValue4
 t5:=Tryz.underlying5
 a5:=Tryz.isAgg5
 z5:=Tryz.sizeOf5
 v5:=Tryz.zeroValue5
 t9:=Tryz.underlying9
 a9:=Tryz.isAgg9
 z9:=Tryz.sizeOf9
 v9:=Tryz.zeroValue9
 t20:=Tryz.underlying20
 a20:=Tryz.isAgg20
 z20:=Tryz.sizeOf20
 v20:=Tryz.zeroValue20
 t21:=Tryz.underlying21
 a21:=Tryz.isAgg21
 z21:=Tryz.sizeOf21
 v21:=Tryz.zeroValue21
 t37:=Tryz.underlying22
 a37:=Tryz.isAgg22
 z37:=Tryz.sizeOf22
 v37:=Tryz.zeroValue22
 t46:=Tryz.underlying241
 a46:=Tryz.isAgg241
 z46:=Tryz.sizeOf241
 v46:=Tryz.zeroValue241
 t51:=Tryz.underlying283
 a51:=Tryz.isAgg283
 z51:=Tryz.sizeOf283
 v51:=Tryz.zeroValue283
 t53:=Tryz.underlying285
 a53:=Tryz.isAgg285
 z53:=Tryz.sizeOf285
 v53:=Tryz.zeroValue285
 t75:=Tryz.underlying271
 a75:=Tryz.isAgg271
 z75:=Tryz.sizeOf271
 v75:=Tryz.zeroValue271
 t76:=Tryz.underlying272
 a76:=Tryz.isAgg272
 z76:=Tryz.sizeOf272
 v76:=Tryz.zeroValue272
 t85:=Tryz.underlying307
 a85:=Tryz.isAgg307
 z85:=Tryz.sizeOf307
 v85:=Tryz.zeroValue307
 t127:=Tryz.underlying327
 a127:=Tryz.isAgg327
 z127:=Tryz.sizeOf327
 v127:=Tryz.zeroValue327
 t143:=Tryz.underlying328
 a143:=Tryz.isAgg328
 z143:=Tryz.sizeOf328
 v143:=Tryz.zeroValue328
 t145:=Tryz.underlying330
 a145:=Tryz.isAgg330
 z145:=Tryz.sizeOf330
 v145:=Tryz.zeroValue330
 t167:=Tryz.underlying306
 a167:=Tryz.isAgg306
 z167:=Tryz.sizeOf306
 v167:=Tryz.zeroValue306
 t168:=Tryz.underlying309
 a168:=Tryz.isAgg309
 z168:=Tryz.sizeOf309
 v168:=Tryz.zeroValue309
 t171:=Tryz.underlying331
 a171:=Tryz.isAgg331
 z171:=Tryz.sizeOf331
 v171:=Tryz.zeroValue331
 t173:=Tryz.underlying333
 a173:=Tryz.isAgg333
 z173:=Tryz.sizeOf333
 v173:=Tryz.zeroValue333
 t175:=Tryz.underlying318
 a175:=Tryz.isAgg318
 z175:=Tryz.sizeOf318
 v175:=Tryz.zeroValue318
 t210:=Tryz.underlying322
 a210:=Tryz.isAgg322
 z210:=Tryz.sizeOf322
 v210:=Tryz.zeroValue322
 t212:=Tryz.underlying337
 a212:=Tryz.isAgg337
 z212:=Tryz.sizeOf337
 v212:=Tryz.zeroValue337
 t213:=Tryz.underlying338
 a213:=Tryz.isAgg338
 z213:=Tryz.sizeOf338
 t232:=Tryz.underlying339
 a232:=Tryz.isAgg339
 z232:=Tryz.sizeOf339
 v232:=Tryz.zeroValue339
 t233:=Tryz.underlying340
 a233:=Tryz.isAgg340
 z233:=Tryz.sizeOf340
 v233:=Tryz.zeroValue340
 g15:=by kernel_rfl
 g16:=by kernel_rfl
 g17:=by kernel_rfl
 g18:=by kernel_rfl
 g19:=by kernel_rfl }
open Go.RowKit in
theorem Tryz.strconv_Atoi (s:ByteArray) (n:Int) (hl:s.size≤18) (h:Lib.atoi s.data.toList=some n) (w:World):
  Calls Tryz.prog 297 #[.string s] w fun e w'=>e=.returned (.tuple #[.int .i64 n,.nilIface])∧∃t,w'=Lib.bytesWorld w 5 t:=Any.strconv_Atoi Tryz.lays172 s n hl h w
def Tryz.laysM171_ren:Go.Shelf.Ren:=⟨fun | 171=>322 | 243=>349 | 246=>360 | 283=>364 | 284=>365 | 285=>366 | 286=>367 | 129=>310 | 317=>368 | 318=>369 | 319=>370 | 320=>371 | 337=>372 | 338=>373 | n=>n,fun | 3=>3 | 9=>9 | 2=>2 | 4=>4 | 171=>331 | 0=>0 | 53=>285 | 37=>22 | 5=>5 | 173=>333 | 212=>337 | 51=>283 | 20=>20 | 213=>338 | 46=>241 | 232=>339 | 233=>340 | n=>n,fun | 17=>3 | 18=>4 | 19=>5 | n=>n⟩
theorem Tryz.laysM171:Go.Proofs.LaysM.n171 Tryz.prog Tryz.laysM171_ren:={
 mixed:=by kernel_rfl
 f129:=Tryz.func310.trans (congrArg some (by kernel_rfl))
 f171:=Tryz.func322.trans (congrArg some (by kernel_rfl))
 f243:=Tryz.func349.trans (congrArg some (by kernel_rfl))
 f246:=Tryz.func360.trans (congrArg some (by kernel_rfl))
 f283:=Tryz.func364.trans (congrArg some (by kernel_rfl))
 f284:=Tryz.func365.trans (congrArg some (by kernel_rfl))
 f285:=Tryz.func366.trans (congrArg some (by kernel_rfl))
 f286:=Tryz.func367.trans (congrArg some (by kernel_rfl))
 f317:=Tryz.func368.trans (congrArg some (by kernel_rfl))
 f318:=Tryz.func369.trans (congrArg some (by kernel_rfl))
 f319:=Tryz.func370.trans (congrArg some (by kernel_rfl))
 f320:=Tryz.func371.trans (congrArg some (by kernel_rfl))
 f337:=Tryz.func372.trans (congrArg some (by kernel_rfl))
 f338:=Tryz.func373.trans (congrArg some (by kernel_rfl))
 t0:=Tryz.underlying0
 a0:=Tryz.isAgg0
 z0:=Tryz.sizeOf0
 v0:=Tryz.zeroValue0
 t2:=Tryz.underlying2
 a2:=Tryz.isAgg2
 z2:=Tryz.sizeOf2
 v2:=Tryz.zeroValue2
 t3:=Tryz.underlying3
 a3:=Tryz.isAgg3
 z3:=Tryz.sizeOf3
 v3:=Tryz.zeroValue3
 t4:=Tryz.underlying4
 a4:=Tryz.isAgg4
 z4:=Tryz.sizeOf4
 v4:=Tryz.zeroValue4
 t5:=Tryz.underlying5
 a5:=Tryz.isAgg5
 z5:=Tryz.sizeOf5
 v5:=Tryz.zeroValue5
 t9:=Tryz.underlying9
 a9:=Tryz.isAgg9
 z9:=Tryz.sizeOf9
 v9:=Tryz.zeroValue9
 t20:=Tryz.underlying20
 a20:=Tryz.isAgg20
 z20:=Tryz.sizeOf20
 v20:=Tryz.zeroValue20
 t37:=Tryz.underlying22
 a37:=Tryz.isAgg22
 z37:=Tryz.sizeOf22
 v37:=Tryz.zeroValue22
 t46:=Tryz.underlying241
 a46:=Tryz.isAgg241
 z46:=Tryz.sizeOf241
 v46:=Tryz.zeroValue241
 t51:=Tryz.underlying283
 a51:=Tryz.isAgg283
 z51:=Tryz.sizeOf283
 v51:=Tryz.zeroValue283
 t53:=Tryz.underlying285
 a53:=Tryz.isAgg285
 z53:=Tryz.sizeOf285
 v53:=Tryz.zeroValue285
 t171:=Tryz.underlying331
 a171:=Tryz.isAgg331
 z171:=Tryz.sizeOf331
 v171:=Tryz.zeroValue331
 t173:=Tryz.underlying333
 a173:=Tryz.isAgg333
 z173:=Tryz.sizeOf333
 v173:=Tryz.zeroValue333
 t212:=Tryz.underlying337
 a212:=Tryz.isAgg337
 z212:=Tryz.sizeOf337
 v212:=Tryz.zeroValue337
 t213:=Tryz.underlying338
 a213:=Tryz.isAgg338
 z213:=Tryz.sizeOf338
 t232:=Tryz.underlying339
 a232:=Tryz.isAgg339
 z232:=Tryz.sizeOf339
 v232:=Tryz.zeroValue339
 t233:=Tryz.underlying340
 a233:=Tryz.isAgg340
 z233:=Tryz.sizeOf340
 v233:=Tryz.zeroValue340
 g17:=by kernel_rfl
 g18:=by kernel_rfl
 g19:=by kernel_rfl
 i0:=by kernel_rfl
 i2:=by kernel_rfl
 i3:=by kernel_rfl
 i4:=by kernel_rfl
 i5:=by kernel_rfl
 i9:=by kernel_rfl
 i20:=by kernel_rfl
 i37:=by kernel_rfl
 i46:=by kernel_rfl
 i51:=by kernel_rfl
 i53:=by kernel_rfl
 i171:=by kernel_rfl
 i173:=by kernel_rfl
 i212:=by kernel_rfl
 i232:=by kernel_rfl
 i233:=by kernel_rfl
 m17:=by kernel_rfl
 m18:=by kernel_rfl
 m19:=by kernel_rfl }
open Go.RowKit Go.Sort Go.Lib in
theorem Tryz.strconv_Itoa (n : Int) (h0 : -9223372036854775808 ≤ n) (h1 : n ≤ 9223372036854775807) (w : World) (htab : Lib.TabIs Tryz.prog w "internal/strconv.uint64pow10" .u64 Lib.pow10Tab) :
  Calls Tryz.prog 322 #[.int .i64 n] w fun e w'=>e=.returned (.string ⟨(Lib.itoa n).toArray⟩)∧∃k os,w'=grow (w.drewN k) os:=Any.strconv_Itoa Tryz.laysM171 n h0 h1 w htab
def Tryz.laysC172_ren:Go.Shelf.Ren:=⟨fun | 172=>297 | 244=>320 | 245=>321 | 247=>344 | 279=>345 | 280=>346 | 281=>347 | 282=>348 | 287=>357 | 316=>358 | 171=>322 | 205=>359 | 321=>362 | 322=>363 | 243=>349 | 246=>360 | 283=>364 | 284=>365 | 285=>366 | 286=>367 | 129=>310 | 317=>368 | 318=>369 | 319=>370 | 320=>371 | 337=>372 | 338=>373 | n=>n,fun | 9=>9 | 3=>3 | 75=>271 | 76=>272 | 4=>4 | 5=>5 | 167=>306 | 37=>22 | 0=>0 | 85=>307 | 2=>2 | 168=>309 | 53=>285 | 175=>318 | 46=>241 | 210=>322 | 127=>327 | 145=>330 | 143=>328 | 21=>21 | 171=>331 | 173=>333 | 212=>337 | 51=>283 | 20=>20 | 213=>338 | 232=>339 | 233=>340 | 80=>341 | n=>n,fun | 15=>1 | 16=>2 | 17=>3 | 18=>4 | 19=>5 | n=>n⟩
theorem Tryz.laysC172:Go.Proofs.LaysC.n172 Tryz.prog Tryz.laysC172_ren:={
 mixed:=by kernel_rfl
 f129:=Tryz.func310.trans (congrArg some (by kernel_rfl))
 f171:=Tryz.func322.trans (congrArg some (by kernel_rfl))
 f172:=Tryz.func297.trans (congrArg some (by kernel_rfl))
 f205:=Tryz.func359.trans (congrArg some (by kernel_rfl))
 f243:=Tryz.func349.trans (congrArg some (by kernel_rfl))
 f244:=Tryz.func320.trans (congrArg some (by kernel_rfl))
 f245:=Tryz.func321.trans (congrArg some (by kernel_rfl))
 f246:=Tryz.func360.trans (congrArg some (by kernel_rfl))
 f247:=Tryz.func344.trans (congrArg some (by kernel_rfl))
 f279:=Tryz.func345.trans (congrArg some (by kernel_rfl))
 f280:=Tryz.func346.trans (congrArg some (by kernel_rfl))
 f281:=Tryz.func347.trans (congrArg some (by kernel_rfl))
 f282:=Tryz.func348.trans (congrArg some (by kernel_rfl))
 f283:=Tryz.func364.trans (congrArg some (by kernel_rfl))
 f284:=Tryz.func365.trans (congrArg some (by kernel_rfl))
 f285:=Tryz.func366.trans (congrArg some (by kernel_rfl))
 f286:=Tryz.func367.trans (congrArg some (by kernel_rfl))
 f287:=Tryz.func357.trans (congrArg some (by kernel_rfl))
 f316:=Tryz.func358.trans (congrArg some (by kernel_rfl))
 f317:=Tryz.func368.trans (congrArg some (by kernel_rfl))
 f318:=Tryz.func369.trans (congrArg some (by kernel_rfl))
 f319:=Tryz.func370.trans (congrArg some (by kernel_rfl))
 f320:=Tryz.func371.trans (congrArg some (by kernel_rfl))
 f321:=Tryz.func362.trans (congrArg some (by kernel_rfl))
 f322:=Tryz.func363.trans (congrArg some (by kernel_rfl))
 f337:=Tryz.func372.trans (congrArg some (by kernel_rfl))
 f338:=Tryz.func373.trans (congrArg some (by kernel_rfl))
 t0:=Tryz.underlying0
 a0:=Tryz.isAgg0
 z0:=Tryz.sizeOf0
 v0:=Tryz.zeroValue0
 t2:=Tryz.underlying2
 a2:=Tryz.isAgg2
 z2:=Tryz.sizeOf2
 v2:=Tryz.zeroValue2
 t3:=Tryz.underlying3
 a3:=Tryz.isAgg3
 z3:=Tryz.sizeOf3
 v3:=Tryz.zeroValue3
 t4:=Tryz.underlying4
 a4:=Tryz.isAgg4
 z4:=Tryz.sizeOf4
 v4:=Tryz.zeroValue4
 t5:=Tryz.underlying5
 a5:=Tryz.isAgg5
 z5:=Tryz.sizeOf5
 v5:=Tryz.zeroValue5
 t9:=Tryz.underlying9
 a9:=Tryz.isAgg9
 z9:=Tryz.sizeOf9
 v9:=Tryz.zeroValue9
 t20:=Tryz.underlying20
 a20:=Tryz.isAgg20
 z20:=Tryz.sizeOf20
 v20:=Tryz.zeroValue20
 t21:=Tryz.underlying21
 a21:=Tryz.isAgg21
 z21:=Tryz.sizeOf21
 v21:=Tryz.zeroValue21
 t37:=Tryz.underlying22
 a37:=Tryz.isAgg22
 z37:=Tryz.sizeOf22
 v37:=Tryz.zeroValue22
 t46:=Tryz.underlying241
 a46:=Tryz.isAgg241
 z46:=Tryz.sizeOf241
 v46:=Tryz.zeroValue241
 t51:=Tryz.underlying283
 a51:=Tryz.isAgg283
 z51:=Tryz.sizeOf283
 v51:=Tryz.zeroValue283
 t53:=Tryz.underlying285
 a53:=Tryz.isAgg285
 z53:=Tryz.sizeOf285
 v53:=Tryz.zeroValue285
 t75:=Tryz.underlying271
 a75:=Tryz.isAgg271
 z75:=Tryz.sizeOf271
 v75:=Tryz.zeroValue271
 t76:=Tryz.underlying272
 a76:=Tryz.isAgg272
 z76:=Tryz.sizeOf272
 v76:=Tryz.zeroValue272
 t85:=Tryz.underlying307
 a85:=Tryz.isAgg307
 z85:=Tryz.sizeOf307
 v85:=Tryz.zeroValue307
 t127:=Tryz.underlying327
 a127:=Tryz.isAgg327
 z127:=Tryz.sizeOf327
 v127:=Tryz.zeroValue327
 t143:=Tryz.underlying328
 a143:=Tryz.isAgg328
 z143:=Tryz.sizeOf328
 v143:=Tryz.zeroValue328
 t145:=Tryz.underlying330
 a145:=Tryz.isAgg330
 z145:=Tryz.sizeOf330
 v145:=Tryz.zeroValue330
 t167:=Tryz.underlying306
 a167:=Tryz.isAgg306
 z167:=Tryz.sizeOf306
 v167:=Tryz.zeroValue306
 t168:=Tryz.underlying309
 a168:=Tryz.isAgg309
 z168:=Tryz.sizeOf309
 v168:=Tryz.zeroValue309
 t171:=Tryz.underlying331
 a171:=Tryz.isAgg331
 z171:=Tryz.sizeOf331
 v171:=Tryz.zeroValue331
 t173:=Tryz.underlying333
 a173:=Tryz.isAgg333
 z173:=Tryz.sizeOf333
 v173:=Tryz.zeroValue333
 t175:=Tryz.underlying318
 a175:=Tryz.isAgg318
 z175:=Tryz.sizeOf318
 v175:=Tryz.zeroValue318
 t210:=Tryz.underlying322
 a210:=Tryz.isAgg322
 z210:=Tryz.sizeOf322
 v210:=Tryz.zeroValue322
 t212:=Tryz.underlying337
 a212:=Tryz.isAgg337
 z212:=Tryz.sizeOf337
 v212:=Tryz.zeroValue337
 t213:=Tryz.underlying338
 a213:=Tryz.isAgg338
 z213:=Tryz.sizeOf338
 t232:=Tryz.underlying339
 a232:=Tryz.isAgg339
 z232:=Tryz.sizeOf339
 v232:=Tryz.zeroValue339
 t233:=Tryz.underlying340
 a233:=Tryz.isAgg340
 z233:=Tryz.sizeOf340
 v233:=Tryz.zeroValue340
 g15:=by kernel_rfl
 g16:=by kernel_rfl
 g17:=by kernel_rfl
 g18:=by kernel_rfl
 g19:=by kernel_rfl
 t80:=Tryz.underlying341
 a80:=Tryz.isAgg341
 z80:=Tryz.sizeOf341
 v80:=Tryz.zeroValue341
 i0:=by kernel_rfl
 i2:=by kernel_rfl
 i3:=by kernel_rfl
 i4:=by kernel_rfl
 i5:=by kernel_rfl
 i9:=by kernel_rfl
 i20:=by kernel_rfl
 i21:=by kernel_rfl
 i37:=by kernel_rfl
 i46:=by kernel_rfl
 i51:=by kernel_rfl
 i53:=by kernel_rfl
 i75:=by kernel_rfl
 i76:=by kernel_rfl
 i80:=by kernel_rfl
 i85:=by kernel_rfl
 i127:=by kernel_rfl
 i143:=by kernel_rfl
 i145:=by kernel_rfl
 i167:=by kernel_rfl
 i168:=by kernel_rfl
 i171:=by kernel_rfl
 i173:=by kernel_rfl
 i175:=by kernel_rfl
 i210:=by kernel_rfl
 i212:=by kernel_rfl
 i232:=by kernel_rfl
 i233:=by kernel_rfl
 m15:=by kernel_rfl
 m16:=by kernel_rfl
 m17:=by kernel_rfl
 m18:=by kernel_rfl
 m19:=by kernel_rfl
 c0:=by kernel_rfl
 c2:=by kernel_rfl
 c3:=by kernel_rfl
 c4:=by kernel_rfl
 c5:=by kernel_rfl
 c9:=by kernel_rfl
 c20:=by kernel_rfl
 c21:=by kernel_rfl
 c37:=by kernel_rfl
 c46:=by kernel_rfl
 c51:=by kernel_rfl
 c53:=by kernel_rfl
 c75:=by kernel_rfl
 c76:=by kernel_rfl
 c80:=by kernel_rfl
 c85:=by kernel_rfl
 c127:=by kernel_rfl
 c143:=by kernel_rfl
 c145:=by kernel_rfl
 c167:=by kernel_rfl
 c168:=by kernel_rfl
 c171:=by kernel_rfl
 c173:=by kernel_rfl
 c175:=by kernel_rfl
 c210:=by kernel_rfl
 c212:=by kernel_rfl
 c213:=by kernel_rfl
 c232:=by kernel_rfl
 c233:=by kernel_rfl }
open Go.RowKit in
theorem Tryz.strconv_Atoi_err_var (s : ByteArray) (hl : s.size ≤ 18) (h : Lib.atoi s.data.toList = none) (tp : TypeId) (p : Value) (w : World) (hvar : w.var? Tryz.prog "strconv.ErrSyntax" = some #[.iface tp p]) :
  Calls Tryz.prog 297 #[.string s] w fun e w'=>∃N,e=.returned (.tuple #[.int .i64 0,.iface 309 (.pointer (some ⟨N,0,none⟩))])∧w.heap.size≤N∧w'.heap[N]?=some (.cells #[.string ⟨#[65,116,111,105]⟩,.string s,.iface tp p] 322 (0,0))∧Below w.heap.size w w':=Any.strconv_Atoi_err_var Tryz.laysC172 s hl h tp p w hvar
def Tryz.lays191_ren:Go.Shelf.Ren:=⟨fun | 191=>164 | 189=>230 | 125=>274 | 257=>273 | 128=>309 | 129=>310 | 294=>300 | 295=>301 | 296=>302 | 297=>303 | 298=>304 | 299=>305 | 216=>306 | 300=>307 | 301=>308 | 328=>332 | 329=>333 | 330=>334 | 331=>335 | 332=>336 | 215=>337 | 343=>354 | n=>n,fun | 28=>65 | 0=>0 | 3=>3 | 46=>241 | 51=>283 | 53=>285 | 4=>4 | 183=>277 | 182=>276 | 131=>167 | 5=>5 | 9=>9 | 218=>297 | 222=>301 | 228=>314 | 229=>315 | n=>n,fun | n=>n⟩
theorem Tryz.lays191:Go.Proofs.Lays.n191 Tryz.prog Tryz.lays191_ren:={
 mixed:=by kernel_rfl
 f125:=Tryz.func274.trans (congrArg some (by kernel_rfl))
 f128:=Tryz.func309.trans (congrArg some (by kernel_rfl))
 f129:=Tryz.func310.trans (congrArg some (by kernel_rfl))
 f189:=Tryz.func230.trans (congrArg some (by kernel_rfl))
 f191:=Tryz.func164.trans (congrArg some (by kernel_rfl))
 f215:=Tryz.func337.trans (congrArg some (by kernel_rfl))
 f216:=Tryz.func306.trans (congrArg some (by kernel_rfl))
 f257:=Tryz.func273.trans (congrArg some (by kernel_rfl))
 f294:=Tryz.func300.trans (congrArg some (by kernel_rfl))
 f295:=Tryz.func301.trans (congrArg some (by kernel_rfl))
 f296:=Tryz.func302.trans (congrArg some (by kernel_rfl))
 f297:=Tryz.func303.trans (congrArg some (by kernel_rfl))
 f298:=Tryz.func304.trans (congrArg some (by kernel_rfl))
 f299:=Tryz.func305.trans (congrArg some (by kernel_rfl))
 f300:=Tryz.func307.trans (congrArg some (by kernel_rfl))
 f301:=Tryz.func308.trans (congrArg some (by kernel_rfl))
 f328:=Tryz.func332.trans (congrArg some (by kernel_rfl))
 f329:=Tryz.func333.trans (congrArg some (by kernel_rfl))
 f330:=Tryz.func334.trans (congrArg some (by kernel_rfl))
 f331:=Tryz.func335.trans (congrArg some (by kernel_rfl))
 f332:=Tryz.func336.trans (congrArg some (by kernel_rfl))
 f343:=Tryz.func354.trans (congrArg some (by kernel_rfl))
 t0:=Tryz.underlying0
 a0:=Tryz.isAgg0
 z0:=Tryz.sizeOf0
 v0:=Tryz.zeroValue0
 t3:=Tryz.underlying3
 a3:=Tryz.isAgg3
 z3:=Tryz.sizeOf3
 v3:=Tryz.zeroValue3
 t4:=Tryz.underlying4
 a4:=Tryz.isAgg4
 z4:=Tryz.sizeOf4
 v4:=Tryz.zeroValue4
 t5:=Tryz.underlying5
 a5:=Tryz.isAgg5
 z5:=Tryz.sizeOf5
 v5:=Tryz.zeroValue5
 t9:=Tryz.underlying9
 a9:=Tryz.isAgg9
 z9:=Tryz.sizeOf9
 v9:=Tryz.zeroValue9
 t28:=Tryz.underlying65
 a28:=Tryz.isAgg65
 z28:=Tryz.sizeOf65
 v28:=Tryz.zeroValue65
 t46:=Tryz.underlying241
 a46:=Tryz.isAgg241
 z46:=Tryz.sizeOf241
 v46:=Tryz.zeroValue241
 t51:=Tryz.underlying283
 a51:=Tryz.isAgg283
 z51:=Tryz.sizeOf283
 v51:=Tryz.zeroValue283
 t53:=Tryz.underlying285
 a53:=Tryz.isAgg285
 z53:=Tryz.sizeOf285
 v53:=Tryz.zeroValue285
 t131:=Tryz.underlying167
 a131:=Tryz.isAgg167
 z131:=Tryz.sizeOf167
 v131:=Tryz.zeroValue167
 t182:=Tryz.underlying276
 a182:=Tryz.isAgg276
 z182:=Tryz.sizeOf276
 v182:=Tryz.zeroValue276
 t183:=Tryz.underlying277
 a183:=Tryz.isAgg277
 z183:=Tryz.sizeOf277
 v183:=Tryz.zeroValue277
 t218:=Tryz.underlying297
 a218:=Tryz.isAgg297
 z218:=Tryz.sizeOf297
 v218:=Tryz.zeroValue297
 t222:=Tryz.underlying301
 a222:=Tryz.isAgg301
 z222:=Tryz.sizeOf301
 v222:=Tryz.zeroValue301
 t228:=Tryz.underlying314
 a228:=Tryz.isAgg314
 z228:=Tryz.sizeOf314
 v228:=Tryz.zeroValue314
 t229:=Tryz.underlying315
 a229:=Tryz.isAgg315
 z229:=Tryz.sizeOf315
 v229:=Tryz.zeroValue315 }
open Go.Sort Go.RowKit in
theorem Tryz.sort_Ints (blk off cap:Nat) (zs:List Int) (w:World) (hH:Holds (Value.int .i64) w blk off zs.toArray) (hblk:blk<w.heap.size) (hsz:zs.length<4611686018427387904):
  Calls Tryz.prog 164 #[.slice (some ⟨blk,off,none⟩) zs.length cap] w fun e w'=>
   e=.returned (.tuple #[])∧∃n os,w'=grow (putRow (Value.int .i64) (Sort.ahead w n) blk off (zs.mergeSort fun x y=>decide (x≤y)).toArray) os:=Any.sort_Ints Tryz.lays191 blk off cap zs w hH hblk hsz
def Tryz.lays192_ren:Go.Shelf.Ren:=⟨fun | 192=>210 | 190=>267 | 125=>274 | 258=>299 | 128=>309 | 129=>310 | 302=>323 | 303=>324 | 304=>325 | 305=>326 | 306=>327 | 307=>328 | 308=>329 | 309=>330 | 310=>331 | 333=>350 | 329=>333 | 330=>334 | 334=>351 | 335=>352 | 336=>353 | 344=>361 | n=>n,fun | 31=>43 | 0=>0 | 9=>9 | 3=>3 | 46=>241 | 51=>283 | 53=>285 | 4=>4 | 183=>277 | 182=>276 | 131=>167 | 5=>5 | 218=>297 | 222=>301 | 228=>314 | 229=>315 | n=>n,fun | n=>n⟩
theorem Tryz.lays192:Go.Proofs.Lays.n192 Tryz.prog Tryz.lays192_ren:={
 mixed:=by kernel_rfl
 f125:=Tryz.func274.trans (congrArg some (by kernel_rfl))
 f128:=Tryz.func309.trans (congrArg some (by kernel_rfl))
 f129:=Tryz.func310.trans (congrArg some (by kernel_rfl))
 f190:=Tryz.func267.trans (congrArg some (by kernel_rfl))
 f192:=Tryz.func210.trans (congrArg some (by kernel_rfl))
 f258:=Tryz.func299.trans (congrArg some (by kernel_rfl))
 f302:=Tryz.func323.trans (congrArg some (by kernel_rfl))
 f303:=Tryz.func324.trans (congrArg some (by kernel_rfl))
 f304:=Tryz.func325.trans (congrArg some (by kernel_rfl))
 f305:=Tryz.func326.trans (congrArg some (by kernel_rfl))
 f306:=Tryz.func327.trans (congrArg some (by kernel_rfl))
 f307:=Tryz.func328.trans (congrArg some (by kernel_rfl))
 f308:=Tryz.func329.trans (congrArg some (by kernel_rfl))
 f309:=Tryz.func330.trans (congrArg some (by kernel_rfl))
 f310:=Tryz.func331.trans (congrArg some (by kernel_rfl))
 f329:=Tryz.func333.trans (congrArg some (by kernel_rfl))
 f330:=Tryz.func334.trans (congrArg some (by kernel_rfl))
 f333:=Tryz.func350.trans (congrArg some (by kernel_rfl))
 f334:=Tryz.func351.trans (congrArg some (by kernel_rfl))
 f335:=Tryz.func352.trans (congrArg some (by kernel_rfl))
 f336:=Tryz.func353.trans (congrArg some (by kernel_rfl))
 f344:=Tryz.func361.trans (congrArg some (by kernel_rfl))
 t0:=Tryz.underlying0
 a0:=Tryz.isAgg0
 z0:=Tryz.sizeOf0
 v0:=Tryz.zeroValue0
 t3:=Tryz.underlying3
 a3:=Tryz.isAgg3
 z3:=Tryz.sizeOf3
 v3:=Tryz.zeroValue3
 t4:=Tryz.underlying4
 a4:=Tryz.isAgg4
 z4:=Tryz.sizeOf4
 v4:=Tryz.zeroValue4
 t5:=Tryz.underlying5
 a5:=Tryz.isAgg5
 z5:=Tryz.sizeOf5
 v5:=Tryz.zeroValue5
 t9:=Tryz.underlying9
 a9:=Tryz.isAgg9
 z9:=Tryz.sizeOf9
 v9:=Tryz.zeroValue9
 t31:=Tryz.underlying43
 a31:=Tryz.isAgg43
 z31:=Tryz.sizeOf43
 v31:=Tryz.zeroValue43
 t46:=Tryz.underlying241
 a46:=Tryz.isAgg241
 z46:=Tryz.sizeOf241
 v46:=Tryz.zeroValue241
 t51:=Tryz.underlying283
 a51:=Tryz.isAgg283
 z51:=Tryz.sizeOf283
 v51:=Tryz.zeroValue283
 t53:=Tryz.underlying285
 a53:=Tryz.isAgg285
 z53:=Tryz.sizeOf285
 v53:=Tryz.zeroValue285
 t131:=Tryz.underlying167
 a131:=Tryz.isAgg167
 z131:=Tryz.sizeOf167
 v131:=Tryz.zeroValue167
 t182:=Tryz.underlying276
 a182:=Tryz.isAgg276
 z182:=Tryz.sizeOf276
 v182:=Tryz.zeroValue276
 t183:=Tryz.underlying277
 a183:=Tryz.isAgg277
 z183:=Tryz.sizeOf277
 v183:=Tryz.zeroValue277
 t218:=Tryz.underlying297
 a218:=Tryz.isAgg297
 z218:=Tryz.sizeOf297
 v218:=Tryz.zeroValue297
 t222:=Tryz.underlying301
 a222:=Tryz.isAgg301
 z222:=Tryz.sizeOf301
 v222:=Tryz.zeroValue301
 t228:=Tryz.underlying314
 a228:=Tryz.isAgg314
 z228:=Tryz.sizeOf314
 v228:=Tryz.zeroValue314
 t229:=Tryz.underlying315
 a229:=Tryz.isAgg315
 z229:=Tryz.sizeOf315
 v229:=Tryz.zeroValue315 }
open Go.Sort Go.RowKit in
theorem Tryz.sort_Strings (blk off cap:Nat) (ss:List (List UInt8)) (w:World) (hH:Holds encStr w blk off ss.toArray) (hblk:blk<w.heap.size) (hsz:ss.length<4611686018427387904):
  Calls Tryz.prog 210 #[.slice (some ⟨blk,off,none⟩) ss.length cap] w fun e w'=>
   e=.returned (.tuple #[])∧∃n os,w'=grow (putRow encStr (Sort.ahead w n) blk off (ss.mergeSort fun x y=>decide (x≤y)).toArray) os:=Any.sort_Strings Tryz.lays192 blk off cap ss w hH hblk hsz
open Go.RowKit Go.Sort in
theorem Tryz.sort_Strings_none (p:Option Addr) (cap:Nat) (w:World):
  Calls Tryz.prog 210 #[.slice p 0 cap] w fun e w'=>e=.returned (.tuple #[])∧w'=w:=Any.sort_Strings_none Tryz.lays192 p cap w
open Go.RowKit Go.Sort in
theorem Tryz.sort_Ints_none (p:Option Addr) (cap:Nat) (w:World):
  Calls Tryz.prog 164 #[.slice p 0 cap] w fun e w'=>e=.returned (.tuple #[])∧w'=w:=Any.sort_Ints_none Tryz.lays191 p cap w
end Go.Proofs
namespace Go.Proofs.YtfehfkfdfmcgfaaGreatDoor
open Go.RowKit Go.Sort
theorem Zn6 {α:Type} [Inhabited α] {P:Program} {J:World→Prop} {JF:Nat→Prop} (enc:α→Value) (el:α→List CT) (hel:∀(w:World) x v L,RCs w (el x) v L→v=[enc x]) (hmv:∀(w w':World) x,RCs w (el x) [enc x] []→RCs w' (el x) [enc x] []) (hflat:∀l:List α,ZaN (l.map el)=true) {f:FuncId} {e:TypeId} {zs d:List α} (hc:ZdV P f) (hd:d.length=zs.length) (hsub:∀x∈d,x∈zs)
  (hN:∀p cap w,Calls P f #[.slice p 0 cap] w fun e w'=>e=.returned (.tuple #[])∧w'=w)
  (hC:∀blk off cap w,Holds enc w blk off zs.toArray→blk<w.heap.size→Calls P f #[.slice (some ⟨blk,off,none⟩) zs.length cap] w fun e w'=>e=.returned (.tuple #[])∧∃n os,w'=grow (putRow enc (Sort.ahead w n) blk off d.toArray) os):
  Zbx P J JF f (.row e 1 (zs.map el)) [] [] (.row e 1 (d.map el)):=by
 refine ⟨hc,fun w z q v0 vs hj hqf hz hh ha=>?_⟩
 cases vs with
 | cons _ _=>exact ha.elim
 | nil=>
 obtain ⟨hfl,hm,hq,cs,hown,hre⟩:=hh
 have hcs:∀(l:List α) (cs:List Value) (L:List Nat),REs w 1 (l.map el) cs L→cs=l.map enc∧(L=[]→∀x∈l,RCs w (el x) [enc x] []):=by
  intro l
  induction l with
  | nil=>intro cs L h;exact ⟨h.1,fun _ x mx=>by simp at mx⟩
  | cons x l ih=>
   rintro cs L ⟨c1,c2,L1,L2,rfl,rfl,h3,h4⟩
   obtain ⟨i1,i2⟩:=ih _ _ h4
   have e1:=hel _ _ _ _ h3.1
   refine ⟨by rw [e1,i1];rfl,fun hL y my=>?_⟩
   obtain ⟨l1,l2⟩:=List.append_eq_nil_iff.1 hL
   rcases List.mem_cons.1 my with rfl | my
   ·rw [←e1,←l1];exact h3.1
   ·exact i2 l2 y my
 obtain ⟨e1,e2⟩:=hcs zs cs [] hre
 have e2:=e2 rfl
 subst e1
 have hre':∀(w':World) (l:List α),(∀x∈l,x∈zs)→REs w' 1 (l.map el) (l.map enc) []:=by
  intro w' l
  induction l with
  | nil=>intro _;exact ⟨rfl,rfl⟩
  | cons x l ih=>intro hl;exact ⟨[enc x],l.map enc,[],[],rfl,rfl,⟨hmv w w' x (e2 x (hl x (by simp))),rfl⟩,ih fun y my=>hl y (by simp [my])⟩
 have hzl:(zs.map el).length=zs.length:=by simp
 rw [hzl] at hown
 have done:∀w':World,w'.os=w.os→w'.tape=w.tape→w'.output=w.output→w.heap.size≤w'.heap.size→(∀k,k<w.heap.size→¬q=some k→w'.heap[k]?=w.heap[k]?)→w'.ownsV 0 e 1 v0 d.length (d.map enc)→∃v n,Ending.returned (.tuple #[])=.returned v∧ZjD w' w.heap.size n [] v∧(∀b,inQ z q b→n b)∧ZnA w' n q (.row e 1 (d.map el)) v0∧Zzh q w w':=
  fun w' h1 h2 h3 h4 h5 h6=>⟨_,inQ z q,rfl,⟨[],[],⟨rfl,rfl⟩,Own.nil _ _,rfl⟩,fun _ h=>h,⟨hflat d,by omega,hq,d.map enc,by simpa using h6,hre' w' d hsub⟩,⟨h1,h2,h3,h4,h5⟩⟩
 rcases Nat.eq_zero_or_pos zs.length with h0 | h0
 ·have hz0:zs=[]:=List.eq_nil_of_length_eq_zero h0
  have hd0:d=[]:=List.eq_nil_of_length_eq_zero (hd.trans h0)
  obtain ⟨A,cap,hv⟩:=Zax hown
  rw [h0] at hv
  subst hv
  refine (hN A cap w).mono ?_
  rintro e' w' ⟨rfl,rfl⟩
  exact done w' rfl rfl rfl (Nat.le_refl _) (fun _ _ _=>rfl) (by rw [hd0];rw [hz0] at hown;exact hown)
 ·rcases hown.2 with ⟨h',hl0⟩ | ⟨g,o,cap,cur,h',hb,hg,hnc,hcm,hcsz,htake⟩
  ·omega
  ·subst h'
   have hlt:g<w.heap.size:=(Array.getElem?_eq_some_iff.1 hg).1
   have hcur:∀j,j<zs.length→cur[o+j]?=some (enc zs[j]!):=fun j hj=>by
    have:=congrArg (fun l=>l[j]?) htake
    simp only [Nat.mul_one,List.getElem?_take,hj,if_true,List.getElem?_drop,Array.getElem?_toList,List.getElem?_map] at this
    rw [this]
    simp [List.getElem!_eq_getElem?_getD,hj]
   refine (hC g o cap w (fun j hj=>?_) hlt).mono ?_
   ·have hj':j<zs.length:=by simpa using hj
    refine ⟨?_,by simp [World.frozen?,hg]⟩
    simp only [World.cell?,hg,Option.isSome_none,Bool.false_eq_true,if_false]
    rw [hcur j hj']
    simp [hj']
   ·rintro e' w' ⟨rfl,n,os,rfl⟩
    have hh:(putRow enc (Sort.ahead w n) g o d.toArray).heap[g]?=some (.cells (putCells enc o d.toArray cur) e (0,0)):=by
     simp only [putRow,mapBlock,heap_ahead,Array.getElem?_modify,if_true,hg,Option.map_some,onCells]
    refine done _ rfl rfl rfl (by simp) (fun k hk hqk=>?_) ⟨by simp,.inr ⟨g,o,cap,putCells enc o d.toArray cur,by rw [hd],by omega,?_,by omega,hcm,by simpa [putCells] using hcsz,?_⟩⟩
    ·rw [heap_grow_old _ _ (by simpa using hk)]
     simp only [putRow,mapBlock,heap_ahead,Array.getElem?_modify]
     rw [if_neg (fun e=>hqk (by rw [←hq];simp [Value.ownBlock,e]))]
    ·rw [heap_grow_old _ _ (by simpa using hlt)];exact hh
    ·apply List.ext_getElem?
     intro j
     simp only [Nat.mul_one,List.getElem?_take,List.getElem?_drop,List.getElem?_map,Array.getElem?_toList,putCells,Array.getElem?_mapIdx,List.size_toArray]
     by_cases hj:j<d.length
     ·have hjc:o+j<cur.size:=by omega
      simp [hj,hjc]
     ·simp [hj]
end Go.Proofs.YtfehfkfdfmcgfaaGreatDoor
namespace Go.Proofs.YtfehfkfdfmcgfaaGreatDoor
open Go.RowKit Go.Sort
theorem ZsM {J:World→Prop} {JF:Nat→Prop} {l r:List Int} (h:ZfG l=some r):Zbx Tryz.prog J JF 164 (.row 3 1 (l.map ZI)) [] [] (.row 3 1 (r.map ZI)):=by
 obtain ⟨h1,h2⟩:=Zq h
 obtain rfl:=Option.some.inj h2
 refine Zn6 (Value.int .i64) ZI (fun w x v L h=>?_) (fun w w' x h=>h) ZnX ⟨Tryz.f164,Tryz.func164,by kernel_rfl,by kernel_rfl⟩ (by simp [Zkx]) (fun x hx=>by simpa [Zkx] using hx) (fun p cap w=>Tryz.sort_Ints_none p cap w) (fun blk off cap w hH hb=>Tryz.sort_Ints blk off cap l w hH hb (by omega))
 obtain ⟨u,vs,L1,L2,rfl,rfl,q1,rfl,rfl⟩:=h
 rw [q1.1]
end Go.Proofs.YtfehfkfdfmcgfaaGreatDoor
namespace Go.Proofs.YtfehfkfdfmcgfaaGreatDoor
open Go.RowKit
theorem Zul {J:World→Prop} {a b:ByteArray} {r:Int} (h:ZeP a b=some r):Zk Tryz.prog J 203 [(false,[.str a]),(false,[.str b])] [(false,[(false,.int .i64 r)])]:=by
 obtain rfl:=Option.some.inj h
 refine ⟨⟨Tryz.f203,Tryz.func203,by kernel_rfl,by kernel_rfl⟩,fun w z vs hj hz hargs=>?_⟩
 obtain ⟨v,u,L,M,rfl,⟨rfl,_⟩,rfl,_⟩:=Zwg hargs
 refine (Tryz.strings_Compare a b w).mono ?_
 rintro e w' ⟨rfl,rfl⟩
 exact ⟨_,z,rfl,ZqW ⟨⟨rfl,rfl⟩,rfl⟩,fun b h=>h,Below.refl _ _⟩
end Go.Proofs.YtfehfkfdfmcgfaaGreatDoor
namespace Go.Proofs.YtfehfkfdfmcgfaaGreatDoor
open Go.RowKit Go.Sort
theorem ZmW {J:World→Prop} {JF:Nat→Prop} {l r:List ByteArray} (h:Zcb l=some r):Zbx Tryz.prog J JF 210 (.row 9 1 (l.map Zx)) [] [] (.row 9 1 (r.map Zx)):=by
 obtain ⟨h1,h2⟩:=Zq h
 obtain rfl:=Option.some.inj h2
 have e1:l.map Zx=(l.map toL).map fun x=>Zx (ofL x):=by rw [List.map_map];exact List.map_congr_left fun x _=>by simp [ZiP]
 have e2:(Ze2 l).map Zx=((l.map toL).mergeSort fun x y=>decide (x≤y)).map fun x=>Zx (ofL x):=by simp [Ze2,List.map_map,Function.comp_def]
 rw [e1,e2]
 refine Zn6 encStr (fun x=>Zx (ofL x)) (fun w x v L h=>?_) (fun w w' x h=>h) (fun l=>ZbO (fun _=>rfl) l) ⟨Tryz.f210,Tryz.func210,by kernel_rfl,by kernel_rfl⟩ (by simp) (fun x hx=>by simpa using hx) (fun p cap w=>Tryz.sort_Strings_none p cap w) (fun blk off cap w hH hb=>Tryz.sort_Strings blk off cap (l.map toL) w hH hb (by simp;omega))
 obtain ⟨u,vs,L1,L2,rfl,rfl,q1,rfl,rfl⟩:=h
 rw [q1.1]
 rfl
end Go.Proofs.YtfehfkfdfmcgfaaGreatDoor
namespace Go.Proofs.YtfehfkfdfmcgfaaGreatDoor
open Go.RowKit
theorem ZyE {J : World → Prop} (hJ : ∀ w, J w → ∃ tp p, w.var? Tryz.prog "strconv.ErrSyntax" = some #[.iface tp p]) {s : ByteArray} {r : Int × Bool} (h : Zl4 s = some r) : Zk Tryz.prog J 297 [(false, [.str s])] [(false, [(false, .int .i64 r.1)]), (false, [(false, .ifc r.2)])] := by
 obtain ⟨h1,h2⟩:=Zq h
 refine ⟨⟨Tryz.f297,Tryz.func297,by kernel_rfl,by kernel_rfl⟩,fun w z vs hj hz hargs=>?_⟩
 obtain ⟨v,L,rfl,rfl,_⟩:=Zmc hargs
 cases ha:Lib.atoi (toL s) with
 | some n=>
  rw [ha] at h2
  obtain rfl:=Option.some.inj h2
  refine (Tryz.strconv_Atoi s n h1 ha w).mono ?_
  rintro e w' ⟨rfl,t,rfl⟩
  exact ⟨_,z,rfl,ZpQ ⟨⟨rfl,rfl⟩,rfl⟩ ⟨⟨rfl,rfl,rfl⟩,rfl⟩,fun b h=>h,Lib.bytesWorld_below _ _ _⟩
 | none=>
  rw [ha] at h2
  obtain rfl:=Option.some.inj h2
  obtain ⟨tp,p,hv⟩:=hJ w hj
  refine (Tryz.strconv_Atoi_err_var s h1 ha tp p w hv).mono ?_
  rintro e w' ⟨N,rfl,_,_,hb⟩
  exact ⟨_,z,rfl,ZpQ ⟨⟨rfl,rfl⟩,rfl⟩ ⟨⟨rfl,rfl,_,_,rfl⟩,rfl⟩,fun b h=>h,hb⟩
end Go.Proofs.YtfehfkfdfmcgfaaGreatDoor
namespace Go.Proofs.YtfehfkfdfmcgfaaGreatDoor
open Go.RowKit Go.Sort Go.Lib
theorem ZCl {J : World → Prop} (hJ : ∀ w, J w → Lib.TabIs Tryz.prog w "internal/strconv.uint64pow10" .u64 Lib.pow10Tab) {n : Int} {r : ByteArray} (h : Zpj n = some r) : Zk Tryz.prog J 322 [(false, [.int .i64 n])] [(false, [(false, .str r)])] := by
 obtain ⟨h1,h2⟩:=Zq h
 obtain rfl:=Option.some.inj h2
 refine ⟨⟨Tryz.f322,Tryz.func322,by kernel_rfl,by kernel_rfl⟩,fun w z vs hj hz hargs=>?_⟩
 obtain ⟨v,L,rfl,rfl,_⟩:=Zmc hargs
 refine (Tryz.strconv_Itoa n h1.1 h1.2 w (hJ w hj)).mono ?_
 rintro e w' ⟨rfl,k,os,rfl⟩
 refine ⟨_,z,rfl,ZqW ⟨⟨rfl,rfl,?_⟩,rfl⟩,fun b h=>h,below_grow _ _ (Nat.le_refl _) _ _⟩
 have:=Lib.itoa_length_le n h1.1 h1.2
 show (Lib.itoa n).toArray.size≤_
 rw [List.size_toArray]
 omega
end Go.Proofs.YtfehfkfdfmcgfaaGreatDoor
namespace Go.Proofs.YtfehfkfdfmcgfaaGreatDoor
theorem ZmZ {l r:List Int} (h:ZfG l=some r):Zbx Tryz.prog J0 JF0 164 (.row 3 1 (l.map ZI)) [] [] (.row 3 1 (r.map ZI)):=ZsM h
theorem Zjc {a b:ByteArray} {r:Int} (h:ZeP a b=some r):Zk Tryz.prog J0 203 [(false,[.str a]),(false,[.str b])] [(false,[(false,.int .i64 r)])]:=Zul h
theorem Zju {l r:List ByteArray} (h:Zcb l=some r):Zbx Tryz.prog J0 JF0 210 (.row 9 1 (l.map Zx)) [] [] (.row 9 1 (r.map Zx)):=ZmW h
theorem Zt2 {s:ByteArray} {r:Int × Bool} (h:Zl4 s=some r):Zk Tryz.prog J0 297 [(false,[.str s])] [(false,[(false,.int .i64 r.1)]),(false,[(false,.ifc r.2)])]:=ZyE ZAB h
theorem ZtG {n:Int} {r:ByteArray} (h:Zpj n=some r):Zk Tryz.prog J0 322 [(false,[.int .i64 n])] [(false,[(false,.str r)])]:=ZCl ZzO h
end Go.Proofs.YtfehfkfdfmcgfaaGreatDoor
namespace Go.Proofs.YtfehfkfdfmcgfaaGreatDoor
open Go.Proofs.Tryz
set_option linter.unusedSimpArgs false
set_option linter.unusedVariables false
set_option maxRecDepth 1000000
set_option maxHeartbeats 4000000
theorem ZjH {a:Int} {r:ByteArray} (h:Zat a=some r):Zk Tryz.prog J0 125 [(false,[.int .i64 a])] [(false,[(false,.str r)])]:=by
 refine fnk Tryz.func125 (by kernel_rfl) rfl (by kernel_rfl) (by kernel_rfl) ?_
 unfold Zat at h
 have i:Z9 ⟨#[45,57,50,50,51,51,55,50,48,51,54,56,53,52,55,55,53,56,48,56]⟩=true:=by decide
 have j:Z9 ⟨#[]⟩=true:=by decide
 have k:¬((10:Int)=0):=by decide
 simp only [fnS,f125,Zm,go_sem,seval,i,j,k]
 refine Ze h (fun _ h=>?_) fun _ h=>?_<;>try simp only [*,go_sem,seval]
 cases h
 try simp only [*,go_sem,seval]
 refine Ze h (fun _ h=>?_) fun _ h=>?_<;>try simp only [*,go_sem,seval]
 cases h
 refine Yo h (fun s st=>match s with | (b,d)=>IV [(0,.p false [.c (.int .i64 b)]),(3,.p false [.c (.str d)])] [] st) [] [] (by decide) ?_ ?_
 simp only [*,go_sem,seval]
 rintro ⟨b,d⟩ ⟨sl,ob,n⟩ m e o h l
 simp only [go_sem,seval,Zc] at e
 obtain ⟨⟨q,t⟩,hn⟩:=e
 subst hn
 obtain ⟨f,h⟩:=Zq h
 try simp only [Nat.reduceLeDiff] at f
 try simp only [go_sem] at f
 try simp only [*,go_sem,seval]
 refine Ze h (fun _ h=>?_) fun _ h=>?_<;>try simp only [*,go_sem,seval]
 replace h:=Zn h l
 cases h
 try simp only [*,go_sem,seval]
 refine ⟨_,[],[],(Option.some.inj h).symm,by decide,?_⟩
 try simp only [*,go_sem,seval]
theorem ZgG {n_0:Int} {r:ByteArray} (h:X3 n_0=some r):Zk Tryz.prog J0 125 [(false,[.int .i64 n_0])] [(false,[(false,.str r)])]:=by
 refine fnk Tryz.func125 (by kernel_rfl) rfl (by kernel_rfl) (by kernel_rfl) ?_
 unfold X3 at h
 have i:Z9 ⟨#[45,57,50,50,51,51,55,50,48,51,54,56,53,52,55,55,53,56,48,56]⟩=true:=by decide
 have j:Z9 ⟨#[45]⟩=true:=by decide
 have k:Z9 ⟨#[]⟩=true:=by decide
 have l:¬((10:Int)=0):=by decide
 simp only [fnS,f125,Zm,go_sem,seval,i,j,k,l]
 refine Ze h (fun _ h=>?_) fun _ h=>?_<;>try simp only [*,go_sem,seval]
 cases h
 try simp only [*,go_sem,seval]
 refine Ze h (fun _ h=>?_) fun _ h=>?_<;>try simp only [*,go_sem,seval]
 obtain ⟨q,m,h⟩:=Za h
 refine Zd (ZjH m) ?_
 obtain ⟨a,h⟩:=Zq h
 try simp only [Nat.reduceLeDiff] at a
 try simp only [go_sem] at a
 cases h
 try simp only [*,go_sem,seval]
 refine Yo h (fun s st=>match s with | (b,d)=>IV [(0,.p false [.c (.int .i64 b)]),(3,.p false [.c (.str d)])] [] st) [] [] (by decide) ?_ ?_
 simp only [*,go_sem,seval]
 rintro ⟨b,d⟩ ⟨sl,ob,n⟩ t e u h o
 simp only [go_sem,seval,Zc] at e
 obtain ⟨⟨v,w⟩,hn⟩:=e
 subst hn
 obtain ⟨f,h⟩:=Zq h
 try simp only [Nat.reduceLeDiff] at f
 try simp only [go_sem] at f
 try simp only [*,go_sem,seval]
 refine Ze h (fun _ h=>?_) fun _ h=>?_<;>try simp only [*,go_sem,seval]
 replace h:=Zn h o
 cases h
 try simp only [*,go_sem,seval]
 refine ⟨_,[],[],(Option.some.inj h).symm,by decide,?_⟩
 try simp only [*,go_sem,seval]
theorem XU {x_0:Int} {least_1:Int} {most_2:Int} {r:Bool} (h:X7 x_0 least_1 most_2=some r):Zk Tryz.prog J0 209 [(false,[.int .i64 x_0]),(false,[.int .i64 least_1]),(false,[.int .i64 most_2])] [(false,[(false,.bool r)])]:=by
 refine fnk Tryz.func209 (by kernel_rfl) rfl (by kernel_rfl) (by kernel_rfl) ?_
 unfold X7 at h
 simp only [fnS,f209,Zm,go_sem,seval]
 refine Ze h (fun _ h=>?_) fun _ h=>?_<;>try simp only [*,go_sem,seval]
 iterate 2 (cases h;try simp only [*,go_sem,seval])
theorem Xg {a:(List ByteArray)} {b:ByteArray} {r:(List ByteArray)} (h:XO a b=some r):Zk Tryz.prog J0 271 [(false,[.sl 9 1 (List.map Zx a)]),(false,[.str b])] [(false,[(false,.sl 9 1 (List.map Zx r))])]:=by
 refine fnk Tryz.func271 (by kernel_rfl) rfl (by kernel_rfl) (by kernel_rfl) ?_
 unfold XO at h
 simp only [fnS,f271,Zm,go_sem,seval]
 refine Zi h (fun i s st=>match s with | (d,e)=>IV [(0,.p false [.c (.sl 9 1 (List.map Zx a))]),(1,.p false [.c (.str b)]),(5,.p false [.row 0]),(6,.p false [.c (.bool e)]),(7,.p false [.c (.int .i64 ((i:Nat):Int))])] [.row 9 1 (List.map Zx d) 2] st) [] [16] (by decide) ?_ ?_ ?_
 simp only [*,go_sem,seval]
 rintro z A ⟨d,e⟩ ⟨sl,ob,n⟩ B f g l h C
 simp only [go_sem,seval,Zc] at g
 obtain ⟨⟨m,D,E,F,G⟩,H,hn⟩:=g
 subst hn
 have o:=WF.slotL l m (j:=0) rfl
 have I:=ZA f
 have J:=ZC f
 have K:=Zj (ZB f) o
 try simp only [*,go_sem,seval]
 refine Ze h (fun _ h=>?_) fun _ h=>?_<;>try simp only [*,go_sem,seval]
 obtain ⟨q,h⟩:=Zq h
 try simp only [Nat.reduceLeDiff] at q
 try simp only [*,go_sem,seval]
 refine ⟨_,[],[321],(Option.some.inj h).symm,by decide,?_⟩
 try simp only [*,go_sem,seval]
 refine Ze h (fun _ h=>?_) fun _ h=>?_<;>try simp only [*,go_sem,seval]
 obtain ⟨t,h⟩:=Zq h
 try simp only [Nat.reduceLeDiff] at t
 try simp only [*,go_sem,seval]
 refine ⟨_,[],[321],(Option.some.inj h).symm,by decide,?_⟩
 try simp only [*,go_sem,seval]
 refine Ze h (fun _ h=>?_) fun _ h=>?_<;>try simp only [*,go_sem,seval]
 obtain ⟨u,h⟩:=Zq h
 try simp only [Nat.reduceLeDiff] at u
 try simp only [*,go_sem,seval]
 refine ⟨_,[],[433],(Option.some.inj h).symm,by decide,?_⟩
 try simp only [*,go_sem,seval]
 obtain ⟨v,h⟩:=Zq h
 try simp only [Nat.reduceLeDiff] at v
 obtain ⟨w,h⟩:=Zq h
 try simp only [Nat.reduceLeDiff] at w
 try simp only [*,go_sem,seval]
 refine ⟨_,[],[513],(Option.some.inj h).symm,by decide,?_⟩
 try simp only [*,go_sem,seval]
 rintro ⟨d,e⟩ ⟨sl,ob,n⟩ k L h
 simp only [go_sem,seval,Zc] at k
 obtain ⟨⟨M,N,O,P,Q⟩,R,hn⟩:=k
 subst hn
 have S:=Zy (a.length)
 try simp only [*,go_sem,seval]
 refine Ze h (fun _ h=>?_) fun _ h=>?_<;>try simp only [*,go_sem,seval]
 cases h
 try simp only [*,go_sem,seval]
 obtain ⟨x,h⟩:=Zq h
 try simp only [Nat.reduceLeDiff] at x
 cases h
 try simp only [*,go_sem,seval]
theorem Yz {l_0:(List ByteArray)} {s_1:ByteArray} {r:Bool} (h:ZV l_0 s_1=some r):Zk Tryz.prog J0 222 [(false,[.sl 9 1 (List.map Zx l_0)]),(false,[.str s_1])] [(false,[(false,.bool r)])]:=by
 refine fnk Tryz.func222 (by kernel_rfl) rfl (by kernel_rfl) (by kernel_rfl) ?_
 unfold ZV at h
 simp only [fnS,f222,Zm,go_sem,seval]
 refine Zi h (fun i _ st=>IV [(0,.p false [.c (.sl 9 1 (List.map Zx l_0))]),(1,.p false [.c (.str s_1)]),(5,.p false [.c (.int .i64 ((i:Nat):Int))])] [] st) [] [] (by decide) ?_ ?_ ?_
 simp only [*,go_sem,seval]
 rintro l m ⟨⟩ ⟨sl,ob,n⟩ o a b e h f
 simp only [go_sem,seval,Zc] at b
 obtain ⟨⟨g,q,t⟩,hn⟩:=b
 subst hn
 have k:=WF.slotL e g (j:=0) rfl
 have u:=ZA a
 have v:=ZC a
 have w:=Zj (ZB a) k
 try simp only [*,go_sem,seval]
 refine Ze h (fun _ h=>?_) fun _ h=>?_<;>try simp only [*,go_sem,seval]
 replace h:=Zn h f
 cases h
 try simp only [*,go_sem,seval]
 refine ⟨_,[],[],(Option.some.inj h).symm,by decide,?_⟩
 try simp only [*,go_sem,seval]
 rintro ⟨⟩ ⟨sl,ob,n⟩ d x h
 simp only [go_sem,seval,Zc] at d
 obtain ⟨⟨y,z,A⟩,hn⟩:=d
 subst hn
 have B:=Zy (l_0.length)
 cases h
 try simp only [*,go_sem,seval]
theorem Zle {a_0:ByteArray} {b_1:ByteArray} {r:Int} (h:Zhp a_0 b_1=some r):Zk Tryz.prog J0 74 [(false,[.str a_0]),(false,[.str b_1])] [(false,[(false,.int .i64 r)])]:=by
 refine fnk Tryz.func74 (by kernel_rfl) rfl (by kernel_rfl) (by kernel_rfl) ?_
 unfold Zhp at h
 simp only [fnS,f74,Zm,go_sem,seval]
 refine Ze h (fun a h=>?_) (fun a h=>?_)<;>try simp only [*,go_sem,seval]
 cases h
 try simp only [*,go_sem,seval]
 refine Ze h (fun c2 h=>?_) (fun c2 h=>?_)
 have b:=c2
 try simp only [a,Bool.false_or,Bool.or_false] at b
 cases h
 try simp only [*,go_sem,seval]
 have b:=c2
 try simp only [a,Bool.false_or,Bool.or_false] at b
 cases h
 try simp only [*,go_sem,seval]
theorem ZpE {l_0:(List ByteArray)} {r:(List ByteArray)} (h:Zfc l_0=some r):Zk Tryz.prog J0 151 [(false,[.sl 9 1 (List.map Zx l_0)])] [(false,[(false,.sl 9 1 (List.map Zx r))])]:=by
 refine fnk Tryz.func151 (by kernel_rfl) rfl (by kernel_rfl) (by kernel_rfl) ?_
 unfold Zfc at h
 simp only [fnS,f151,Zm,go_sem,seval]
 obtain ⟨a,h⟩:=Zq h
 try simp only [Nat.reduceLeDiff] at a
 cases h
 try simp only [*,go_sem,seval]
theorem X4 {s_0:ByteArray} {r:Bool} (h:Qm s_0=some r):Zk Tryz.prog J0 202 [(false,[.str s_0])] [(false,[(false,.bool r)])]:=by
 refine fnk Tryz.func202 (by kernel_rfl) rfl (by kernel_rfl) (by kernel_rfl) ?_
 unfold Qm at h
 simp only [fnS,f202,Zm,go_sem,seval]
 refine Ze h (fun _ h=>?_) fun _ h=>?_<;>try simp only [*,go_sem,seval]
 ·cases h
  try simp only [*,go_sem,seval]
 ·refine Ze h (fun _ h=>?_) fun _ h=>?_<;>try simp only [*,go_sem,seval]
  ·cases h
   try simp only [*,go_sem,seval]
  ·refine Zi h (fun i _ st=>IV [(0,.p false [.c (.str s_0)]),(3,.p false [.c (.int .i64 ((i:Nat):Int))])] [] st) [] [] (by decide) ?_ ?_ ?_
   ·simp only [*,go_sem,seval]
   ·rintro i4 x5 ⟨⟩ ⟨sl,ob,n⟩ y3 hx4 hI5 hW6 h hy3
    simp only [go_sem,seval,Zc] at hI5
    obtain ⟨⟨g7_0,g7_3⟩,hn⟩:=hI5
    subst hn
    have hlhx4:=WF.slotS hW6 g7_0 (j:=0) rfl
    have q8:=Zpp hx4
    have q9:=Zva hx4
    have q10:=Zj (Zta hx4) hlhx4
    try simp only [*,go_sem,seval]
    refine Ze h (fun _ h=>?_) fun _ h=>?_<;>try simp only [*,go_sem,seval]
    ·refine Ze h (fun _ h=>?_) fun _ h=>?_<;>try simp only [*,go_sem,seval]
     ·replace h:=Zn h hy3
      cases h
      try simp only [*,go_sem,seval]
     ·refine Ze h (fun _ h=>?_) fun _ h=>?_<;>try simp only [*,go_sem,seval]
      ·replace h:=Zn h hy3
       cases h
       try simp only [*,go_sem,seval]
      ·refine ⟨_,[],[],(Option.some.inj h).symm,by decide,?_⟩
       try simp only [*,go_sem,seval]
    ·refine Ze h (fun _ h=>?_) fun _ h=>?_<;>try simp only [*,go_sem,seval]
     ·refine Ze h (fun _ h=>?_) fun _ h=>?_<;>try simp only [*,go_sem,seval]
      ·replace h:=Zn h hy3
       cases h
       try simp only [*,go_sem,seval]
      ·refine Ze h (fun _ h=>?_) fun _ h=>?_<;>try simp only [*,go_sem,seval]
       ·replace h:=Zn h hy3
        cases h
        try simp only [*,go_sem,seval]
       ·refine ⟨_,[],[],(Option.some.inj h).symm,by decide,?_⟩
        try simp only [*,go_sem,seval]
     ·refine ⟨_,[],[],(Option.some.inj h).symm,by decide,?_⟩
      try simp only [*,go_sem,seval]
   ·rintro ⟨⟩ ⟨sl,ob,n⟩ hI17 hW18 h
    simp only [go_sem,seval,Zc] at hI17
    obtain ⟨⟨g19_0,g19_3⟩,hn⟩:=hI17
    subst hn
    have q20:=Zy (s_0.size)
    cases h
    try simp only [*,go_sem,seval]
theorem ZbW {a_0:Int} {b_1:Int} {r:Int} (h:XG a_0 b_1=some r):Zk Tryz.prog J0 205 [(false,[.int .i64 a_0]),(false,[.int .i64 b_1])] [(false,[(false,.int .i64 r)])]:=by
 refine fnk Tryz.func205 (by kernel_rfl) rfl (by kernel_rfl) (by kernel_rfl) ?_
 unfold XG at h
 simp only [fnS,f205,Zm,go_sem,seval]
 refine Ze h (fun _ h=>?_) fun _ h=>?_<;>try simp only [*,go_sem,seval]
 ·cases h
  try simp only [*,go_sem,seval]
 ·refine Ze h (fun _ h=>?_) fun _ h=>?_<;>try simp only [*,go_sem,seval]
  ·cases h
   try simp only [*,go_sem,seval]
  ·cases h
   try simp only [*,go_sem,seval]
theorem ZkY {n_0:Int} {r:ByteArray} (h:Za4 n_0=some r):Zk Tryz.prog J0 298 [(false,[.int .i64 n_0])] [(false,[(false,.str r)])]:=by
 refine fnk Tryz.func298 (by kernel_rfl) rfl (by kernel_rfl) (by kernel_rfl) ?_
 unfold Za4 at h
 have a:Z9 ⟨#[]⟩=true:=by decide
 simp only [fnS,f298,Zm,go_sem,seval,a]
 obtain ⟨c,b,h⟩:=Za h
 refine Zd (ZtG b) ?_
 cases h
 try simp only [*,go_sem,seval]
theorem Zls {a_0:(List ByteArray)} {b_1:(List ByteArray)} {r:Bool} (h:Zct a_0 b_1=some r):Zk Tryz.prog J0 208 [(false,[.sl 9 1 (List.map Zx a_0)]),(false,[.sl 9 1 (List.map Zx b_1)])] [(false,[(false,.bool r)])]:=by
 refine fnk Tryz.func208 (by kernel_rfl) rfl (by kernel_rfl) (by kernel_rfl) ?_
 unfold Zct at h
 simp only [fnS,f208,Zm,go_sem,seval]
 refine Ze h (fun _ h=>?_) fun _ h=>?_<;>try simp only [*,go_sem,seval]
 cases h
 try simp only [*,go_sem,seval]
 refine Zi h (fun i _ st=>IV [(0,.p false [.c (.sl 9 1 (List.map Zx a_0))]),(1,.p false [.c (.sl 9 1 (List.map Zx b_1))]),(12,.p false [.c (.int .i64 ((a_0.length:Nat):Int))]),(13,.p false [.c (.int .i64 ((i:Nat):Int))])] [] st) [] [] (by decide) ?_ ?_ ?_
 simp only [*,go_sem,seval]
 rintro m o ⟨⟩ ⟨sl,ob,n⟩ q a b e h f
 simp only [go_sem,seval,Zc] at b
 obtain ⟨⟨g,t,u,v⟩,hn⟩:=b
 subst hn
 have k:=WF.slotL e g (j:=0) rfl
 have w:=ZA a
 have x:=ZC a
 have y:=Zj (ZB a) k
 obtain ⟨z,A,B,l,h⟩:=ZbQ h
 simp only [Int.toNat_natCast] at l
 try simp only [*,go_sem,seval]
 refine Ze h (fun _ h=>?_) fun _ h=>?_<;>try simp only [*,go_sem,seval]
 refine ⟨_,[],[],(Option.some.inj h).symm,by decide,?_⟩
 try simp only [*,go_sem,seval]
 replace h:=Zn h f
 cases h
 try simp only [*,go_sem,seval]
 rintro ⟨⟩ ⟨sl,ob,n⟩ d C h
 simp only [go_sem,seval,Zc] at d
 obtain ⟨⟨D,E,F,G⟩,hn⟩:=d
 subst hn
 have H:=Zy (a_0.length)
 cases h
 try simp only [*,go_sem,seval]
theorem Zac {l_0:(List ByteArray)} {s_1:ByteArray} {r:Bool} (h:Xc l_0 s_1=some r):Zk Tryz.prog J0 145 [(false,[.sl 9 1 (List.map Zx l_0)]),(false,[.str s_1])] [(false,[(false,.bool r)])]:=by
 refine fnk Tryz.func145 (by kernel_rfl) rfl (by kernel_rfl) (by kernel_rfl) ?_
 unfold Xc at h
 simp only [fnS,f145,Zm,go_sem,seval]
 refine Zi h (fun i _ st=>IV [(1,.p false [.c (.str s_1)]),(7,.p false [.c (.sl 9 1 (List.map Zx l_0))]),(8,.p false [.c (.int .i64 ((l_0.length:Nat):Int))]),(9,.p false [.c (.int .i64 ((i:Nat):Int))])] [] st) [] [] (by decide) ?_ ?_ ?_
 simp only [*,go_sem,seval]
 rintro l m ⟨⟩ ⟨sl,ob,n⟩ o a b e h f
 simp only [go_sem,seval,Zc] at b
 obtain ⟨⟨q,g,t,u⟩,hn⟩:=b
 subst hn
 have k:=WF.slotL e g (j:=0) rfl
 have v:=ZA a
 have w:=ZC a
 have x:=Zj (ZB a) k
 try simp only [*,go_sem,seval]
 refine Ze h (fun _ h=>?_) fun _ h=>?_<;>try simp only [*,go_sem,seval]
 replace h:=Zn h f
 cases h
 try simp only [*,go_sem,seval]
 refine ⟨_,[],[],(Option.some.inj h).symm,by decide,?_⟩
 try simp only [*,go_sem,seval]
 rintro ⟨⟩ ⟨sl,ob,n⟩ d y h
 simp only [go_sem,seval,Zc] at d
 obtain ⟨⟨z,A,B,C⟩,hn⟩:=d
 subst hn
 have D:=Zy (l_0.length)
 cases h
 try simp only [*,go_sem,seval]
theorem XX {l_0:(List ByteArray)} {r:(List ByteArray)} (h:Ym l_0=some r):Zk Tryz.prog J0 147 [(false,[.sl 9 1 (List.map Zx l_0)])] [(false,[(false,.sl 9 1 (List.map Zx r))])]:=by
 refine fnk Tryz.func147 (by kernel_rfl) rfl (by kernel_rfl) (by kernel_rfl) ?_
 unfold Ym at h
 simp only [fnS,f147,Zm,go_sem,seval]
 obtain ⟨g,h⟩:=Zq h
 try simp only [Nat.reduceLeDiff] at g
 try simp only [*,go_sem,seval]
 obtain ⟨a,j,h⟩:=Za h
 refine QL (Zju j) ?_
 try simp only [*,go_sem,seval]
 refine Zi h (fun i b st=>IV [(3,.p false [.row 0]),(4,.p false [.row 1]),(11,.p false [.row 0]),(12,.p false [.c (.int .i64 ((a.length:Nat):Int))]),(13,.p false [.c (.int .i64 ((i:Nat):Int))])] [.row 9 1 (List.map Zx a) 2,.row 9 1 (List.map Zx b) 2] st) [(false,4,0)] [32,160] (by decide) ?_ ?_ ?_
 simp only [*,go_sem,seval]
 rintro t u b ⟨sl,ob,n⟩ v d e k h w
 simp only [go_sem,seval,Zc] at e
 obtain ⟨⟨x,y,z,A,B⟩,l,C,hn⟩:=e
 subst hn
 have m:=WF.rowL k l
 have D:=ZA d
 have E:=ZC d
 have F:=Zj (ZB d) m
 try simp only [*,go_sem,seval]
 refine Ze h (fun _ h=>?_) fun _ h=>?_<;>try simp only [*,go_sem,seval]
 obtain ⟨o,h⟩:=Zq h
 try simp only [Nat.reduceLeDiff] at o
 try simp only [*,go_sem,seval]
 refine ⟨_,[],[0,322],(Option.some.inj h).symm,by decide,?_⟩
 try simp only [*,go_sem,seval]
 obtain ⟨G,h⟩:=Zq h
 obtain ⟨H,I,h⟩:=Za h
 try simp only [*,go_sem,seval]
 refine Ze h (fun _ h=>?_) fun _ h=>?_<;>try simp only [*,go_sem,seval]
 refine ⟨_,[],[0,1],(Option.some.inj h).symm,by decide,?_⟩
 try simp only [*,go_sem,seval]
 obtain ⟨q,h⟩:=Zq h
 try simp only [Nat.reduceLeDiff] at q
 try simp only [*,go_sem,seval]
 refine ⟨_,[],[0,322],(Option.some.inj h).symm,by decide,?_⟩
 try simp only [*,go_sem,seval]
 rintro b ⟨sl,ob,n⟩ f J h
 simp only [go_sem,seval,Zc] at f
 obtain ⟨⟨K,L,M,N,O⟩,P,Q,hn⟩:=f
 subst hn
 have R:=Zy (a.length)
 cases h
 try simp only [*,go_sem,seval]
theorem Q8 {p_0:Zv} {r:Bool} (h:Y8 p_0=some r):Zk Tryz.prog J0 263 [(true,QA p_0)] [(false,[(false,.bool r)])]:=by
 refine fnk Tryz.func263 (by kernel_rfl) rfl (by kernel_rfl) (by kernel_rfl) ?_
 unfold Y8 at h
 have a:Z9 ⟨#[]⟩=true:=by decide
 simp only [fnS,f263,Zm,go_sem,seval,a]
 refine Ze h (fun _ h=>?_) fun _ h=>?_<;>try simp only [*,go_sem,seval]
 iterate 2 (cases h;try simp only [*,go_sem,seval])
theorem Zgx {l_0:(List ByteArray)} {r:(List ByteArray)} (h:Za6 l_0=some r):Zk Tryz.prog J0 182 [(false,[.sl 9 1 (List.map Zx l_0)])] [(false,[(false,.sl 9 1 (List.map Zx r))])]:=by
 refine fnk Tryz.func182 (by kernel_rfl) rfl (by kernel_rfl) (by kernel_rfl) ?_
 unfold Za6 at h
 simp only [fnS,f182,Zm,go_sem,seval]
 obtain ⟨a,h⟩:=Zq h
 try simp only [Nat.reduceLeDiff] at a
 cases h
 try simp only [*,go_sem,seval]
theorem ZmU {l_0:(List Zg)} {name_1:ByteArray} {r:Int} (h:QF l_0 name_1=some r):Zk Tryz.prog J0 133 [(false,[.sl 42 4 (List.map ZF l_0)]),(false,[.str name_1])] [(false,[(false,.int .i64 r)])]:=by
 refine fnk Tryz.func133 (by kernel_rfl) rfl (by kernel_rfl) (by kernel_rfl) ?_
 unfold QF at h
 simp only [fnS,f133,Zm,go_sem,seval]
 refine Zi h (fun i _ st=>IV [(1,.p false [.c (.str name_1)]),(7,.p false [.c (.sl 42 4 (List.map ZF l_0))]),(8,.p false [.c (.int .i64 ((l_0.length:Nat):Int))]),(9,.p false [.c (.int .i64 ((i:Nat):Int))])] [] st) [] [] (by decide) ?_ ?_ ?_
 simp only [*,go_sem,seval]
 rintro l m ⟨⟩ ⟨sl,ob,n⟩ o a b e h f
 simp only [go_sem,seval,Zc] at b
 obtain ⟨⟨q,g,t,u⟩,hn⟩:=b
 subst hn
 have k:=WF.slotL e g (j:=0) rfl
 have v:=ZA a
 have w:=ZC a
 have x:=Zj (ZB a) k
 try simp only [*,go_sem,seval]
 refine Ze h (fun _ h=>?_) fun _ h=>?_<;>try simp only [*,go_sem,seval]
 replace h:=Zn h f
 cases h
 try simp only [*,go_sem,seval]
 refine ⟨_,[],[],(Option.some.inj h).symm,by decide,?_⟩
 try simp only [*,go_sem,seval]
 rintro ⟨⟩ ⟨sl,ob,n⟩ d y h
 simp only [go_sem,seval,Zc] at d
 obtain ⟨⟨z,A,B,C⟩,hn⟩:=d
 subst hn
 have D:=Zy (l_0.length)
 cases h
 try simp only [*,go_sem,seval]
theorem Zm5 {r_0:Zg} {r:Bool} (h:ZdJ r_0=some r):Zk Tryz.prog J0 162 [(true,ZF r_0)] [(false,[(false,.bool r)])]:=by
 refine fnk Tryz.func162 (by kernel_rfl) rfl (by kernel_rfl) (by kernel_rfl) ?_
 unfold ZdJ at h
 simp only [fnS,f162,Zm,go_sem,seval]
 refine Zi h (fun i _ st=>IV [(6,.p false [.c (.sl 50 3 (List.map ZG r_0.thn))]),(7,.p false [.c (.int .i64 ((r_0.thn.length:Nat):Int))]),(8,.p false [.c (.int .i64 ((i:Nat):Int))])] [] st) [] [] (by decide) ?_ ?_ ?_
 simp only [*,go_sem,seval]
 rintro l m ⟨⟩ ⟨sl,ob,n⟩ o a b e h f
 simp only [go_sem,seval,Zc] at b
 obtain ⟨⟨g,q,t⟩,hn⟩:=b
 subst hn
 have k:=WF.slotL e g (j:=0) rfl
 have u:=ZA a
 have v:=ZC a
 have w:=Zj (ZB a) k
 try simp only [*,go_sem,seval]
 refine Ze h (fun _ h=>?_) fun _ h=>?_<;>try simp only [*,go_sem,seval]
 replace h:=Zn h f
 cases h
 try simp only [*,go_sem,seval]
 refine ⟨_,[],[],(Option.some.inj h).symm,by decide,?_⟩
 try simp only [*,go_sem,seval]
 rintro ⟨⟩ ⟨sl,ob,n⟩ d x h
 simp only [go_sem,seval,Zc] at d
 obtain ⟨⟨y,z,A⟩,hn⟩:=d
 subst hn
 have B:=Zy (r_0.thn.length)
 cases h
 try simp only [*,go_sem,seval]
theorem Zgp {b_0:(List Zs)} {r:(List Zs)} (h:ZaT b_0=some r):Zk Tryz.prog J0 215 [(false,[.sl 166 2 (List.map Z4 b_0)])] [(false,[(false,.sl 166 2 (List.map Z4 r))])]:=by
 refine fnk Tryz.func215 (by kernel_rfl) rfl (by kernel_rfl) (by kernel_rfl) ?_
 unfold ZaT at h
 simp only [fnS,f215,Zm,go_sem,seval]
 obtain ⟨a,h⟩:=Zq h
 try simp only [Nat.reduceLeDiff] at a
 cases h
 try simp only [*,go_sem,seval]
theorem ZeI {r_0:Zg} {r:(List Zt)} (h:YP r_0=some r):Zk Tryz.prog J0 85 [(true,ZF r_0)] [(false,[(true,.sl 173 5 (List.map ZK r))])]:=by
 refine fnk Tryz.func85 (by kernel_rfl) rfl (by kernel_rfl) (by kernel_rfl) ?_
 unfold YP at h
 simp only [fnS,f85,Zm,go_sem,seval]
 refine Zi h (fun i a st=>IV [(3,.p false [.row 0]),(7,.p false [.c (.sl 173 5 (List.map ZK r_0.cond))]),(8,.p false [.c (.int .i64 ((r_0.cond.length:Nat):Int))]),(9,.p false [.c (.int .i64 ((i:Nat):Int))])] [.row 173 5 (List.map ZK a) 1] st) [(false,3,0),(true,112,1)] [112] (by decide) ?_ ?_ ?_
 simp only [*,go_sem,seval]
 rintro m o a ⟨sl,ob,n⟩ q b d f h t
 simp only [go_sem,seval,Zc] at d
 obtain ⟨⟨u,g,v,w⟩,x,hn⟩:=d
 subst hn
 have k:=WF.slotL f g (j:=0) rfl
 have y:=ZA b
 have z:=ZC b
 have A:=Zj (ZB b) k
 try simp only [*,go_sem,seval]
 refine Ze h (fun _ h=>?_) fun _ h=>?_<;>try simp only [*,go_sem,seval]
 obtain ⟨l,h⟩:=Zq h
 try simp only [Nat.reduceLeDiff] at l
 try simp only [*,go_sem,seval]
 refine ⟨_,[],[177],(Option.some.inj h).symm,by decide,?_⟩
 try simp only [*,go_sem,seval]
 refine ⟨_,[],[0],(Option.some.inj h).symm,by decide,?_⟩
 try simp only [*,go_sem,seval]
 rintro a ⟨sl,ob,n⟩ e B h
 simp only [go_sem,seval,Zc] at e
 obtain ⟨⟨C,D,E,F⟩,G,hn⟩:=e
 subst hn
 have H:=Zy (r_0.cond.length)
 cases h
 try simp only [*,go_sem,seval]
theorem ZqS {l_0:(List Int)} {n_1:Int} {r:Bool} (h:Zgz l_0 n_1=some r):Zk Tryz.prog J0 163 [(false,[.sl 3 1 (List.map ZI l_0)]),(false,[.int .i64 n_1])] [(false,[(false,.bool r)])]:=by
 refine fnk Tryz.func163 (by kernel_rfl) rfl (by kernel_rfl) (by kernel_rfl) ?_
 unfold Zgz at h
 simp only [fnS,f163,Zm,go_sem,seval]
 refine Zi h (fun i _ st=>IV [(1,.p false [.c (.int .i64 n_1)]),(7,.p false [.c (.sl 3 1 (List.map ZI l_0))]),(8,.p false [.c (.int .i64 ((l_0.length:Nat):Int))]),(9,.p false [.c (.int .i64 ((i:Nat):Int))])] [] st) [] [] (by decide) ?_ ?_ ?_
 simp only [*,go_sem,seval]
 rintro l m ⟨⟩ ⟨sl,ob,n⟩ o a b e h f
 simp only [go_sem,seval,Zc] at b
 obtain ⟨⟨q,g,t,u⟩,hn⟩:=b
 subst hn
 have k:=WF.slotL e g (j:=0) rfl
 have v:=ZA a
 have w:=ZC a
 have x:=Zj (ZB a) k
 try simp only [*,go_sem,seval]
 refine Ze h (fun _ h=>?_) fun _ h=>?_<;>try simp only [*,go_sem,seval]
 replace h:=Zn h f
 cases h
 try simp only [*,go_sem,seval]
 refine ⟨_,[],[],(Option.some.inj h).symm,by decide,?_⟩
 try simp only [*,go_sem,seval]
 rintro ⟨⟩ ⟨sl,ob,n⟩ d y h
 simp only [go_sem,seval,Zc] at d
 obtain ⟨⟨z,A,B,C⟩,hn⟩:=d
 subst hn
 have D:=Zy (l_0.length)
 cases h
 try simp only [*,go_sem,seval]
theorem ZhM {a_0:(List Int)} {b_1:(List Int)} {r:Bool} (h:ZbL a_0 b_1=some r):Zk Tryz.prog J0 292 [(false,[.sl 3 1 (List.map ZI a_0)]),(false,[.sl 3 1 (List.map ZI b_1)])] [(false,[(false,.bool r)])]:=by
 refine fnk Tryz.func292 (by kernel_rfl) rfl (by kernel_rfl) (by kernel_rfl) ?_
 unfold ZbL at h
 simp only [fnS,f292,Zm,go_sem,seval]
 refine Ze h (fun _ h=>?_) fun _ h=>?_<;>try simp only [*,go_sem,seval]
 cases h
 try simp only [*,go_sem,seval]
 refine Zi h (fun i _ st=>IV [(0,.p false [.c (.sl 3 1 (List.map ZI a_0))]),(1,.p false [.c (.sl 3 1 (List.map ZI b_1))]),(12,.p false [.c (.int .i64 ((a_0.length:Nat):Int))]),(13,.p false [.c (.int .i64 ((i:Nat):Int))])] [] st) [] [] (by decide) ?_ ?_ ?_
 simp only [*,go_sem,seval]
 rintro m o ⟨⟩ ⟨sl,ob,n⟩ q a b e h f
 simp only [go_sem,seval,Zc] at b
 obtain ⟨⟨g,t,u,v⟩,hn⟩:=b
 subst hn
 have k:=WF.slotL e g (j:=0) rfl
 have w:=ZA a
 have x:=ZC a
 have y:=Zj (ZB a) k
 obtain ⟨z,A,B,l,h⟩:=ZbQ h
 simp only [Int.toNat_natCast] at l
 try simp only [*,go_sem,seval]
 refine Ze h (fun _ h=>?_) fun _ h=>?_<;>try simp only [*,go_sem,seval]
 replace h:=Zn h f
 cases h
 try simp only [*,go_sem,seval]
 refine ⟨_,[],[],(Option.some.inj h).symm,by decide,?_⟩
 try simp only [*,go_sem,seval]
 rintro ⟨⟩ ⟨sl,ob,n⟩ d C h
 simp only [go_sem,seval,Zc] at d
 obtain ⟨⟨D,E,F,G⟩,hn⟩:=d
 subst hn
 have H:=Zy (a_0.length)
 cases h
 try simp only [*,go_sem,seval]
end Go.Proofs.YtfehfkfdfmcgfaaGreatDoor
namespace Go.Proofs.YtfehfkfdfmcgfaaGreatDoor
open Go.Proofs.Tryz
set_option linter.unusedSimpArgs false
set_option linter.unusedVariables false
set_option maxRecDepth 1000000
set_option maxHeartbeats 4000000
theorem ZjC {a_0:(List ByteArray)} {b_1:(List ByteArray)} {r:Bool} (h:Zev a_0 b_1=some r):Zk Tryz.prog J0 150 [(false,[.sl 9 1 (List.map Zx a_0)]),(false,[.sl 9 1 (List.map Zx b_1)])] [(false,[(false,.bool r)])]:=by
 refine fnk Tryz.func150 (by kernel_rfl) rfl (by kernel_rfl) (by kernel_rfl) ?_
 unfold Zev at h
 simp only [fnS,f150,Zm,go_sem,seval]
 refine Ze h (fun _ h=>?_) fun _ h=>?_<;>try simp only [*,go_sem,seval]
 cases h
 try simp only [*,go_sem,seval]
 refine Zi h (fun i _ st=>IV [(0,.p false [.c (.sl 9 1 (List.map Zx a_0))]),(1,.p false [.c (.sl 9 1 (List.map Zx b_1))]),(5,.p false [.c (.int .i64 ((i:Nat):Int))])] [] st) [] [] (by decide) ?_ ?_ ?_
 simp only [*,go_sem,seval]
 rintro m o ⟨⟩ ⟨sl,ob,n⟩ q a b e h f
 simp only [go_sem,seval,Zc] at b
 obtain ⟨⟨g,t,u⟩,hn⟩:=b
 subst hn
 have k:=WF.slotL e g (j:=0) rfl
 have v:=ZA a
 have w:=ZC a
 have x:=Zj (ZB a) k
 obtain ⟨y,z,A,l,h⟩:=ZbQ h
 simp only [Int.toNat_natCast] at l
 try simp only [*,go_sem,seval]
 refine Ze h (fun _ h=>?_) fun _ h=>?_<;>try simp only [*,go_sem,seval]
 refine ⟨_,[],[],(Option.some.inj h).symm,by decide,?_⟩
 try simp only [*,go_sem,seval]
 replace h:=Zn h f
 cases h
 try simp only [*,go_sem,seval]
 rintro ⟨⟩ ⟨sl,ob,n⟩ d B h
 simp only [go_sem,seval,Zc] at d
 obtain ⟨⟨C,D,E⟩,hn⟩:=d
 subst hn
 have F:=Zy (a_0.length)
 cases h
 try simp only [*,go_sem,seval]
theorem ZhP {l_0:(List Zg)} {name_1:ByteArray} {r:Int} (h:ZdZ l_0 name_1=some r):Zk Tryz.prog J0 19 [(false,[.sl 42 4 (List.map ZF l_0)]),(false,[.str name_1])] [(false,[(false,.int .i64 r)])]:=by
 refine fnk Tryz.func19 (by kernel_rfl) rfl (by kernel_rfl) (by kernel_rfl) ?_
 unfold ZdZ at h
 simp only [fnS,f19,Zm,go_sem,seval]
 refine Zi h (fun i _ st=>IV [(0,.p false [.c (.sl 42 4 (List.map ZF l_0))]),(1,.p false [.c (.str name_1)]),(5,.p false [.c (.int .i64 ((i:Nat):Int))])] [] st) [] [] (by decide) ?_ ?_ ?_
 simp only [*,go_sem,seval]
 rintro l m ⟨⟩ ⟨sl,ob,n⟩ o a b e h f
 simp only [go_sem,seval,Zc] at b
 obtain ⟨⟨g,q,t⟩,hn⟩:=b
 subst hn
 have k:=WF.slotL e g (j:=0) rfl
 have u:=ZA a
 have v:=ZC a
 have w:=Zj (ZB a) k
 try simp only [*,go_sem,seval]
 refine Ze h (fun _ h=>?_) fun _ h=>?_<;>try simp only [*,go_sem,seval]
 replace h:=Zn h f
 cases h
 try simp only [*,go_sem,seval]
 refine ⟨_,[],[],(Option.some.inj h).symm,by decide,?_⟩
 try simp only [*,go_sem,seval]
 rintro ⟨⟩ ⟨sl,ob,n⟩ d x h
 simp only [go_sem,seval,Zc] at d
 obtain ⟨⟨y,z,A⟩,hn⟩:=d
 subst hn
 have B:=Zy (l_0.length)
 cases h
 try simp only [*,go_sem,seval]
theorem ZgL {b_0:(List Zs)} {r:(List Zs)} (h:ZcA b_0=some r):Zk Tryz.prog J0 313 [(false,[.sl 166 2 (List.map Z4 b_0)])] [(false,[(false,.sl 166 2 (List.map Z4 r))])]:=by
 refine fnk Tryz.func313 (by kernel_rfl) rfl (by kernel_rfl) (by kernel_rfl) ?_
 unfold ZcA at h
 simp only [fnS,f313,Zm,go_sem,seval]
 obtain ⟨a,h⟩:=Zq h
 try simp only [Nat.reduceLeDiff] at a
 cases h
 try simp only [*,go_sem,seval]
theorem ZsA {a:(List Zs)} {b:ByteArray} {d:ByteArray} {r:(List Zs)} (h:ZiO a b d=some r):Zk Tryz.prog J0 339 [(false,[.sl 166 2 (List.map Z4 a)]),(false,[.str b]),(false,[.str d])] [(false,[(false,.sl 166 2 (List.map Z4 r))])]:=by
 refine fnk Tryz.func339 (by kernel_rfl) rfl (by kernel_rfl) (by kernel_rfl) ?_
 unfold ZiO at h
 simp only [fnS,f339,Zm,go_sem,seval]
 refine Zi h (fun i s st=>match s with | (e,f)=>IV [(0,.p false [.c (.sl 166 2 (List.map Z4 a))]),(1,.p false [.c (.str b)]),(2,.p false [.c (.str d)]),(7,.p false [.row 0]),(8,.p false [.c (.bool f)]),(9,.p false [.c (.int .i64 ((i:Nat):Int))])] [.row 166 2 (List.map Z4 e) 2] st) [] [16] (by decide) ?_ ?_ ?_
 simp only [*,go_sem,seval]
 rintro C D ⟨e,f⟩ ⟨sl,ob,n⟩ E g o t h F
 simp only [go_sem,seval,Zc] at o
 obtain ⟨⟨u,G,H,I,J,K⟩,L,hn⟩:=o
 subst hn
 have v:=WF.slotL t u (j:=0) rfl
 have M:=ZA g
 have N:=ZC g
 have O:=Zj (ZB g) v
 try simp only [*,go_sem,seval]
 refine Ze h (fun k h=>?_) (fun k h=>?_)<;>try simp only [*,go_sem,seval]
 obtain ⟨w,h⟩:=Zq h
 try simp only [Nat.reduceLeDiff] at w
 try simp only [*,go_sem,seval]
 refine ⟨_,[],[337],(Option.some.inj h).symm,by decide,?_⟩
 try simp only [*,go_sem,seval]
 refine Ze h (fun l h=>?_) (fun l h=>?_)
 have m:=l
 try simp only [k,Bool.false_or,Bool.or_false] at m
 obtain ⟨x,h⟩:=Zq h
 try simp only [Nat.reduceLeDiff] at x
 try simp only [*,go_sem,seval]
 refine ⟨_,[],[337],(Option.some.inj h).symm,by decide,?_⟩
 try simp only [*,go_sem,seval]
 have m:=l
 try simp only [k,Bool.false_or,Bool.or_false] at m
 obtain ⟨y,h⟩:=Zq h
 try simp only [Nat.reduceLeDiff] at y
 obtain ⟨z,h⟩:=Zq h
 try simp only [Nat.reduceLeDiff] at z
 try simp only [*,go_sem,seval]
 refine ⟨_,[],[465],(Option.some.inj h).symm,by decide,?_⟩
 try simp only [*,go_sem,seval]
 rintro ⟨e,f⟩ ⟨sl,ob,n⟩ q P h
 simp only [go_sem,seval,Zc] at q
 obtain ⟨⟨Q,R,S,T,U,V⟩,W,hn⟩:=q
 subst hn
 have X:=Zy (a.length)
 try simp only [*,go_sem,seval]
 refine Ze h (fun _ h=>?_) fun _ h=>?_<;>try simp only [*,go_sem,seval]
 cases h
 try simp only [*,go_sem,seval]
 obtain ⟨A,h⟩:=Zq h
 try simp only [Nat.reduceLeDiff] at A
 cases h
 try simp only [*,go_sem,seval]
theorem ZeY {r_0:Zg} {r:(List Zt)} (h:XJ r_0=some r):Zk Tryz.prog J0 172 [(true,ZF r_0)] [(false,[(true,.sl 173 5 (List.map ZK r))])]:=by
 refine fnk Tryz.func172 (by kernel_rfl) rfl (by kernel_rfl) (by kernel_rfl) ?_
 unfold XJ at h
 simp only [fnS,f172,Zm,go_sem,seval]
 refine Zi h (fun i a st=>IV [(1,.bp 0 0),(3,.p false [.row 1]),(4,.p false [.c (.int .i64 ((i:Nat):Int))])] [.box 42 [.c (.str r_0.name),.c (.int .i64 r_0.priority),.c (.sl 173 5 (List.map ZK r_0.cond)),.c (.sl 50 3 (List.map ZG r_0.thn))],.row 173 5 (List.map ZK a) 1] st) [(true,32,1)] [0,32] (by decide) ?_ ?_ ?_
 simp only [*,go_sem,seval]
 rintro m o a ⟨sl,ob,n⟩ q b d f h t
 simp only [go_sem,seval,Zc] at d
 obtain ⟨⟨u,v,w⟩,g,x,hn⟩:=d
 subst hn
 have k:=WF.boxL f g (j:=2) rfl
 have y:=ZA b
 have z:=ZC b
 have A:=Zj (ZB b) k
 try simp only [*,go_sem,seval]
 refine Ze h (fun _ h=>?_) fun _ h=>?_<;>try simp only [*,go_sem,seval]
 obtain ⟨l,h⟩:=Zq h
 try simp only [Nat.reduceLeDiff] at l
 try simp only [*,go_sem,seval]
 refine ⟨_,[],[0,306],(Option.some.inj h).symm,by decide,?_⟩
 try simp only [*,go_sem,seval]
 refine ⟨_,[],[0,1],(Option.some.inj h).symm,by decide,?_⟩
 try simp only [*,go_sem,seval]
 rintro a ⟨sl,ob,n⟩ e B h
 simp only [go_sem,seval,Zc] at e
 obtain ⟨⟨C,D,E⟩,F,G,hn⟩:=e
 subst hn
 have H:=Zy (r_0.cond.length)
 cases h
 try simp only [*,go_sem,seval]
theorem ZpR {a:(List Int)} {b:Int} {r:(List Int)} (h:Zgk a b=some r):Zk Tryz.prog J0 159 [(false,[.sl 3 1 (List.map ZI a)]),(false,[.int .i64 b])] [(false,[(false,.sl 3 1 (List.map ZI r))])]:=by
 refine fnk Tryz.func159 (by kernel_rfl) rfl (by kernel_rfl) (by kernel_rfl) ?_
 unfold Zgk at h
 simp only [fnS,f159,Zm,go_sem,seval]
 refine Zi h (fun i s st=>match s with | (d,e)=>IV [(0,.p false [.c (.sl 3 1 (List.map ZI a))]),(1,.p false [.c (.int .i64 b)]),(5,.p false [.row 0]),(6,.p false [.c (.bool e)]),(7,.p false [.c (.int .i64 ((i:Nat):Int))])] [.row 3 1 (List.map ZI d) 2] st) [] [16] (by decide) ?_ ?_ ?_
 simp only [*,go_sem,seval]
 rintro z A ⟨d,e⟩ ⟨sl,ob,n⟩ B f k m h C
 simp only [go_sem,seval,Zc] at k
 obtain ⟨⟨o,D,E,F,G⟩,H,hn⟩:=k
 subst hn
 have q:=WF.slotL m o (j:=0) rfl
 have I:=ZA f
 have J:=ZC f
 have K:=Zj (ZB f) q
 try simp only [*,go_sem,seval]
 refine Ze h (fun _ h=>?_) fun _ h=>?_<;>try simp only [*,go_sem,seval]
 obtain ⟨t,h⟩:=Zq h
 try simp only [Nat.reduceLeDiff] at t
 try simp only [*,go_sem,seval]
 refine ⟨_,[],[321],(Option.some.inj h).symm,by decide,?_⟩
 try simp only [*,go_sem,seval]
 iterate 2 refine Ze h (fun _ h=>?_) fun _ h=>?_<;>try simp only [*,go_sem,seval]
 obtain ⟨u,h⟩:=Zq h
 try simp only [Nat.reduceLeDiff] at u
 obtain ⟨v,h⟩:=Zq h
 try simp only [Nat.reduceLeDiff] at v
 try simp only [*,go_sem,seval]
 refine ⟨_,[],[513],(Option.some.inj h).symm,by decide,?_⟩
 try simp only [*,go_sem,seval]
 obtain ⟨w,h⟩:=Zq h
 try simp only [Nat.reduceLeDiff] at w
 try simp only [*,go_sem,seval]
 refine ⟨_,[],[433],(Option.some.inj h).symm,by decide,?_⟩
 try simp only [*,go_sem,seval]
 obtain ⟨x,h⟩:=Zq h
 try simp only [Nat.reduceLeDiff] at x
 try simp only [*,go_sem,seval]
 refine ⟨_,[],[321],(Option.some.inj h).symm,by decide,?_⟩
 try simp only [*,go_sem,seval]
 rintro ⟨d,e⟩ ⟨sl,ob,n⟩ l L h
 simp only [go_sem,seval,Zc] at l
 obtain ⟨⟨M,N,O,P,Q⟩,R,hn⟩:=l
 subst hn
 have S:=Zy (a.length)
 try simp only [*,go_sem,seval]
 refine Ze h (fun _ h=>?_) fun _ h=>?_<;>try simp only [*,go_sem,seval]
 cases h
 try simp only [*,go_sem,seval]
 obtain ⟨y,h⟩:=Zq h
 try simp only [Nat.reduceLeDiff] at y
 cases h
 try simp only [*,go_sem,seval]
theorem ZfS {a_0:(List Int)} {b_1:(List Int)} {r:Bool} (h:Zbi a_0 b_1=some r):Zk Tryz.prog J0 259 [(false,[.sl 3 1 (List.map ZI a_0)]),(false,[.sl 3 1 (List.map ZI b_1)])] [(false,[(false,.bool r)])]:=by
 refine fnk Tryz.func259 (by kernel_rfl) rfl (by kernel_rfl) (by kernel_rfl) ?_
 unfold Zbi at h
 simp only [fnS,f259,Zm,go_sem,seval]
 refine Ze h (fun _ h=>?_) fun _ h=>?_<;>try simp only [*,go_sem,seval]
 cases h
 try simp only [*,go_sem,seval]
 refine Zi h (fun i _ st=>IV [(0,.p false [.c (.sl 3 1 (List.map ZI a_0))]),(1,.p false [.c (.sl 3 1 (List.map ZI b_1))]),(5,.p false [.c (.int .i64 ((i:Nat):Int))])] [] st) [] [] (by decide) ?_ ?_ ?_
 simp only [*,go_sem,seval]
 rintro m o ⟨⟩ ⟨sl,ob,n⟩ q a b e h f
 simp only [go_sem,seval,Zc] at b
 obtain ⟨⟨g,t,u⟩,hn⟩:=b
 subst hn
 have k:=WF.slotL e g (j:=0) rfl
 have v:=ZA a
 have w:=ZC a
 have x:=Zj (ZB a) k
 obtain ⟨y,z,A,l,h⟩:=ZbQ h
 simp only [Int.toNat_natCast] at l
 try simp only [*,go_sem,seval]
 refine Ze h (fun _ h=>?_) fun _ h=>?_<;>try simp only [*,go_sem,seval]
 replace h:=Zn h f
 cases h
 try simp only [*,go_sem,seval]
 refine ⟨_,[],[],(Option.some.inj h).symm,by decide,?_⟩
 try simp only [*,go_sem,seval]
 rintro ⟨⟩ ⟨sl,ob,n⟩ d B h
 simp only [go_sem,seval,Zc] at d
 obtain ⟨⟨C,D,E⟩,hn⟩:=d
 subst hn
 have F:=Zy (a_0.length)
 cases h
 try simp only [*,go_sem,seval]
end Go.Proofs.YtfehfkfdfmcgfaaGreatDoor
namespace Go.Proofs.YtfehfkfdfmcgfaaGreatDoor
open Go.Proofs.Tryz
set_option linter.unusedSimpArgs false
set_option linter.unusedVariables false
set_option maxRecDepth 1000000
set_option maxHeartbeats 4000000
theorem Zb1 {s_0:ByteArray} {r:(Int × Bool)} (h:Qe s_0=some r):Zk Tryz.prog J0 144 [(false,[.str s_0])] [(false,[(false,.int .i64 r.1)]),(false,[(false,.bool r.2)])]:=by
 refine fnk Tryz.func144 (by kernel_rfl) rfl (by kernel_rfl) (by kernel_rfl) ?_
 unfold Qe at h
 simp only [fnS,f144,Zm,go_sem,seval]
 obtain ⟨q,g,h⟩:=Za h
 refine Zd (XU g) ?_
 try simp only [*,go_sem,seval]
 refine Ze h (fun _ h=>?_) fun _ h=>?_<;>try simp only [*,go_sem,seval]
 refine Zi h (fun i a st=>IV [(0,.p false [.c (.str s_0)]),(4,.p false [.c (.int .i64 a)]),(5,.p false [.c (.int .i64 ((i:Nat):Int))])] [] st) [] [] (by decide) ?_ ?_ ?_
 simp only [*,go_sem,seval]
 rintro t u a ⟨sl,ob,n⟩ v b d k h e
 simp only [go_sem,seval,Zc] at d
 obtain ⟨⟨l,w,x⟩,hn⟩:=d
 subst hn
 have m:=WF.slotS k l (j:=0) rfl
 have y:=Zpp b
 have z:=Zva b
 have A:=Zj (Zta b) m
 try simp only [*,go_sem,seval]
 refine Ze h (fun _ h=>?_) fun _ h=>?_<;>try simp only [*,go_sem,seval]
 replace h:=Zn h e
 cases h
 try simp only [*,go_sem,seval]
 refine Ze h (fun _ h=>?_) fun _ h=>?_<;>try simp only [*,go_sem,seval]
 replace h:=Zn h e
 cases h
 try simp only [*,go_sem,seval]
 refine ⟨_,[],[],(Option.some.inj h).symm,by decide,?_⟩
 try simp only [*,go_sem,seval]
 rintro a ⟨sl,ob,n⟩ f B h
 simp only [go_sem,seval,Zc] at f
 obtain ⟨⟨C,D,E⟩,hn⟩:=f
 subst hn
 have F:=Zy (s_0.size)
 try simp only [*,go_sem,seval]
 obtain ⟨G,o,h⟩:=Za h
 refine Zd (ZgG o) ?_
 try simp only [*,go_sem,seval]
 refine Ze h (fun _ h=>?_) fun _ h=>?_<;>try simp only [*,go_sem,seval]
 iterate 3 (cases h;try simp only [*,go_sem,seval])
theorem X0 {s_0:ByteArray} {r:Bool} (h:Qk s_0=some r):Zk Tryz.prog J0 143 [(false,[.str s_0])] [(false,[(false,.bool r)])]:=by
 refine fnk Tryz.func143 (by kernel_rfl) rfl (by kernel_rfl) (by kernel_rfl) ?_
 unfold Qk at h
 simp only [fnS,f143,Zm,go_sem,seval]
 refine Zi h (fun i _ st=>IV [(0,.p false [.c (.str s_0)]),(3,.p false [.c (.int .i64 ((i:Nat):Int))])] [] st) [] [] (by decide) ?_ ?_ ?_
 simp only [*,go_sem,seval]
 rintro q t ⟨⟩ ⟨sl,ob,n⟩ u a b e h f
 simp only [go_sem,seval,Zc] at b
 obtain ⟨⟨g,v⟩,hn⟩:=b
 subst hn
 have k:=WF.slotS e g (j:=0) rfl
 have w:=Zpp a
 have x:=Zva a
 have y:=Zj (Zta a) k
 try simp only [*,go_sem,seval]
 obtain ⟨z,l,h⟩:=Za h
 refine Zd (XU l) ?_
 try simp only [*,go_sem,seval]
 refine Ze h (fun _ h=>?_) fun _ h=>?_<;>try simp only [*,go_sem,seval]
 refine ⟨_,[],[],(Option.some.inj h).symm,by decide,?_⟩
 try simp only [*,go_sem,seval]
 obtain ⟨A,m,h⟩:=Za h
 refine Zd (XU m) ?_
 try simp only [*,go_sem,seval]
 refine Ze h (fun _ h=>?_) fun _ h=>?_<;>try simp only [*,go_sem,seval]
 refine ⟨_,[],[],(Option.some.inj h).symm,by decide,?_⟩
 try simp only [*,go_sem,seval]
 replace h:=Zn h f
 cases h
 try simp only [*,go_sem,seval]
 rintro ⟨⟩ ⟨sl,ob,n⟩ d B h
 simp only [go_sem,seval,Zc] at d
 obtain ⟨⟨C,D⟩,hn⟩:=d
 subst hn
 have E:=Zy (s_0.size)
 try simp only [*,go_sem,seval]
 obtain ⟨F,o,h⟩:=Za h
 refine Zd (XU o) ?_
 cases h
 try simp only [*,go_sem,seval]
theorem Xa {f_0:Zb} {r:Zb} (h:Xj f_0=some r):Zk Tryz.prog J0 81 [(true,Zl f_0)] [(true,[(false,.str r.rel),(false,.sl 9 1 (List.map Zx r.args))])]:=by
 refine fnk Tryz.func81 (by kernel_rfl) rfl (by kernel_rfl) (by kernel_rfl) ?_
 unfold Xj at h
 simp only [fnS,f81,Zm,go_sem,seval]
 obtain ⟨b,a,h⟩:=Za h
 refine Zd (ZpE a) ?_
 cases h
 try simp only [*,go_sem,seval]
theorem Zgl {s_0:ByteArray} {r:Bool} (h:Zd1 s_0=some r):Zk Tryz.prog J0 195 [(false,[.str s_0])] [(false,[(false,.bool r)])]:=by
 refine fnk Tryz.func195 (by kernel_rfl) rfl (by kernel_rfl) (by kernel_rfl) ?_
 unfold Zd1 at h
 simp only [fnS,f195,Zm,go_sem,seval]
 obtain ⟨c,a,h⟩:=Za h
 refine Zd (X4 a) ?_
 try simp only [*,go_sem,seval]
 refine Ze h (fun _ h=>?_) fun _ h=>?_<;>try simp only [*,go_sem,seval]
 obtain ⟨d,e,b,h⟩:=ZpS h
 try simp only [seval] at b
 iterate 2 (cases h;try simp only [*,go_sem,seval])
theorem Zcf {s_0:ByteArray} {r:(Int × Bool)} (h:QE s_0=some r):Zk Tryz.prog J0 266 [(false,[.str s_0])] [(false,[(false,.int .i64 r.1)]),(false,[(false,.bool r.2)])]:=by
 refine fnk Tryz.func266 (by kernel_rfl) rfl (by kernel_rfl) (by kernel_rfl) ?_
 unfold QE at h
 simp only [fnS,f266,Zm,go_sem,seval]
 refine Ze h (fun _ h=>?_) fun _ h=>?_<;>try simp only [*,go_sem,seval]
 ·cases h
  try simp only [*,go_sem,seval]
 ·refine Ze h (fun _ h=>?_) fun _ h=>?_<;>try simp only [*,go_sem,seval]
  ·cases h
   try simp only [*,go_sem,seval]
  ·obtain ⟨v1,e3,h⟩:=Za h
   refine Zd (by have hh:=Zt2 e3;first|exact hh|(simp only [*,go_sem] at hh;exact hh)) ?_
   try simp only [*,go_sem,seval]
   refine Ze h (fun _ h=>?_) fun _ h=>?_<;>try simp only [*,go_sem,seval]
   ·refine Ze h (fun _ h=>?_) fun _ h=>?_<;>try simp only [*,go_sem,seval]
    ·cases h
     try simp only [*,go_sem,seval]
    ·refine Ze h (fun _ h=>?_) fun _ h=>?_<;>try simp only [*,go_sem,seval]
     ·cases h
      try simp only [*,go_sem,seval]
     ·obtain ⟨v2,e7,h⟩:=Za h
      refine Zd (by have hh:=ZkY e7;first|exact hh|(simp only [*,go_sem] at hh;exact hh)) ?_
      try simp only [*,go_sem,seval]
      refine Ze h (fun _ h=>?_) fun _ h=>?_<;>try simp only [*,go_sem,seval]
      ·cases h
       try simp only [*,go_sem,seval]
      ·cases h
       try simp only [*,go_sem,seval]
   ·cases h
    try simp only [*,go_sem,seval]
theorem Zdc {s_0:ByteArray} {r:Bool} (h:ZcP s_0=some r):Zk Tryz.prog J0 207 [(false,[.str s_0])] [(false,[(false,.bool r)])]:=by
 refine fnk Tryz.func207 (by kernel_rfl) rfl (by kernel_rfl) (by kernel_rfl) ?_
 unfold ZcP at h
 simp only [fnS,f207,Zm,go_sem,seval]
 refine Ze h (fun _ h=>?_) fun _ h=>?_<;>try simp only [*,go_sem,seval]
 obtain ⟨c,d,a,h⟩:=ZpS h
 try simp only [seval] at a
 try simp only [*,go_sem,seval]
 refine Ze h (fun _ h=>?_) fun _ h=>?_<;>try simp only [*,go_sem,seval]
 obtain ⟨e,h⟩:=Zq h
 try simp only [*,go_sem,seval]
 obtain ⟨f,b,h⟩:=Za h
 refine Zd (X4 b) ?_
 iterate 3 (cases h;try simp only [*,go_sem,seval])
theorem ZmL {a_0:Zb} {b_1:Zb} {r:Bool} (h:ZbR a_0 b_1=some r):Zk Tryz.prog J0 139 [(true,Zl a_0),(true,Zl b_1)] [(false,[(false,.bool r)])]:=by
 refine fnk Tryz.func139 (by kernel_rfl) rfl (by kernel_rfl) (by kernel_rfl) ?_
 unfold ZbR at h
 simp only [fnS,f139,Zm,go_sem,seval]
 refine Ze h (fun _ h=>?_) fun _ h=>?_<;>try simp only [*,go_sem,seval]
 obtain ⟨b,a,h⟩:=Za h
 refine Zd (Zls a) ?_
 iterate 2 (cases h;try simp only [*,go_sem,seval])
theorem ZpH {x_0:Zt} {r:(List ByteArray)} (h:Zhu x_0=some r):Zk Tryz.prog J0 268 [(true,ZK x_0)] [(false,[(false,.sl 9 1 (List.map Zx r))])]:=by
 refine fnk Tryz.func268 (by kernel_rfl) rfl (by kernel_rfl) (by kernel_rfl) ?_
 unfold Zhu at h
 simp only [fnS,f268,Zm,go_sem,seval]
 obtain ⟨c,a,h⟩:=Za h
 refine Zd (Zgx a) ?_
 obtain ⟨b,h⟩:=Zq h
 try simp only [Nat.reduceLeDiff] at b
 cases h
 try simp only [*,go_sem,seval]
theorem ZhN {r_0:Zg} {r:(List ByteArray)} (h:Qf r_0=some r):Zk Tryz.prog J0 78 [(true,ZF r_0)] [(false,[(false,.sl 9 1 (List.map Zx r))])]:=by
 refine fnk Tryz.func78 (by kernel_rfl) rfl (by kernel_rfl) (by kernel_rfl) ?_
 unfold Qf at h
 simp only [fnS,f78,Zm,go_sem,seval]
 refine Zi h (fun i a st=>IV [(3,.p false [.row 0]),(7,.p false [.c (.sl 50 3 (List.map ZG r_0.thn))]),(8,.p false [.c (.int .i64 ((r_0.thn.length:Nat):Int))]),(9,.p false [.c (.int .i64 ((i:Nat):Int))])] [.row 9 1 (List.map Zx a) 2] st) [(false,3,0)] [112] (by decide) ?_ ?_ ?_
 simp only [*,go_sem,seval]
 rintro q t a ⟨sl,ob,n⟩ u b d f h v
 simp only [go_sem,seval,Zc] at d
 obtain ⟨⟨w,g,x,y⟩,z,hn⟩:=d
 subst hn
 have k:=WF.slotL f g (j:=0) rfl
 have A:=ZA b
 have B:=ZC b
 have C:=Zj (ZB b) k
 try simp only [*,go_sem,seval]
 refine Ze h (fun _ h=>?_) fun _ h=>?_<;>try simp only [*,go_sem,seval]
 obtain ⟨l,h⟩:=Zq h
 try simp only [Nat.reduceLeDiff] at l
 try simp only [*,go_sem,seval]
 refine ⟨_,[],[289],(Option.some.inj h).symm,by decide,?_⟩
 try simp only [*,go_sem,seval]
 refine Ze h (fun _ h=>?_) fun _ h=>?_<;>try simp only [*,go_sem,seval]
 obtain ⟨m,h⟩:=Zq h
 try simp only [Nat.reduceLeDiff] at m
 try simp only [*,go_sem,seval]
 refine ⟨_,[],[289],(Option.some.inj h).symm,by decide,?_⟩
 try simp only [*,go_sem,seval]
 refine ⟨_,[],[0],(Option.some.inj h).symm,by decide,?_⟩
 try simp only [*,go_sem,seval]
 rintro a ⟨sl,ob,n⟩ e D h
 simp only [go_sem,seval,Zc] at e
 obtain ⟨⟨E,F,G,H⟩,I,hn⟩:=e
 subst hn
 have J:=Zy (r_0.thn.length)
 try simp only [*,go_sem,seval]
 obtain ⟨K,o,h⟩:=Za h
 refine Zd (XX o) ?_
 cases h
 try simp only [*,go_sem,seval]
theorem Zo9 {r_0:Zg} {r:(List ByteArray)} (h:ZbX r_0=some r):Zk Tryz.prog J0 146 [(true,ZF r_0)] [(false,[(false,.sl 9 1 (List.map Zx r))])]:=by
 refine fnk Tryz.func146 (by kernel_rfl) rfl (by kernel_rfl) (by kernel_rfl) ?_
 unfold ZbX at h
 simp only [fnS,f146,Zm,go_sem,seval]
 refine Zi h (fun i a st=>IV [(3,.p false [.row 0]),(7,.p false [.c (.sl 173 5 (List.map ZK r_0.cond))]),(8,.p false [.c (.int .i64 ((r_0.cond.length:Nat):Int))]),(9,.p false [.c (.int .i64 ((i:Nat):Int))])] [.row 9 1 (List.map Zx a) 2] st) [(false,3,0)] [112] (by decide) ?_ ?_ ?_
 simp only [*,go_sem,seval]
 rintro q t a ⟨sl,ob,n⟩ u b d f h v
 simp only [go_sem,seval,Zc] at d
 obtain ⟨⟨w,g,x,y⟩,z,hn⟩:=d
 subst hn
 have k:=WF.slotL f g (j:=0) rfl
 have A:=ZA b
 have B:=ZC b
 have C:=Zj (ZB b) k
 try simp only [*,go_sem,seval]
 refine Ze h (fun _ h=>?_) fun _ h=>?_<;>try simp only [*,go_sem,seval]
 obtain ⟨l,h⟩:=Zq h
 try simp only [Nat.reduceLeDiff] at l
 try simp only [*,go_sem,seval]
 refine ⟨_,[],[289],(Option.some.inj h).symm,by decide,?_⟩
 try simp only [*,go_sem,seval]
 refine Ze h (fun _ h=>?_) fun _ h=>?_<;>try simp only [*,go_sem,seval]
 obtain ⟨m,h⟩:=Zq h
 try simp only [Nat.reduceLeDiff] at m
 try simp only [*,go_sem,seval]
 refine ⟨_,[],[289],(Option.some.inj h).symm,by decide,?_⟩
 try simp only [*,go_sem,seval]
 refine ⟨_,[],[0],(Option.some.inj h).symm,by decide,?_⟩
 try simp only [*,go_sem,seval]
 rintro a ⟨sl,ob,n⟩ e D h
 simp only [go_sem,seval,Zc] at e
 obtain ⟨⟨E,F,G,H⟩,I,hn⟩:=e
 subst hn
 have J:=Zy (r_0.cond.length)
 try simp only [*,go_sem,seval]
 obtain ⟨K,o,h⟩:=Za h
 refine Zd (XX o) ?_
 cases h
 try simp only [*,go_sem,seval]
theorem YO {f_0:Zb} {r:Zb} (h:YA f_0=some r):Zk Tryz.prog J0 115 [(true,Zl f_0)] [(true,[(false,.str r.rel),(false,.sl 9 1 (List.map Zx r.args))])]:=by
 refine fnk Tryz.func115 (by kernel_rfl) rfl (by kernel_rfl) (by kernel_rfl) ?_
 unfold YA at h
 simp only [fnS,f115,Zm,go_sem,seval]
 obtain ⟨b,a,h⟩:=Za h
 refine Zd (Zgx a) ?_
 cases h
 try simp only [*,go_sem,seval]
theorem ZkG {a_0:Zf} {b_1:Zf} {r:Bool} (h:Zbw a_0 b_1=some r):Zk Tryz.prog J0 256 [(true,ZE a_0),(true,ZE b_1)] [(false,[(false,.bool r)])]:=by
 refine fnk Tryz.func256 (by kernel_rfl) rfl (by kernel_rfl) (by kernel_rfl) ?_
 unfold Zbw at h
 simp only [fnS,f256,Zm,go_sem,seval]
 refine Ze h (fun _ h=>?_) fun _ h=>?_<;>try simp only [*,go_sem,seval]
 obtain ⟨c,a,h⟩:=Za h
 refine Zd (ZhM a) ?_
 try simp only [*,go_sem,seval]
 refine Ze h (fun _ h=>?_) fun _ h=>?_<;>try simp only [*,go_sem,seval]
 obtain ⟨d,b,h⟩:=Za h
 refine Zd (ZhM b) ?_
 iterate 3 (cases h;try simp only [*,go_sem,seval])
theorem Zry {a_0:Zb} {b_1:Zb} {r:Bool} (h:Zmh a_0 b_1=some r):Zk Tryz.prog J0 80 [(true,Zl a_0),(true,Zl b_1)] [(false,[(false,.bool r)])]:=by
 refine fnk Tryz.func80 (by kernel_rfl) rfl (by kernel_rfl) (by kernel_rfl) ?_
 unfold Zmh at h
 simp only [fnS,f80,Zm,go_sem,seval]
 refine Ze h (fun _ h=>?_) fun _ h=>?_<;>try simp only [*,go_sem,seval]
 obtain ⟨b,a,h⟩:=Za h
 refine Zd (ZjC a) ?_
 iterate 2 (cases h;try simp only [*,go_sem,seval])
theorem Znk {a_0:(List ByteArray)} {b_1:(List ByteArray)} {r:Bool} (h:Zdm a_0 b_1=some r):Zk Tryz.prog J0 276 [(false,[.sl 9 1 (List.map Zx a_0)]),(false,[.sl 9 1 (List.map Zx b_1)])] [(false,[(false,.bool r)])]:=by
 refine fnk Tryz.func276 (by kernel_rfl) rfl (by kernel_rfl) (by kernel_rfl) ?_
 unfold Zdm at h
 simp only [fnS,f276,Zm,go_sem,seval]
 refine Zi h (fun i _ st=>IV [(0,.p false [.c (.sl 9 1 (List.map Zx a_0))]),(1,.p false [.c (.sl 9 1 (List.map Zx b_1))]),(5,.p false [.c (.int .i64 ((i:Nat):Int))])] [] st) [] [] (by decide) ?_ ?_ ?_
 simp only [*,go_sem,seval]
 rintro m o ⟨⟩ ⟨sl,ob,n⟩ q a b e h f
 simp only [go_sem,seval,Zc] at b
 obtain ⟨⟨g,t,u⟩,hn⟩:=b
 subst hn
 have k:=WF.slotL e g (j:=0) rfl
 have v:=ZA a
 have w:=ZC a
 have x:=Zj (ZB a) k
 try simp only [*,go_sem,seval]
 obtain ⟨y,l,h⟩:=Za h
 refine Zd (Yz l) ?_
 try simp only [*,go_sem,seval]
 refine Ze h (fun _ h=>?_) fun _ h=>?_<;>try simp only [*,go_sem,seval]
 refine ⟨_,[],[],(Option.some.inj h).symm,by decide,?_⟩
 try simp only [*,go_sem,seval]
 replace h:=Zn h f
 cases h
 try simp only [*,go_sem,seval]
 rintro ⟨⟩ ⟨sl,ob,n⟩ d z h
 simp only [go_sem,seval,Zc] at d
 obtain ⟨⟨A,B,C⟩,hn⟩:=d
 subst hn
 have D:=Zy (a_0.length)
 cases h
 try simp only [*,go_sem,seval]
theorem ZhE {r_0:Zg} {r:(List ByteArray)} (h:QR r_0=some r):Zk Tryz.prog J0 235 [(true,ZF r_0)] [(false,[(false,.sl 9 1 (List.map Zx r))])]:=by
 refine fnk Tryz.func235 (by kernel_rfl) rfl (by kernel_rfl) (by kernel_rfl) ?_
 unfold QR at h
 simp only [fnS,f235,Zm,go_sem,seval]
 refine Zi h (fun i a st=>IV [(1,.bp 0 0),(3,.p false [.row 1]),(4,.p false [.c (.int .i64 ((i:Nat):Int))])] [.box 42 [.c (.str r_0.name),.c (.int .i64 r_0.priority),.c (.sl 173 5 (List.map ZK r_0.cond)),.c (.sl 50 3 (List.map ZG r_0.thn))],.row 9 1 (List.map Zx a) 2] st) [] [0,32] (by decide) ?_ ?_ ?_
 simp only [*,go_sem,seval]
 rintro o q a ⟨sl,ob,n⟩ t b d f h u
 simp only [go_sem,seval,Zc] at d
 obtain ⟨⟨v,w,x⟩,g,y,hn⟩:=d
 subst hn
 have k:=WF.boxL f g (j:=3) rfl
 have z:=ZA b
 have A:=ZC b
 have B:=Zj (ZB b) k
 try simp only [*,go_sem,seval]
 refine Ze h (fun _ h=>?_) fun _ h=>?_<;>try simp only [*,go_sem,seval]
 obtain ⟨C,l,h⟩:=Za h
 refine Zd (Xg l) ?_
 try simp only [*,go_sem,seval]
 refine ⟨_,[],[0,466],(Option.some.inj h).symm,by decide,?_⟩
 try simp only [*,go_sem,seval]
 refine Ze h (fun _ h=>?_) fun _ h=>?_<;>try simp only [*,go_sem,seval]
 obtain ⟨D,m,h⟩:=Za h
 refine Zd (Xg m) ?_
 try simp only [*,go_sem,seval]
 refine ⟨_,[],[0,466],(Option.some.inj h).symm,by decide,?_⟩
 try simp only [*,go_sem,seval]
 refine ⟨_,[],[0,1],(Option.some.inj h).symm,by decide,?_⟩
 try simp only [*,go_sem,seval]
 rintro a ⟨sl,ob,n⟩ e E h
 simp only [go_sem,seval,Zc] at e
 obtain ⟨⟨F,G,H⟩,I,J,hn⟩:=e
 subst hn
 have K:=Zy (r_0.thn.length)
 cases h
 try simp only [*,go_sem,seval]
theorem Zpg {r_0:Zg} {r:(List ByteArray)} (h:ZbY r_0=some r):Zk Tryz.prog J0 277 [(true,ZF r_0)] [(false,[(false,.sl 9 1 (List.map Zx r))])]:=by
 refine fnk Tryz.func277 (by kernel_rfl) rfl (by kernel_rfl) (by kernel_rfl) ?_
 unfold ZbY at h
 simp only [fnS,f277,Zm,go_sem,seval]
 refine Zi h (fun i a st=>IV [(1,.bp 0 0),(3,.p false [.row 1]),(4,.p false [.c (.int .i64 ((i:Nat):Int))])] [.box 42 [.c (.str r_0.name),.c (.int .i64 r_0.priority),.c (.sl 173 5 (List.map ZK r_0.cond)),.c (.sl 50 3 (List.map ZG r_0.thn))],.row 9 1 (List.map Zx a) 2] st) [] [0,32] (by decide) ?_ ?_ ?_
 simp only [*,go_sem,seval]
 rintro o q a ⟨sl,ob,n⟩ t b d f h u
 simp only [go_sem,seval,Zc] at d
 obtain ⟨⟨v,w,x⟩,g,y,hn⟩:=d
 subst hn
 have k:=WF.boxL f g (j:=2) rfl
 have z:=ZA b
 have A:=ZC b
 have B:=Zj (ZB b) k
 try simp only [*,go_sem,seval]
 refine Ze h (fun _ h=>?_) fun _ h=>?_<;>try simp only [*,go_sem,seval]
 obtain ⟨C,l,h⟩:=Za h
 refine Zd (Xg l) ?_
 try simp only [*,go_sem,seval]
 refine ⟨_,[],[0,466],(Option.some.inj h).symm,by decide,?_⟩
 try simp only [*,go_sem,seval]
 refine Ze h (fun _ h=>?_) fun _ h=>?_<;>try simp only [*,go_sem,seval]
 obtain ⟨D,m,h⟩:=Za h
 refine Zd (Xg m) ?_
 try simp only [*,go_sem,seval]
 refine ⟨_,[],[0,466],(Option.some.inj h).symm,by decide,?_⟩
 try simp only [*,go_sem,seval]
 refine ⟨_,[],[0,1],(Option.some.inj h).symm,by decide,?_⟩
 try simp only [*,go_sem,seval]
 rintro a ⟨sl,ob,n⟩ e E h
 simp only [go_sem,seval,Zc] at e
 obtain ⟨⟨F,G,H⟩,I,J,hn⟩:=e
 subst hn
 have K:=Zy (r_0.cond.length)
 cases h
 try simp only [*,go_sem,seval]
theorem Zo7 {l_0:(List Zf)} {r_1:Zf} {r:Int} (h:ZeD l_0 r_1=some r):Zk Tryz.prog J0 193 [(false,[.sl 199 3 (List.map ZE l_0)]),(true,ZE r_1)] [(false,[(false,.int .i64 r)])]:=by
 refine fnk Tryz.func193 (by kernel_rfl) rfl (by kernel_rfl) (by kernel_rfl) ?_
 unfold ZeD at h
 simp only [fnS,f193,Zm,go_sem,seval]
 refine Zi h (fun i _ st=>IV [(0,.p false [.c (.sl 199 3 (List.map ZE l_0))]),(3,.bp 0 0),(5,.p false [.c (.int .i64 ((i:Nat):Int))])] [.box 199 [.c (.int .i64 r_1.for_),.c (.sl 3 1 (List.map ZI r_1.inn)),.c (.sl 3 1 (List.map ZI r_1.outs))]] st) [] [0] (by decide) ?_ ?_ ?_
 simp only [*,go_sem,seval]
 rintro o q ⟨⟩ ⟨sl,ob,n⟩ t a b e h f
 simp only [go_sem,seval,Zc] at b
 obtain ⟨⟨g,u,v⟩,w,hn⟩:=b
 subst hn
 have k:=WF.slotL e g (j:=0) rfl
 have x:=ZA a
 have y:=ZC a
 have z:=Zj (ZB a) k
 try simp only [*,go_sem,seval]
 refine Ze h (fun _ h=>?_) fun _ h=>?_<;>try simp only [*,go_sem,seval]
 obtain ⟨A,l,h⟩:=Za h
 refine Zd (ZfS l) ?_
 try simp only [*,go_sem,seval]
 refine Ze h (fun _ h=>?_) fun _ h=>?_<;>try simp only [*,go_sem,seval]
 obtain ⟨B,m,h⟩:=Za h
 refine Zd (ZfS m) ?_
 try simp only [*,go_sem,seval]
 refine Ze h (fun _ h=>?_) fun _ h=>?_<;>try simp only [*,go_sem,seval]
 replace h:=Zn h f
 cases h
 try simp only [*,go_sem,seval]
 refine ⟨_,[],[0],(Option.some.inj h).symm,by decide,?_⟩
 try simp only [*,go_sem,seval]
 refine ⟨_,[],[0],(Option.some.inj h).symm,by decide,?_⟩
 try simp only [*,go_sem,seval]
 refine ⟨_,[],[0],(Option.some.inj h).symm,by decide,?_⟩
 try simp only [*,go_sem,seval]
 rintro ⟨⟩ ⟨sl,ob,n⟩ d C h
 simp only [go_sem,seval,Zc] at d
 obtain ⟨⟨D,E,F⟩,G,hn⟩:=d
 subst hn
 have H:=Zy (l_0.length)
 cases h
 try simp only [*,go_sem,seval]
end Go.Proofs.YtfehfkfdfmcgfaaGreatDoor
namespace Go.Proofs.YtfehfkfdfmcgfaaGreatDoor
open Go.Proofs.Tryz
set_option linter.unusedSimpArgs false
set_option linter.unusedVariables false
set_option maxRecDepth 1000000
set_option maxHeartbeats 4000000
theorem ZgV {s_0:ByteArray} {r:Bool} (h:ZdP s_0=some r):Zk Tryz.prog J0 141 [(false,[.str s_0])] [(false,[(false,.bool r)])]:=by
 refine fnk Tryz.func141 (by kernel_rfl) rfl (by kernel_rfl) (by kernel_rfl) ?_
 unfold ZdP at h
 simp only [fnS,f141,Zm,go_sem,seval]
 obtain ⟨d,a,h⟩:=Za h
 refine Zd (X0 a) ?_
 try simp only [*,go_sem,seval]
 refine Ze h (fun _ h=>?_) fun _ h=>?_<;>try simp only [*,go_sem,seval]
 obtain ⟨e,f,b,h⟩:=ZpS h
 try simp only [seval] at b
 try simp only [*,go_sem,seval]
 obtain ⟨g,c,h⟩:=Za h
 refine Zd (XU c) ?_
 iterate 2 (cases h;try simp only [*,go_sem,seval])
theorem Q3 {s_0:ByteArray} {r:Bool} (h:Zaz s_0=some r):Zk Tryz.prog J0 142 [(false,[.str s_0])] [(false,[(false,.bool r)])]:=by
 refine fnk Tryz.func142 (by kernel_rfl) rfl (by kernel_rfl) (by kernel_rfl) ?_
 unfold Zaz at h
 simp only [fnS,f142,Zm,go_sem,seval]
 refine Ze h (fun _ h=>?_) fun _ h=>?_<;>try simp only [*,go_sem,seval]
 obtain ⟨c,d,a,h⟩:=ZpS h
 try simp only [seval] at a
 try simp only [*,go_sem,seval]
 refine Ze h (fun _ h=>?_) fun _ h=>?_<;>try simp only [*,go_sem,seval]
 obtain ⟨e,h⟩:=Zq h
 try simp only [*,go_sem,seval]
 obtain ⟨f,b,h⟩:=Za h
 refine Zd (X0 b) ?_
 iterate 3 (cases h;try simp only [*,go_sem,seval])
theorem Zej {a_0:ByteArray} {b_1:ByteArray} {r:Int} (h:Xd a_0 b_1=some r):Zk Tryz.prog J0 75 [(false,[.str a_0]),(false,[.str b_1])] [(false,[(false,.int .i64 r)])]:=by
 refine fnk Tryz.func75 (by kernel_rfl) rfl (by kernel_rfl) (by kernel_rfl) ?_
 unfold Xd at h
 simp only [fnS,f75,Zm,go_sem,seval]
 obtain ⟨d,a,h⟩:=Za h
 refine Zd (Zb1 a) ?_
 try simp only [*,go_sem,seval]
 obtain ⟨e,b,h⟩:=Za h
 refine Zd (Zb1 b) ?_
 try simp only [*,go_sem,seval]
 iterate 3 refine Ze h (fun _ h=>?_) fun _ h=>?_<;>try simp only [*,go_sem,seval]
 cases h
 try simp only [*,go_sem,seval]
 refine Ze h (fun _ h=>?_) fun _ h=>?_<;>try simp only [*,go_sem,seval]
 iterate 3 (cases h;try simp only [*,go_sem,seval])
 refine Ze h (fun _ h=>?_) fun _ h=>?_<;>try simp only [*,go_sem,seval]
 cases h
 try simp only [*,go_sem,seval]
 obtain ⟨f,c,h⟩:=Za h
 refine Zd (Zle c) ?_
 cases h
 try simp only [*,go_sem,seval]
theorem Zky {f_0:Zb} {r:Bool} (h:ZeG f_0=some r):Zk Tryz.prog J0 134 [(true,Zl f_0)] [(false,[(false,.bool r)])]:=by
 refine fnk Tryz.func134 (by kernel_rfl) rfl (by kernel_rfl) (by kernel_rfl) ?_
 unfold ZeG at h
 simp only [fnS,f134,Zm,go_sem,seval]
 obtain ⟨o,e,h⟩:=Za h
 refine Zd (Zgl e) ?_
 try simp only [*,go_sem,seval]
 iterate 2 refine Ze h (fun _ h=>?_) fun _ h=>?_<;>try simp only [*,go_sem,seval]
 cases h
 try simp only [*,go_sem,seval]
 refine Zi h (fun i _ st=>IV [(16,.p false [.c (.sl 9 1 (List.map Zx f_0.args))]),(17,.p false [.c (.int .i64 ((f_0.args.length:Nat):Int))]),(18,.p false [.c (.int .i64 ((i:Nat):Int))])] [] st) [] [] (by decide) ?_ ?_ ?_
 simp only [*,go_sem,seval]
 rintro q t ⟨⟩ ⟨sl,ob,n⟩ u a b f h g
 simp only [go_sem,seval,Zc] at b
 obtain ⟨⟨k,v,w⟩,hn⟩:=b
 subst hn
 have l:=WF.slotL f k (j:=0) rfl
 have x:=ZA a
 have y:=ZC a
 have z:=Zj (ZB a) l
 try simp only [*,go_sem,seval]
 obtain ⟨A,m,h⟩:=Za h
 refine Zd (X4 m) ?_
 try simp only [*,go_sem,seval]
 refine Ze h (fun _ h=>?_) fun _ h=>?_<;>try simp only [*,go_sem,seval]
 refine ⟨_,[],[],(Option.some.inj h).symm,by decide,?_⟩
 try simp only [*,go_sem,seval]
 replace h:=Zn h g
 cases h
 try simp only [*,go_sem,seval]
 rintro ⟨⟩ ⟨sl,ob,n⟩ d B h
 simp only [go_sem,seval,Zc] at d
 obtain ⟨⟨C,D,E⟩,hn⟩:=d
 subst hn
 have F:=Zy (f_0.args.length)
 iterate 2 (cases h;try simp only [*,go_sem,seval])
theorem Ziz {a_0:ByteArray} {b_1:ByteArray} {r:Int} (h:QV a_0 b_1=some r):Zk Tryz.prog J0 204 [(false,[.str a_0]),(false,[.str b_1])] [(false,[(false,.int .i64 r)])]:=by
 refine fnk Tryz.func204 (by kernel_rfl) rfl (by kernel_rfl) (by kernel_rfl) ?_
 unfold QV at h
 simp only [fnS,f204,Zm,go_sem,seval]
 obtain ⟨e,a,h⟩:=Za h
 refine Zd (Zcf a) ?_
 try simp only [*,go_sem,seval]
 obtain ⟨f,b,h⟩:=Za h
 refine Zd (Zcf b) ?_
 try simp only [*,go_sem,seval]
 iterate 2 refine Ze h (fun _ h=>?_) fun _ h=>?_<;>try simp only [*,go_sem,seval]
 obtain ⟨g,c,h⟩:=Za h
 refine Zd (ZbW c) ?_
 iterate 2 (cases h;try simp only [*,go_sem,seval])
 refine Ze h (fun _ h=>?_) fun _ h=>?_<;>try simp only [*,go_sem,seval]
 cases h
 try simp only [*,go_sem,seval]
 obtain ⟨i,d,h⟩:=Za h
 refine Zd (Zjc d) ?_
 cases h
 try simp only [*,go_sem,seval]
theorem QH {s_0:ByteArray} {r:Bool} (h:QI s_0=some r):Zk Tryz.prog J0 206 [(false,[.str s_0])] [(false,[(false,.bool r)])]:=by
 refine fnk Tryz.func206 (by kernel_rfl) rfl (by kernel_rfl) (by kernel_rfl) ?_
 unfold QI at h
 simp only [fnS,f206,Zm,go_sem,seval]
 obtain ⟨c,a,h⟩:=Za h
 refine Zd (X4 a) ?_
 try simp only [*,go_sem,seval]
 refine Ze h (fun _ h=>?_) fun _ h=>?_<;>try simp only [*,go_sem,seval]
 cases h
 try simp only [*,go_sem,seval]
 obtain ⟨d,b,h⟩:=Za h
 refine Zd (Zdc b) ?_
 cases h
 try simp only [*,go_sem,seval]
theorem QO {b_0:(List Zs)} {r:Bool} (h:Xz b_0=some r):Zk Tryz.prog J0 137 [(false,[.sl 166 2 (List.map Z4 b_0)])] [(false,[(false,.bool r)])]:=by
 refine fnk Tryz.func137 (by kernel_rfl) rfl (by kernel_rfl) (by kernel_rfl) ?_
 unfold Xz at h
 simp only [fnS,f137,Zm,go_sem,seval]
 refine Ze h (fun _ h=>?_) fun _ h=>?_<;>try simp only [*,go_sem,seval]
 cases h
 try simp only [*,go_sem,seval]
 refine Zi h (fun i _ st=>IV [(0,.p false [.c (.sl 166 2 (List.map Z4 b_0))]),(8,.p false [.c (.sl 166 2 (List.map Z4 b_0))]),(9,.p false [.c (.int .i64 ((b_0.length:Nat):Int))]),(10,.p false [.c (.int .i64 ((i:Nat):Int))])] [] st) [] [] (by decide) ?_ ?_ ?_
 simp only [*,go_sem,seval]
 rintro o q ⟨⟩ ⟨sl,ob,n⟩ t a b f h d
 simp only [go_sem,seval,Zc] at b
 obtain ⟨⟨g,u,v,w⟩,hn⟩:=b
 subst hn
 have k:=WF.slotL f g (j:=0) rfl
 have x:=ZA a
 have y:=ZC a
 have z:=Zj (ZB a) k
 try simp only [*,go_sem,seval]
 obtain ⟨A,l,h⟩:=Za h
 refine Zd (Zdc l) ?_
 try simp only [*,go_sem,seval]
 refine Ze h (fun _ h=>?_) fun _ h=>?_<;>try simp only [*,go_sem,seval]
 obtain ⟨B,m,h⟩:=Za h
 refine Zd (X4 m) ?_
 try simp only [*,go_sem,seval]
 iterate 2 refine Ze h (fun _ h=>?_) fun _ h=>?_<;>try simp only [*,go_sem,seval]
 obtain ⟨C,D,E,F,h⟩:=ZbQ h
 try simp only [*,go_sem,seval]
 refine Ze h (fun _ h=>?_) fun _ h=>?_<;>try simp only [*,go_sem,seval]
 refine ⟨_,[],[],(Option.some.inj h).symm,by decide,?_⟩
 try simp only [*,go_sem,seval]
 replace h:=Zn h d
 cases h
 try simp only [*,go_sem,seval]
 refine ⟨_,[],[],(Option.some.inj h).symm,by decide,?_⟩
 iterate 2 ((try simp only [*,go_sem,seval]);replace h:=Zn h d;cases h)
 try simp only [*,go_sem,seval]
 rintro ⟨⟩ ⟨sl,ob,n⟩ e G h
 simp only [go_sem,seval,Zc] at e
 obtain ⟨⟨H,I,J,K⟩,hn⟩:=e
 subst hn
 have L:=Zy (b_0.length)
 cases h
 try simp only [*,go_sem,seval]
theorem ZcR {b_0:(List Zs)} {term_1:ByteArray} {r:(ByteArray × Bool)} (h:ZaP b_0 term_1=some r):Zk Tryz.prog J0 138 [(false,[.sl 166 2 (List.map Z4 b_0)]),(false,[.str term_1])] [(false,[(false,.str r.1)]),(false,[(false,.bool r.2)])]:=by
 refine fnk Tryz.func138 (by kernel_rfl) rfl (by kernel_rfl) (by kernel_rfl) ?_
 unfold ZaP at h
 have e:Z9 ⟨#[]⟩=true:=by decide
 simp only [fnS,f138,Zm,go_sem,seval,e]
 obtain ⟨q,f,h⟩:=Za h
 refine Zd (X4 f) ?_
 try simp only [*,go_sem,seval]
 refine Ze h (fun _ h=>?_) fun _ h=>?_<;>try simp only [*,go_sem,seval]
 cases h
 try simp only [*,go_sem,seval]
 obtain ⟨t,g,h⟩:=Za h
 refine Zd (Zdc g) ?_
 try simp only [*,go_sem,seval]
 refine Ze h (fun _ h=>?_) fun _ h=>?_<;>try simp only [*,go_sem,seval]
 refine Zi h (fun i _ st=>IV [(1,.p false [.c (.str term_1)]),(14,.p false [.c (.sl 166 2 (List.map Z4 b_0))]),(15,.p false [.c (.int .i64 ((b_0.length:Nat):Int))]),(16,.p false [.c (.int .i64 ((i:Nat):Int))])] [] st) [] [] (by decide) ?_ ?_ ?_
 simp only [*,go_sem,seval]
 rintro u v ⟨⟩ ⟨sl,ob,n⟩ w a b k h l
 simp only [go_sem,seval,Zc] at b
 obtain ⟨⟨x,m,y,z⟩,hn⟩:=b
 subst hn
 have o:=WF.slotL k m (j:=0) rfl
 have A:=ZA a
 have B:=ZC a
 have C:=Zj (ZB a) o
 try simp only [*,go_sem,seval]
 refine Ze h (fun _ h=>?_) fun _ h=>?_<;>try simp only [*,go_sem,seval]
 replace h:=Zn h l
 cases h
 try simp only [*,go_sem,seval]
 refine ⟨_,[],[],(Option.some.inj h).symm,by decide,?_⟩
 try simp only [*,go_sem,seval]
 rintro ⟨⟩ ⟨sl,ob,n⟩ d D h
 simp only [go_sem,seval,Zc] at d
 obtain ⟨⟨E,F,G,H⟩,hn⟩:=d
 subst hn
 have I:=Zy (b_0.length)
 iterate 2 (cases h;try simp only [*,go_sem,seval])
theorem Qq {l_0:(List Zb)} {f_1:Zb} {r:Int} (h:Yc l_0 f_1=some r):Zk Tryz.prog J0 69 [(false,[.sl 45 2 (List.map Zl l_0)]),(true,Zl f_1)] [(false,[(false,.int .i64 r)])]:=by
 refine fnk Tryz.func69 (by kernel_rfl) rfl (by kernel_rfl) (by kernel_rfl) ?_
 unfold Yc at h
 simp only [fnS,f69,Zm,go_sem,seval]
 refine Zi h (fun i _ st=>IV [(3,.bp 0 0),(7,.p false [.c (.sl 45 2 (List.map Zl l_0))]),(8,.p false [.c (.int .i64 ((l_0.length:Nat):Int))]),(9,.p false [.c (.int .i64 ((i:Nat):Int))])] [.box 45 [.c (.str f_1.rel),.c (.sl 9 1 (List.map Zx f_1.args))]] st) [] [0] (by decide) ?_ ?_ ?_
 simp only [*,go_sem,seval]
 rintro m o ⟨⟩ ⟨sl,ob,n⟩ q a b e h f
 simp only [go_sem,seval,Zc] at b
 obtain ⟨⟨t,g,u,v⟩,w,hn⟩:=b
 subst hn
 have k:=WF.slotL e g (j:=0) rfl
 have x:=ZA a
 have y:=ZC a
 have z:=Zj (ZB a) k
 try simp only [*,go_sem,seval]
 obtain ⟨A,l,h⟩:=Za h
 refine Zd (ZmL l) ?_
 try simp only [*,go_sem,seval]
 refine Ze h (fun _ h=>?_) fun _ h=>?_<;>try simp only [*,go_sem,seval]
 replace h:=Zn h f
 cases h
 try simp only [*,go_sem,seval]
 refine ⟨_,[],[0],(Option.some.inj h).symm,by decide,?_⟩
 try simp only [*,go_sem,seval]
 rintro ⟨⟩ ⟨sl,ob,n⟩ d B h
 simp only [go_sem,seval,Zc] at d
 obtain ⟨⟨C,D,E,F⟩,G,hn⟩:=d
 subst hn
 have H:=Zy (l_0.length)
 cases h
 try simp only [*,go_sem,seval]
theorem ZdX {l_0:(List ByteArray)} {r:(List ByteArray)} (h:QM l_0=some r):Zk Tryz.prog J0 200 [(false,[.sl 9 1 (List.map Zx l_0)])] [(false,[(false,.sl 9 1 (List.map Zx r))])]:=by
 refine fnk Tryz.func200 (by kernel_rfl) rfl (by kernel_rfl) (by kernel_rfl) ?_
 unfold QM at h
 simp only [fnS,f200,Zm,go_sem,seval]
 refine Zi h (fun i a st=>IV [(3,.p false [.row 0]),(6,.p false [.c (.sl 9 1 (List.map Zx l_0))]),(7,.p false [.c (.int .i64 ((l_0.length:Nat):Int))]),(8,.p false [.c (.int .i64 ((i:Nat):Int))])] [.row 9 1 (List.map Zx a) 2] st) [(false,3,0)] [80] (by decide) ?_ ?_ ?_
 simp only [*,go_sem,seval]
 rintro o q a ⟨sl,ob,n⟩ t b d f h u
 simp only [go_sem,seval,Zc] at d
 obtain ⟨⟨v,g,w,x⟩,y,hn⟩:=d
 subst hn
 have k:=WF.slotL f g (j:=0) rfl
 have z:=ZA b
 have A:=ZC b
 have B:=Zj (ZB b) k
 try simp only [*,go_sem,seval]
 obtain ⟨C,l,h⟩:=Za h
 refine Zd (Zdc l) ?_
 try simp only [*,go_sem,seval]
 refine Ze h (fun _ h=>?_) fun _ h=>?_<;>try simp only [*,go_sem,seval]
 obtain ⟨m,h⟩:=Zq h
 try simp only [Nat.reduceLeDiff] at m
 try simp only [*,go_sem,seval]
 refine ⟨_,[],[145],(Option.some.inj h).symm,by decide,?_⟩
 try simp only [*,go_sem,seval]
 refine ⟨_,[],[0],(Option.some.inj h).symm,by decide,?_⟩
 try simp only [*,go_sem,seval]
 rintro a ⟨sl,ob,n⟩ e D h
 simp only [go_sem,seval,Zc] at e
 obtain ⟨⟨E,F,G,H⟩,I,hn⟩:=e
 subst hn
 have J:=Zy (l_0.length)
 cases h
 try simp only [*,go_sem,seval]
theorem Znl {rules_0:(List Zg)} {a_1:ByteArray} {r:(List (ByteArray × Bool))} (h:Zde rules_0 a_1=some r):Zmx Tryz.prog J0 77 [(false,[.sl 42 4 (List.map ZF rules_0)]),(false,[.str a_1])] (.map .str .bool (List.map eSB r)):=by
 refine fnb Tryz.func77 (by kernel_rfl) rfl (by kernel_rfl) (by kernel_rfl) ?_
 unfold Zde at h
 simp only [fnB,f77,Zm,go_sem,seval]
 refine Yo h (fun s st=>match s with | (mp_42,row_43)=>IV [(0,.p false [.c (.sl 42 4 (List.map ZF rules_0))]),(5,.p false [.row 0]),(6,.p false [.row 1])] [.map .str .bool (List.map eSB mp_42),.row 9 1 (List.map Zx row_43) 2] st) [] [16,64] (by decide) ?_ ?_
 ·simp only [*,go_sem,seval]
 ·rintro ⟨mp_42,row_43⟩ ⟨sl,ob,n⟩ y1 hI2 hW3 h hy1
  simp only [go_sem,seval,Zc] at hI2
  obtain ⟨⟨g4_0,g4_5,g4_6⟩,og4_0,og4_1,hn⟩:=hI2
  subst hn
  try simp only [*,go_sem,seval]
  refine Ze h (fun _ h=>?_) fun _ h=>?_<;>try simp only [*,go_sem,seval]
  ·obtain ⟨p6,h⟩:=Zq h
   obtain ⟨x44,e7,h⟩:=Za h
   try simp only [seval] at e7
   obtain ⟨p8,h⟩:=Zq h
   try simp only [*,go_sem,seval]
   refine Zi h (fun i s st=>match s with | (mp_57,row_58)=>IV [(0,.p false [.c (.sl 42 4 (List.map ZF rules_0))]),(5,.p false [.row 0]),(6,.p false [.row 1]),(7,.p false [.c (.str x44)]),(23,.p false [.c (.sl 42 4 (List.map ZF rules_0))]),(24,.p false [.c (.int .i64 ((rules_0.length:Nat):Int))]),(25,.p false [.c (.int .i64 ((i:Nat):Int))])] [.map .str .bool (List.map eSB mp_57),.row 9 1 (List.map Zx row_58) 2] st) [] [0,130] (by decide) ?_ ?_ ?_
   ·simp only [*,go_sem,seval]
   ·rintro i72 x73 ⟨mp_57,row_58⟩ ⟨sl,ob,n⟩ y9 hx10 hI11 hW12 h hy9
    simp only [go_sem,seval,Zc] at hI11
    obtain ⟨⟨g13_0,g13_5,g13_6,g13_7,g13_23,g13_24,g13_25⟩,og13_0,og13_1,hn⟩:=hI11
    subst hn
    have hlhx10:=WF.slotL hW12 g13_0 (j:=0) rfl
    have q14:=ZA hx10
    have q15:=ZC hx10
    have q16:=Zj (ZB hx10) hlhx10
    try simp only [*,go_sem,seval]
    obtain ⟨v74,e17,h⟩:=Za h
    refine Zd (by have hh:=ZhN e17;first|exact hh|(simp only [*,go_sem] at hh;exact hh)) ?_
    try simp only [*,go_sem,seval]
    obtain ⟨v75,e18,h⟩:=Za h
    refine Zd (by have hh:=Zac e18;first|exact hh|(simp only [*,go_sem] at hh;exact hh)) ?_
    try simp only [*,go_sem,seval]
    refine Ze h (fun _ h=>?_) fun _ h=>?_<;>try simp only [*,go_sem,seval]
    ·obtain ⟨v76,e20,h⟩:=Za h
     refine Zd (by have hh:=Zo9 e20;first|exact hh|(simp only [*,go_sem] at hh;exact hh)) ?_
     try simp only [*,go_sem,seval]
     refine Zi h (fun i s st=>match s with | (mp_80,row_81)=>IV [(0,.p false [.c (.sl 42 4 (List.map ZF rules_0))]),(5,.p false [.row 0]),(6,.p false [.row 1]),(7,.p false [.c (.str x44)]),(23,.p false [.c (.sl 42 4 (List.map ZF rules_0))]),(24,.p false [.c (.int .i64 ((rules_0.length:Nat):Int))]),(25,.p false [.c (.int .i64 ((i72:Nat):Int))]),(35,.p false [.row 2]),(36,.p false [.c (.int .i64 ((v76.length:Nat):Int))]),(37,.p false [.c (.int .i64 ((i:Nat):Int))])] [.map .str .bool (List.map eSB mp_80),.row 9 1 (List.map Zx row_81) 2,.row 9 1 (List.map Zx v76) 2] st) [] [0,1,178] (by decide) ?_ ?_ ?_
     ·simp only [*,go_sem,seval]
     ·rintro i83 x84 ⟨mp_80,row_81⟩ ⟨sl,ob,n⟩ y21 hx22 hI23 hW24 h hy21
      simp only [go_sem,seval,Zc] at hI23
      obtain ⟨⟨g25_0,g25_5,g25_6,g25_7,g25_23,g25_24,g25_25,g25_35,g25_36,g25_37⟩,og25_0,og25_1,og25_2,hn⟩:=hI23
      subst hn
      have hlhx22:=WF.rowL hW24 og25_2
      have q26:=ZA hx22
      have q27:=ZC hx22
      have q28:=Zj (ZB hx22) hlhx22
      try simp only [*,go_sem,seval]
      refine Ze h (fun _ h=>?_) fun _ h=>?_<;>try simp only [*,go_sem,seval]
      ·refine ⟨_,[],[0,1,2],(Option.some.inj h).symm,by decide,?_⟩
       try simp only [*,go_sem,seval]
      ·obtain ⟨p30,h⟩:=Zq h
       try simp only [Nat.reduceLeDiff] at p30
       try simp only [*,go_sem,seval]
       refine ⟨_,[],[0,227,2],(Option.some.inj h).symm,by decide,?_⟩
       try simp only [*,go_sem,seval]
     ·rintro ⟨mp_80,row_81⟩ ⟨sl,ob,n⟩ hI31 hW32 h
      simp only [go_sem,seval,Zc] at hI31
      obtain ⟨⟨g33_0,g33_5,g33_6,g33_7,g33_23,g33_24,g33_25,g33_35,g33_36,g33_37⟩,og33_0,og33_1,og33_2,hn⟩:=hI31
      subst hn
      have q34:=Zy (v76.length)
      try simp only [*,go_sem,seval]
      refine ⟨_,[],[0,1],(Option.some.inj h).symm,by decide,?_⟩
      try simp only [*,go_sem,seval]
    ·refine ⟨_,[],[0,1],(Option.some.inj h).symm,by decide,?_⟩
     try simp only [*,go_sem,seval]
   ·rintro ⟨mp_57,row_58⟩ ⟨sl,ob,n⟩ hI35 hW36 h
    simp only [go_sem,seval,Zc] at hI35
    obtain ⟨⟨g37_0,g37_5,g37_6,g37_7,g37_23,g37_24,g37_25⟩,og37_0,og37_1,hn⟩:=hI35
    subst hn
    have q38:=Zy (rules_0.length)
    try simp only [*,go_sem,seval]
    refine ⟨_,[],[0,1],(Option.some.inj h).symm,by decide,?_⟩
    try simp only [*,go_sem,seval]
  ·replace h:=Zn h hy1
   cases h
   try simp only [*,go_sem,seval]
theorem ZgI {l_0:(List Zb)} {r:(List Zb)} (h:Za7 l_0=some r):Zk Tryz.prog J0 83 [(false,[.sl 45 2 (List.map Zl l_0)])] [(false,[(false,.sl 45 2 (List.map Zl r))])]:=by
 refine fnk Tryz.func83 (by kernel_rfl) rfl (by kernel_rfl) (by kernel_rfl) ?_
 unfold Za7 at h
 simp only [fnS,f83,Zm,go_sem,seval]
 refine Zi h (fun i a st=>IV [(3,.p false [.row 0]),(6,.p false [.c (.sl 45 2 (List.map Zl l_0))]),(7,.p false [.c (.int .i64 ((l_0.length:Nat):Int))]),(8,.p false [.c (.int .i64 ((i:Nat):Int))])] [.row 45 2 (List.map Zl a) 2] st) [(false,3,0)] [80] (by decide) ?_ ?_ ?_
 simp only [*,go_sem,seval]
 rintro o q a ⟨sl,ob,n⟩ t b d f h u
 simp only [go_sem,seval,Zc] at d
 obtain ⟨⟨v,g,w,x⟩,y,hn⟩:=d
 subst hn
 have k:=WF.slotL f g (j:=0) rfl
 have z:=ZA b
 have A:=ZC b
 have B:=Zj (ZB b) k
 try simp only [*,go_sem,seval]
 obtain ⟨C,l,h⟩:=Za h
 refine Zd (YO l) ?_
 obtain ⟨m,h⟩:=Zq h
 try simp only [Nat.reduceLeDiff] at m
 try simp only [*,go_sem,seval]
 refine ⟨_,[],[145],(Option.some.inj h).symm,by decide,?_⟩
 try simp only [*,go_sem,seval]
 rintro a ⟨sl,ob,n⟩ e D h
 simp only [go_sem,seval,Zc] at e
 obtain ⟨⟨E,F,G,H⟩,I,hn⟩:=e
 subst hn
 have J:=Zy (l_0.length)
 cases h
 try simp only [*,go_sem,seval]
theorem Zma {l_0:(List Zf)} {r_1:Zf} {r:Bool} (h:Za5 l_0 r_1=some r):Zk Tryz.prog J0 190 [(false,[.sl 199 3 (List.map ZE l_0)]),(true,ZE r_1)] [(false,[(false,.bool r)])]:=by
 refine fnk Tryz.func190 (by kernel_rfl) rfl (by kernel_rfl) (by kernel_rfl) ?_
 unfold Za5 at h
 simp only [fnS,f190,Zm,go_sem,seval]
 refine Zi h (fun i _ st=>IV [(3,.bp 0 0),(7,.p false [.c (.sl 199 3 (List.map ZE l_0))]),(8,.p false [.c (.int .i64 ((l_0.length:Nat):Int))]),(9,.p false [.c (.int .i64 ((i:Nat):Int))])] [.box 199 [.c (.int .i64 r_1.for_),.c (.sl 3 1 (List.map ZI r_1.inn)),.c (.sl 3 1 (List.map ZI r_1.outs))]] st) [] [0] (by decide) ?_ ?_ ?_
 simp only [*,go_sem,seval]
 rintro m o ⟨⟩ ⟨sl,ob,n⟩ q a b e h f
 simp only [go_sem,seval,Zc] at b
 obtain ⟨⟨t,g,u,v⟩,w,hn⟩:=b
 subst hn
 have k:=WF.slotL e g (j:=0) rfl
 have x:=ZA a
 have y:=ZC a
 have z:=Zj (ZB a) k
 try simp only [*,go_sem,seval]
 obtain ⟨A,l,h⟩:=Za h
 refine Zd (ZkG l) ?_
 try simp only [*,go_sem,seval]
 refine Ze h (fun _ h=>?_) fun _ h=>?_<;>try simp only [*,go_sem,seval]
 replace h:=Zn h f
 cases h
 try simp only [*,go_sem,seval]
 refine ⟨_,[],[0],(Option.some.inj h).symm,by decide,?_⟩
 try simp only [*,go_sem,seval]
 rintro ⟨⟩ ⟨sl,ob,n⟩ d B h
 simp only [go_sem,seval,Zc] at d
 obtain ⟨⟨C,D,E,F⟩,G,hn⟩:=d
 subst hn
 have H:=Zy (l_0.length)
 cases h
 try simp only [*,go_sem,seval]
theorem Zb0 {l_0:(List Zb)} {f_1:Zb} {r:Int} (h:QT l_0 f_1=some r):Zk Tryz.prog J0 76 [(false,[.sl 45 2 (List.map Zl l_0)]),(true,Zl f_1)] [(false,[(false,.int .i64 r)])]:=by
 refine fnk Tryz.func76 (by kernel_rfl) rfl (by kernel_rfl) (by kernel_rfl) ?_
 unfold QT at h
 simp only [fnS,f76,Zm,go_sem,seval]
 refine Zi h (fun i _ st=>IV [(0,.p false [.c (.sl 45 2 (List.map Zl l_0))]),(3,.bp 0 0),(5,.p false [.c (.int .i64 ((i:Nat):Int))])] [.box 45 [.c (.str f_1.rel),.c (.sl 9 1 (List.map Zx f_1.args))]] st) [] [0] (by decide) ?_ ?_ ?_
 simp only [*,go_sem,seval]
 rintro m o ⟨⟩ ⟨sl,ob,n⟩ q a b e h f
 simp only [go_sem,seval,Zc] at b
 obtain ⟨⟨g,t,u⟩,v,hn⟩:=b
 subst hn
 have k:=WF.slotL e g (j:=0) rfl
 have w:=ZA a
 have x:=ZC a
 have y:=Zj (ZB a) k
 try simp only [*,go_sem,seval]
 obtain ⟨z,l,h⟩:=Za h
 refine Zd (Zry l) ?_
 try simp only [*,go_sem,seval]
 refine Ze h (fun _ h=>?_) fun _ h=>?_<;>try simp only [*,go_sem,seval]
 replace h:=Zn h f
 cases h
 try simp only [*,go_sem,seval]
 refine ⟨_,[],[0],(Option.some.inj h).symm,by decide,?_⟩
 try simp only [*,go_sem,seval]
 rintro ⟨⟩ ⟨sl,ob,n⟩ d A h
 simp only [go_sem,seval,Zc] at d
 obtain ⟨⟨B,C,D⟩,E,hn⟩:=d
 subst hn
 have F:=Zy (l_0.length)
 cases h
 try simp only [*,go_sem,seval]
theorem Zeq {l_0:(List Zb)} {r:(List Zb)} (h:ZaJ l_0=some r):Zk Tryz.prog J0 88 [(false,[.sl 45 2 (List.map Zl l_0)])] [(false,[(false,.sl 45 2 (List.map Zl r))])]:=by
 refine fnk Tryz.func88 (by kernel_rfl) rfl (by kernel_rfl) (by kernel_rfl) ?_
 unfold ZaJ at h
 simp only [fnS,f88,Zm,go_sem,seval]
 refine Zi h (fun i a st=>IV [(0,.p false [.c (.sl 45 2 (List.map Zl l_0))]),(3,.p false [.row 0]),(4,.p false [.c (.int .i64 ((i:Nat):Int))])] [.row 45 2 (List.map Zl a) 2] st) [] [16] (by decide) ?_ ?_ ?_
 simp only [*,go_sem,seval]
 rintro o q a ⟨sl,ob,n⟩ t b d f h u
 simp only [go_sem,seval,Zc] at d
 obtain ⟨⟨g,v,w⟩,x,hn⟩:=d
 subst hn
 have k:=WF.slotL f g (j:=0) rfl
 have y:=ZA b
 have z:=ZC b
 have A:=Zj (ZB b) k
 try simp only [*,go_sem,seval]
 obtain ⟨B,l,h⟩:=Za h
 refine Zd (Xa l) ?_
 obtain ⟨m,h⟩:=Zq h
 try simp only [Nat.reduceLeDiff] at m
 try simp only [*,go_sem,seval]
 refine ⟨_,[],[177],(Option.some.inj h).symm,by decide,?_⟩
 try simp only [*,go_sem,seval]
 rintro a ⟨sl,ob,n⟩ e C h
 simp only [go_sem,seval,Zc] at e
 obtain ⟨⟨D,E,F⟩,G,hn⟩:=e
 subst hn
 have H:=Zy (l_0.length)
 cases h
 try simp only [*,go_sem,seval]
theorem ZkF {append_0:(List Zg)} {String_1:ByteArray} {a_2:ByteArray} {r:Bool} (h:Zbg append_0 String_1 a_2=some r):Zk Tryz.prog J0 236 [(false,[.sl 42 4 (List.map ZF append_0)]),(false,[.str String_1]),(false,[.str a_2])] [(false,[(false,.bool r)])]:=by
 refine fnk Tryz.func236 (by kernel_rfl) rfl (by kernel_rfl) (by kernel_rfl) ?_
 unfold Zbg at h
 simp only [fnS,f236,Zm,go_sem,seval]
 refine Yo h (fun s st=>match s with | (row_55,u_56)=>IV [(0,.p false [.c (.sl 42 4 (List.map ZF append_0))]),(2,.p false [.c (.str a_2)]),(7,.p false [.row 0]),(8,.p false [.c (.int .i64 u_56)])] [.row 9 1 (List.map Zx row_55) 2] st) [] [32] (by decide) ?_ ?_
 ·simp only [*,go_sem,seval]
 ·rintro ⟨row_55,u_56⟩ ⟨sl,ob,n⟩ y1 hI2 hW3 h hy1
  simp only [go_sem,seval,Zc] at hI2
  obtain ⟨⟨g4_0,g4_2,g4_7,g4_8⟩,og4_0,hn⟩:=hI2
  subst hn
  try simp only [*,go_sem,seval]
  refine Ze h (fun _ h=>?_) fun _ h=>?_<;>try simp only [*,go_sem,seval]
  ·refine Zi h (fun i row_74 st=>IV [(0,.p false [.c (.sl 42 4 (List.map ZF append_0))]),(2,.p false [.c (.str a_2)]),(7,.p false [.row 0]),(8,.p false [.c (.int .i64 u_56)]),(9,.p false [.c (.int .i64 ((i:Nat):Int))])] [.row 9 1 (List.map Zx row_74) 2] st) [] [0] (by decide) ?_ ?_ ?_
   ·simp only [*,go_sem,seval]
   ·rintro i93 x94 row_74 ⟨sl,ob,n⟩ y6 hx7 hI8 hW9 h hy6
    simp only [go_sem,seval,Zc] at hI8
    obtain ⟨⟨g10_0,g10_2,g10_7,g10_8,g10_9⟩,og10_0,hn⟩:=hI8
    subst hn
    have hlhx7:=WF.slotL hW9 g10_0 (j:=0) rfl
    have q11:=ZA hx7
    have q12:=ZC hx7
    have q13:=Zj (ZB hx7) hlhx7
    try simp only [*,go_sem,seval]
    obtain ⟨v95,e14,h⟩:=Za h
    refine Zd (by have hh:=ZhE e14;first|exact hh|(simp only [*,go_sem] at hh;exact hh)) ?_
    obtain ⟨p15,h⟩:=Zq h
    obtain ⟨x96,e16,h⟩:=Za h
    try simp only [*,go_sem,seval]
    obtain ⟨v97,e17,h⟩:=Za h
    refine Zd (by have hh:=Yz e17;first|exact hh|(simp only [*,go_sem] at hh;exact hh)) ?_
    try simp only [*,go_sem,seval]
    refine Ze h (fun _ h=>?_) fun _ h=>?_<;>try simp only [*,go_sem,seval]
    ·obtain ⟨v98,e19,h⟩:=Za h
     refine Zd (by have hh:=Zpg e19;first|exact hh|(simp only [*,go_sem] at hh;exact hh)) ?_
     try simp only [*,go_sem,seval]
     obtain ⟨v99,e20,h⟩:=Za h
     refine Zd (by have hh:=Yz e20;first|exact hh|(simp only [*,go_sem] at hh;exact hh)) ?_
     try simp only [*,go_sem,seval]
     refine Ze h (fun _ h=>?_) fun _ h=>?_<;>try simp only [*,go_sem,seval]
     ·replace h:=Zn h hy6
      replace h:=Zn h hy1
      cases h
      try simp only [*,go_sem,seval]
     ·refine Zi h (fun i row_105 st=>IV [(0,.p false [.c (.sl 42 4 (List.map ZF append_0))]),(2,.p false [.c (.str a_2)]),(7,.p false [.row 0]),(8,.p false [.c (.int .i64 u_56)]),(9,.p false [.c (.int .i64 ((i93:Nat):Int))]),(10,.p false [.row 1]),(11,.p false [.c (.int .i64 ((i:Nat):Int))])] [.row 9 1 (List.map Zx row_105) 2,.row 9 1 (List.map Zx v98) 2] st) [] [0,305] (by decide) ?_ ?_ ?_
      ·simp only [*,go_sem,seval]
      ·rintro i108 x109 row_105 ⟨sl,ob,n⟩ y22 hx23 hI24 hW25 h hy22
       simp only [go_sem,seval,Zc] at hI24
       obtain ⟨⟨g26_0,g26_2,g26_7,g26_8,g26_9,g26_10,g26_11⟩,og26_0,og26_1,hn⟩:=hI24
       subst hn
       have hlhx23:=WF.rowL hW25 og26_1
       have q27:=ZA hx23
       have q28:=ZC hx23
       have q29:=Zj (ZB hx23) hlhx23
       try simp only [*,go_sem,seval]
       obtain ⟨v110,e30,h⟩:=Za h
       refine Zd (by have hh:=Yz e30;first|exact hh|(simp only [*,go_sem] at hh;exact hh)) ?_
       try simp only [*,go_sem,seval]
       refine Ze h (fun _ h=>?_) fun _ h=>?_<;>try simp only [*,go_sem,seval]
       ·refine ⟨_,[],[0,1],(Option.some.inj h).symm,by decide,?_⟩
        try simp only [*,go_sem,seval]
       ·obtain ⟨p32,h⟩:=Zq h
        try simp only [Nat.reduceLeDiff] at p32
        try simp only [*,go_sem,seval]
        refine ⟨_,[],[274,1],(Option.some.inj h).symm,by decide,?_⟩
        try simp only [*,go_sem,seval]
      ·rintro row_105 ⟨sl,ob,n⟩ hI33 hW34 h
       simp only [go_sem,seval,Zc] at hI33
       obtain ⟨⟨g35_0,g35_2,g35_7,g35_8,g35_9,g35_10,g35_11⟩,og35_0,og35_1,hn⟩:=hI33
       subst hn
       have q36:=Zy (v98.length)
       try simp only [*,go_sem,seval]
       refine ⟨_,[],[0],(Option.some.inj h).symm,by decide,?_⟩
       try simp only [*,go_sem,seval]
    ·refine ⟨_,[],[0],(Option.some.inj h).symm,by decide,?_⟩
     try simp only [*,go_sem,seval]
   ·rintro row_74 ⟨sl,ob,n⟩ hI37 hW38 h
    simp only [go_sem,seval,Zc] at hI37
    obtain ⟨⟨g39_0,g39_2,g39_7,g39_8,g39_9⟩,og39_0,hn⟩:=hI37
    subst hn
    have q40:=Zy (append_0.length)
    try simp only [*,go_sem,seval]
    refine ⟨_,[],[0],(Option.some.inj h).symm,by decide,?_⟩
    try simp only [*,go_sem,seval]
  ·replace h:=Zn h hy1
   cases h
   try simp only [*,go_sem,seval]
theorem ZhK {s_0:ByteArray} {r:Bool} (h:ZdN s_0=some r):Zk Tryz.prog J0 338 [(false,[.str s_0])] [(false,[(false,.bool r)])]:=by
 refine fnk Tryz.func338 (by kernel_rfl) rfl (by kernel_rfl) (by kernel_rfl) ?_
 unfold ZdN at h
 simp only [fnS,f338,Zm,go_sem,seval]
 obtain ⟨b,a,h⟩:=Za h
 refine Zd (Zb1 a) ?_
 cases h
 try simp only [*,go_sem,seval]
end Go.Proofs.YtfehfkfdfmcgfaaGreatDoor
namespace Go.Proofs.YtfehfkfdfmcgfaaGreatDoor
open Go.Proofs.Tryz
set_option linter.unusedSimpArgs false
set_option linter.unusedVariables false
set_option maxRecDepth 1000000
set_option maxHeartbeats 4000000
theorem ZGJ {l_0:(List Zb)} {rel_1:ByteArray} {r:(List Zb)} (h:ZFU l_0 rel_1=some r):Zk Tryz.prog J0 26 [(false,[.sl 45 2 (List.map Zl l_0)]),(false,[.str rel_1])] [(false,[(false,.sl 45 2 (List.map Zl r))])]:=by
 refine fnk Tryz.func26 (by kernel_rfl) rfl (by kernel_rfl) (by kernel_rfl) ?_
 unfold ZFU at h
 simp only [fnS,f26,Zm,go_sem,seval]
 refine Zi h (fun i a st=>IV [(0,.p false [.c (.sl 45 2 (List.map Zl l_0))]),(1,.p false [.c (.str rel_1)]),(5,.p false [.row 0]),(6,.p false [.c (.int .i64 ((i:Nat):Int))])] [.row 45 2 (List.map Zl a) 2] st) [] [16] (by decide) ?_ ?_ ?_
 simp only [*,go_sem,seval]
 rintro o q a ⟨sl,ob,n⟩ t b d f h u
 simp only [go_sem,seval,Zc] at d
 obtain ⟨⟨g,v,w,x⟩,y,hn⟩:=d
 subst hn
 have k:=WF.slotL f g (j:=0) rfl
 have z:=ZA b
 have A:=ZC b
 have B:=Zj (ZB b) k
 try simp only [*,go_sem,seval]
 refine Ze h (fun _ h=>?_) fun _ h=>?_<;>try simp only [*,go_sem,seval]
 obtain ⟨C,l,h⟩:=Za h
 refine Zd (Xa l) ?_
 obtain ⟨m,h⟩:=Zq h
 try simp only [Nat.reduceLeDiff] at m
 try simp only [*,go_sem,seval]
 refine ⟨_,[],[289],(Option.some.inj h).symm,by decide,?_⟩
 try simp only [*,go_sem,seval]
 refine ⟨_,[],[0],(Option.some.inj h).symm,by decide,?_⟩
 try simp only [*,go_sem,seval]
 rintro a ⟨sl,ob,n⟩ e D h
 simp only [go_sem,seval,Zc] at e
 obtain ⟨⟨E,F,G,H⟩,I,hn⟩:=e
 subst hn
 have J:=Zy (l_0.length)
 cases h
 try simp only [*,go_sem,seval]
end Go.Proofs.YtfehfkfdfmcgfaaGreatDoor
namespace Go.Proofs.YtfehfkfdfmcgfaaGreatDoor
open Go.Proofs.Tryz
set_option linter.unusedSimpArgs false
set_option linter.unusedVariables false
set_option maxRecDepth 1000000
set_option maxHeartbeats 4000000
theorem Zcw {p_0:Zv} {r:(List ByteArray)} (h:Zba p_0=some r):Zk Tryz.prog J0 226 [(true,QA p_0)] [(false,[(false,.sl 9 1 (List.map Zx r))])]:=by
 refine fnk Tryz.func226 (by kernel_rfl) rfl (by kernel_rfl) (by kernel_rfl) ?_
 unfold Zba at h
 simp only [fnS,f226,Zm,go_sem,seval]
 refine Zi h (fun i a st=>IV [(1,.bp 0 0),(3,.p false [.row 1]),(4,.p false [.c (.int .i64 ((i:Nat):Int))])] [.box 48 [.c (.str p_0.rel),.c (.sl 9 1 (List.map Zx p_0.args))],.row 9 1 (List.map Zx a) 2] st) [] [0,32] (by decide) ?_ ?_ ?_
 simp only [*,go_sem,seval]
 rintro o q a ⟨sl,ob,n⟩ t b d f h u
 simp only [go_sem,seval,Zc] at d
 obtain ⟨⟨v,w,x⟩,g,y,hn⟩:=d
 subst hn
 have k:=WF.boxL f g (j:=1) rfl
 have z:=ZA b
 have A:=ZC b
 have B:=Zj (ZB b) k
 try simp only [*,go_sem,seval]
 obtain ⟨C,l,h⟩:=Za h
 refine Zd (Q3 l) ?_
 try simp only [*,go_sem,seval]
 refine Ze h (fun _ h=>?_) fun _ h=>?_<;>try simp only [*,go_sem,seval]
 obtain ⟨D,m,h⟩:=Za h
 refine Zd (Xg m) ?_
 try simp only [*,go_sem,seval]
 refine ⟨_,[],[0,274],(Option.some.inj h).symm,by decide,?_⟩
 try simp only [*,go_sem,seval]
 refine ⟨_,[],[0,1],(Option.some.inj h).symm,by decide,?_⟩
 try simp only [*,go_sem,seval]
 rintro a ⟨sl,ob,n⟩ e E h
 simp only [go_sem,seval,Zc] at e
 obtain ⟨⟨F,G,H⟩,I,J,hn⟩:=e
 subst hn
 have K:=Zy (p_0.args.length)
 cases h
 try simp only [*,go_sem,seval]
theorem QY {s_0:ByteArray} {r:Bool} (h:QS s_0=some r):Zk Tryz.prog J0 140 [(false,[.str s_0])] [(false,[(false,.bool r)])]:=by
 refine fnk Tryz.func140 (by kernel_rfl) rfl (by kernel_rfl) (by kernel_rfl) ?_
 unfold QS at h
 simp only [fnS,f140,Zm,go_sem,seval]
 obtain ⟨c,a,h⟩:=Za h
 refine Zd (X0 a) ?_
 try simp only [*,go_sem,seval]
 refine Ze h (fun _ h=>?_) fun _ h=>?_<;>try simp only [*,go_sem,seval]
 cases h
 try simp only [*,go_sem,seval]
 obtain ⟨d,b,h⟩:=Za h
 refine Zd (Q3 b) ?_
 cases h
 try simp only [*,go_sem,seval]
theorem Qv {a_0:Zb} {b_1:Zb} {r:Int} (h:Yn a_0 b_1=some r):Zk Tryz.prog J0 21 [(true,Zl a_0),(true,Zl b_1)] [(false,[(false,.int .i64 r)])]:=by
 refine fnk Tryz.func21 (by kernel_rfl) rfl (by kernel_rfl) (by kernel_rfl) ?_
 unfold Yn at h
 simp only [fnS,f21,Zm,go_sem,seval]
 refine Ze h (fun _ h=>?_) fun _ h=>?_<;>try simp only [*,go_sem,seval]
 ·refine Zi h (fun i _ st=>IV [(2,.bp 0 0),(3,.bp 1 0),(5,.p false [.c (.int .i64 ((i:Nat):Int))])] [.box 45 [.c (.str a_0.rel),.c (.sl 9 1 (List.map Zx a_0.args))],.box 45 [.c (.str b_1.rel),.c (.sl 9 1 (List.map Zx b_1.args))]] st) [] [0,16] (by decide) ?_ ?_ ?_
  ·simp only [*,go_sem,seval]
  ·rintro i8 x9 ⟨⟩ ⟨sl,ob,n⟩ y2 hx3 hI4 hW5 h hy2
   simp only [go_sem,seval,Zc] at hI4
   obtain ⟨⟨g6_2,g6_3,g6_5⟩,og6_0,og6_1,hn⟩:=hI4
   subst hn
   have hlhx3:=WF.boxL hW5 og6_0 (j:=1) rfl
   have q7:=ZA hx3
   have q8:=ZC hx3
   have q9:=Zj (ZB hx3) hlhx3
   try simp only [*,go_sem,seval]
   refine Ze h (fun _ h=>?_) fun _ h=>?_<;>try simp only [*,go_sem,seval]
   ·obtain ⟨x10,a11,a12,e13,h⟩:=ZbQ h
    simp only [Int.toNat_natCast] at e13
    try simp only [*,go_sem,seval]
    obtain ⟨v11,e14,h⟩:=Za h
    refine Zd (by have hh:=Zej e14;first|exact hh|(simp only [*,go_sem] at hh;exact hh)) ?_
    try simp only [*,go_sem,seval]
    refine Ze h (fun _ h=>?_) fun _ h=>?_<;>try simp only [*,go_sem,seval]
    ·replace h:=Zn h hy2
     cases h
     try simp only [*,go_sem,seval]
    ·refine ⟨_,[],[0,1],(Option.some.inj h).symm,by decide,?_⟩
     try simp only [*,go_sem,seval]
   ·refine Ze h (fun _ h=>?_) fun _ h=>?_<;>try simp only [*,go_sem,seval]
    ·replace h:=Zn h hy2
     cases h
     try simp only [*,go_sem,seval]
    ·refine Ze h (fun _ h=>?_) fun _ h=>?_<;>try simp only [*,go_sem,seval]
     ·replace h:=Zn h hy2
      cases h
      try simp only [*,go_sem,seval]
     ·replace h:=Zn h hy2
      cases h
      try simp only [*,go_sem,seval]
  ·rintro ⟨⟩ ⟨sl,ob,n⟩ hI18 hW19 h
   simp only [go_sem,seval,Zc] at hI18
   obtain ⟨⟨g20_2,g20_3,g20_5⟩,og20_0,og20_1,hn⟩:=hI18
   subst hn
   have q21:=Zy (a_0.args.length)
   try simp only [*,go_sem,seval]
   refine Ze h (fun _ h=>?_) fun _ h=>?_<;>try simp only [*,go_sem,seval]
   ·cases h
    try simp only [*,go_sem,seval]
   ·refine Ze h (fun _ h=>?_) fun _ h=>?_<;>try simp only [*,go_sem,seval]
    ·cases h
     try simp only [*,go_sem,seval]
    ·cases h
     try simp only [*,go_sem,seval]
 ·obtain ⟨v12,e24,h⟩:=Za h
  refine Zd (by have hh:=Zle e24;first|exact hh|(simp only [*,go_sem] at hh;exact hh)) ?_
  cases h
  try simp only [*,go_sem,seval]
theorem Zd7 {a_0:Zb} {b_1:Zb} {r:Int} (h:XV a_0 b_1=some r):Zk Tryz.prog J0 135 [(true,Zl a_0),(true,Zl b_1)] [(false,[(false,.int .i64 r)])]:=by
 refine fnk Tryz.func135 (by kernel_rfl) rfl (by kernel_rfl) (by kernel_rfl) ?_
 unfold XV at h
 simp only [fnS,f135,Zm,go_sem,seval]
 obtain ⟨u,f,h⟩:=Za h
 refine Zd (Zjc f) ?_
 try simp only [*,go_sem,seval]
 refine Ze h (fun _ h=>?_) fun _ h=>?_<;>try simp only [*,go_sem,seval]
 cases h
 try simp only [*,go_sem,seval]
 refine Zi h (fun i _ st=>IV [(2,.bp 0 0),(3,.bp 1 0),(6,.p false [.c (.int .i64 ((i:Nat):Int))])] [.box 45 [.c (.str a_0.rel),.c (.sl 9 1 (List.map Zx a_0.args))],.box 45 [.c (.str b_1.rel),.c (.sl 9 1 (List.map Zx b_1.args))]] st) [] [0,16] (by decide) ?_ ?_ ?_
 simp only [*,go_sem,seval]
 rintro v w ⟨⟩ ⟨sl,ob,n⟩ x a b g h d
 simp only [go_sem,seval,Zc] at b
 obtain ⟨⟨y,z,A⟩,k,B,hn⟩:=b
 subst hn
 have l:=WF.boxL g k (j:=1) rfl
 have C:=ZA a
 have D:=ZC a
 have E:=Zj (ZB a) l
 try simp only [*,go_sem,seval]
 refine Ze h (fun _ h=>?_) fun _ h=>?_<;>try simp only [*,go_sem,seval]
 obtain ⟨F,G,H,m,h⟩:=ZbQ h
 simp only [Int.toNat_natCast] at m
 try simp only [*,go_sem,seval]
 obtain ⟨I,o,h⟩:=Za h
 refine Zd (Ziz o) ?_
 try simp only [*,go_sem,seval]
 refine Ze h (fun _ h=>?_) fun _ h=>?_<;>try simp only [*,go_sem,seval]
 replace h:=Zn h d
 cases h
 try simp only [*,go_sem,seval]
 refine ⟨_,[],[0,1],(Option.some.inj h).symm,by decide,?_⟩
 try simp only [*,go_sem,seval]
 obtain ⟨J,q,h⟩:=Za h
 refine Zd (ZbW q) ?_
 replace h:=Zn h d
 cases h
 try simp only [*,go_sem,seval]
 rintro ⟨⟩ ⟨sl,ob,n⟩ e K h
 simp only [go_sem,seval,Zc] at e
 obtain ⟨⟨L,M,N⟩,O,P,hn⟩:=e
 subst hn
 have Q:=Zy (a_0.args.length)
 try simp only [*,go_sem,seval]
 obtain ⟨R,t,h⟩:=Za h
 refine Zd (ZbW t) ?_
 cases h
 try simp only [*,go_sem,seval]
theorem XQ {p_0:Zv} {r:Bool} (h:Y9 p_0=some r):Zk Tryz.prog J0 136 [(true,QA p_0)] [(false,[(false,.bool r)])]:=by
 refine fnk Tryz.func136 (by kernel_rfl) rfl (by kernel_rfl) (by kernel_rfl) ?_
 unfold Y9 at h
 simp only [fnS,f136,Zm,go_sem,seval]
 obtain ⟨o,e,h⟩:=Za h
 refine Zd (Zgl e) ?_
 try simp only [*,go_sem,seval]
 iterate 2 refine Ze h (fun _ h=>?_) fun _ h=>?_<;>try simp only [*,go_sem,seval]
 cases h
 try simp only [*,go_sem,seval]
 refine Zi h (fun i _ st=>IV [(16,.p false [.c (.sl 9 1 (List.map Zx p_0.args))]),(17,.p false [.c (.int .i64 ((p_0.args.length:Nat):Int))]),(18,.p false [.c (.int .i64 ((i:Nat):Int))])] [] st) [] [] (by decide) ?_ ?_ ?_
 simp only [*,go_sem,seval]
 rintro q t ⟨⟩ ⟨sl,ob,n⟩ u a b f h g
 simp only [go_sem,seval,Zc] at b
 obtain ⟨⟨k,v,w⟩,hn⟩:=b
 subst hn
 have l:=WF.slotL f k (j:=0) rfl
 have x:=ZA a
 have y:=ZC a
 have z:=Zj (ZB a) l
 try simp only [*,go_sem,seval]
 obtain ⟨A,m,h⟩:=Za h
 refine Zd (QH m) ?_
 try simp only [*,go_sem,seval]
 refine Ze h (fun _ h=>?_) fun _ h=>?_<;>try simp only [*,go_sem,seval]
 refine ⟨_,[],[],(Option.some.inj h).symm,by decide,?_⟩
 try simp only [*,go_sem,seval]
 replace h:=Zn h g
 cases h
 try simp only [*,go_sem,seval]
 rintro ⟨⟩ ⟨sl,ob,n⟩ d B h
 simp only [go_sem,seval,Zc] at d
 obtain ⟨⟨C,D,E⟩,hn⟩:=d
 subst hn
 have F:=Zy (p_0.args.length)
 iterate 2 (cases h;try simp only [*,go_sem,seval])
theorem ZdH {r_0:Zg} {n_1:Int} {r:(List ByteArray)} (h:QN r_0 n_1=some r):Zk Tryz.prog J0 198 [(true,ZF r_0),(false,[.int .i64 n_1])] [(false,[(false,.sl 9 1 (List.map Zx r))])]:=by
 refine fnk Tryz.func198 (by kernel_rfl) rfl (by kernel_rfl) (by kernel_rfl) ?_
 unfold QN at h
 simp only [fnS,f198,Zm,go_sem,seval]
 refine Zi h (fun i a st=>IV [(1,.p false [.c (.int .i64 n_1)]),(5,.p false [.row 0]),(9,.p false [.c (.sl 173 5 (List.map ZK r_0.cond))]),(10,.p false [.c (.int .i64 ((r_0.cond.length:Nat):Int))]),(11,.p false [.c (.int .i64 ((i:Nat):Int))])] [.row 9 1 (List.map Zx a) 2] st) [(false,5,0)] [112] (by decide) ?_ ?_ ?_
 simp only [*,go_sem,seval]
 rintro q t a ⟨sl,ob,n⟩ u b d f h v
 simp only [go_sem,seval,Zc] at d
 obtain ⟨⟨w,x,g,y,z⟩,A,hn⟩:=d
 subst hn
 have k:=WF.slotL f g (j:=0) rfl
 have B:=ZA b
 have C:=ZC b
 have D:=Zj (ZB b) k
 try simp only [*,go_sem,seval]
 iterate 2 refine Ze h (fun _ h=>?_) fun _ h=>?_<;>try simp only [*,go_sem,seval]
 obtain ⟨E,l,h⟩:=Za h
 refine Zd (ZdX l) ?_
 obtain ⟨m,h⟩:=Zq h
 try simp only [Nat.reduceLeDiff] at m
 try simp only [*,go_sem,seval]
 refine ⟨_,[],[321],(Option.some.inj h).symm,by decide,?_⟩
 try simp only [*,go_sem,seval]
 refine ⟨_,[],[0],(Option.some.inj h).symm,by decide,?_⟩
 try simp only [*,go_sem,seval]
 refine ⟨_,[],[0],(Option.some.inj h).symm,by decide,?_⟩
 try simp only [*,go_sem,seval]
 rintro a ⟨sl,ob,n⟩ e F h
 simp only [go_sem,seval,Zc] at e
 obtain ⟨⟨G,H,I,J,K⟩,L,hn⟩:=e
 subst hn
 have M:=Zy (r_0.cond.length)
 try simp only [*,go_sem,seval]
 obtain ⟨N,o,h⟩:=Za h
 refine Zd (XX o) ?_
 cases h
 try simp only [*,go_sem,seval]
theorem Zb9 {x_0:Zt} {r:(List ByteArray)} (h:Qa x_0=some r):Zk Tryz.prog J0 212 [(true,ZK x_0)] [(false,[(false,.sl 9 1 (List.map Zx r))])]:=by
 refine fnk Tryz.func212 (by kernel_rfl) rfl (by kernel_rfl) (by kernel_rfl) ?_
 unfold Qa at h
 simp only [fnS,f212,Zm,go_sem,seval]
 obtain ⟨d,a,h⟩:=Za h
 refine Zd (ZpH a) ?_
 try simp only [*,go_sem,seval]
 obtain ⟨e,b,h⟩:=Za h
 refine Zd (ZdX b) ?_
 try simp only [*,go_sem,seval]
 obtain ⟨f,c,h⟩:=Za h
 refine Zd (XX c) ?_
 cases h
 try simp only [*,go_sem,seval]
theorem Zq8 {a:(List Zs)} {b:ByteArray} {d:ByteArray} {r:((List Zs) × Bool)} (h:ZgK a b d=some r):Zk Tryz.prog J0 216 [(false,[.sl 166 2 (List.map Z4 a)]),(false,[.str b]),(false,[.str d])] [(false,[(false,.sl 166 2 (List.map Z4 r.1))]),(false,[(false,.bool r.2)])]:=by
 refine fnk Tryz.func216 (by kernel_rfl) rfl (by kernel_rfl) (by kernel_rfl) ?_
 unfold ZgK at h
 simp only [fnS,f216,Zm,go_sem,seval]
 obtain ⟨L,x,h⟩:=Za h
 refine Zd (QO x) ?_
 try simp only [*,go_sem,seval]
 refine Ze h (fun c2 h=>?_) (fun c2 h=>?_)<;>try simp only [*,go_sem,seval]
 obtain ⟨M,y,h⟩:=Za h
 refine Zd (Zdc y) ?_
 try simp only [*,go_sem,seval]
 refine Ze h (fun e h=>?_) (fun e h=>?_)<;>try simp only [*,go_sem,seval]
 obtain ⟨N,z,h⟩:=Za h
 refine Zd (X4 z) ?_
 try simp only [*,go_sem,seval]
 refine Ze h (fun f h=>?_) (fun f h=>?_)<;>try simp only [*,go_sem,seval]
 obtain ⟨O,A,h⟩:=Za h
 refine Zd (ZcR A) ?_
 try simp only [*,go_sem,seval]
 refine Ze h (fun g h=>?_) (fun g h=>?_)<;>try simp only [*,go_sem,seval]
 refine Ze h (fun _ h=>?_) fun _ h=>?_<;>try simp only [*,go_sem,seval]
 obtain ⟨P,B,h⟩:=Za h
 refine Zd (Zgp B) ?_
 iterate 2 (cases h;try simp only [*,go_sem,seval])
 refine Ze h (fun k h=>?_) (fun k h=>?_)<;>try simp only [*,go_sem,seval]
 cases h
 try simp only [*,go_sem,seval]
 refine Zi h (fun i s st=>match s with | (l,m)=>IV [(1,.p false [.c (.str b)]),(2,.p false [.c (.str d)]),(10,.p false [.row 0]),(11,.p false [.c (.bool m)]),(42,.p false [.c (.sl 166 2 (List.map Z4 a))]),(43,.p false [.c (.int .i64 ((a.length:Nat):Int))]),(44,.p false [.c (.int .i64 ((i:Nat):Int))])] [.row 166 2 (List.map Z4 l) 2] st) [(false,10,0)] [512] (by decide) ?_ ?_ ?_
 simp only [*,go_sem,seval]
 rintro Q R ⟨l,m⟩ ⟨sl,ob,n⟩ S o v D h T
 simp only [go_sem,seval,Zc] at v
 obtain ⟨⟨U,V,W,X,E,Y,Z⟩,aa,hn⟩:=v
 subst hn
 have F:=WF.slotL D E (j:=0) rfl
 have ab:=ZA o
 have ac:=ZC o
 have ad:=Zj (ZB o) F
 try simp only [*,go_sem,seval]
 refine Ze h (fun q h=>?_) (fun q h=>?_)<;>try simp only [*,go_sem,seval]
 obtain ⟨G,h⟩:=Zq h
 try simp only [Nat.reduceLeDiff] at G
 try simp only [*,go_sem,seval]
 refine ⟨_,[],[257],(Option.some.inj h).symm,by decide,?_⟩
 try simp only [*,go_sem,seval]
 refine Ze h (fun t h=>?_) (fun t h=>?_)
 have u:=t
 try simp only [c2,e,f,g,k,q,Bool.false_or,Bool.or_false] at u
 obtain ⟨H,h⟩:=Zq h
 try simp only [Nat.reduceLeDiff] at H
 try simp only [*,go_sem,seval]
 refine ⟨_,[],[257],(Option.some.inj h).symm,by decide,?_⟩
 try simp only [*,go_sem,seval]
 have u:=t
 try simp only [c2,e,f,g,k,q,Bool.false_or,Bool.or_false] at u
 obtain ⟨I,h⟩:=Zq h
 try simp only [Nat.reduceLeDiff] at I
 obtain ⟨J,h⟩:=Zq h
 try simp only [Nat.reduceLeDiff] at J
 try simp only [*,go_sem,seval]
 refine ⟨_,[],[385],(Option.some.inj h).symm,by decide,?_⟩
 try simp only [*,go_sem,seval]
 rintro ⟨l,m⟩ ⟨sl,ob,n⟩ w ae h
 simp only [go_sem,seval,Zc] at w
 obtain ⟨⟨af,ag,ah,ai,aj,ak,al⟩,am,hn⟩:=w
 subst hn
 have an:=Zy (a.length)
 try simp only [*,go_sem,seval]
 refine Ze h (fun _ h=>?_) fun _ h=>?_<;>try simp only [*,go_sem,seval]
 cases h
 try simp only [*,go_sem,seval]
 obtain ⟨K,h⟩:=Zq h
 try simp only [Nat.reduceLeDiff] at K
 iterate 4 (cases h;try simp only [*,go_sem,seval])
theorem ZiX {facts_0:(List Zb)} {l_1:(List Zb)} {r:(List Int)} (h:Zc0 facts_0 l_1=some r):Zk Tryz.prog J0 95 [(false,[.sl 45 2 (List.map Zl facts_0)]),(false,[.sl 45 2 (List.map Zl l_1)])] [(false,[(false,.sl 3 1 (List.map ZI r))])]:=by
 refine fnk Tryz.func95 (by kernel_rfl) rfl (by kernel_rfl) (by kernel_rfl) ?_
 unfold Zc0 at h
 simp only [fnS,f95,Zm,go_sem,seval]
 refine Zi h (fun i a st=>IV [(0,.p false [.c (.sl 45 2 (List.map Zl facts_0))]),(5,.p false [.row 0]),(9,.p false [.c (.sl 45 2 (List.map Zl l_1))]),(10,.p false [.c (.int .i64 ((l_1.length:Nat):Int))]),(11,.p false [.c (.int .i64 ((i:Nat):Int))])] [.row 3 1 (List.map ZI a) 2] st) [(false,5,0)] [80] (by decide) ?_ ?_ ?_
 simp only [*,go_sem,seval]
 rintro t u a ⟨sl,ob,n⟩ v b d f h w
 simp only [go_sem,seval,Zc] at d
 obtain ⟨⟨x,y,g,z,A⟩,B,hn⟩:=d
 subst hn
 have k:=WF.slotL f g (j:=0) rfl
 have C:=ZA b
 have D:=ZC b
 have E:=Zj (ZB b) k
 try simp only [*,go_sem,seval]
 obtain ⟨F,l,h⟩:=Za h
 refine Zd (Qq l) ?_
 try simp only [*,go_sem,seval]
 refine Ze h (fun _ h=>?_) fun _ h=>?_<;>try simp only [*,go_sem,seval]
 obtain ⟨G,m,h⟩:=Za h
 refine Zd (ZqS m) ?_
 try simp only [*,go_sem,seval]
 refine Ze h (fun _ h=>?_) fun _ h=>?_<;>try simp only [*,go_sem,seval]
 refine ⟨_,[],[0],(Option.some.inj h).symm,by decide,?_⟩
 try simp only [*,go_sem,seval]
 obtain ⟨o,h⟩:=Zq h
 try simp only [Nat.reduceLeDiff] at o
 try simp only [*,go_sem,seval]
 refine ⟨_,[],[321],(Option.some.inj h).symm,by decide,?_⟩
 try simp only [*,go_sem,seval]
 refine ⟨_,[],[0],(Option.some.inj h).symm,by decide,?_⟩
 try simp only [*,go_sem,seval]
 rintro a ⟨sl,ob,n⟩ e H h
 simp only [go_sem,seval,Zc] at e
 obtain ⟨⟨I,J,K,L,M⟩,N,hn⟩:=e
 subst hn
 have O:=Zy (l_1.length)
 try simp only [*,go_sem,seval]
 obtain ⟨P,q,h⟩:=Za h
 refine QL (ZmZ q) ?_
 cases h
 try simp only [*,go_sem,seval]
theorem QX {b_0:(List Zs)} {r:Bool} (h:XE b_0=some r):Zk Tryz.prog J0 72 [(false,[.sl 166 2 (List.map Z4 b_0)])] [(false,[(false,.bool r)])]:=by
 refine fnk Tryz.func72 (by kernel_rfl) rfl (by kernel_rfl) (by kernel_rfl) ?_
 unfold XE at h
 simp only [fnS,f72,Zm,go_sem,seval]
 refine Zi h (fun i _ st=>IV [(0,.p false [.c (.sl 166 2 (List.map Z4 b_0))]),(3,.p false [.c (.int .i64 ((i:Nat):Int))])] [] st) [] [] (by decide) ?_ ?_ ?_
 simp only [*,go_sem,seval]
 rintro o q ⟨⟩ ⟨sl,ob,n⟩ t a b f h d
 simp only [go_sem,seval,Zc] at b
 obtain ⟨⟨g,u⟩,hn⟩:=b
 subst hn
 have k:=WF.slotL f g (j:=0) rfl
 have v:=ZA a
 have w:=ZC a
 have x:=Zj (ZB a) k
 try simp only [*,go_sem,seval]
 obtain ⟨y,l,h⟩:=Za h
 refine Zd (Q3 l) ?_
 try simp only [*,go_sem,seval]
 refine Ze h (fun _ h=>?_) fun _ h=>?_<;>try simp only [*,go_sem,seval]
 obtain ⟨z,m,h⟩:=Za h
 refine Zd (X0 m) ?_
 try simp only [*,go_sem,seval]
 iterate 2 refine Ze h (fun _ h=>?_) fun _ h=>?_<;>try simp only [*,go_sem,seval]
 obtain ⟨A,B,C,D,h⟩:=ZbQ h
 try simp only [*,go_sem,seval]
 refine Ze h (fun _ h=>?_) fun _ h=>?_<;>try simp only [*,go_sem,seval]
 refine ⟨_,[],[],(Option.some.inj h).symm,by decide,?_⟩
 try simp only [*,go_sem,seval]
 replace h:=Zn h d
 cases h
 try simp only [*,go_sem,seval]
 refine ⟨_,[],[],(Option.some.inj h).symm,by decide,?_⟩
 iterate 2 ((try simp only [*,go_sem,seval]);replace h:=Zn h d;cases h)
 try simp only [*,go_sem,seval]
 rintro ⟨⟩ ⟨sl,ob,n⟩ e E h
 simp only [go_sem,seval,Zc] at e
 obtain ⟨⟨F,G⟩,hn⟩:=e
 subst hn
 have H:=Zy (b_0.length)
 cases h
 try simp only [*,go_sem,seval]
theorem ZcO {b_0:(List Zs)} {term_1:ByteArray} {r:(ByteArray × Bool)} (h:ZaQ b_0 term_1=some r):Zk Tryz.prog J0 73 [(false,[.sl 166 2 (List.map Z4 b_0)]),(false,[.str term_1])] [(false,[(false,.str r.1)]),(false,[(false,.bool r.2)])]:=by
 refine fnk Tryz.func73 (by kernel_rfl) rfl (by kernel_rfl) (by kernel_rfl) ?_
 unfold ZaQ at h
 have e:Z9 ⟨#[]⟩=true:=by decide
 simp only [fnS,f73,Zm,go_sem,seval,e]
 obtain ⟨q,f,h⟩:=Za h
 refine Zd (X0 f) ?_
 try simp only [*,go_sem,seval]
 refine Ze h (fun _ h=>?_) fun _ h=>?_<;>try simp only [*,go_sem,seval]
 cases h
 try simp only [*,go_sem,seval]
 refine Zi h (fun i _ st=>IV [(0,.p false [.c (.sl 166 2 (List.map Z4 b_0))]),(1,.p false [.c (.str term_1)]),(6,.p false [.c (.int .i64 ((i:Nat):Int))])] [] st) [] [] (by decide) ?_ ?_ ?_
 simp only [*,go_sem,seval]
 rintro t u ⟨⟩ ⟨sl,ob,n⟩ v a b g h k
 simp only [go_sem,seval,Zc] at b
 obtain ⟨⟨l,w,x⟩,hn⟩:=b
 subst hn
 have m:=WF.slotL g l (j:=0) rfl
 have y:=ZA a
 have z:=ZC a
 have A:=Zj (ZB a) m
 try simp only [*,go_sem,seval]
 refine Ze h (fun _ h=>?_) fun _ h=>?_<;>try simp only [*,go_sem,seval]
 obtain ⟨B,o,h⟩:=Za h
 refine Zd (Q3 o) ?_
 try simp only [*,go_sem,seval]
 refine Ze h (fun _ h=>?_) fun _ h=>?_<;>try simp only [*,go_sem,seval]
 replace h:=Zn h k
 cases h
 try simp only [*,go_sem,seval]
 refine ⟨_,[],[],(Option.some.inj h).symm,by decide,?_⟩
 try simp only [*,go_sem,seval]
 refine ⟨_,[],[],(Option.some.inj h).symm,by decide,?_⟩
 try simp only [*,go_sem,seval]
 rintro ⟨⟩ ⟨sl,ob,n⟩ d C h
 simp only [go_sem,seval,Zc] at d
 obtain ⟨⟨D,E,F⟩,hn⟩:=d
 subst hn
 have G:=Zy (b_0.length)
 cases h
 try simp only [*,go_sem,seval]
theorem Zj9 {f_0:Zb} {r:Bool} (h:Ze7 f_0=some r):Zk Tryz.prog J0 155 [(true,Zl f_0)] [(false,[(false,.bool r)])]:=by
 refine fnk Tryz.func155 (by kernel_rfl) rfl (by kernel_rfl) (by kernel_rfl) ?_
 unfold Ze7 at h
 simp only [fnS,f155,Zm,go_sem,seval]
 refine Zi h (fun i _ st=>IV [(1,.bp 0 0),(3,.p false [.c (.int .i64 ((i:Nat):Int))])] [.box 45 [.c (.str f_0.rel),.c (.sl 9 1 (List.map Zx f_0.args))]] st) [] [0] (by decide) ?_ ?_ ?_
 simp only [*,go_sem,seval]
 rintro o q ⟨⟩ ⟨sl,ob,n⟩ t a b e h f
 simp only [go_sem,seval,Zc] at b
 obtain ⟨⟨u,v⟩,g,hn⟩:=b
 subst hn
 have k:=WF.boxL e g (j:=1) rfl
 have w:=ZA a
 have x:=ZC a
 have y:=Zj (ZB a) k
 try simp only [*,go_sem,seval]
 obtain ⟨z,l,h⟩:=Za h
 refine Zd (X0 l) ?_
 try simp only [*,go_sem,seval]
 refine Ze h (fun _ h=>?_) fun _ h=>?_<;>try simp only [*,go_sem,seval]
 refine ⟨_,[],[0],(Option.some.inj h).symm,by decide,?_⟩
 try simp only [*,go_sem,seval]
 replace h:=Zn h f
 cases h
 try simp only [*,go_sem,seval]
 rintro ⟨⟩ ⟨sl,ob,n⟩ d A h
 simp only [go_sem,seval,Zc] at d
 obtain ⟨⟨B,C⟩,D,hn⟩:=d
 subst hn
 have E:=Zy (f_0.args.length)
 try simp only [*,go_sem,seval]
 obtain ⟨F,m,h⟩:=Za h
 refine Zd (ZgV m) ?_
 try simp only [*,go_sem,seval]
 refine Ze h (fun _ h=>?_) fun _ h=>?_<;>try simp only [*,go_sem,seval]
 iterate 2 (cases h;try simp only [*,go_sem,seval])
theorem ZrC {t_0:Zu} {r:Zu} (h:Zf4 t_0=some r):Zk Tryz.prog J0 279 [(true,YK t_0)] [(true,[(false,.sl 45 2 (List.map Zl r.facts)),(false,.sl 166 2 (List.map Z4 r.binding))])]:=by
 refine fnk Tryz.func279 (by kernel_rfl) rfl (by kernel_rfl) (by kernel_rfl) ?_
 unfold Zf4 at h
 simp only [fnS,f279,Zm,go_sem,seval]
 obtain ⟨c,a,h⟩:=Za h
 refine Zd (Zeq a) ?_
 try simp only [*,go_sem,seval]
 obtain ⟨d,b,h⟩:=Za h
 refine Zd (ZgL b) ?_
 cases h
 try simp only [*,go_sem,seval]
theorem ZhF {l_0:(List Zb)} {facts_1:(List Zb)} {r:(List Int)} (h:ZbP l_0 facts_1=some r):Zk Tryz.prog J0 92 [(false,[.sl 45 2 (List.map Zl l_0)]),(false,[.sl 45 2 (List.map Zl facts_1)])] [(false,[(false,.sl 3 1 (List.map ZI r))])]:=by
 refine fnk Tryz.func92 (by kernel_rfl) rfl (by kernel_rfl) (by kernel_rfl) ?_
 unfold ZbP at h
 simp only [fnS,f92,Zm,go_sem,seval]
 refine Zi h (fun i a st=>IV [(0,.p false [.c (.sl 45 2 (List.map Zl l_0))]),(1,.p false [.c (.sl 45 2 (List.map Zl facts_1))]),(5,.p false [.row 0]),(6,.p false [.c (.int .i64 ((i:Nat):Int))])] [.row 3 1 (List.map ZI a) 2] st) [] [16] (by decide) ?_ ?_ ?_
 simp only [*,go_sem,seval]
 rintro o q a ⟨sl,ob,n⟩ t b d f h u
 simp only [go_sem,seval,Zc] at d
 obtain ⟨⟨v,g,w,x⟩,y,hn⟩:=d
 subst hn
 have k:=WF.slotL f g (j:=0) rfl
 have z:=ZA b
 have A:=ZC b
 have B:=Zj (ZB b) k
 try simp only [*,go_sem,seval]
 obtain ⟨C,l,h⟩:=Za h
 refine Zd (Zb0 l) ?_
 try simp only [*,go_sem,seval]
 refine Ze h (fun _ h=>?_) fun _ h=>?_<;>try simp only [*,go_sem,seval]
 obtain ⟨D,m,h⟩:=Za h
 refine Zd (ZpR m) ?_
 try simp only [*,go_sem,seval]
 refine ⟨_,[],[241],(Option.some.inj h).symm,by decide,?_⟩
 try simp only [*,go_sem,seval]
 refine ⟨_,[],[0],(Option.some.inj h).symm,by decide,?_⟩
 try simp only [*,go_sem,seval]
 rintro a ⟨sl,ob,n⟩ e E h
 simp only [go_sem,seval,Zc] at e
 obtain ⟨⟨F,G,H,I⟩,J,hn⟩:=e
 subst hn
 have K:=Zy (facts_1.length)
 cases h
 try simp only [*,go_sem,seval]
end Go.Proofs.YtfehfkfdfmcgfaaGreatDoor
namespace Go.Proofs.YtfehfkfdfmcgfaaGreatDoor
open Go.Proofs.Tryz
set_option linter.unusedSimpArgs false
set_option linter.unusedVariables false
set_option maxRecDepth 1000000
set_option maxHeartbeats 4000000
theorem Zbq {r_0:Zg} {n_1:Int} {r:(List ByteArray)} (h:X5 r_0 n_1=some r):Zk Tryz.prog J0 219 [(true,ZF r_0),(false,[.int .i64 n_1])] [(false,[(false,.sl 9 1 (List.map Zx r))])]:=by
 refine fnk Tryz.func219 (by kernel_rfl) rfl (by kernel_rfl) (by kernel_rfl) ?_
 unfold X5 at h
 simp only [fnS,f219,Zm,go_sem,seval]
 refine Zi h (fun i row_12 st=>IV [(1,.p false [.c (.int .i64 n_1)]),(2,.bp 0 0),(5,.p false [.row 1]),(6,.p false [.c (.int .i64 ((i:Nat):Int))])] [.box 42 [.c (.str r_0.name),.c (.int .i64 r_0.priority),.c (.sl 173 5 (List.map ZK r_0.cond)),.c (.sl 50 3 (List.map ZG r_0.thn))],.row 9 1 (List.map Zx row_12) 2] st) [] [0,32] (by decide) ?_ ?_ ?_
 ·simp only [*,go_sem,seval]
 ·rintro i25 x26 row_12 ⟨sl,ob,n⟩ y1 hx2 hI3 hW4 h hy1
  simp only [go_sem,seval,Zc] at hI3
  obtain ⟨⟨g5_1,g5_2,g5_5,g5_6⟩,og5_0,og5_1,hn⟩:=hI3
  subst hn
  have hlhx2:=WF.boxL hW4 og5_0 (j:=2) rfl
  have q6:=ZA hx2
  have q7:=ZC hx2
  have q8:=Zj (ZB hx2) hlhx2
  try simp only [*,go_sem,seval]
  refine Ze h (fun _ h=>?_) fun _ h=>?_<;>try simp only [*,go_sem,seval]
  ·refine Ze h (fun _ h=>?_) fun _ h=>?_<;>try simp only [*,go_sem,seval]
   ·obtain ⟨v27,e11,h⟩:=Za h
    refine Zd (by have hh:=Zcw e11;first|exact hh|(simp only [*,go_sem] at hh;exact hh)) ?_
    try simp only [*,go_sem,seval]
    refine Zi h (fun i row_30 st=>IV [(1,.p false [.c (.int .i64 n_1)]),(2,.bp 0 0),(5,.p false [.row 1]),(6,.p false [.c (.int .i64 ((i25:Nat):Int))]),(7,.p false [.row 2]),(8,.p false [.c (.int .i64 ((i:Nat):Int))]),(16,.p false [.c (.int .i64 ((i25:Nat):Int))]),(17,.p false [.c (.int .i64 n_1)]),(18,.p false [.c (.bool (decide (((i25:Nat):Int)<n_1)))])] [.box 42 [.c (.str r_0.name),.c (.int .i64 r_0.priority),.c (.sl 173 5 (List.map ZK r_0.cond)),.c (.sl 50 3 (List.map ZG r_0.thn))],.row 9 1 (List.map Zx row_30) 2,.row 9 1 (List.map Zx v27) 2] st) [] [0,1,370] (by decide) ?_ ?_ ?_
    ·simp only [*,go_sem,seval]
    ·rintro i34 x35 row_30 ⟨sl,ob,n⟩ y12 hx13 hI14 hW15 h hy12
     simp only [go_sem,seval,Zc] at hI14
     obtain ⟨⟨g16_1,g16_2,g16_5,g16_6,g16_7,g16_8,g16_16,g16_17,g16_18⟩,og16_0,og16_1,og16_2,hn⟩:=hI14
     subst hn
     have hlhx13:=WF.rowL hW15 og16_2
     have q17:=ZA hx13
     have q18:=ZC hx13
     have q19:=Zj (ZB hx13) hlhx13
     try simp only [*,go_sem,seval]
     obtain ⟨v36,e20,h⟩:=Za h
     refine Zd (by have hh:=Xg e20;first|exact hh|(simp only [*,go_sem] at hh;exact hh)) ?_
     try simp only [*,go_sem,seval]
     refine ⟨_,[],[0,147,2],(Option.some.inj h).symm,by decide,?_⟩
     try simp only [*,go_sem,seval]
    ·rintro row_30 ⟨sl,ob,n⟩ hI21 hW22 h
     simp only [go_sem,seval,Zc] at hI21
     obtain ⟨⟨g23_1,g23_2,g23_5,g23_6,g23_7,g23_8,g23_16,g23_17,g23_18⟩,og23_0,og23_1,og23_2,hn⟩:=hI21
     subst hn
     have q24:=Zy (v27.length)
     try simp only [*,go_sem,seval]
     refine ⟨_,[],[0,1],(Option.some.inj h).symm,by decide,?_⟩
     try simp only [*,go_sem,seval]
   ·refine ⟨_,[],[0,1],(Option.some.inj h).symm,by decide,?_⟩
    try simp only [*,go_sem,seval]
  ·replace h:=Zn h hy1
   cases h
   try simp only [*,go_sem,seval]
 ·rintro row_12 ⟨sl,ob,n⟩ hI25 hW26 h
  simp only [go_sem,seval,Zc] at hI25
  obtain ⟨⟨g27_1,g27_2,g27_5,g27_6⟩,og27_0,og27_1,hn⟩:=hI25
  subst hn
  have q28:=Zy (r_0.cond.length)
  cases h
  try simp only [*,go_sem,seval]
theorem Xi {p_0:Zv} {r:Bool} (h:YS p_0=some r):Zk Tryz.prog J0 71 [(true,QA p_0)] [(false,[(false,.bool r)])]:=by
 refine fnk Tryz.func71 (by kernel_rfl) rfl (by kernel_rfl) (by kernel_rfl) ?_
 unfold YS at h
 simp only [fnS,f71,Zm,go_sem,seval]
 refine Zi h (fun i _ st=>IV [(1,.bp 0 0),(3,.p false [.c (.int .i64 ((i:Nat):Int))])] [.box 48 [.c (.str p_0.rel),.c (.sl 9 1 (List.map Zx p_0.args))]] st) [] [0] (by decide) ?_ ?_ ?_
 simp only [*,go_sem,seval]
 rintro o q ⟨⟩ ⟨sl,ob,n⟩ t a b e h f
 simp only [go_sem,seval,Zc] at b
 obtain ⟨⟨u,v⟩,g,hn⟩:=b
 subst hn
 have k:=WF.boxL e g (j:=1) rfl
 have w:=ZA a
 have x:=ZC a
 have y:=Zj (ZB a) k
 try simp only [*,go_sem,seval]
 obtain ⟨z,l,h⟩:=Za h
 refine Zd (QY l) ?_
 try simp only [*,go_sem,seval]
 refine Ze h (fun _ h=>?_) fun _ h=>?_<;>try simp only [*,go_sem,seval]
 refine ⟨_,[],[0],(Option.some.inj h).symm,by decide,?_⟩
 try simp only [*,go_sem,seval]
 replace h:=Zn h f
 cases h
 try simp only [*,go_sem,seval]
 rintro ⟨⟩ ⟨sl,ob,n⟩ d A h
 simp only [go_sem,seval,Zc] at d
 obtain ⟨⟨B,C⟩,D,hn⟩:=d
 subst hn
 have E:=Zy (p_0.args.length)
 try simp only [*,go_sem,seval]
 obtain ⟨F,m,h⟩:=Za h
 refine Zd (ZgV m) ?_
 try simp only [*,go_sem,seval]
 refine Ze h (fun _ h=>?_) fun _ h=>?_<;>try simp only [*,go_sem,seval]
 iterate 2 (cases h;try simp only [*,go_sem,seval])
theorem Zas {x_0:Zt} {r:(List ByteArray)} (h:XH x_0=some r):Zk Tryz.prog J0 221 [(true,ZK x_0)] [(false,[(false,.sl 9 1 (List.map Zx r))])]:=by
 refine fnk Tryz.func221 (by kernel_rfl) rfl (by kernel_rfl) (by kernel_rfl) ?_
 unfold XH at h
 simp only [fnS,f221,Zm,go_sem,seval]
 obtain ⟨i,a,h⟩:=Za h
 refine Zd (Zcw a) ?_
 try simp only [*,go_sem,seval]
 obtain ⟨j,b,h⟩:=Za h
 refine Zd (Q3 b) ?_
 try simp only [*,go_sem,seval]
 refine Ze h (fun _ h=>?_) fun _ h=>?_<;>try simp only [*,go_sem,seval]
 obtain ⟨k,c,h⟩:=Za h
 refine Zd (Xg c) ?_
 try simp only [*,go_sem,seval]
 obtain ⟨l,d,h⟩:=Za h
 refine Zd (Q3 d) ?_
 try simp only [*,go_sem,seval]
 refine Ze h (fun _ h=>?_) fun _ h=>?_<;>try simp only [*,go_sem,seval]
 obtain ⟨m,e,h⟩:=Za h
 refine Zd (Xg e) ?_
 iterate 2 (cases h;try simp only [*,go_sem,seval])
 obtain ⟨o,f,h⟩:=Za h
 refine Zd (Q3 f) ?_
 try simp only [*,go_sem,seval]
 refine Ze h (fun _ h=>?_) fun _ h=>?_<;>try simp only [*,go_sem,seval]
 obtain ⟨p,g,h⟩:=Za h
 refine Zd (Xg g) ?_
 iterate 2 (cases h;try simp only [*,go_sem,seval])
theorem Zdw {a:(List Zb)} {f_1:Zb} {r:(List Zb)} (h:YX a f_1=some r):Zk Tryz.prog J0 127 [(false,[.sl 45 2 (List.map Zl a)]),(true,Zl f_1)] [(false,[(false,.sl 45 2 (List.map Zl r))])]:=by
 refine fnk Tryz.func127 (by kernel_rfl) rfl (by kernel_rfl) (by kernel_rfl) ?_
 unfold YX at h
 simp only [fnS,f127,Zm,go_sem,seval]
 refine Zi h (fun i s st=>match s with | (b,d)=>IV [(0,.p false [.c (.sl 45 2 (List.map Zl a))]),(3,.bp 0 0),(5,.p false [.row 1]),(6,.p false [.c (.bool d)]),(7,.p false [.c (.int .i64 ((i:Nat):Int))])] [.box 45 [.c (.str f_1.rel),.c (.sl 9 1 (List.map Zx f_1.args))],.row 45 2 (List.map Zl b) 2] st) [] [0,32] (by decide) ?_ ?_ ?_
 simp only [*,go_sem,seval]
 rintro G H ⟨b,d⟩ ⟨sl,ob,n⟩ I e f k h J
 simp only [go_sem,seval,Zc] at f
 obtain ⟨⟨l,K,L,M,N⟩,O,P,hn⟩:=f
 subst hn
 have m:=WF.slotL k l (j:=0) rfl
 have Q:=ZA e
 have R:=ZC e
 have S:=Zj (ZB e) m
 try simp only [*,go_sem,seval]
 refine Ze h (fun _ h=>?_) fun _ h=>?_<;>try simp only [*,go_sem,seval]
 obtain ⟨T,o,h⟩:=Za h
 refine Zd (Xa o) ?_
 obtain ⟨q,h⟩:=Zq h
 try simp only [Nat.reduceLeDiff] at q
 try simp only [*,go_sem,seval]
 refine ⟨_,[],[0,354],(Option.some.inj h).symm,by decide,?_⟩
 try simp only [*,go_sem,seval]
 obtain ⟨U,t,h⟩:=Za h
 refine Zd (Qv t) ?_
 try simp only [*,go_sem,seval]
 refine Ze h (fun _ h=>?_) fun _ h=>?_<;>try simp only [*,go_sem,seval]
 obtain ⟨V,u,h⟩:=Za h
 refine Zd (Qv u) ?_
 try simp only [*,go_sem,seval]
 refine Ze h (fun _ h=>?_) fun _ h=>?_<;>try simp only [*,go_sem,seval]
 obtain ⟨W,v,h⟩:=Za h
 refine Zd (Xa v) ?_
 obtain ⟨w,h⟩:=Zq h
 try simp only [Nat.reduceLeDiff] at w
 try simp only [*,go_sem,seval]
 obtain ⟨X,x,h⟩:=Za h
 refine Zd (Xa x) ?_
 obtain ⟨y,h⟩:=Zq h
 try simp only [Nat.reduceLeDiff] at y
 try simp only [*,go_sem,seval]
 refine ⟨_,[],[0,578],(Option.some.inj h).symm,by decide,?_⟩
 try simp only [*,go_sem,seval]
 obtain ⟨Y,z,h⟩:=Za h
 refine Zd (Xa z) ?_
 obtain ⟨A,h⟩:=Zq h
 try simp only [Nat.reduceLeDiff] at A
 try simp only [*,go_sem,seval]
 refine ⟨_,[],[0,482],(Option.some.inj h).symm,by decide,?_⟩
 try simp only [*,go_sem,seval]
 obtain ⟨Z,B,h⟩:=Za h
 refine Zd (Xa B) ?_
 obtain ⟨C,h⟩:=Zq h
 try simp only [Nat.reduceLeDiff] at C
 try simp only [*,go_sem,seval]
 refine ⟨_,[],[0,354],(Option.some.inj h).symm,by decide,?_⟩
 try simp only [*,go_sem,seval]
 rintro ⟨b,d⟩ ⟨sl,ob,n⟩ g aa h
 simp only [go_sem,seval,Zc] at g
 obtain ⟨⟨ab,ac,ad,ae,af⟩,ag,ah,hn⟩:=g
 subst hn
 have ai:=Zy (a.length)
 try simp only [*,go_sem,seval]
 refine Ze h (fun _ h=>?_) fun _ h=>?_<;>try simp only [*,go_sem,seval]
 cases h
 try simp only [*,go_sem,seval]
 obtain ⟨aj,D,h⟩:=Za h
 refine Zd (Xa D) ?_
 obtain ⟨E,h⟩:=Zq h
 try simp only [Nat.reduceLeDiff] at E
 cases h
 try simp only [*,go_sem,seval]
theorem Zep {l_0:(List Zb)} {r:Bool} (h:ZaH l_0=some r):Zk Tryz.prog J0 66 [(false,[.sl 45 2 (List.map Zl l_0)])] [(false,[(false,.bool r)])]:=by
 refine fnk Tryz.func66 (by kernel_rfl) rfl (by kernel_rfl) (by kernel_rfl) ?_
 unfold ZaH at h
 simp only [fnS,f66,Zm,go_sem,seval]
 refine Ze h (fun _ h=>?_) fun _ h=>?_<;>try simp only [*,go_sem,seval]
 cases h
 try simp only [*,go_sem,seval]
 refine Zi h (fun i _ st=>IV [(0,.p false [.c (.sl 45 2 (List.map Zl l_0))]),(8,.p false [.c (.sl 45 2 (List.map Zl l_0))]),(9,.p false [.c (.int .i64 ((l_0.length:Nat):Int))]),(10,.p false [.c (.int .i64 ((i:Nat):Int))])] [] st) [] [] (by decide) ?_ ?_ ?_
 simp only [*,go_sem,seval]
 rintro o q ⟨⟩ ⟨sl,ob,n⟩ t a b f h d
 simp only [go_sem,seval,Zc] at b
 obtain ⟨⟨g,u,v,w⟩,hn⟩:=b
 subst hn
 have k:=WF.slotL f g (j:=0) rfl
 have x:=ZA a
 have y:=ZC a
 have z:=Zj (ZB a) k
 try simp only [*,go_sem,seval]
 obtain ⟨A,l,h⟩:=Za h
 refine Zd (Zky l) ?_
 try simp only [*,go_sem,seval]
 iterate 2 refine Ze h (fun _ h=>?_) fun _ h=>?_<;>try simp only [*,go_sem,seval]
 obtain ⟨B,C,D,E,h⟩:=ZbQ h
 try simp only [*,go_sem,seval]
 obtain ⟨F,m,h⟩:=Za h
 refine Zd (Zd7 m) ?_
 try simp only [*,go_sem,seval]
 refine Ze h (fun _ h=>?_) fun _ h=>?_<;>try simp only [*,go_sem,seval]
 replace h:=Zn h d
 cases h
 try simp only [*,go_sem,seval]
 refine ⟨_,[],[],(Option.some.inj h).symm,by decide,?_⟩
 try simp only [*,go_sem,seval]
 refine ⟨_,[],[],(Option.some.inj h).symm,by decide,?_⟩
 try simp only [*,go_sem,seval]
 replace h:=Zn h d
 cases h
 try simp only [*,go_sem,seval]
 rintro ⟨⟩ ⟨sl,ob,n⟩ e G h
 simp only [go_sem,seval,Zc] at e
 obtain ⟨⟨H,I,J,K⟩,hn⟩:=e
 subst hn
 have L:=Zy (l_0.length)
 cases h
 try simp only [*,go_sem,seval]
theorem Zce {p_0:Zv} {b_1:(List Zs)} {r:(Zb × Bool)} (h:XL p_0 b_1=some r):Zk Tryz.prog J0 68 [(true,QA p_0),(false,[.sl 166 2 (List.map Z4 b_1)])] [(true,[(false,.str r.1.rel),(false,.sl 9 1 (List.map Zx r.1.args))]),(false,[(false,.bool r.2)])]:=by
 refine fnk Tryz.func68 (by kernel_rfl) rfl (by kernel_rfl) (by kernel_rfl) ?_
 unfold XL at h
 simp only [fnS,f68,Zm,go_sem,seval]
 obtain ⟨u,f,h⟩:=Za h
 refine Zd (XQ f) ?_
 try simp only [*,go_sem,seval]
 refine Ze h (fun _ h=>?_) fun _ h=>?_<;>try simp only [*,go_sem,seval]
 obtain ⟨v,g,h⟩:=Za h
 refine Zd (QO g) ?_
 try simp only [*,go_sem,seval]
 refine Ze h (fun _ h=>?_) fun _ h=>?_<;>try simp only [*,go_sem,seval]
 refine Zi h (fun i a st=>IV [(1,.p false [.c (.sl 166 2 (List.map Z4 b_1))]),(4,.bp 0 0),(6,.bp 1 0),(24,.p false [.c (.sl 9 1 (List.map Zx p_0.args))]),(25,.p false [.c (.int .i64 ((p_0.args.length:Nat):Int))]),(26,.p false [.c (.int .i64 ((i:Nat):Int))])] [.box 45 [.c (.str ⟨#[]⟩),.nil 9 1],.box 45 [.c (.str p_0.rel),.row 2],.row 9 1 (List.map Zx a) 2] st) [(true,224,1)] [16,224,320] (by decide) ?_ ?_ ?_
 simp only [*,go_sem,seval]
 rintro w x a ⟨sl,ob,n⟩ y b d k h l
 simp only [go_sem,seval,Zc] at d
 obtain ⟨⟨z,A,B,m,C,D⟩,E,F,G,hn⟩:=d
 subst hn
 have o:=WF.slotL k m (j:=0) rfl
 have H:=ZA b
 have I:=ZC b
 have J:=Zj (ZB b) o
 try simp only [*,go_sem,seval]
 obtain ⟨K,q,h⟩:=Za h
 refine Zd (ZcR q) ?_
 try simp only [*,go_sem,seval]
 refine Ze h (fun _ h=>?_) fun _ h=>?_<;>try simp only [*,go_sem,seval]
 obtain ⟨t,h⟩:=Zq h
 try simp only [Nat.reduceLeDiff] at t
 try simp only [*,go_sem,seval]
 refine ⟨_,[],[0,1,291],(Option.some.inj h).symm,by decide,?_⟩
 try simp only [*,go_sem,seval]
 replace h:=Zn h l
 cases h
 try simp only [*,go_sem,seval]
 rintro a ⟨sl,ob,n⟩ e L h
 simp only [go_sem,seval,Zc] at e
 obtain ⟨⟨M,N,O,P,Q,R⟩,S,T,U,hn⟩:=e
 subst hn
 have V:=Zy (p_0.args.length)
 iterate 3 (cases h;try simp only [*,go_sem,seval])
theorem Zgc {x_0:Zt} {r:Bool} (h:ZdA x_0=some r):Zk Tryz.prog J0 196 [(true,ZK x_0)] [(false,[(false,.bool r)])]:=by
 refine fnk Tryz.func196 (by kernel_rfl) rfl (by kernel_rfl) (by kernel_rfl) ?_
 unfold ZdA at h
 have a:Z9 ⟨#[]⟩=true:=by decide
 simp only [fnS,f196,Zm,go_sem,seval,a]
 refine Ze h (fun _ h=>?_) fun _ h=>?_<;>try simp only [*,go_sem,seval]
 obtain ⟨o,b,h⟩:=Za h
 refine Zd (XQ b) ?_
 try simp only [*,go_sem,seval]
 iterate 2 refine Ze h (fun _ h=>?_) fun _ h=>?_<;>try simp only [*,go_sem,seval]
 iterate 3 (cases h;try simp only [*,go_sem,seval])
 refine Ze h (fun _ h=>?_) fun _ h=>?_<;>try simp only [*,go_sem,seval]
 obtain ⟨p,c,h⟩:=Za h
 refine Zd (XQ c) ?_
 try simp only [*,go_sem,seval]
 iterate 2 refine Ze h (fun _ h=>?_) fun _ h=>?_<;>try simp only [*,go_sem,seval]
 iterate 3 (cases h;try simp only [*,go_sem,seval])
 refine Ze h (fun _ h=>?_) fun _ h=>?_<;>try simp only [*,go_sem,seval]
 obtain ⟨q,d,h⟩:=Za h
 refine Zd (QH d) ?_
 try simp only [*,go_sem,seval]
 refine Ze h (fun _ h=>?_) fun _ h=>?_<;>try simp only [*,go_sem,seval]
 obtain ⟨t,e,h⟩:=Za h
 refine Zd (QH e) ?_
 try simp only [*,go_sem,seval]
 refine Ze h (fun _ h=>?_) fun _ h=>?_<;>try simp only [*,go_sem,seval]
 obtain ⟨u,f,h⟩:=Za h
 refine Zd (Q8 f) ?_
 iterate 3 (cases h;try simp only [*,go_sem,seval])
 refine Ze h (fun _ h=>?_) fun _ h=>?_<;>try simp only [*,go_sem,seval]
 obtain ⟨v,g,h⟩:=Za h
 refine Zd (QH g) ?_
 try simp only [*,go_sem,seval]
 refine Ze h (fun _ h=>?_) fun _ h=>?_<;>try simp only [*,go_sem,seval]
 obtain ⟨w,i,h⟩:=Za h
 refine Zd (QH i) ?_
 try simp only [*,go_sem,seval]
 refine Ze h (fun _ h=>?_) fun _ h=>?_<;>try simp only [*,go_sem,seval]
 obtain ⟨x,j,h⟩:=Za h
 refine Zd (Q8 j) ?_
 iterate 3 (cases h;try simp only [*,go_sem,seval])
 refine Ze h (fun _ h=>?_) fun _ h=>?_<;>try simp only [*,go_sem,seval]
 obtain ⟨y,k,h⟩:=Za h
 refine Zd (QH k) ?_
 try simp only [*,go_sem,seval]
 refine Ze h (fun _ h=>?_) fun _ h=>?_<;>try simp only [*,go_sem,seval]
 obtain ⟨z,l,h⟩:=Za h
 refine Zd (QH l) ?_
 try simp only [*,go_sem,seval]
 refine Ze h (fun _ h=>?_) fun _ h=>?_<;>try simp only [*,go_sem,seval]
 obtain ⟨A,m,h⟩:=Za h
 refine Zd (Q8 m) ?_
 iterate 4 (cases h;try simp only [*,go_sem,seval])
theorem Zgm {r_0:Zg} {k_1:Int} {v_2:ByteArray} {r:Bool} (h:XC r_0 k_1 v_2=some r):Zk Tryz.prog J0 264 [(true,ZF r_0),(false,[.int .i64 k_1]),(false,[.str v_2])] [(false,[(false,.bool r)])]:=by
 refine fnk Tryz.func264 (by kernel_rfl) rfl (by kernel_rfl) (by kernel_rfl) ?_
 unfold XC at h
 simp only [fnS,f264,Zm,go_sem,seval]
 refine Zi h (fun i _ st=>IV [(1,.p false [.c (.int .i64 k_1)]),(2,.p false [.c (.str v_2)]),(3,.bp 0 0),(12,.p false [.c (.sl 173 5 (List.map ZK r_0.cond))]),(13,.p false [.c (.int .i64 ((r_0.cond.length:Nat):Int))]),(14,.p false [.c (.int .i64 ((i:Nat):Int))])] [.box 42 [.c (.str r_0.name),.c (.int .i64 r_0.priority),.c (.sl 173 5 (List.map ZK r_0.cond)),.c (.sl 50 3 (List.map ZG r_0.thn))]] st) [] [0] (by decide) ?_ ?_ ?_
 simp only [*,go_sem,seval]
 rintro z A ⟨⟩ ⟨sl,ob,n⟩ B a d k h l
 simp only [go_sem,seval,Zc] at d
 obtain ⟨⟨C,D,E,m,F,G⟩,H,hn⟩:=d
 subst hn
 have o:=WF.slotL k m (j:=0) rfl
 have I:=ZA a
 have J:=ZC a
 have K:=Zj (ZB a) o
 try simp only [*,go_sem,seval]
 refine Ze h (fun _ h=>?_) fun _ h=>?_<;>try simp only [*,go_sem,seval]
 obtain ⟨L,q,h⟩:=Za h
 refine Zd (Zb9 q) ?_
 try simp only [*,go_sem,seval]
 obtain ⟨M,t,h⟩:=Za h
 refine Zd (Zac t) ?_
 try simp only [*,go_sem,seval]
 refine Ze h (fun _ h=>?_) fun _ h=>?_<;>try simp only [*,go_sem,seval]
 replace h:=Zn h l
 cases h
 try simp only [*,go_sem,seval]
 refine ⟨_,[],[0],(Option.some.inj h).symm,by decide,?_⟩
 try simp only [*,go_sem,seval]
 refine ⟨_,[],[0],(Option.some.inj h).symm,by decide,?_⟩
 try simp only [*,go_sem,seval]
 rintro ⟨⟩ ⟨sl,ob,n⟩ e N h
 simp only [go_sem,seval,Zc] at e
 obtain ⟨⟨O,P,Q,R,S,T⟩,U,hn⟩:=e
 subst hn
 have V:=Zy (r_0.cond.length)
 try simp only [*,go_sem,seval]
 refine Zi h (fun i _ st=>IV [(2,.p false [.c (.str v_2)]),(30,.p false [.c (.sl 50 3 (List.map ZG r_0.thn))]),(31,.p false [.c (.int .i64 ((r_0.thn.length:Nat):Int))]),(32,.p false [.c (.int .i64 ((i:Nat):Int))])] [] st) [] [] (by decide) ?_ ?_ ?_
 simp only [*,go_sem,seval]
 rintro W X ⟨⟩ ⟨sl,ob,n⟩ Y b f u h v
 simp only [go_sem,seval,Zc] at f
 obtain ⟨⟨Z,w,aa,ab⟩,hn⟩:=f
 subst hn
 have x:=WF.slotL u w (j:=0) rfl
 have ac:=ZA b
 have ad:=ZC b
 have ae:=Zj (ZB b) x
 try simp only [*,go_sem,seval]
 obtain ⟨af,y,h⟩:=Za h
 refine Zd (Zac y) ?_
 try simp only [*,go_sem,seval]
 refine Ze h (fun _ h=>?_) fun _ h=>?_<;>try simp only [*,go_sem,seval]
 replace h:=Zn h v
 cases h
 try simp only [*,go_sem,seval]
 refine ⟨_,[],[],(Option.some.inj h).symm,by decide,?_⟩
 try simp only [*,go_sem,seval]
 rintro ⟨⟩ ⟨sl,ob,n⟩ g ag h
 simp only [go_sem,seval,Zc] at g
 obtain ⟨⟨ah,ai,aj,ak⟩,hn⟩:=g
 subst hn
 have al:=Zy (r_0.thn.length)
 cases h
 try simp only [*,go_sem,seval]
theorem ZmO {a_0:Zz} {r:Bool} (h:Zdl a_0=some r):Zk Tryz.prog J0 199 [(true,ZG a_0)] [(false,[(false,.bool r)])]:=by
 refine fnk Tryz.func199 (by kernel_rfl) rfl (by kernel_rfl) (by kernel_rfl) ?_
 unfold Zdl at h
 simp only [fnS,f199,Zm,go_sem,seval]
 refine Ze h (fun _ h=>?_) fun _ h=>?_<;>try simp only [*,go_sem,seval]
 obtain ⟨d,a,h⟩:=Za h
 refine Zd (XQ a) ?_
 cases h
 try simp only [*,go_sem,seval]
 refine Ze h (fun _ h=>?_) fun _ h=>?_<;>try simp only [*,go_sem,seval]
 obtain ⟨e,b,h⟩:=Za h
 refine Zd (XQ b) ?_
 cases h
 try simp only [*,go_sem,seval]
 refine Ze h (fun _ h=>?_) fun _ h=>?_<;>try simp only [*,go_sem,seval]
 obtain ⟨f,c,h⟩:=Za h
 refine Zd (Q8 c) ?_
 iterate 2 (cases h;try simp only [*,go_sem,seval])
theorem ZkH {l_0:(List Zt)} {r:(List ByteArray)} (h:Zbp l_0=some r):Zk Tryz.prog J0 201 [(false,[.sl 173 5 (List.map ZK l_0)])] [(false,[(false,.sl 9 1 (List.map Zx r))])]:=by
 refine fnk Tryz.func201 (by kernel_rfl) rfl (by kernel_rfl) (by kernel_rfl) ?_
 unfold Zbp at h
 simp only [fnS,f201,Zm,go_sem,seval]
 refine Zi h (fun i a st=>IV [(3,.p false [.row 0]),(6,.p false [.c (.sl 173 5 (List.map ZK l_0))]),(7,.p false [.c (.int .i64 ((l_0.length:Nat):Int))]),(8,.p false [.c (.int .i64 ((i:Nat):Int))])] [.row 9 1 (List.map Zx a) 2] st) [(false,3,0)] [80] (by decide) ?_ ?_ ?_
 simp only [*,go_sem,seval]
 rintro o q a ⟨sl,ob,n⟩ t b d f h u
 simp only [go_sem,seval,Zc] at d
 obtain ⟨⟨v,g,w,x⟩,y,hn⟩:=d
 subst hn
 have k:=WF.slotL f g (j:=0) rfl
 have z:=ZA b
 have A:=ZC b
 have B:=Zj (ZB b) k
 try simp only [*,go_sem,seval]
 obtain ⟨C,l,h⟩:=Za h
 refine Zd (Zb9 l) ?_
 obtain ⟨m,h⟩:=Zq h
 try simp only [Nat.reduceLeDiff] at m
 try simp only [*,go_sem,seval]
 refine ⟨_,[],[129],(Option.some.inj h).symm,by decide,?_⟩
 try simp only [*,go_sem,seval]
 rintro a ⟨sl,ob,n⟩ e D h
 simp only [go_sem,seval,Zc] at e
 obtain ⟨⟨E,F,G,H⟩,I,hn⟩:=e
 subst hn
 have J:=Zy (l_0.length)
 cases h
 try simp only [*,go_sem,seval]
theorem ZgE {append_0:Zv} {String_1:Zb} {a_2:(List Zs)} {r:((List Zs) × Bool)} (h:Za0 append_0 String_1 a_2=some r):Zk Tryz.prog J0 154 [(true,QA append_0),(true,Zl String_1),(false,[.sl 166 2 (List.map Z4 a_2)])] [(false,[(false,.sl 166 2 (List.map Z4 r.1))]),(false,[(false,.bool r.2)])]:=by
 refine fnk Tryz.func154 (by kernel_rfl) rfl (by kernel_rfl) (by kernel_rfl) ?_
 unfold Za0 at h
 simp only [fnS,f154,Zm,go_sem,seval]
 obtain ⟨y,g,h⟩:=Za h
 refine Zd (XQ g) ?_
 try simp only [*,go_sem,seval]
 refine Ze h (fun _ h=>?_) fun _ h=>?_<;>try simp only [*,go_sem,seval]
 obtain ⟨z,k,h⟩:=Za h
 refine Zd (Zky k) ?_
 try simp only [*,go_sem,seval]
 refine Ze h (fun _ h=>?_) fun _ h=>?_<;>try simp only [*,go_sem,seval]
 obtain ⟨A,l,h⟩:=Za h
 refine Zd (QO l) ?_
 try simp only [*,go_sem,seval]
 iterate 3 refine Ze h (fun _ h=>?_) fun _ h=>?_<;>try simp only [*,go_sem,seval]
 cases h
 try simp only [*,go_sem,seval]
 obtain ⟨B,m,h⟩:=Za h
 refine Zd (Zgp m) ?_
 try simp only [*,go_sem,seval]
 refine Zi h (fun i a st=>IV [(4,.bp 0 0),(8,.p false [.row 1]),(45,.p false [.c (.sl 9 1 (List.map Zx append_0.args))]),(46,.p false [.c (.int .i64 ((append_0.args.length:Nat):Int))]),(47,.p false [.c (.int .i64 ((i:Nat):Int))])] [.box 45 [.c (.str String_1.rel),.c (.sl 9 1 (List.map Zx String_1.args))],.row 166 2 (List.map Z4 a) 2] st) [] [16,544] (by decide) ?_ ?_ ?_
 simp only [*,go_sem,seval]
 rintro C D a ⟨sl,ob,n⟩ E b d o h e
 simp only [go_sem,seval,Zc] at d
 obtain ⟨⟨F,G,q,H,I⟩,J,K,hn⟩:=d
 subst hn
 have t:=WF.slotL o q (j:=0) rfl
 have L:=ZA b
 have M:=ZC b
 have N:=Zj (ZB b) t
 try simp only [*,go_sem,seval]
 obtain ⟨O,u,h⟩:=Za h
 refine Zd (X4 u) ?_
 try simp only [*,go_sem,seval]
 refine Ze h (fun _ h=>?_) fun _ h=>?_<;>try simp only [*,go_sem,seval]
 obtain ⟨P,Q,R,v,h⟩:=ZbQ h
 simp only [Int.toNat_natCast] at v
 try simp only [*,go_sem,seval]
 refine Ze h (fun _ h=>?_) fun _ h=>?_<;>try simp only [*,go_sem,seval]
 refine ⟨_,[],[0,1],(Option.some.inj h).symm,by decide,?_⟩
 try simp only [*,go_sem,seval]
 replace h:=Zn h e
 cases h
 try simp only [*,go_sem,seval]
 obtain ⟨S,T,U,w,h⟩:=ZbQ h
 simp only [Int.toNat_natCast] at w
 try simp only [*,go_sem,seval]
 obtain ⟨V,x,h⟩:=Za h
 refine Zd (Zq8 x) ?_
 try simp only [*,go_sem,seval]
 refine Ze h (fun _ h=>?_) fun _ h=>?_<;>try simp only [*,go_sem,seval]
 refine ⟨_,[],[0,242],(Option.some.inj h).symm,by decide,?_⟩
 try simp only [*,go_sem,seval]
 replace h:=Zn h e
 cases h
 try simp only [*,go_sem,seval]
 rintro a ⟨sl,ob,n⟩ f W h
 simp only [go_sem,seval,Zc] at f
 obtain ⟨⟨X,Y,Z,aa,ab⟩,ac,ad,hn⟩:=f
 subst hn
 have ae:=Zy (append_0.args.length)
 iterate 5 (cases h;try simp only [*,go_sem,seval])
theorem Zo5 {a:(List Zb)} {f_1:Zb} {r:(List Zb)} (h:XW a f_1=some r):Zk Tryz.prog J0 86 [(false,[.sl 45 2 (List.map Zl a)]),(true,Zl f_1)] [(false,[(false,.sl 45 2 (List.map Zl r))])]:=by
 refine fnk Tryz.func86 (by kernel_rfl) rfl (by kernel_rfl) (by kernel_rfl) ?_
 unfold XW at h
 simp only [fnS,f86,Zm,go_sem,seval]
 refine Zi h (fun i s st=>match s with | (b,d)=>IV [(3,.bp 0 0),(5,.p false [.row 1]),(6,.p false [.c (.bool d)]),(9,.p false [.c (.sl 45 2 (List.map Zl a))]),(10,.p false [.c (.int .i64 ((a.length:Nat):Int))]),(11,.p false [.c (.int .i64 ((i:Nat):Int))])] [.box 45 [.c (.str f_1.rel),.c (.sl 9 1 (List.map Zx f_1.args))],.row 45 2 (List.map Zl b) 2] st) [(false,5,0)] [0,112] (by decide) ?_ ?_ ?_
 simp only [*,go_sem,seval]
 rintro D E ⟨b,d⟩ ⟨sl,ob,n⟩ F e f l h G
 simp only [go_sem,seval,Zc] at f
 obtain ⟨⟨H,I,J,m,K,L⟩,M,N,hn⟩:=f
 subst hn
 have o:=WF.slotL l m (j:=0) rfl
 have O:=ZA e
 have P:=ZC e
 have Q:=Zj (ZB e) o
 try simp only [*,go_sem,seval]
 refine Ze h (fun _ h=>?_) fun _ h=>?_<;>try simp only [*,go_sem,seval]
 obtain ⟨R,q,h⟩:=Za h
 refine Zd (YO q) ?_
 obtain ⟨t,h⟩:=Zq h
 try simp only [Nat.reduceLeDiff] at t
 try simp only [*,go_sem,seval]
 refine ⟨_,[],[0,274],(Option.some.inj h).symm,by decide,?_⟩
 try simp only [*,go_sem,seval]
 obtain ⟨S,u,h⟩:=Za h
 refine Zd (Zd7 u) ?_
 try simp only [*,go_sem,seval]
 refine Ze h (fun _ h=>?_) fun _ h=>?_<;>try simp only [*,go_sem,seval]
 obtain ⟨T,v,h⟩:=Za h
 refine Zd (YO v) ?_
 obtain ⟨w,h⟩:=Zq h
 try simp only [Nat.reduceLeDiff] at w
 try simp only [*,go_sem,seval]
 obtain ⟨U,x,h⟩:=Za h
 refine Zd (YO x) ?_
 obtain ⟨y,h⟩:=Zq h
 try simp only [Nat.reduceLeDiff] at y
 try simp only [*,go_sem,seval]
 refine ⟨_,[],[0,386],(Option.some.inj h).symm,by decide,?_⟩
 try simp only [*,go_sem,seval]
 obtain ⟨V,z,h⟩:=Za h
 refine Zd (YO z) ?_
 obtain ⟨A,h⟩:=Zq h
 try simp only [Nat.reduceLeDiff] at A
 try simp only [*,go_sem,seval]
 refine ⟨_,[],[0,274],(Option.some.inj h).symm,by decide,?_⟩
 try simp only [*,go_sem,seval]
 rintro ⟨b,d⟩ ⟨sl,ob,n⟩ g W h
 simp only [go_sem,seval,Zc] at g
 obtain ⟨⟨X,Y,Z,aa,ab,ac⟩,ad,ae,hn⟩:=g
 subst hn
 have af:=Zy (a.length)
 try simp only [*,go_sem,seval]
 refine Ze h (fun _ h=>?_) fun _ h=>?_<;>try simp only [*,go_sem,seval]
 cases h
 try simp only [*,go_sem,seval]
 obtain ⟨ag,B,h⟩:=Za h
 refine Zd (YO B) ?_
 obtain ⟨C,h⟩:=Zq h
 try simp only [Nat.reduceLeDiff] at C
 cases h
 try simp only [*,go_sem,seval]
end Go.Proofs.YtfehfkfdfmcgfaaGreatDoor
