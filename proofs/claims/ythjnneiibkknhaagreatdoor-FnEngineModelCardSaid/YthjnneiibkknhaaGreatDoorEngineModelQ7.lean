/- Texts of this proof, joined: DT, Shelf, LCompare, SortH, SortZ, SortS, LAtoi, LItoa, Ext, Dp0, Dp1, Dp2, Dp4, Dp3, Dp5. What each holds is said at its theorems. -/
import Derived.Test.YthjnneiibkknhaaGreatDoorEngineModelQ6
import Derived.Test.YthjnneiibkknhaaGreatDoorEngineModelQ2
import Derived.Test.YthjnneiibkknhaaGreatDoorProg
import Derived.Lib.LaidTab
import Derived.Lib.ItoaNum
import Derived.Shelf.Small.Bits
import Derived.Shelf.Small.Strs
import Derived.Shelf.Small.Wraps
import Derived.Shelf.Strconv.Atoi
import Derived.Shelf.Strconv.Itoa0
import Derived.Shelf.Strconv.Itoa1
import Derived.Shelf.LaysM
import Derived.Shelf.Strconv.Itoa2
import Derived.Shelf.Strconv.Itoa3
import Derived.Shelf.Strconv.AtoiErrFast
import Derived.Shelf.Strconv.ParseIntEmpty
import Derived.Shelf.Strconv.AtoiFail
import Derived.Shelf.Strconv.Clone
import Derived.Shelf.Strconv.SyntaxError
import Derived.Shelf.LaysC
import Derived.Shelf.Strconv.ToError
import Derived.Shelf.Strconv.AtoiErr
import Derived.Shelf.Strconv.ErrVar
import Derived.Shelf.Sort.Plain
import Derived.Ground.GgsProg
import Derived.Shelf.GgSortFunc.Insertion
import Derived.Shelf.GgSortFunc.Tiny
import Derived.Shelf.GgSortFunc.Compose
import Derived.Ground.GgtProg
import Derived.Shelf.GgSortMore.Stable
import Derived.Ground.Names2Prog
import Derived.Shelf.Slices.SearchI
import Derived.Shelf.Slices.In.SortNone
import Derived.Shelf.Slices.In.SortNone2
import Derived.Test.YthjnneiibkknhaaGreatDoorEngineModelQ1
import Derived.Lib.AtoiErrMem
import Derived.Lib.AppendIntMem
import Derived.Lib.ItoaLen
open Array renaming getElem?_toList→AC,getElem?_modify→AD
open Bool renaming false_or→AG,or_false→AH
open Int renaming toNat_natCast→A5
open List renaming map→A0,getElem?_map→A6,eq_nil_of_length_eq_zero→A9,getElem?_take→AA,getElem?_drop→AB,size_toArray→AE,map_map→AF
open Option.some renaming inj→A4
open Go.Proofs.Tryz
set_option linter.unusedSimpArgs false
set_option linter.unusedVariables false
set_option maxRecDepth 1000000
set_option maxHeartbeats 4000000
namespace Go.Proofs.YthjnneiibkknhaaGreatDoor
theorem yO{p:Prop}(h:p:=by kernel_rfl):p:=h
theorem yP{α:Type}{a:Option α}{b c:α}(h:a=some b)(e:b=c:=by kernel_rfl):a=some c:=h.trans (congrArg some e)
section
open Go.RowKit
def ttL:List (Nat×TI):=[
 (2,.atom (.c (.int .i64 0))),
 (3,.atom (.c (.int .i64 0))),
 (4,.atom (.c (.bool false))),
 (5,.atom (.c (.int .u8 0))),
 (9,.atom (.c (.str ⟨#[]⟩))),
 (12,.atom (.c (.int .u64 0))),
 (14,.strct [⟨0,1,false⟩,⟨1,1,false⟩] 2 [.c (.str ⟨#[]⟩),.c (.int .u64 0)]),
 (20,.ifc),
 (21,.atom (.c (.int .i32 0))),
 (22,.slice 5 1 1 [.c (.int .u8 0)]),
 (24,.slice 76 4 72 [.c (.str ⟨#[]⟩),.c (.int .i64 0),.nil 134 5,.nil 115 3]),
 (25,.slice 40 2 40 [.c (.str ⟨#[]⟩),.nil 9 1]),
 (30,.slice 64 3 48 [.c (.str ⟨#[]⟩),.nil 9 1,.c (.int .i64 0)]),
 (31,.slice 94 2 40 [.c (.str ⟨#[]⟩),.nil 3 1]),
 (32,.slice 97 4 64 [.c (.int .i64 0),.c (.str ⟨#[]⟩),.c (.str ⟨#[]⟩),.nil 9 1]),
 (34,.strct [⟨0,1,false⟩,⟨1,1,false⟩,⟨2,1,false⟩,⟨3,1,false⟩,⟨4,1,false⟩,⟨5,1,false⟩] 6 [.nil 76 4,.nil 64 3,.c (.int .i64 0),.nil 94 2,.c (.bool false),.nil 97 4]),
 (38,.slice 9 1 16 [.c (.str ⟨#[]⟩)]),
 (40,.strct [⟨0,1,false⟩,⟨1,1,false⟩] 2 [.c (.str ⟨#[]⟩),.nil 9 1]),
 (50,.slice 125 3 56 [.c (.int .i64 0),.nil 3 1,.nil 3 1]),
 (52,.strct [⟨0,1,false⟩,⟨1,1,false⟩] 2 [.c (.int .i64 0),.nil 125 3]),
 (64,.strct [⟨0,2,true⟩,⟨2,1,false⟩] 3 [.c (.str ⟨#[]⟩),.nil 9 1,.c (.int .i64 0)]),
 (67,.slice 112 7 112 [.c (.str ⟨#[]⟩),.nil 40 2,.nil 194 2,.c (.int .i64 0),.nil 3 1,.c (.int .i64 0),.c (.int .i64 0)]),
 (71,.strct [⟨0,1,false⟩,⟨1,1,false⟩,⟨2,1,false⟩] 3 [.nil 5 1,.c (.int .i64 0),.c (.int .i64 0)]),
 (73,.slice 134 5 80 [.c (.int .i64 0),.c (.str ⟨#[]⟩),.nil 9 1,.c (.str ⟨#[]⟩),.c (.str ⟨#[]⟩)]),
 (74,.slice 115 3 48 [.c (.int .i64 0),.c (.str ⟨#[]⟩),.nil 9 1]),
 (76,.strct [⟨0,1,false⟩,⟨1,1,false⟩,⟨2,1,false⟩,⟨3,1,false⟩] 4 [.c (.str ⟨#[]⟩),.c (.int .i64 0),.nil 134 5,.nil 115 3]),
 (81,.slice 127 2 40 [.c (.str ⟨#[]⟩),.nil 40 2]),
 (84,.slice 4 1 1 [.c (.bool false)]),
 (86,.slice 139 3 64 [.c (.str ⟨#[]⟩),.nil 40 2,.nil 194 2]),
 (92,.slice 3 1 8 [.c (.int .i64 0)]),
 (94,.strct [⟨0,1,false⟩,⟨1,1,false⟩] 2 [.c (.str ⟨#[]⟩),.nil 3 1]),
 (97,.strct [⟨0,1,false⟩,⟨1,1,false⟩,⟨2,2,true⟩] 4 [.c (.int .i64 0),.c (.str ⟨#[]⟩),.c (.str ⟨#[]⟩),.nil 9 1]),
 (108,.slice 194 2 32 [.c (.str ⟨#[]⟩),.c (.str ⟨#[]⟩)]),
 (110,.strct [⟨0,1,false⟩,⟨1,1,false⟩,⟨2,1,false⟩] 3 [.c (.str ⟨#[]⟩),.nil 40 2,.nil 194 2]),
 (112,.strct [⟨0,3,true⟩,⟨3,1,false⟩,⟨4,1,false⟩,⟨5,1,false⟩,⟨6,1,false⟩] 7 [.c (.str ⟨#[]⟩),.nil 40 2,.nil 194 2,.c (.int .i64 0),.nil 3 1,.c (.int .i64 0),.c (.int .i64 0)]),
 (113,.strct [⟨0,1,false⟩,⟨1,1,false⟩] 2 [.c (.str ⟨#[]⟩),.nil 9 1]),
 (115,.strct [⟨0,1,false⟩,⟨1,2,true⟩] 3 [.c (.int .i64 0),.c (.str ⟨#[]⟩),.nil 9 1]),
 (125,.strct [⟨0,1,false⟩,⟨1,1,false⟩,⟨2,1,false⟩] 3 [.c (.int .i64 0),.nil 3 1,.nil 3 1]),
 (127,.strct [⟨0,1,false⟩,⟨1,1,false⟩] 2 [.c (.str ⟨#[]⟩),.nil 40 2]),
 (128,.slice 132 2 48 [.nil 40 2,.nil 194 2]),
 (132,.strct [⟨0,1,false⟩,⟨1,1,false⟩] 2 [.nil 40 2,.nil 194 2]),
 (134,.strct [⟨0,1,false⟩,⟨1,2,true⟩,⟨3,1,false⟩,⟨4,1,false⟩] 5 [.c (.int .i64 0),.c (.str ⟨#[]⟩),.nil 9 1,.c (.str ⟨#[]⟩),.c (.str ⟨#[]⟩)]),
 (139,.strct [⟨0,1,false⟩,⟨1,2,true⟩] 3 [.c (.str ⟨#[]⟩),.nil 40 2,.nil 194 2]),
 (150,.map (.int .i64) .bool),
 (155,.slice 110 3 64 [.c (.str ⟨#[]⟩),.nil 40 2,.nil 194 2]),
 (165,.atom (.c (.int .u64 0))),
 (194,.strct [⟨0,1,false⟩,⟨1,1,false⟩] 2 [.c (.str ⟨#[]⟩),.c (.str ⟨#[]⟩)]),
 (200,.map .str .bool),
 (212,.ifc),
 (213,.ifc),
 (243,.ifc),
 (244,.ifc),
 (257,.atom (.c (.int .u32 0))),
 (259,.atom (.c (.int .u64 0))),
 (308,.strct [⟨0,1,false⟩] 1 [.c (.str ⟨#[]⟩)])]
def tt (t:Nat):Option TI:=Zzg ttL t
theorem htt:∀t i,tt t=some i->TOk prog t i:=Zzr ttL yO
theorem hmix:prog.follows .mixedOrders=true:=yO
def ZCt : List (String × (Array Value → Prop)) := [("internal/strconv.uint64pow10", λcs => cs = (Lib.pow10Tab.map λz => Value.int .u64 z).toArray), ("strconv.ErrSyntax", λcs => ∃ tp p, cs = #[.iface tp p])]
def J0:World->Prop:=ZCP prog ZCt
def JF0:Nat->Prop:=ZCK prog ZCt
theorem hJ0:JOk J0 JF0:=ZCy _ _
theorem ZDV (w : World) (h : J0 w) : Lib.TabIs prog w "internal/strconv.uint64pow10" .u64 Lib.pow10Tab := by
 obtain ⟨cs,h1,h2⟩:=h _ (List.mem_cons_self ..)
 rw [h2]at h1
 exact h1
theorem ZE5 (w : World) (h : J0 w) : ∃ tp p, w.var? prog "strconv.ErrSyntax" = some #[.iface tp p] := by
 obtain ⟨cs, h1, tp, p, h2⟩ := h ("strconv.ErrSyntax", λcs => ∃ tp p, cs = #[.iface tp p]) (by simp [ZCt])
 rw [h2]at h1
 exact ⟨tp,p,h1⟩
def hdL:List (Nat×Nat):=[(15,3),(16,1),(17,1),(28,5),(34,1),(35,1),(37,1),(57,5),(60,5),(64,1),(69,2),(70,2),(76,2),(97,2),(106,4),(115,1),(134,1),(138,2),(151,3)]
def ZCL:List (Nat×Nat)->Nat->Nat
 | [],_=>0
 |p::r,f=>match Nat.beq p.1 f with|true=>p.2|false=>ZCL r f
def hds (f:FuncId):Nat:=ZCL hdL f
abbrev yQ(f:FuncId)(n:Nat):Prop:=(SC prog J0 JF0 hds).hd f=n
theorem yT{f:FuncId}{n:Nat}(h:(SC prog J0 JF0 hds).hd f=n:=by kernel_rfl):yQ f n:=h
theorem ZJn:yQ 3 0:=yT
theorem ZIN:yQ 4 0:=yT
theorem ZJm:yQ 5 0:=yT
theorem ZJg:yQ 6 0:=yT
theorem ZI4:yQ 7 0:=yT
theorem ZII:yQ 8 0:=yT
theorem ZI6:yQ 9 0:=yT
theorem ZGN:yQ 10 0:=yT
theorem ZIh:yQ 11 0:=yT
theorem ZHN:yQ 12 0:=yT
theorem ZGV:yQ 13 0:=yT
theorem ZGI:yQ 14 0:=yT
theorem ZGl:yQ 15 3:=yT
theorem ZIv:yQ 16 1:=yT
theorem ZGJ:yQ 17 1:=yT
theorem ZHj:yQ 18 0:=yT
theorem ZHK:yQ 19 0:=yT
theorem ZH4:yQ 20 0:=yT
theorem ZGp:yQ 21 0:=yT
theorem ZHm:yQ 22 0:=yT
theorem ZIo:yQ 23 0:=yT
theorem ZHa:yQ 24 0:=yT
theorem ZIe:yQ 25 0:=yT
theorem ZGv:yQ 26 0:=yT
theorem ZIz:yQ 27 0:=yT
theorem ZHP:yQ 28 5:=yT
theorem ZHZ:yQ 29 0:=yT
theorem ZGK:yQ 30 0:=yT
theorem ZGr:yQ 31 0:=yT
theorem ZG8:yQ 32 0:=yT
theorem ZH8:yQ 33 0:=yT
theorem ZGU:yQ 34 1:=yT
theorem ZGk:yQ 35 1:=yT
theorem ZGd:yQ 36 0:=yT
theorem ZH7:yQ 37 1:=yT
theorem ZHG:yQ 38 0:=yT
theorem ZGc:yQ 39 0:=yT
theorem ZHn:yQ 40 0:=yT
theorem ZH2:yQ 41 0:=yT
theorem ZH6:yQ 42 0:=yT
theorem ZGH:yQ 43 0:=yT
theorem ZHQ:yQ 44 0:=yT
theorem ZGY:yQ 45 0:=yT
theorem ZGg:yQ 46 0:=yT
theorem ZGm:yQ 47 0:=yT
theorem ZHW:yQ 48 0:=yT
theorem ZGG:yQ 49 0:=yT
theorem ZGW:yQ 50 0:=yT
theorem ZGz:yQ 51 0:=yT
theorem ZGh:yQ 52 0:=yT
theorem ZGy:yQ 53 0:=yT
theorem ZGS:yQ 54 0:=yT
theorem ZGF:yQ 55 0:=yT
theorem ZHc:yQ 56 0:=yT
theorem ZIi:yQ 57 5:=yT
theorem ZHw:yQ 58 0:=yT
theorem ZHf:yQ 59 0:=yT
theorem ZHI:yQ 60 5:=yT
theorem ZHM:yQ 61 0:=yT
theorem ZG6:yQ 62 0:=yT
theorem ZGB:yQ 63 0:=yT
theorem ZGx:yQ 64 1:=yT
theorem ZHk:yQ 65 0:=yT
theorem ZHC:yQ 66 0:=yT
theorem ZHr:yQ 67 0:=yT
theorem ZHD:yQ 68 0:=yT
theorem ZIx:yQ 69 2:=yT
theorem ZGA:yQ 70 2:=yT
theorem ZHd:yQ 71 0:=yT
theorem ZId:yQ 72 0:=yT
theorem ZGP:yQ 73 0:=yT
theorem ZH1:yQ 74 0:=yT
theorem ZHJ:yQ 75 0:=yT
theorem ZGR:yQ 76 2:=yT
theorem ZIk:yQ 77 0:=yT
theorem ZGu:yQ 78 0:=yT
theorem ZIp:yQ 79 0:=yT
theorem ZHS:yQ 80 0:=yT
theorem ZGC:yQ 81 0:=yT
theorem ZHp:yQ 82 0:=yT
theorem ZHi:yQ 83 0:=yT
theorem ZH3:yQ 84 0:=yT
theorem ZG3:yQ 85 0:=yT
theorem ZHY:yQ 86 0:=yT
theorem ZHe:yQ 87 0:=yT
theorem ZIn:yQ 88 0:=yT
theorem ZHV:yQ 89 0:=yT
theorem ZIj:yQ 90 0:=yT
theorem ZGf:yQ 91 0:=yT
theorem ZIb:yQ 92 0:=yT
theorem ZGs:yQ 93 0:=yT
theorem ZHH:yQ 94 0:=yT
theorem ZIt:yQ 95 0:=yT
theorem ZGT:yQ 96 0:=yT
theorem ZH5:yQ 97 2:=yT
theorem ZIu:yQ 98 0:=yT
theorem ZHz:yQ 99 0:=yT
theorem ZDt:yQ 100 0:=yT
theorem ZDb:yQ 101 0:=yT
theorem ZFT:yQ 102 0:=yT
theorem ZFQ:yQ 103 0:=yT
theorem ZFG:yQ 104 0:=yT
theorem ZDA:yQ 105 0:=yT
theorem ZCT:yQ 106 4:=yT
theorem ZFy:yQ 107 0:=yT
theorem ZEf:yQ 108 0:=yT
theorem ZDF:yQ 109 0:=yT
theorem ZFY:yQ 110 0:=yT
theorem ZE6:yQ 111 0:=yT
theorem ZD8:yQ 112 0:=yT
theorem ZCX:yQ 113 0:=yT
theorem ZFZ:yQ 114 0:=yT
theorem ZEt:yQ 115 1:=yT
theorem ZDm:yQ 116 0:=yT
theorem ZDa:yQ 117 0:=yT
theorem ZFM:yQ 118 0:=yT
theorem ZE0:yQ 119 0:=yT
theorem ZF0:yQ 120 0:=yT
theorem ZFt:yQ 121 0:=yT
theorem ZE7:yQ 122 0:=yT
theorem ZFh:yQ 123 0:=yT
theorem ZFA:yQ 124 0:=yT
theorem ZEV:yQ 125 0:=yT
theorem ZCU:yQ 126 0:=yT
theorem ZEb:yQ 127 0:=yT
theorem ZDR:yQ 128 0:=yT
theorem ZFu:yQ 129 0:=yT
theorem ZDN:yQ 130 0:=yT
theorem ZFn:yQ 131 0:=yT
theorem ZDf:yQ 132 0:=yT
theorem ZFl:yQ 133 0:=yT
theorem ZDu:yQ 134 1:=yT
theorem ZED:yQ 135 0:=yT
theorem ZEW:yQ 137 0:=yT
theorem ZDH:yQ 138 2:=yT
theorem ZFa:yQ 139 0:=yT
theorem ZDI:yQ 140 0:=yT
theorem ZFL:yQ 141 0:=yT
theorem ZEF:yQ 142 0:=yT
theorem ZEv:yQ 144 0:=yT
theorem ZEL:yQ 145 0:=yT
theorem ZFj:yQ 146 0:=yT
theorem ZCW:yQ 147 0:=yT
theorem ZEe:yQ 148 0:=yT
theorem ZEn:yQ 149 0:=yT
theorem ZEG:yQ 150 0:=yT
theorem ZEX:yQ 151 3:=yT
theorem ZD5:yQ 152 0:=yT
theorem ZFF:yQ 153 0:=yT
theorem ZDg:yQ 154 0:=yT
theorem ZDB:yQ 155 0:=yT
theorem ZEk:yQ 156 0:=yT
theorem ZEd:yQ 158 0:=yT
theorem ZFS:yQ 159 0:=yT
theorem ZC2:yQ 160 0:=yT
theorem ZEK:yQ 161 0:=yT
theorem ZF2:yQ 162 0:=yT
theorem ZDO:yQ 163 0:=yT
theorem ZC6:yQ 164 0:=yT
theorem ZEx:yQ 165 0:=yT
theorem ZEz:yQ 166 0:=yT
theorem ZEs:yQ 167 0:=yT
theorem ZDD:yQ 168 0:=yT
theorem ZEI:yQ 169 0:=yT
theorem ZDM:yQ 170 0:=yT
theorem ZDc:yQ 171 0:=yT
theorem ZDe:yQ 172 0:=yT
theorem ZDn:yQ 173 0:=yT
theorem ZFp:yQ 174 0:=yT
theorem ZEM:yQ 177 0:=yT
theorem ZDK:yQ 178 0:=yT
theorem ZDJ:yQ 179 0:=yT
theorem ZFH:yQ 184 0:=yT
theorem ZEi:yQ 185 0:=yT
theorem ZC1:yQ 186 0:=yT
theorem ZD9:yQ 187 0:=yT
theorem ZDQ:yQ 188 0:=yT
theorem ZC7:yQ 189 0:=yT
theorem ZES:yQ 190 0:=yT
theorem ZFX:yQ 191 0:=yT
theorem ZF9:yQ 192 0:=yT
theorem ZF8:yQ 193 0:=yT
theorem ZDE:yQ 194 0:=yT
theorem ZFD:yQ 195 0:=yT
theorem ZDL:yQ 196 0:=yT
theorem ZEr:yQ 197 0:=yT
theorem ZF7:yQ 198 0:=yT
theorem ZD4:yQ 199 0:=yT
theorem ZFk:yQ 200 0:=yT
theorem ZFf:yQ 203 0:=yT
theorem ZEY:yQ 204 0:=yT
theorem ZEA:yQ 205 0:=yT
theorem ZE2:yQ 206 0:=yT
theorem ZE3:yQ 207 0:=yT
theorem ZFR:yQ 208 0:=yT
theorem ZF4:yQ 209 0:=yT
theorem ZFs:yQ 210 0:=yT
theorem ZC3:yQ 211 0:=yT
theorem ZCY:yQ 212 0:=yT
theorem ZFU:yQ 213 0:=yT
theorem ZDY:yQ 214 0:=yT
theorem ZEZ:yQ 215 0:=yT
theorem ZE4:yQ 219 0:=yT
theorem ZDU:yQ 233 0:=yT
theorem ZFw:yQ 245 0:=yT
theorem ZDW:yQ 246 0:=yT
theorem tt2:tt 2=some (.atom (.c (.int .i64 0))):=yi rfl
theorem tt3:tt 3=some (.atom (.c (.int .i64 0))):=yi rfl
theorem tt4:tt 4=some (.atom (.c (.bool false))):=yi rfl
theorem tt5:tt 5=some (.atom (.c (.int .u8 0))):=yi rfl
theorem tt9:tt 9=some (.atom (.c (.str ⟨#[]⟩))):=yi rfl
theorem ZJs:tt 12=some (.atom (.c (.int .u64 0))):=yi rfl
theorem ZIP:tt 14=some (.strct [⟨0,1,false⟩,⟨1,1,false⟩] 2 [.c (.str ⟨#[]⟩),.c (.int .u64 0)]):=yi rfl
theorem ZJc:tt 20=some (.ifc):=yi rfl
theorem ZIY:tt 21=some (.atom (.c (.int .i32 0))):=yi rfl
theorem ZJq:tt 22=some (.slice 5 1 1 [.c (.int .u8 0)]):=yi rfl
theorem ZJo:tt 24=some (.slice 76 4 72 [.c (.str ⟨#[]⟩),.c (.int .i64 0),.nil 134 5,.nil 115 3]):=yi rfl
theorem ZIO:tt 25=some (.slice 40 2 40 [.c (.str ⟨#[]⟩),.nil 9 1]):=yi rfl
theorem ZJe:tt 30=some (.slice 64 3 48 [.c (.str ⟨#[]⟩),.nil 9 1,.c (.int .i64 0)]):=yi rfl
theorem ZIU:tt 31=some (.slice 94 2 40 [.c (.str ⟨#[]⟩),.nil 3 1]):=yi rfl
theorem ZIR:tt 32=some (.slice 97 4 64 [.c (.int .i64 0),.c (.str ⟨#[]⟩),.c (.str ⟨#[]⟩),.nil 9 1]):=yi rfl
theorem ZIV:tt 34=some (.strct [⟨0,1,false⟩,⟨1,1,false⟩,⟨2,1,false⟩,⟨3,1,false⟩,⟨4,1,false⟩,⟨5,1,false⟩] 6 [.nil 76 4,.nil 64 3,.c (.int .i64 0),.nil 94 2,.c (.bool false),.nil 97 4]):=yi rfl
theorem ZJt:tt 38=some (.slice 9 1 16 [.c (.str ⟨#[]⟩)]):=yi rfl
theorem ZJj:tt 40=some (.strct [⟨0,1,false⟩,⟨1,1,false⟩] 2 [.c (.str ⟨#[]⟩),.nil 9 1]):=yi rfl
theorem ZIZ:tt 50=some (.slice 125 3 56 [.c (.int .i64 0),.nil 3 1,.nil 3 1]):=yi rfl
theorem ZI5:tt 52=some (.strct [⟨0,1,false⟩,⟨1,1,false⟩] 2 [.c (.int .i64 0),.nil 125 3]):=yi rfl
theorem ZIK:tt 64=some (.strct [⟨0,2,true⟩,⟨2,1,false⟩] 3 [.c (.str ⟨#[]⟩),.nil 9 1,.c (.int .i64 0)]):=yi rfl
theorem ZI1:tt 67=some (.slice 112 7 112 [.c (.str ⟨#[]⟩),.nil 40 2,.nil 194 2,.c (.int .i64 0),.nil 3 1,.c (.int .i64 0),.c (.int .i64 0)]):=yi rfl
theorem ZI7:tt 71=some (.strct [⟨0,1,false⟩,⟨1,1,false⟩,⟨2,1,false⟩] 3 [.nil 5 1,.c (.int .i64 0),.c (.int .i64 0)]):=yi rfl
theorem ZJv:tt 73=some (.slice 134 5 80 [.c (.int .i64 0),.c (.str ⟨#[]⟩),.nil 9 1,.c (.str ⟨#[]⟩),.c (.str ⟨#[]⟩)]):=yi rfl
theorem ZJp:tt 74=some (.slice 115 3 48 [.c (.int .i64 0),.c (.str ⟨#[]⟩),.nil 9 1]):=yi rfl
theorem ZI3:tt 76=some (.strct [⟨0,1,false⟩,⟨1,1,false⟩,⟨2,1,false⟩,⟨3,1,false⟩] 4 [.c (.str ⟨#[]⟩),.c (.int .i64 0),.nil 134 5,.nil 115 3]):=yi rfl
theorem ZIM:tt 81=some (.slice 127 2 40 [.c (.str ⟨#[]⟩),.nil 40 2]):=yi rfl
theorem ZIT:tt 84=some (.slice 4 1 1 [.c (.bool false)]):=yi rfl
theorem ZIW:tt 86=some (.slice 139 3 64 [.c (.str ⟨#[]⟩),.nil 40 2,.nil 194 2]):=yi rfl
theorem ZI8:tt 92=some (.slice 3 1 8 [.c (.int .i64 0)]):=yi rfl
theorem ZJx:tt 94=some (.strct [⟨0,1,false⟩,⟨1,1,false⟩] 2 [.c (.str ⟨#[]⟩),.nil 3 1]):=yi rfl
theorem ZJf:tt 97=some (.strct [⟨0,1,false⟩,⟨1,1,false⟩,⟨2,2,true⟩] 4 [.c (.int .i64 0),.c (.str ⟨#[]⟩),.c (.str ⟨#[]⟩),.nil 9 1]):=yi rfl
theorem ZHA:tt 108=some (.slice 194 2 32 [.c (.str ⟨#[]⟩),.c (.str ⟨#[]⟩)]):=yi rfl
theorem ZGE:tt 110=some (.strct [⟨0,1,false⟩,⟨1,1,false⟩,⟨2,1,false⟩] 3 [.c (.str ⟨#[]⟩),.nil 40 2,.nil 194 2]):=yi rfl
theorem ZGM:tt 112=some (.strct [⟨0,3,true⟩,⟨3,1,false⟩,⟨4,1,false⟩,⟨5,1,false⟩,⟨6,1,false⟩] 7 [.c (.str ⟨#[]⟩),.nil 40 2,.nil 194 2,.c (.int .i64 0),.nil 3 1,.c (.int .i64 0),.c (.int .i64 0)]):=yi rfl
theorem ZIg:tt 113=some (.strct [⟨0,1,false⟩,⟨1,1,false⟩] 2 [.c (.str ⟨#[]⟩),.nil 9 1]):=yi rfl
theorem ZIl:tt 115=some (.strct [⟨0,1,false⟩,⟨1,2,true⟩] 3 [.c (.int .i64 0),.c (.str ⟨#[]⟩),.nil 9 1]):=yi rfl
theorem ZGO:tt 125=some (.strct [⟨0,1,false⟩,⟨1,1,false⟩,⟨2,1,false⟩] 3 [.c (.int .i64 0),.nil 3 1,.nil 3 1]):=yi rfl
theorem ZGj:tt 127=some (.strct [⟨0,1,false⟩,⟨1,1,false⟩] 2 [.c (.str ⟨#[]⟩),.nil 40 2]):=yi rfl
theorem ZHO:tt 128=some (.slice 132 2 48 [.nil 40 2,.nil 194 2]):=yi rfl
theorem ZHE:tt 132=some (.strct [⟨0,1,false⟩,⟨1,1,false⟩] 2 [.nil 40 2,.nil 194 2]):=yi rfl
theorem ZIf:tt 134=some (.strct [⟨0,1,false⟩,⟨1,2,true⟩,⟨3,1,false⟩,⟨4,1,false⟩] 5 [.c (.int .i64 0),.c (.str ⟨#[]⟩),.nil 9 1,.c (.str ⟨#[]⟩),.c (.str ⟨#[]⟩)]):=yi rfl
theorem ZIs:tt 139=some (.strct [⟨0,1,false⟩,⟨1,2,true⟩] 3 [.c (.str ⟨#[]⟩),.nil 40 2,.nil 194 2]):=yi rfl
theorem ZGt:tt 150=some (.map (.int .i64) .bool):=yi rfl
theorem ZHy:tt 155=some (.slice 110 3 64 [.c (.str ⟨#[]⟩),.nil 40 2,.nil 194 2]):=yi rfl
theorem ZHL:tt 165=some (.atom (.c (.int .u64 0))):=yi rfl
theorem ZG1:tt 194=some (.strct [⟨0,1,false⟩,⟨1,1,false⟩] 2 [.c (.str ⟨#[]⟩),.c (.str ⟨#[]⟩)]):=yi rfl
theorem ZG7:tt 200=some (.map .str .bool):=yi rfl
theorem ZIE:tt 212=some (.ifc):=yi rfl
theorem ZGi:tt 213=some (.ifc):=yi rfl
theorem ZHl:tt 243=some (.ifc):=yi rfl
theorem ZIB:tt 244=some (.ifc):=yi rfl
theorem ZGZ:tt 257=some (.atom (.c (.int .u32 0))):=yi rfl
theorem ZIC:tt 259=some (.atom (.c (.int .u64 0))):=yi rfl
theorem ZHu:tt 308=some (.strct [⟨0,1,false⟩] 1 [.c (.str ⟨#[]⟩)]):=yi rfl
theorem fnk {f : FuncId} {fn : Func} {c : Code} {args : List (Bool × List CT)} {res : List RT} (hf : prog.funcs[f]? = some fn) (hb : fn.body = some c) (h : fnS (λ_ => none) tt (SC prog J0 JF0 hds) fn.results.toList c args res) (hname : (fn.name == "runtime.NumGoroutine") = false := by kernel_rfl) (hok : YR (λ_ => none) tt hds false fn.ntmps c = true := by kernel_rfl) (hlen : Nat.ble args.length fn.ntmps = true := by kernel_rfl) : Sound prog J0 f args res := Zy9 htt hJ0 hmix hf hname hb hok hlen h
theorem fnh {f : FuncId} {fn : Func} {c : Code} {h h' : Zhs} {args : List (Bool × List CT)} {res : List RT} (hf : prog.funcs[f]? = some fn) (hb : fn.body = some c) (hh : fnH (λ_ => none) tt (SC prog J0 JF0 hds) fn.results.toList c h args res h') (hname : (fn.name == "runtime.NumGoroutine") = false := by kernel_rfl) (hok : YR (λ_ => none) tt hds true fn.ntmps c = true := by kernel_rfl) (hlen : Nat.blt args.length fn.ntmps = true := by kernel_rfl) : SoundH prog J0 JF0 f h args res h' := Zyz htt hJ0 hmix hf hname hb hok hlen hh
theorem fnb {f : FuncId} {fn : Func} {c : Code} {args : List (Bool × List CT)} {nb : NB} (hf : prog.funcs[f]? = some fn) (hb : fn.body = some c) (h : fnB (λ_ => none) tt (SC prog J0 JF0 hds) fn.results.toList c args nb) (hname : (fn.name == "runtime.NumGoroutine") = false := by kernel_rfl) (hok : YR (λ_ => none) tt hds false fn.ntmps c = true := by kernel_rfl) (hlen : Nat.ble args.length fn.ntmps = true := by kernel_rfl) : ZmA prog J0 f args nb := Zw5 htt hJ0 hmix hf hname hb hok hlen h
theorem fnn (t0 : Nat) {f : FuncId} {fn : Func} {c : Code} {args : List (Bool × List CT)} {res : List RT} (hf : prog.funcs[f]? = some fn) (hb : fn.body = some c) (h : fnN (λ_ => none) tt (SC prog J0 JF0 hds) fn.results.toList t0 c args res) (hname : (fn.name == "runtime.NumGoroutine") = false := by kernel_rfl) (hok : YR (λ_ => none) tt hds false fn.ntmps c = true := by kernel_rfl) (hlen : Nat.ble args.length fn.ntmps = true := by kernel_rfl) : Sound prog J0 f args res := ZyB htt hJ0 hmix hf hname hb hok hlen t0 h
theorem fno {f : FuncId} {fn : Func} {c : Code} {t : Nat} {cs cs' : List (Bool × CT)} {gv : Option (Bool × List (Bool × CT))} {args : List (Bool × List CT)} {res : List RT} (hf : prog.funcs[f]? = some fn) (hb : fn.body = some c) (hh : fnO (λ_ => none) tt (SC prog J0 JF0 hds) fn.results.toList c t cs gv args res cs') (hname : (fn.name == "runtime.NumGoroutine") = false := by kernel_rfl) (hok : YR (λ_ => none) tt hds true fn.ntmps c = true := by kernel_rfl) (hlen : Nat.blt (args.length + gvN gv) fn.ntmps = true := by kernel_rfl) : Zgo prog J0 JF0 f t cs gv args res cs' := Zyp htt hJ0 hmix hf hname hb hok hlen hh
def Q4 (x:Zv):List CT:=[.str x.rel,.sl 9 1 (A0 ZB x.args)]
theorem Zt9 (x:Zv):Q4 x=[.str x.rel,.sl 9 1 (A0 ZB x.args)]:=yi rfl
def ZO (x:Zp):List CT:=[.int .i64 x.kind,.str x.pattern.rel,.sl 9 1 (A0 ZB x.pattern.args),.str x.left,.str x.right]
theorem ZAK (x:Zp):ZO x=[.int .i64 x.kind,.str x.pattern.rel,.sl 9 1 (A0 ZB x.pattern.args),.str x.left,.str x.right]:=yi rfl
def eAction (x:Zw):List CT:=[.int .i64 x.kind,.str x.pattern.rel,.sl 9 1 (A0 ZB x.pattern.args)]
theorem ZvB (x:Zw):eAction x=[.int .i64 x.kind,.str x.pattern.rel,.sl 9 1 (A0 ZB x.pattern.args)]:=yi rfl
def eRule (x:Zf):List CT:=[.str x.name,.int .i64 x.priority,.sl 134 5 (A0 ZO x.cond),.sl 115 3 (A0 eAction x.thn)]
theorem ZAm (x:Zf):eRule x=[.str x.name,.int .i64 x.priority,.sl 134 5 (A0 ZO x.cond),.sl 115 3 (A0 eAction x.thn)]:=yi rfl
def eFact (x:Zd):List CT:=[.str x.rel,.sl 9 1 (A0 ZB x.args)]
theorem Zz7 (x:Zd):eFact x=[.str x.rel,.sl 9 1 (A0 ZB x.args)]:=yi rfl
def eStamp (x:Zr):List CT:=[.str x.fact.rel,.sl 9 1 (A0 ZB x.fact.args),.int .i64 x.time]
theorem Zw0 (x:Zr):eStamp x=[.str x.fact.rel,.sl 9 1 (A0 ZB x.fact.args),.int .i64 x.time]:=yi rfl
def eFiring (x:ZK):List CT:=[.str x.rule,.sl 3 1 (A0 ZH x.times)]
theorem ZuZ (x:ZK):eFiring x=[.str x.rule,.sl 3 1 (A0 ZH x.times)]:=yi rfl
def eEvent (x:Yp):List CT:=[.int .i64 x.kind,.str x.rule,.str x.fact.rel,.sl 9 1 (A0 ZB x.fact.args)]
theorem ZxQ (x:Yp):eEvent x=[.int .i64 x.kind,.str x.rule,.str x.fact.rel,.sl 9 1 (A0 ZB x.fact.args)]:=yi rfl
def eEngine (x:Zo):List CT:=[.sl 76 4 (A0 eRule x.rules),.sl 64 3 (A0 eStamp x.memory),.int .i64 x.clock,.sl 94 2 (A0 eFiring x.fired),.bool x.halted,.sl 97 4 (A0 eEvent x.log)]
theorem Zvl (x:Zo):eEngine x=[.sl 76 4 (A0 eRule x.rules),.sl 64 3 (A0 eStamp x.memory),.int .i64 x.clock,.sl 94 2 (A0 eFiring x.fired),.bool x.halted,.sl 97 4 (A0 eEvent x.log)]:=yi rfl
def eReason (x:Zg):List CT:=[.int .i64 x.for_,.sl 3 1 (A0 ZH x.inn),.sl 3 1 (A0 ZH x.outs)]
theorem ZuQ (x:Zg):eReason x=[.int .i64 x.for_,.sl 3 1 (A0 ZH x.inn),.sl 3 1 (A0 ZH x.outs)]:=yi rfl
def QF (x:Zu):List CT:=[.int .i64 x.nodes,.sl 125 3 (A0 eReason x.reasons)]
theorem Zul (x:Zu):QF x=[.int .i64 x.nodes,.sl 125 3 (A0 eReason x.reasons)]:=yi rfl
def el1Cur (x:l1CurD):List CT:=[.sl 5 1 (A0 Zfx x.b),.int .i64 x.i,.int .i64 x.h]
theorem ZwZ (x:l1CurD):el1Cur x=[.sl 5 1 (A0 Zfx x.b),.int .i64 x.i,.int .i64 x.h]:=yi rfl
def ePair (x:Zs):List CT:=[.str x.var,.str x.value]
theorem ZzY (x:Zs):ePair x=[.str x.var,.str x.value]:=yi rfl
theorem ZuT (l:List Zs):Zby (l.map ePair)=true:=Zcp (λ_=>rfl) l
def eMatch (x:Xb):List CT:=[.str x.rule,.sl 40 2 (A0 eFact x.facts),.sl 194 2 (A0 ePair x.binding)]
theorem Zxl (x:Xb):eMatch x=[.str x.rule,.sl 40 2 (A0 eFact x.facts),.sl 194 2 (A0 ePair x.binding)]:=yi rfl
def eChoice (x:ZF):List CT:=[.str x.mtch.rule,.sl 40 2 (A0 eFact x.mtch.facts),.sl 194 2 (A0 ePair x.mtch.binding),.int .i64 x.priority,.sl 3 1 (A0 ZH x.times),.int .i64 x.specific,.int .i64 x.ordr]
theorem ZvD (x:ZF):eChoice x=[.str x.mtch.rule,.sl 40 2 (A0 eFact x.mtch.facts),.sl 194 2 (A0 ePair x.mtch.binding),.int .i64 x.priority,.sl 3 1 (A0 ZH x.times),.int .i64 x.specific,.int .i64 x.ordr]:=yi rfl
def Zir (x:Zbl):List CT:=[.str x.rule,.sl 40 2 (A0 eFact x.facts)]
theorem Zu4 (x:Zbl):Zir x=[.str x.rule,.sl 40 2 (A0 eFact x.facts)]:=yi rfl
def eToken (x:Zt):List CT:=[.sl 40 2 (A0 eFact x.facts),.sl 194 2 (A0 ePair x.binding)]
theorem Zx7 (x:Zt):eToken x=[.sl 40 2 (A0 eFact x.facts),.sl 194 2 (A0 ePair x.binding)]:=yi rfl
def el14Cause (x:l14CauseD):List CT:=[.str x.rule,.sl 40 2 (A0 eFact x.token.facts),.sl 194 2 (A0 ePair x.token.binding)]
theorem Zrh (x:l14CauseD):el14Cause x=[.str x.rule,.sl 40 2 (A0 eFact x.token.facts),.sl 194 2 (A0 ePair x.token.binding)]:=yi rfl
attribute [go_sem] tt2 tt3 tt4 tt5 tt9 ZJs ZIP ZJc ZIY ZJq ZJo ZIO ZJe ZIU ZIR ZIV ZJt ZJj ZIZ ZI5 ZIK ZI1 ZI7 ZJv ZJp ZI3 ZIM ZIT ZIW ZI8 ZJx ZJf ZHA ZGE ZGM ZIg ZIl ZGO ZGj ZHO
attribute [go_sem] ZHE ZIf ZIs ZGt ZHy ZHL ZG1 ZG7 ZIE ZGi ZHl ZIB ZGZ ZIC ZHu ZJn ZIN ZJm ZJg ZI4 ZII ZI6 ZGN ZIh ZHN ZGV ZGI ZGl ZIv ZGJ ZHj ZHK ZH4 ZGp ZHm ZIo ZHa ZIe ZGv ZIz
attribute [go_sem] ZHP ZHZ ZGK ZGr ZG8 ZH8 ZGU ZGk ZGd ZH7 ZHG ZGc ZHn ZH2 ZH6 ZGH ZHQ ZGY ZGg ZGm ZHW ZGG ZGW ZGz ZGh ZGy ZGS ZGF ZHc ZIi ZHw ZHf ZHI ZHM ZG6 ZGB ZGx ZHk ZHC ZHr
attribute [go_sem] ZHD ZIx ZGA ZHd ZId ZGP ZH1 ZHJ ZGR ZIk ZGu ZIp ZHS ZGC ZHp ZHi ZH3 ZG3 ZHY ZHe ZIn ZHV ZIj ZGf ZIb ZGs ZHH ZIt ZGT ZH5 ZIu ZHz ZDt ZDb ZFT ZFQ ZFG ZDA ZCT ZFy
attribute [go_sem] ZEf ZDF ZFY ZE6 ZD8 ZCX ZFZ ZEt ZDm ZDa ZFM ZE0 ZF0 ZFt ZE7 ZFh ZFA ZEV ZCU ZEb ZDR ZFu ZDN ZFn ZDf ZFl ZDu ZED ZEW ZDH ZFa ZDI ZFL ZEF ZEv ZEL ZFj ZCW ZEe ZEn
attribute [go_sem] ZEG ZEX ZD5 ZFF ZDg ZDB ZEk ZEd ZFS ZC2 ZEK ZF2 ZDO ZC6 ZEx ZEz ZEs ZDD ZEI ZDM ZDc ZDe ZDn ZFp ZEM ZDK ZDJ ZFH ZEi ZC1 ZD9 ZDQ ZC7 ZES ZFX ZF9 ZF8 ZDE ZFD ZDL
attribute [go_sem] ZEr ZF7 ZD4 ZFk ZFf ZEY ZEA ZE2 ZE3 ZFR ZF4 ZFs ZC3 ZCY ZFU ZDY ZEZ ZE4 ZDU ZFw ZDW Zt9 ZAK ZvB ZAm Zz7 Zw0 ZuZ ZxQ Zvl ZuQ Zul ZwZ ZuT ZzY Zxl ZvD Zu4 Zx7 Zrh
end
end Go.Proofs.YthjnneiibkknhaaGreatDoor
namespace Go.Proofs
open Go.Shelf
def lays125_ren:Go.Shelf.Ren:=⟨fun|125=>202|128=>243|129=>244|n=>n,fun|46=>165|3=>3|51=>257|53=>259|4=>4|5=>5|9=>9|n=>n,fun|n=>n⟩
theorem lays125:Go.Proofs.Lays.n125 prog lays125_ren:=⟨by kernel_rfl,func202.trans (congrArg some (by kernel_rfl)),func243.trans (congrArg some (by kernel_rfl)),func244.trans (congrArg some (by kernel_rfl)),underlying3,isAgg3,sizeOf3,zeroValue3,underlying4,isAgg4,sizeOf4,zeroValue4,underlying5,isAgg5,sizeOf5,zeroValue5,underlying9,isAgg9,sizeOf9,zeroValue9,underlying165,isAgg165,sizeOf165,zeroValue165,underlying257,isAgg257,sizeOf257,zeroValue257,underlying259,isAgg259,sizeOf259,zeroValue259⟩
theorem bits_Len (x:Int) (w:World) (A:0<=x) (c:x<=18446744073709551615):
  Calls prog 202 #[.int .u64 x] w λe w'=>e=.returned (.int .i64 (Lib.bitLen x.toNat))/\w'=w:=Any.bits_Len lays125 x w A c
def lays106_ren:Go.Shelf.Ren:=⟨fun|106=>94|213=>136|265=>176|n=>n,fun|9=>9|3=>3|n=>n,fun|n=>n⟩
theorem lays106:Go.Proofs.Lays.n106 prog lays106_ren:=⟨by kernel_rfl,func94.trans (congrArg some (by kernel_rfl)),func136.trans (congrArg some (by kernel_rfl)),func176.trans (congrArg some (by kernel_rfl)),underlying3,isAgg3,sizeOf3,zeroValue3,underlying9,isAgg9,sizeOf9,zeroValue9⟩
open Go.RowKit in
theorem strings_Compare (a b:ByteArray) (w:World):
  Calls prog 94 #[.string a,.string b] w λe w'=>e=.returned (.int .i64 (Lib.compareBytes a.data.toList b.data.toList))/\w'=w:=Any.strings_Compare lays106 a b w
def lays172_ren:Go.Shelf.Ren:=⟨fun|172=>177|244=>217|245=>218|247=>256|279=>257|280=>258|281=>259|282=>260|287=>274|316=>275|171=>219|205=>276|321=>289|322=>290|243=>261|246=>277|283=>291|284=>292|285=>293|286=>294|129=>244|317=>300|318=>301|319=>302|320=>303|337=>305|338=>306|n=>n,fun|9=>9|3=>3|75=>213|76=>214|4=>4|5=>5|167=>267|37=>22|0=>0|85=>268|2=>2|168=>270|53=>259|175=>286|46=>165|210=>290|127=>305|145=>308|143=>306|21=>21|171=>309|173=>311|212=>318|51=>257|20=>20|213=>319|232=>322|233=>323|80=>324|n=>n,fun|15=>1|16=>2|17=>3|18=>4|19=>5|n=>n⟩
theorem lays172:Go.Proofs.Lays.n172 prog lays172_ren:=⟨by kernel_rfl,func244.trans (congrArg some (by kernel_rfl)),func219.trans (congrArg some (by kernel_rfl)),func177.trans (congrArg some (by kernel_rfl)),func276.trans (congrArg some (by kernel_rfl)),func261.trans (congrArg some (by kernel_rfl)),func217.trans (congrArg some (by kernel_rfl)),func218.trans (congrArg some (by kernel_rfl)),func277.trans (congrArg some (by kernel_rfl)),func256.trans (congrArg some (by kernel_rfl)),func257.trans (congrArg some (by kernel_rfl)),func258.trans (congrArg some (by kernel_rfl)),func259.trans (congrArg some (by kernel_rfl)),func260.trans (congrArg some (by kernel_rfl)),func291.trans (congrArg some (by kernel_rfl)),func292.trans (congrArg some (by kernel_rfl)),func293.trans (congrArg some (by kernel_rfl)),func294.trans (congrArg some (by kernel_rfl)),func274.trans (congrArg some (by kernel_rfl)),func275.trans (congrArg some (by kernel_rfl)),func300.trans (congrArg some (by kernel_rfl)),func301.trans (congrArg some (by kernel_rfl)),func302.trans (congrArg some (by kernel_rfl)),func303.trans (congrArg some (by kernel_rfl)),func289.trans (congrArg some (by kernel_rfl)),func290.trans (congrArg some (by kernel_rfl)),func305.trans (congrArg some (by kernel_rfl)),func306.trans (congrArg some (by kernel_rfl)),underlying0,isAgg0,sizeOf0,zeroValue0,underlying2,isAgg2,sizeOf2,zeroValue2,underlying3,isAgg3,sizeOf3,zeroValue3,underlying4,isAgg4,sizeOf4,zeroValue4,underlying5,isAgg5,sizeOf5,zeroValue5,underlying9,isAgg9,sizeOf9,zeroValue9,underlying20,isAgg20,sizeOf20,zeroValue20,underlying21,isAgg21,sizeOf21,zeroValue21,underlying22,isAgg22,sizeOf22,zeroValue22,underlying165,isAgg165,sizeOf165,zeroValue165,underlying257,isAgg257,sizeOf257,zeroValue257,underlying259,isAgg259,sizeOf259,zeroValue259,underlying213,isAgg213,sizeOf213,zeroValue213,underlying214,isAgg214,sizeOf214,zeroValue214,underlying268,isAgg268,sizeOf268,zeroValue268,underlying305,isAgg305,sizeOf305,zeroValue305,underlying306,isAgg306,sizeOf306,zeroValue306,underlying308,isAgg308,sizeOf308,zeroValue308,underlying267,isAgg267,sizeOf267,zeroValue267,underlying270,isAgg270,sizeOf270,zeroValue270,underlying309,isAgg309,sizeOf309,zeroValue309,underlying311,isAgg311,sizeOf311,zeroValue311,underlying286,isAgg286,sizeOf286,zeroValue286,underlying290,isAgg290,sizeOf290,zeroValue290,underlying318,isAgg318,sizeOf318,zeroValue318,underlying319,isAgg319,sizeOf319,underlying322,isAgg322,sizeOf322,zeroValue322,underlying323,isAgg323,sizeOf323,zeroValue323,by kernel_rfl,by kernel_rfl,by kernel_rfl,by kernel_rfl,by kernel_rfl⟩
open Go.RowKit in
theorem strconv_Atoi (s:ByteArray) (n:Int) (c:s.size<=18) (h:Lib.atoi s.data.toList=some n) (w:World):
  Calls prog 177 #[.string s] w λe w'=>e=.returned (.tuple #[.int .i64 n,.nilIface])/\∃t,w'=Lib.bytesWorld w 5 t:=Any.strconv_Atoi lays172 s n c h w
def laysM171_ren:Go.Shelf.Ren:=⟨fun|171=>219|243=>261|246=>277|283=>291|284=>292|285=>293|286=>294|129=>244|317=>300|318=>301|319=>302|320=>303|337=>305|338=>306|n=>n,fun|3=>3|9=>9|2=>2|4=>4|171=>309|0=>0|53=>259|37=>22|5=>5|173=>311|212=>318|51=>257|20=>20|213=>319|46=>165|232=>322|233=>323|n=>n,fun|17=>3|18=>4|19=>5|n=>n⟩
theorem laysM171:Go.Proofs.LaysM.n171 prog laysM171_ren:={
 mixed:=by kernel_rfl
 f129:=func244.trans (congrArg some (by kernel_rfl))
 f171:=func219.trans (congrArg some (by kernel_rfl))
 f243:=func261.trans (congrArg some (by kernel_rfl))
 f246:=func277.trans (congrArg some (by kernel_rfl))
 f283:=func291.trans (congrArg some (by kernel_rfl))
 f284:=func292.trans (congrArg some (by kernel_rfl))
 f285:=func293.trans (congrArg some (by kernel_rfl))
 f286:=func294.trans (congrArg some (by kernel_rfl))
 f317:=func300.trans (congrArg some (by kernel_rfl))
 f318:=func301.trans (congrArg some (by kernel_rfl))
 f319:=func302.trans (congrArg some (by kernel_rfl))
 f320:=func303.trans (congrArg some (by kernel_rfl))
 f337:=func305.trans (congrArg some (by kernel_rfl))
 f338:=func306.trans (congrArg some (by kernel_rfl))
 t0:=underlying0
 a0:=isAgg0
 z0:=sizeOf0
 v0:=zeroValue0
 t2:=underlying2
 a2:=isAgg2
 z2:=sizeOf2
 v2:=zeroValue2
 t3:=underlying3
 a3:=isAgg3
 z3:=sizeOf3
 v3:=zeroValue3
 t4:=underlying4
 a4:=isAgg4
 z4:=sizeOf4
 v4:=zeroValue4
 t5:=underlying5
 a5:=isAgg5
 z5:=sizeOf5
 v5:=zeroValue5
 t9:=underlying9
 a9:=isAgg9
 z9:=sizeOf9
 v9:=zeroValue9
 t20:=underlying20
 a20:=isAgg20
 z20:=sizeOf20
 v20:=zeroValue20
 t37:=underlying22
 a37:=isAgg22
 z37:=sizeOf22
 v37:=zeroValue22
 t46:=underlying165
 a46:=isAgg165
 z46:=sizeOf165
 v46:=zeroValue165
 t51:=underlying257
 a51:=isAgg257
 z51:=sizeOf257
 v51:=zeroValue257
 t53:=underlying259
 a53:=isAgg259
 z53:=sizeOf259
 v53:=zeroValue259
 t171:=underlying309
 a171:=isAgg309
 z171:=sizeOf309
 v171:=zeroValue309
 t173:=underlying311
 a173:=isAgg311
 z173:=sizeOf311
 v173:=zeroValue311
 t212:=underlying318
 a212:=isAgg318
 z212:=sizeOf318
 v212:=zeroValue318
 t213:=underlying319
 a213:=isAgg319
 z213:=sizeOf319
 t232:=underlying322
 a232:=isAgg322
 z232:=sizeOf322
 v232:=zeroValue322
 t233:=underlying323
 a233:=isAgg323
 z233:=sizeOf323
 v233:=zeroValue323
 g17:=by kernel_rfl
 g18:=by kernel_rfl
 g19:=by kernel_rfl
 i0:=by kernel_rfl
 i2:=by kernel_rfl
 i3:=by kernel_rfl
 i4:=by kernel_rfl
 i5:=by kernel_rfl
 i9:=by kernel_rfl
 i20:=by kernel_rfl
 i37:=by kernel_rfl
 i46:=by kernel_rfl
 i51:=by kernel_rfl
 i53:=by kernel_rfl
 i171:=by kernel_rfl
 i173:=by kernel_rfl
 i212:=by kernel_rfl
 i232:=by kernel_rfl
 i233:=by kernel_rfl
 m17:=by kernel_rfl
 m18:=by kernel_rfl
 m19:=by kernel_rfl }
open Go.RowKit Go.Sort Go.Lib in
theorem strconv_Itoa (n : Int) (h0 : -9223372036854775808 ≤ n) (h1 : n ≤ 9223372036854775807) (w : World) (htab : Lib.TabIs prog w "internal/strconv.uint64pow10" .u64 Lib.pow10Tab) :
  Calls prog 219 #[.int .i64 n] w λe w'=>e=.returned (.string ⟨(Lib.itoa n).toArray⟩)/\∃k os,w'=grow (w.drewN k) os:=Any.strconv_Itoa laysM171 n h0 h1 w htab
def laysC172_ren:Go.Shelf.Ren:=⟨fun|172=>177|244=>217|245=>218|247=>256|279=>257|280=>258|281=>259|282=>260|287=>274|316=>275|171=>219|205=>276|321=>289|322=>290|243=>261|246=>277|283=>291|284=>292|285=>293|286=>294|129=>244|317=>300|318=>301|319=>302|320=>303|337=>305|338=>306|n=>n,fun|9=>9|3=>3|75=>213|76=>214|4=>4|5=>5|167=>267|37=>22|0=>0|85=>268|2=>2|168=>270|53=>259|175=>286|46=>165|210=>290|127=>305|145=>308|143=>306|21=>21|171=>309|173=>311|212=>318|51=>257|20=>20|213=>319|232=>322|233=>323|80=>324|n=>n,fun|15=>1|16=>2|17=>3|18=>4|19=>5|n=>n⟩
theorem laysC172:Go.Proofs.LaysC.n172 prog laysC172_ren:={
 mixed:=by kernel_rfl
 f129:=func244.trans (congrArg some (by kernel_rfl))
 f171:=func219.trans (congrArg some (by kernel_rfl))
 f172:=func177.trans (congrArg some (by kernel_rfl))
 f205:=func276.trans (congrArg some (by kernel_rfl))
 f243:=func261.trans (congrArg some (by kernel_rfl))
 f244:=func217.trans (congrArg some (by kernel_rfl))
 f245:=func218.trans (congrArg some (by kernel_rfl))
 f246:=func277.trans (congrArg some (by kernel_rfl))
 f247:=func256.trans (congrArg some (by kernel_rfl))
 f279:=func257.trans (congrArg some (by kernel_rfl))
 f280:=func258.trans (congrArg some (by kernel_rfl))
 f281:=func259.trans (congrArg some (by kernel_rfl))
 f282:=func260.trans (congrArg some (by kernel_rfl))
 f283:=func291.trans (congrArg some (by kernel_rfl))
 f284:=func292.trans (congrArg some (by kernel_rfl))
 f285:=func293.trans (congrArg some (by kernel_rfl))
 f286:=func294.trans (congrArg some (by kernel_rfl))
 f287:=func274.trans (congrArg some (by kernel_rfl))
 f316:=func275.trans (congrArg some (by kernel_rfl))
 f317:=func300.trans (congrArg some (by kernel_rfl))
 f318:=func301.trans (congrArg some (by kernel_rfl))
 f319:=func302.trans (congrArg some (by kernel_rfl))
 f320:=func303.trans (congrArg some (by kernel_rfl))
 f321:=func289.trans (congrArg some (by kernel_rfl))
 f322:=func290.trans (congrArg some (by kernel_rfl))
 f337:=func305.trans (congrArg some (by kernel_rfl))
 f338:=func306.trans (congrArg some (by kernel_rfl))
 t0:=underlying0
 a0:=isAgg0
 z0:=sizeOf0
 v0:=zeroValue0
 t2:=underlying2
 a2:=isAgg2
 z2:=sizeOf2
 v2:=zeroValue2
 t3:=underlying3
 a3:=isAgg3
 z3:=sizeOf3
 v3:=zeroValue3
 t4:=underlying4
 a4:=isAgg4
 z4:=sizeOf4
 v4:=zeroValue4
 t5:=underlying5
 a5:=isAgg5
 z5:=sizeOf5
 v5:=zeroValue5
 t9:=underlying9
 a9:=isAgg9
 z9:=sizeOf9
 v9:=zeroValue9
 t20:=underlying20
 a20:=isAgg20
 z20:=sizeOf20
 v20:=zeroValue20
 t21:=underlying21
 a21:=isAgg21
 z21:=sizeOf21
 v21:=zeroValue21
 t37:=underlying22
 a37:=isAgg22
 z37:=sizeOf22
 v37:=zeroValue22
 t46:=underlying165
 a46:=isAgg165
 z46:=sizeOf165
 v46:=zeroValue165
 t51:=underlying257
 a51:=isAgg257
 z51:=sizeOf257
 v51:=zeroValue257
 t53:=underlying259
 a53:=isAgg259
 z53:=sizeOf259
 v53:=zeroValue259
 t75:=underlying213
 a75:=isAgg213
 z75:=sizeOf213
 v75:=zeroValue213
 t76:=underlying214
 a76:=isAgg214
 z76:=sizeOf214
 v76:=zeroValue214
 t85:=underlying268
 a85:=isAgg268
 z85:=sizeOf268
 v85:=zeroValue268
 t127:=underlying305
 a127:=isAgg305
 z127:=sizeOf305
 v127:=zeroValue305
 t143:=underlying306
 a143:=isAgg306
 z143:=sizeOf306
 v143:=zeroValue306
 t145:=underlying308
 a145:=isAgg308
 z145:=sizeOf308
 v145:=zeroValue308
 t167:=underlying267
 a167:=isAgg267
 z167:=sizeOf267
 v167:=zeroValue267
 t168:=underlying270
 a168:=isAgg270
 z168:=sizeOf270
 v168:=zeroValue270
 t171:=underlying309
 a171:=isAgg309
 z171:=sizeOf309
 v171:=zeroValue309
 t173:=underlying311
 a173:=isAgg311
 z173:=sizeOf311
 v173:=zeroValue311
 t175:=underlying286
 a175:=isAgg286
 z175:=sizeOf286
 v175:=zeroValue286
 t210:=underlying290
 a210:=isAgg290
 z210:=sizeOf290
 v210:=zeroValue290
 t212:=underlying318
 a212:=isAgg318
 z212:=sizeOf318
 v212:=zeroValue318
 t213:=underlying319
 a213:=isAgg319
 z213:=sizeOf319
 t232:=underlying322
 a232:=isAgg322
 z232:=sizeOf322
 v232:=zeroValue322
 t233:=underlying323
 a233:=isAgg323
 z233:=sizeOf323
 v233:=zeroValue323
 g15:=by kernel_rfl
 g16:=by kernel_rfl
 g17:=by kernel_rfl
 g18:=by kernel_rfl
 g19:=by kernel_rfl
 t80:=underlying324
 a80:=isAgg324
 z80:=sizeOf324
 v80:=zeroValue324
 i0:=by kernel_rfl
 i2:=by kernel_rfl
 i3:=by kernel_rfl
 i4:=by kernel_rfl
 i5:=by kernel_rfl
 i9:=by kernel_rfl
 i20:=by kernel_rfl
 i21:=by kernel_rfl
 i37:=by kernel_rfl
 i46:=by kernel_rfl
 i51:=by kernel_rfl
 i53:=by kernel_rfl
 i75:=by kernel_rfl
 i76:=by kernel_rfl
 i80:=by kernel_rfl
 i85:=by kernel_rfl
 i127:=by kernel_rfl
 i143:=by kernel_rfl
 i145:=by kernel_rfl
 i167:=by kernel_rfl
 i168:=by kernel_rfl
 i171:=by kernel_rfl
 i173:=by kernel_rfl
 i175:=by kernel_rfl
 i210:=by kernel_rfl
 i212:=by kernel_rfl
 i232:=by kernel_rfl
 i233:=by kernel_rfl
 m15:=by kernel_rfl
 m16:=by kernel_rfl
 m17:=by kernel_rfl
 m18:=by kernel_rfl
 m19:=by kernel_rfl
 c0:=by kernel_rfl
 c2:=by kernel_rfl
 c3:=by kernel_rfl
 c4:=by kernel_rfl
 c5:=by kernel_rfl
 c9:=by kernel_rfl
 c20:=by kernel_rfl
 c21:=by kernel_rfl
 c37:=by kernel_rfl
 c46:=by kernel_rfl
 c51:=by kernel_rfl
 c53:=by kernel_rfl
 c75:=by kernel_rfl
 c76:=by kernel_rfl
 c80:=by kernel_rfl
 c85:=by kernel_rfl
 c127:=by kernel_rfl
 c143:=by kernel_rfl
 c145:=by kernel_rfl
 c167:=by kernel_rfl
 c168:=by kernel_rfl
 c171:=by kernel_rfl
 c173:=by kernel_rfl
 c175:=by kernel_rfl
 c210:=by kernel_rfl
 c212:=by kernel_rfl
 c213:=by kernel_rfl
 c232:=by kernel_rfl
 c233:=by kernel_rfl }
open Go.RowKit in
theorem strconv_Atoi_err_var (s : ByteArray) (hl : s.size ≤ 18) (h : Lib.atoi s.data.toList = none) (tp : TypeId) (p : Value) (w : World) (hvar : w.var? prog "strconv.ErrSyntax" = some #[.iface tp p]) :
  Calls prog 177 #[.string s] w λe w'=>∃N,e=.returned (.tuple #[.int .i64 0,.iface 270 (.pointer (some ⟨N,0,none⟩))])/\w.heap.size<=N/\w'.heap[N]?=some (.cells #[.string ⟨#[65,116,111,105]⟩,.string s,.iface tp p] 290 (0,0))/\Below w.heap.size w w':=Any.strconv_Atoi_err_var laysC172 s hl h tp p w hvar
def lays191_ren:Go.Shelf.Ren:=⟨fun|191=>115|189=>157|125=>202|257=>201|128=>243|129=>244|294=>234|295=>235|296=>236|297=>237|298=>238|299=>239|216=>240|300=>241|301=>242|328=>264|329=>265|330=>266|331=>267|332=>268|215=>269|343=>287|n=>n,fun|28=>92|0=>0|3=>3|46=>165|51=>257|53=>259|4=>4|183=>251|182=>250|131=>167|5=>5|9=>9|218=>277|222=>281|228=>300|229=>301|n=>n,fun|n=>n⟩
theorem lays191:Go.Proofs.Lays.n191 prog lays191_ren:=⟨by kernel_rfl,func202.trans (congrArg some (by kernel_rfl)),func243.trans (congrArg some (by kernel_rfl)),func244.trans (congrArg some (by kernel_rfl)),func157.trans (congrArg some (by kernel_rfl)),func115.trans (congrArg some (by kernel_rfl)),func269.trans (congrArg some (by kernel_rfl)),func240.trans (congrArg some (by kernel_rfl)),func201.trans (congrArg some (by kernel_rfl)),func234.trans (congrArg some (by kernel_rfl)),func235.trans (congrArg some (by kernel_rfl)),func236.trans (congrArg some (by kernel_rfl)),func237.trans (congrArg some (by kernel_rfl)),func238.trans (congrArg some (by kernel_rfl)),func239.trans (congrArg some (by kernel_rfl)),func241.trans (congrArg some (by kernel_rfl)),func242.trans (congrArg some (by kernel_rfl)),func264.trans (congrArg some (by kernel_rfl)),func265.trans (congrArg some (by kernel_rfl)),func266.trans (congrArg some (by kernel_rfl)),func267.trans (congrArg some (by kernel_rfl)),func268.trans (congrArg some (by kernel_rfl)),func287.trans (congrArg some (by kernel_rfl)),underlying0,isAgg0,sizeOf0,zeroValue0,underlying3,isAgg3,sizeOf3,zeroValue3,underlying4,isAgg4,sizeOf4,zeroValue4,underlying5,isAgg5,sizeOf5,zeroValue5,underlying9,isAgg9,sizeOf9,zeroValue9,underlying92,isAgg92,sizeOf92,zeroValue92,underlying165,isAgg165,sizeOf165,zeroValue165,underlying257,isAgg257,sizeOf257,zeroValue257,underlying259,isAgg259,sizeOf259,zeroValue259,underlying167,isAgg167,sizeOf167,zeroValue167,underlying250,isAgg250,sizeOf250,zeroValue250,underlying251,isAgg251,sizeOf251,zeroValue251,underlying277,isAgg277,sizeOf277,zeroValue277,underlying281,isAgg281,sizeOf281,zeroValue281,underlying300,isAgg300,sizeOf300,zeroValue300,underlying301,isAgg301,sizeOf301,zeroValue301⟩
open Go.Sort Go.RowKit in
theorem sort_Ints (a off cap:Nat) (A:List Int) (w:World) (B:Holds (Value.int .i64) w a off A.toArray) (b:a<w.heap.size) (c:A.length<4611686018427387904):
  Calls prog 115 #[.slice (some ⟨a,off,none⟩) A.length cap] w λe w'=>
   e=.returned (.tuple #[])/\∃n os,w'=grow (putRow (Value.int .i64) (Sort.ahead w n) a off (A.mergeSort λx y=>decide (x<=y)).toArray) os:=Any.sort_Ints lays191 a off cap A w B b c
def lays192_ren:Go.Shelf.Ren:=⟨fun|192=>134|190=>175|125=>202|258=>216|128=>243|129=>244|302=>247|303=>248|304=>249|305=>250|306=>251|307=>252|308=>253|309=>254|310=>255|333=>270|329=>265|330=>266|334=>271|335=>272|336=>273|344=>288|n=>n,fun|31=>38|0=>0|9=>9|3=>3|46=>165|51=>257|53=>259|4=>4|183=>251|182=>250|131=>167|5=>5|218=>277|222=>281|228=>300|229=>301|n=>n,fun|n=>n⟩
theorem lays192:Go.Proofs.Lays.n192 prog lays192_ren:=⟨by kernel_rfl,func202.trans (congrArg some (by kernel_rfl)),func243.trans (congrArg some (by kernel_rfl)),func244.trans (congrArg some (by kernel_rfl)),func175.trans (congrArg some (by kernel_rfl)),func134.trans (congrArg some (by kernel_rfl)),func216.trans (congrArg some (by kernel_rfl)),func247.trans (congrArg some (by kernel_rfl)),func248.trans (congrArg some (by kernel_rfl)),func249.trans (congrArg some (by kernel_rfl)),func250.trans (congrArg some (by kernel_rfl)),func251.trans (congrArg some (by kernel_rfl)),func252.trans (congrArg some (by kernel_rfl)),func253.trans (congrArg some (by kernel_rfl)),func254.trans (congrArg some (by kernel_rfl)),func255.trans (congrArg some (by kernel_rfl)),func265.trans (congrArg some (by kernel_rfl)),func266.trans (congrArg some (by kernel_rfl)),func270.trans (congrArg some (by kernel_rfl)),func271.trans (congrArg some (by kernel_rfl)),func272.trans (congrArg some (by kernel_rfl)),func273.trans (congrArg some (by kernel_rfl)),func288.trans (congrArg some (by kernel_rfl)),underlying0,isAgg0,sizeOf0,zeroValue0,underlying3,isAgg3,sizeOf3,zeroValue3,underlying4,isAgg4,sizeOf4,zeroValue4,underlying5,isAgg5,sizeOf5,zeroValue5,underlying9,isAgg9,sizeOf9,zeroValue9,underlying38,isAgg38,sizeOf38,zeroValue38,underlying165,isAgg165,sizeOf165,zeroValue165,underlying257,isAgg257,sizeOf257,zeroValue257,underlying259,isAgg259,sizeOf259,zeroValue259,underlying167,isAgg167,sizeOf167,zeroValue167,underlying250,isAgg250,sizeOf250,zeroValue250,underlying251,isAgg251,sizeOf251,zeroValue251,underlying277,isAgg277,sizeOf277,zeroValue277,underlying281,isAgg281,sizeOf281,zeroValue281,underlying300,isAgg300,sizeOf300,zeroValue300,underlying301,isAgg301,sizeOf301,zeroValue301⟩
open Go.Sort Go.RowKit in
theorem sort_Strings (a off cap:Nat) (A:List (List UInt8)) (w:World) (B:Holds encStr w a off A.toArray) (b:a<w.heap.size) (c:A.length<4611686018427387904):
  Calls prog 134 #[.slice (some ⟨a,off,none⟩) A.length cap] w λe w'=>
   e=.returned (.tuple #[])/\∃n os,w'=grow (putRow encStr (Sort.ahead w n) a off (A.mergeSort λx y=>decide (x<=y)).toArray) os:=Any.sort_Strings lays192 a off cap A w B b c
def laysGt8_ren:Go.Shelf.Ren:=⟨fun|8=>143|13=>180|14=>181|16=>183|15=>182|29=>229|30=>230|42=>262|49=>278|n=>n,fun|20=>20|26=>192|36=>220|0=>0|38=>222|42=>226|3=>3|4=>4|47=>165|17=>17|33=>217|34=>218|89=>336|12=>12|56=>257|82=>330|5=>5|83=>331|84=>332|85=>305|86=>333|87=>334|n=>n,fun|n=>n⟩
theorem laysGt8:Go.Proofs.LaysGt.n8 prog laysGt8_ren:=⟨by kernel_rfl,func143.trans (congrArg some (by kernel_rfl)),func180.trans (congrArg some (by kernel_rfl)),func181.trans (congrArg some (by kernel_rfl)),func182.trans (congrArg some (by kernel_rfl)),func183.trans (congrArg some (by kernel_rfl)),func229.trans (congrArg some (by kernel_rfl)),func230.trans (congrArg some (by kernel_rfl)),func262.trans (congrArg some (by kernel_rfl)),func278.trans (congrArg some (by kernel_rfl)),underlying0,isAgg0,sizeOf0,zeroValue0,by kernel_rfl,underlying3,isAgg3,sizeOf3,zeroValue3,by kernel_rfl,underlying4,isAgg4,sizeOf4,zeroValue4,by kernel_rfl,underlying5,isAgg5,sizeOf5,zeroValue5,by kernel_rfl,underlying12,isAgg12,sizeOf12,zeroValue12,by kernel_rfl,underlying17,isAgg17,sizeOf17,zeroValue17,by kernel_rfl,underlying20,isAgg20,sizeOf20,zeroValue20,by kernel_rfl,underlying192,isAgg192,sizeOf192,zeroValue192,by kernel_rfl,underlying217,isAgg217,sizeOf217,zeroValue217,by kernel_rfl,underlying218,isAgg218,sizeOf218,zeroValue218,by kernel_rfl,underlying220,isAgg220,sizeOf220,zeroValue220,by kernel_rfl,underlying222,isAgg222,sizeOf222,zeroValue222,by kernel_rfl,underlying226,isAgg226,sizeOf226,zeroValue226,by kernel_rfl,underlying165,isAgg165,sizeOf165,zeroValue165,by kernel_rfl,underlying257,isAgg257,sizeOf257,zeroValue257,by kernel_rfl,underlying330,isAgg330,sizeOf330,zeroValue330,by kernel_rfl,underlying331,isAgg331,sizeOf331,zeroValue331,by kernel_rfl,underlying332,isAgg332,sizeOf332,zeroValue332,by kernel_rfl,underlying305,isAgg305,sizeOf305,zeroValue305,by kernel_rfl,underlying333,isAgg333,sizeOf333,zeroValue333,by kernel_rfl,underlying334,isAgg334,sizeOf334,zeroValue334,by kernel_rfl,underlying336,isAgg336,sizeOf336,zeroValue336,by kernel_rfl⟩
open Go.RowKit Go.Sort in
theorem sort_Strings_none (p:Option Addr) (cap:Nat) (w:World):
  Calls prog 134 #[.slice p 0 cap] w λe w'=>e=.returned (.tuple #[])/\w'=w:=Any.sort_Strings_none lays192 p cap w
open Go.RowKit Go.Sort in
theorem sort_Ints_none (p:Option Addr) (cap:Nat) (w:World):
  Calls prog 115 #[.slice p 0 cap] w λe w'=>e=.returned (.tuple #[])/\w'=w:=Any.sort_Ints_none lays191 p cap w
end Go.Proofs
namespace Go.Proofs.YthjnneiibkknhaaGreatDoor
section
open Go.RowKit
theorem ZxT {J:World->Prop}{a b:ByteArray}{r:Int}(h:ZfS a b=some r):Sound prog J 94 [(false,[.str a]),(false,[.str b])] [(false,[(false,.int .i64 r)])]:=by
 obtain rfl:=A4 h;refine ⟨⟨f94,func94,yO,yO⟩,λw z vs hj hz c=>?_⟩;obtain ⟨v,u,L,M,rfl,⟨rfl,_⟩,rfl,_⟩:=ZyL c;refine (strings_Compare a b w).mono ?_;rintro e w' ⟨rfl,rfl⟩;exact ⟨_,z,rfl,Ztc ⟨⟨rfl,rfl⟩,rfl⟩,λb h=>h,Below.refl _ _⟩
end
section
open Go.RowKit Go.Sort
theorem Zqb {α:Type}[Inhabited α] {P:Program}{J:World->Prop}{JF:Nat->Prop}(a:α->Value) (W:α->List CT) (I:∀(w:World) x v L,RCs w (W x) v L->v=[a x]) (K:∀(w w':World) x,RCs w (W x) [a x] []->RCs w' (W x) [a x] []) (u:∀l:List α,Zby (l.map W)=true) {f:FuncId}{e:TypeId}{V d:List α}(hc:ZaG P f) (hd:d.length=V.length) (C:∀x∈d,x∈V)
  (hN:∀p cap w,Calls P f #[.slice p 0 cap] w λe w'=>e=.returned (.tuple #[])/\w'=w)
  (hC:∀i off cap w,Holds a w i off V.toArray->i<w.heap.size->Calls P f #[.slice (some ⟨i,off,none⟩) V.length cap] w λe w'=>e=.returned (.tuple #[])/\∃n os,w'=grow (putRow a (Sort.ahead w n) i off d.toArray) os):
  SoundH P J JF f (.row e 1 (V.map W)) [] [] (.row e 1 (d.map W)):=by
 refine ⟨hc,λw z q v0 vs hj aa hz hh ha=>?_⟩;cases vs with
 |cons _ _=>exact ha.elim
 |nil=>
 obtain ⟨ae,hm,hq,cs,c,M⟩:=hh;have N:∀(l:List α) (cs:List Value) (L:List Nat),REs w 1 (l.map W) cs L->cs=l.map a/\(L=[]->∀x∈l,RCs w (W x) [a x] []):=by
  intro l;induction l with
  |nil=>intro cs L h;exact ⟨h.1,λ_ x mx=>by simp at mx⟩
  |cons x l ih=>
   rintro cs L ⟨c1,c2,L1,L2,rfl,rfl,h3,h4⟩;obtain ⟨i1,i2⟩:=ih _ _ h4;have e1:=I _ _ _ _ h3.1;refine ⟨by rw [e1,i1];rfl,λhL y my=>?_⟩;obtain ⟨l1,l2⟩:=List.append_eq_nil_iff.1 hL;rcases List.mem_cons.1 my with rfl|my
   .rw [<-e1,<-l1];exact h3.1
   .exact i2 l2 y my
 obtain ⟨e1,e2⟩:=N V cs [] M;have e2:=e2 rfl;subst e1;have D:∀(w':World) (l:List α),(∀x∈l,x∈V)->REs w' 1 (l.map W) (l.map a) []:=by
  intro w' l;induction l with
  |nil=>intro _;exact ⟨rfl,rfl⟩
  |cons x l ih=>intro hl;exact ⟨[a x],l.map a,[],[],rfl,rfl,⟨K w w' x (e2 x (hl x yG)),rfl⟩,ih λy my=>hl y (by simp [my])⟩
 have O:(V.map W).length=V.length:=by simp
 rw [O]at c;have t:∀w':World,w'.os=w.os->w'.tape=w.tape->w'.output=w.output->w.heap.size<=w'.heap.size->(∀k,k<w.heap.size->¬q=some k->w'.heap[k]?=w.heap[k]?)->w'.ownsV 0 e 1 v0 d.length (d.map a)->∃v n,Ending.returned (.tuple #[])=.returned v/\Zhg w' w.heap.size n [] v/\(∀b,inQ z q b->n b)/\ZpU w' n q (.row e 1 (d.map W)) v0/\ZFC q w w':=
  λw' h1 h2 h3 h4 h5 h6=>⟨_,inQ z q,rfl,⟨[],[],⟨rfl,rfl⟩,Own.nil _ _,rfl⟩,λ_ h=>h,⟨u d,yE,hq,d.map a,by simpa using h6,D w' d C⟩,⟨h1,h2,h3,h4,h5⟩⟩
 rcases Nat.eq_zero_or_pos V.length with h0|h0
 .have Q:V=[]:=A9 h0;have R:d=[]:=A9 (hd.trans h0);obtain ⟨A,cap,hv⟩:=Zbi c;rw [h0]at hv;subst hv;refine (hN A cap w).mono ?_;rintro e' w' ⟨rfl,rfl⟩;exact t w' rfl rfl rfl (Nat.le_refl _) (λ_ _ _=>rfl) (by rw [R];rw [Q]at c;exact c)
 .rcases c.2 with ⟨h',ad⟩|⟨g,o,cap,m,h',hb,hg,ac,S,E,B⟩
  .omega
  .subst h';have F:g<w.heap.size:=(Array.getElem?_eq_some_iff.1 hg).1;have G:∀j,j<V.length->m[o+j]?=some (a V[j]!):=λj hj=>by
    have:=congrArg (λl=>l[j]?) B;simp only[Nat.mul_one,AA,hj,if_true,AB,AC,A6]at this;rw [this];simp [List.getElem!_eq_getElem?_getD,hj]
   refine (hC g o cap w (λj hj=>?_) F).mono ?_
   .have H:j<V.length:=by simpa using hj
    refine ⟨?_,by simp [World.frozen?,hg]⟩;simp only[World.cell?,hg,Option.isSome_none,Bool.false_eq_true,if_false];rw [G j H];simp [H]
   .rintro e' w' ⟨rfl,n,os,rfl⟩;have hh:(putRow a (Sort.ahead w n) g o d.toArray).heap[g]?=some (.cells (putCells a o d.toArray m) e (0,0)):=by
     simp only[putRow,mapBlock,heap_ahead,AD,if_true,hg,Option.map_some,onCells]
    refine t _ rfl rfl rfl yG (λk hk T=>?_) ⟨yG,.inr ⟨g,o,cap,putCells a o d.toArray m,by rw [hd],yE,?_,yE,S,by simpa [putCells]using E,?_⟩⟩
    .rw [heap_grow_old _ _ (by simpa using hk)];simp only[putRow,mapBlock,heap_ahead,AD];rw [if_neg (λe=>T (by rw [<-hq];simp [Value.ownBlock,e]))]
    .rw [heap_grow_old _ _ (by simpa using F)];exact hh
    .apply List.ext_getElem?;intro j;simp only[Nat.mul_one,AA,AB,A6,AC,putCells,Array.getElem?_mapIdx,AE];by_cases hj:j<d.length
     .have U:o+j<m.size:=by omega
      simp [hj,U]
     .simp [hj]
end
section
open Go.RowKit Go.Sort
theorem Zvu {J:World->Prop}{JF:Nat->Prop}{l r:List Int}(h:Zgl l=some r):SoundH prog J JF 115 (.row 3 1 (l.map ZH)) [] [] (.row 3 1 (r.map ZH)):=by
 obtain ⟨E,D⟩:=Zq h;obtain rfl:=A4 D;refine Zqb (Value.int .i64) ZH (λw x v L h=>?_) (λw w' x h=>h) Zp4 ⟨f115,func115,yO,yO⟩ (by simp [Zly]) (λx A=>by simpa [Zly]using A) (λp cap w=>sort_Ints_none p cap w) (λa off cap w C B=>sort_Ints a off cap l w C B yE);obtain ⟨u,vs,L1,L2,rfl,rfl,c,rfl,rfl⟩:=h;rw [c.1]
end
section
open Go.RowKit Go.Sort
theorem ZoM {J:World->Prop}{JF:Nat->Prop}{l r:List ByteArray}(h:ZcJ l=some r):SoundH prog J JF 134 (.row 9 1 (l.map ZB)) [] [] (.row 9 1 (r.map ZB)):=by
 obtain ⟨h1,h2⟩:=Zq h;obtain rfl:=A4 h2;have e1:l.map ZB=(l.map toL).map λx=>ZB (ofL x):=by rw [AF];exact List.map_congr_left λx _=>by simp [Zks]
 have e2:(ZfA l).map ZB=((l.map toL).mergeSort λx y=>decide (x<=y)).map λx=>ZB (ofL x):=by simp [ZfA,AF,Function.comp_def]
 rw [e1,e2];refine Zqb encStr (λx=>ZB (ofL x)) (λw x v L h=>?_) (λw w' x h=>h) (λl=>Zcp (λ_=>rfl) l) ⟨f134,func134,yO,yO⟩ yG (λx hx=>by simpa using hx) (λp cap w=>sort_Strings_none p cap w) (λa off cap w hH hb=>sort_Strings a off cap (l.map toL) w hH hb (by simp;omega));obtain ⟨u,vs,L1,L2,rfl,rfl,q1,rfl,rfl⟩:=h;rw [q1.1];rfl
end
section
open Go.RowKit
theorem ZEo {J : World → Prop} (hJ : ∀ w, J w → ∃ tp p, w.var? prog "strconv.ErrSyntax" = some #[.iface tp p]) {s : ByteArray} {r : Int × Bool} (h : ZmO s = some r) : Sound prog J 177 [(false, [.str s])] [(false, [(false, .int .i64 r.1)]), (false, [(false, .ifc r.2)])] := by
 obtain ⟨h1,h2⟩:=Zq h
 refine ⟨⟨f177,func177,yO,yO⟩,λw z vs hj hz hargs=>?_⟩
 obtain ⟨v,L,rfl,rfl,_⟩:=ZmX hargs
 cases ha:Lib.atoi (toL s) with
 |some n=>
  rw [ha]at h2
  obtain rfl:=A4 h2
  refine (strconv_Atoi s n h1 ha w).mono ?_
  rintro e w' ⟨rfl,t,rfl⟩
  exact ⟨_,z,rfl,Zsu ⟨⟨rfl,rfl⟩,rfl⟩ ⟨⟨rfl,rfl,rfl⟩,rfl⟩,λb h=>h,Lib.bytesWorld_below _ _ _⟩
 |none=>
  rw [ha]at h2
  obtain rfl:=A4 h2
  obtain ⟨tp,p,hv⟩:=hJ w hj
  refine (strconv_Atoi_err_var s h1 ha tp p w hv).mono ?_
  rintro e w' ⟨N,rfl,_,_,hb⟩
  exact ⟨_,z,rfl,Zsu ⟨⟨rfl,rfl⟩,rfl⟩ ⟨⟨rfl,rfl,_,_,rfl⟩,rfl⟩,λb h=>h,hb⟩
end
section
open Go.RowKit Go.Sort Go.Lib
theorem ZF3 {J : World → Prop} (hJ : ∀ w, J w → Lib.TabIs prog w "internal/strconv.uint64pow10" .u64 Lib.pow10Tab) {n : Int} {r : ByteArray} (h : Zrq n = some r) : Sound prog J 219 [(false, [.int .i64 n])] [(false, [(false, .str r)])] := by
 obtain ⟨h1,h2⟩:=Zq h
 obtain rfl:=A4 h2
 refine ⟨⟨f219,func219,yO,yO⟩,λw z vs hj hz hargs=>?_⟩
 obtain ⟨v,L,rfl,rfl,_⟩:=ZmX hargs
 refine (strconv_Itoa n h1.1 h1.2 w (hJ w hj)).mono ?_
 rintro e w' ⟨rfl,k,os,rfl⟩
 refine ⟨_,z,rfl,Ztc ⟨⟨rfl,rfl,?_⟩,rfl⟩,λb h=>h,below_grow _ _ (Nat.le_refl _) _ _⟩
 have:=Lib.itoa_length_le n h1.1 h1.2
 show (Lib.itoa n).toArray.size<=_
 rw [AE]
 omega
end
theorem ZkB {a b:ByteArray}{r:Int}(h:ZfS a b=some r):Sound prog J0 94 [(false,[.str a]),(false,[.str b])] [(false,[(false,.int .i64 r)])]:=ZxT h
theorem Zow {l r:List Int}(h:Zgl l=some r):SoundH prog J0 JF0 115 (.row 3 1 (l.map ZH)) [] [] (.row 3 1 (r.map ZH)):=Zvu h
theorem ZkU {l r:List ByteArray}(h:ZcJ l=some r):SoundH prog J0 JF0 134 (.row 9 1 (l.map ZB)) [] [] (.row 9 1 (r.map ZB)):=ZoM h
theorem ZxG {s:ByteArray}{r:Int×Bool}(h:ZmO s=some r):Sound prog J0 177 [(false,[.str s])] [(false,[(false,.int .i64 r.1)]),(false,[(false,.ifc r.2)])]:=ZEo ZE5 h
theorem Zxk {n:Int}{r:ByteArray}(h:Zrq n=some r):Sound prog J0 219 [(false,[.int .i64 n])] [(false,[(false,.str r)])]:=ZF3 ZDV h
section
theorem yA{p q:Prop}(h:q)(e:p=q:=by simp only[*,go_sem,seval];try rfl):p:=e▸h
theorem yD{p:Prop}(e:p:=by simp only[*,go_sem,seval]):p:=e
theorem yB{α:Type}{G q v:Prop}{b:Bool}{x y:Option α}{r:α}(h:(if b=true then x else y)=some r)(B:b=true→x=some r→q)(A:b=false→y=some r→v)(e:∀(_:b=true)(_:x=some r),G=q:=by intro _ _;(try simp only[*,go_sem,seval]);try rfl)(f:∀(_:b=false)(_:y=some r),G=v:=by intro _ _;(try simp only[*,go_sem,seval]);try rfl):G:=Ze h (λa c=>(e a c)▸B a c) λa c=>(f a c)▸A a c
theorem yC{σ ρ:Type}{s:σ}{y:σ⊕ρ}{C:σ→List (Bool×Nat×Nat)→List Nat→Prop}(h:some (.inl s)=some y)(c:List (Bool×Nat×Nat))(k:List Nat)(d:k.Nodup:=by decide)(e:C s c k:=by simp only[*,go_sem,seval]):∃s' c k,y=.inl s'∧k.Nodup∧C s' c k:=⟨s,c,k,(Option.some.inj h).symm,d,e⟩
theorem yR{σ ρ:Type}{s:σ}{y:σ⊕ρ}{C:σ→List (Bool×Nat×Nat)→List Nat→Prop}(h:some (.inl s)=some y)(k:List Nat)(d:k.Nodup:=by decide)(e:C s [] k:=by simp only[*,go_sem,seval]):∃s' c k,y=.inl s'∧k.Nodup∧C s' c k:=⟨s,[],k,(Option.some.inj h).symm,d,e⟩
def yL(n:Nat):SV:=.p false [.c (.int .i64 (n:Int))]
def yM(x:CT):SV:=.p false [.c x]
def zI(t:Nat)(l:List CT):Ob:=.box t (l.map .c)
attribute [go_sem] yL yM zI List.map_cons List.map_nil
def yU(l:List Zd):CT:=.sl 40 2 (List.map eFact l)
attribute [go_sem] yU
def yV(l:List ByteArray):CT:=.sl 9 1 (List.map ZB l)
attribute [go_sem] yV
def yW(l:List Zf):CT:=.sl 76 4 (List.map eRule l)
attribute [go_sem] yW
def yX(l:List Int):CT:=.sl 3 1 (List.map ZH l)
attribute [go_sem] yX
def yY(l:List Zp):CT:=.sl 134 5 (List.map ZO l)
attribute [go_sem] yY
def yZ(l:List Zs):CT:=.sl 194 2 (List.map ePair l)
attribute [go_sem] yZ
def zA(l:List Zw):CT:=.sl 115 3 (List.map eAction l)
attribute [go_sem] zA
def zB(l:List Zr):CT:=.sl 64 3 (List.map eStamp l)
attribute [go_sem] zB
def zC(l:List Zg):CT:=.sl 125 3 (List.map eReason l)
attribute [go_sem] zC
def zD(l:List ZK):CT:=.sl 94 2 (List.map eFiring l)
attribute [go_sem] zD
def zE(l:List Yp):CT:=.sl 97 4 (List.map eEvent l)
attribute [go_sem] zE
def zF(l:List Zt):CT:=.sl 132 2 (List.map eToken l)
attribute [go_sem] zF
def zG(l:List Int):CT:=.sl 5 1 (List.map Zfx l)
attribute [go_sem] zG
def zH(l:List ZF):CT:=.sl 112 7 (List.map eChoice l)
attribute [go_sem] zH
theorem w_big_ok {c:List Int}{r:Bool}(h:ZwB c=some r):Sound prog J0 4 [(false,[.sl 5 1 (A0 Zfx c)])] [(false,[(false,.bool r)])]:=by
 refine fnk func4 rfl ?_;unfold ZwB at h;simp only[fnS,f4,Zk,go_sem,seval];cases h;exact yD
theorem s_l1New_ok {c:List Int}{r:l1CurD}(h:Zj4 c=some r):ZmA prog J0 15 [(false,[.sl 5 1 (A0 Zfx c)])] (.box 71 (el1Cur r)):=by
 refine fnb func15 rfl ?_;unfold Zj4 at h;simp only[fnB,f15,Zk,go_sem,seval];refine Zh h (λi a st=>IV [(0,yM (zG c)),(3,yM (.int .i64 a)),(4,yL i)] [] st) [] [] yF yD ?_ ?_;rintro _ _ a ⟨_,_,_⟩ _ b d f h g;simp only[go_sem,seval,Zc]at d;obtain ⟨⟨k,_,_⟩,A⟩:=d;subst A;have l:=WF.slotL f k (j:=0) rfl;have:=Zz b;have:=ZC b;have:=Zj (ZA b) l;simp only[*,go_sem,seval];refine yB h (λ_ h=>?_) λ_ h=>?_;exact yR h [];replace h:=Zn h g;cases h;exact yD;rintro a ⟨_,_,_⟩ e _ h;simp only[go_sem,seval,Zc]at e;obtain ⟨⟨_,_,_⟩,A⟩:=e;subst A;have:=Zx (c.length);cases h;exact yD
theorem Ze0 {c:l1CurD}{r:(Int×l1CurD)}(h:Zdk c=some r):SoundH prog J0 JF0 64 (.box 71 (el1Cur c)) [] [(false,[(false,.int .i64 r.1)])] (.box 71 (el1Cur r.2)):=by
 refine fnh func64 rfl ?_;unfold Zdk at h;have a:¬((35:Int)<0):=by decide
 have b:¬((45:Int)<0):=by decide
 simp only[fnH,f64,ZeR,Zez,XY,go_sem,seval,a,b];refine yB h (λ_ h=>?_) λ_ h=>?_;obtain ⟨_,_,_,_,h⟩:=ZaV h;iterate 2 (cases h;exact yD)
theorem QV {a:ByteArray}{b:ByteArray}{r:List ByteArray}(h:Zaf a b=some r):Sound prog J0 104 [(false,[.str a]),(false,[.str b])] [(false,[(false,.sl 9 1 (A0 ZB r))])]:=by
 refine fnk func104 rfl ?_;unfold Zaf at h;have i:Z9 ⟨#[]⟩=true:=by decide
 simp only[fnS,f104,Zk,go_sem,seval,i];refine yB h (λ_ h=>?_) λ_ h=>?_;cases h;exact yD;refine Yr h (λs st=>match s with|(d,e,f)=>IV [(0,yM (.str a)),(1,yM (.str b)),(5,.p false [.row 0]),(6,yM (.int .i64 e)),(7,yM (.int .i64 f))] [.row 9 1 (A0 ZB d) 2] st) [] [16] yF yD ?_;rintro ⟨d,e,f⟩ ⟨_,_,_⟩ _ g _ h k;simp only[go_sem,seval,Zc]at g;obtain ⟨⟨_,_,_,_,_⟩,_,c⟩:=g;subst c;simp only[*,go_sem,seval];refine yB h (λ_ h=>?_) λ_ h=>?_;obtain ⟨_,h⟩:=Zq h;simp only[*,go_sem,seval];refine yB h (λ_ h=>?_) λ_ h=>?_;obtain ⟨_,h⟩:=Zq h;obtain ⟨l,h⟩:=Zq h;try simp only[Nat.reduceLeDiff]at l
 simp only[*,go_sem,seval];exact yR h [353];exact yR h [0];obtain ⟨_,h⟩:=Zq h;obtain ⟨m,h⟩:=Zq h;try simp only[Nat.reduceLeDiff]at m
 replace h:=Zn h k;cases h;exact yD
theorem Zla {c:Int}{r:ByteArray}(h:Za5 c=some r):Sound prog J0 36 [(false,[.int .i64 c])] [(false,[(false,.str r)])]:=by
 refine fnk func36 rfl ?_;unfold Za5 at h;have f:Z9 ⟨#[45,57,50,50,51,51,55,50,48,51,54,56,53,52,55,55,53,56,48,56]⟩=true:=by decide
 have g:Z9 ⟨#[]⟩=true:=by decide
 have i:¬((10:Int)=0):=by decide
 simp only[fnS,f36,Zk,go_sem,seval,f,g,i];refine yB h (λ_ h=>?_) λ_ h=>?_;cases h;exact yD;refine yB h (λ_ h=>?_) λ_ h=>?_;cases h;refine Yr h (λs st=>match s with|(a,b)=>IV [(0,yM (.int .i64 a)),(3,yM (.str b))] [] st) [] [] yF yD ?_;rintro ⟨a,b⟩ ⟨_,_,_⟩ _ d _ h j;simp only[go_sem,seval,Zc]at d;obtain ⟨⟨_,_⟩,A⟩:=d;subst A;obtain ⟨_,h⟩:=Zq h;simp only[*,go_sem,seval];refine yB h (λ_ h=>?_) λ_ h=>?_;replace h:=Zn h j;cases h;exact yD;exact yR h []
theorem s_FormatInt_ok {a:Int}{r:ByteArray}(h:QJ a=some r):Sound prog J0 36 [(false,[.int .i64 a])] [(false,[(false,.str r)])]:=by
 refine fnk func36 rfl ?_;unfold QJ at h;have g:Z9 ⟨#[45,57,50,50,51,51,55,50,48,51,54,56,53,52,55,55,53,56,48,56]⟩=true:=by decide
 have i:Z9 ⟨#[45]⟩=true:=by decide
 have j:Z9 ⟨#[]⟩=true:=by decide
 have k:¬((10:Int)=0):=by decide
 simp only[fnS,f36,Zk,go_sem,seval,g,i,j,k];refine yB h (λ_ h=>?_) λ_ h=>?_;cases h;exact yD;refine yB h (λ_ h=>?_) λ_ h=>?_;refine Zb h λ_ l h=>Za (Zla l) ?_;obtain ⟨m,h⟩:=Zq h;simp only[go_sem]at m;cases h;exact yD;refine Yr h (λs st=>match s with|(b,d)=>IV [(0,yM (.int .i64 b)),(3,yM (.str d))] [] st) [] [] yF yD ?_;rintro ⟨b,d⟩ ⟨_,_,_⟩ _ e _ h o;simp only[go_sem,seval,Zc]at e;obtain ⟨⟨_,_⟩,c⟩:=e;subst c;obtain ⟨_,h⟩:=Zq h;simp only[*,go_sem,seval];refine yB h (λ_ h=>?_) λ_ h=>?_;replace h:=Zn h o;cases h;exact yD;exact yR h []
theorem QD {B:Int}{c:Int}{A:Int}{r:Bool}(h:QY B c A=some r):Sound prog J0 146 [(false,[.int .i64 B]),(false,[.int .i64 c]),(false,[.int .i64 A])] [(false,[(false,.bool r)])]:=by
 refine fnk func146 rfl ?_;unfold QY at h;simp only[fnS,f146,Zk,go_sem,seval];refine yB h (λ_ h=>?_) λ_ h=>?_;iterate 2 (cases h;exact yD)
theorem Zsd {A:Int}{r:ByteArray}(h:ZhC A=some r):Sound prog J0 186 [(false,[.int .i64 A])] [(false,[(false,.str r)])]:=by
 refine fnk func186 rfl ?_;unfold ZhC at h;have a:Z9 ⟨#[32,33,61,32]⟩=true:=by decide
 have b:Z9 ⟨#[32,60,32]⟩=true:=by decide
 have c:Z9 ⟨#[32,61,32]⟩=true:=by decide
 have d:Z9 ⟨#[]⟩=true:=by decide
 simp only[fnS,f186,Zk,go_sem,seval,a,b,c,d];iterate 2 ((refine Ze h (λ_ h=>?_) λ_ h=>?_<;>try simp only[*,go_sem,seval]);cases h;simp only[*,go_sem,seval])
 cases h;exact yD
theorem XQ {a:List ByteArray}{b:ByteArray}{r:List ByteArray}(h:Qp a b=some r):Sound prog J0 204 [(false,[.sl 9 1 (A0 ZB a)]),(false,[.str b])] [(false,[(false,.sl 9 1 (A0 ZB r))])]:=by
 refine fnk func204 rfl ?_;unfold Qp at h;simp only[fnS,f204,Zk,go_sem,seval];refine Zh h (λi s st=>match s with|(d,e)=>IV [(0,yM (yV a)),(1,yM (.str b)),(5,.p false [.row 0]),(6,yM (.bool e)),(7,yL i)] [.row 9 1 (A0 ZB d) 2] st) [] [16] yF yD ?_ ?_;rintro _ _ ⟨d,e⟩ ⟨_,_,_⟩ _ f g l h _;simp only[go_sem,seval,Zc]at g;obtain ⟨⟨m,_,_,_,_⟩,_,c⟩:=g;subst c;have o:=WF.slotL l m (j:=0) rfl;have:=Zz f;have:=ZC f;have:=Zj (ZA f) o;simp only[*,go_sem,seval];refine yB h (λ_ h=>?_) λ_ h=>?_;obtain ⟨q,h⟩:=Zq h;try simp only[Nat.reduceLeDiff]at q
 simp only[*,go_sem,seval];exact yR h [321];refine yB h (λ_ h=>?_) λ_ h=>?_;obtain ⟨t,h⟩:=Zq h;try simp only[Nat.reduceLeDiff]at t
 simp only[*,go_sem,seval];exact yR h [321];refine yB h (λ_ h=>?_) λ_ h=>?_;obtain ⟨u,h⟩:=Zq h;try simp only[Nat.reduceLeDiff]at u
 simp only[*,go_sem,seval];exact yR h [433];obtain ⟨v,h⟩:=Zq h;try simp only[Nat.reduceLeDiff]at v
 obtain ⟨w,h⟩:=Zq h;try simp only[Nat.reduceLeDiff]at w
 simp only[*,go_sem,seval];exact yR h [513];rintro ⟨d,e⟩ ⟨_,_,_⟩ k _ h;simp only[go_sem,seval,Zc]at k;obtain ⟨⟨_,_,_,_,_⟩,_,c⟩:=k;subst c;have:=Zx (a.length);simp only[*,go_sem,seval];refine yB h (λ_ h=>?_) λ_ h=>?_;cases h;exact yD;obtain ⟨x,h⟩:=Zq h;try simp only[Nat.reduceLeDiff]at x
 cases h;exact yD
theorem YK {c:List ByteArray}{A:ByteArray}{r:Bool}(h:ZX c A=some r):Sound prog J0 192 [(false,[.sl 9 1 (A0 ZB c)]),(false,[.str A])] [(false,[(false,.bool r)])]:=by
 refine fnk func192 rfl ?_;unfold ZX at h;simp only[fnS,f192,Zk,go_sem,seval];refine Zh h (λi _ st=>IV [(0,yM (yV c)),(1,yM (.str A)),(5,yL i)] [] st) [] [] yF yD ?_ ?_;rintro _ _ ⟨⟩ ⟨_,_,_⟩ _ a b e h f;simp only[go_sem,seval,Zc]at b;obtain ⟨⟨g,_,_⟩,B⟩:=b;subst B;have k:=WF.slotL e g (j:=0) rfl;have:=Zz a;have:=ZC a;have:=Zj (ZA a) k;simp only[*,go_sem,seval];refine yB h (λ_ h=>?_) λ_ h=>?_;replace h:=Zn h f;cases h;exact yD;exact yR h [];rintro ⟨⟩ ⟨_,_,_⟩ d _ h;simp only[go_sem,seval,Zc]at d;obtain ⟨⟨_,_,_⟩,B⟩:=d;subst B;have:=Zx (c.length);cases h;exact yD
theorem ZrN {c:List ByteArray}{r:List ByteArray}(h:Zf1 c=some r):Sound prog J0 80 [(false,[.sl 9 1 (A0 ZB c)])] [(false,[(false,.sl 9 1 (A0 ZB r))])]:=by
 refine fnk func80 rfl ?_;unfold Zf1 at h;simp only[fnS,f80,Zk,go_sem,seval];obtain ⟨_,h⟩:=Zq h;cases h;exact yD
theorem Znl {A:ByteArray}{c:ByteArray}{r:Int}(h:Zim A c=some r):Sound prog J0 107 [(false,[.str A]),(false,[.str c])] [(false,[(false,.int .i64 r)])]:=by
 refine fnk func107 rfl ?_;unfold Zim at h;simp only[fnS,f107,Zk,go_sem,seval];refine yB h (λa h=>?_) λa h=>?_;cases h;exact yD;refine Ze h (λc2 h=>?_) (λc2 h=>?_);have b:=c2;try simp only[a,AG,AH]at b
 cases h;exact yD;have b:=c2;try simp only[a,AG,AH]at b
 cases h;exact yD
theorem Qb {c:ByteArray}{r:Bool}(h:QA c=some r):Sound prog J0 54 [(false,[.str c])] [(false,[(false,.bool r)])]:=by
 refine fnk func54 rfl ?_;unfold QA at h;simp only[fnS,f54,Zk,go_sem,seval];iterate 2 ((refine Ze h (λ_ h=>?_) λ_ h=>?_<;>try simp only[*,go_sem,seval]);cases h;simp only[*,go_sem,seval])
 refine Zh h (λi _ st=>IV [(0,yM (.str c)),(3,yL i)] [] st) [] [] yF yD ?_ ?_;rintro _ _ ⟨⟩ ⟨_,_,_⟩ _ b d f h a;simp only[go_sem,seval,Zc]at d;obtain ⟨⟨g,_⟩,A⟩:=d;subst A;have k:=WF.slotS f g (j:=0) rfl;have:=ZqO b;have:=ZzJ b;have:=Zj (ZvR b) k;simp only[*,go_sem,seval];iterate 2 refine yB h (λ_ h=>?_) λ_ h=>?_
 replace h:=Zn h a;cases h;exact yD;refine yB h (λ_ h=>?_) λ_ h=>?_;replace h:=Zn h a;cases h;exact yD;exact yR h [];iterate 2 refine yB h (λ_ h=>?_) λ_ h=>?_
 replace h:=Zn h a;cases h;exact yD;refine yB h (λ_ h=>?_) λ_ h=>?_;replace h:=Zn h a;cases h;exact yD;exact yR h [];exact yR h [];rintro ⟨⟩ ⟨_,_,_⟩ e _ h;simp only[go_sem,seval,Zc]at e;obtain ⟨⟨_,_⟩,A⟩:=e;subst A;have:=Zx (c.size);cases h;exact yD
theorem ZmT {c:List ByteArray}{A:List ByteArray}{r:Bool}(h:Zc6 c A=some r):Sound prog J0 93 [(false,[.sl 9 1 (A0 ZB c)]),(false,[.sl 9 1 (A0 ZB A)])] [(false,[(false,.bool r)])]:=by
 refine fnk func93 rfl ?_;unfold Zc6 at h;simp only[fnS,f93,Zk,go_sem,seval];refine yB h (λ_ h=>?_) λ_ h=>?_;cases h;exact yD;refine Zh h (λi _ st=>IV [(0,yM (yV c)),(1,yM (yV A)),(12,yL c.length),(13,yL i)] [] st) [] [] yF yD ?_ ?_;rintro _ _ ⟨⟩ ⟨_,_,_⟩ _ a b e h f;simp only[go_sem,seval,Zc]at b;obtain ⟨⟨g,_,_,_⟩,B⟩:=b;subst B;have k:=WF.slotL e g (j:=0) rfl;have:=Zz a;have:=ZC a;have:=Zj (ZA a) k;obtain ⟨_,_,_,l,h⟩:=ZaV h;simp only[A5]at l;simp only[*,go_sem,seval];refine yB h (λ_ h=>?_) λ_ h=>?_;exact yR h [];replace h:=Zn h f;cases h;exact yD;rintro ⟨⟩ ⟨_,_,_⟩ d _ h;simp only[go_sem,seval,Zc]at d;obtain ⟨⟨_,_,_,_⟩,B⟩:=d;subst B;have:=Zx (c.length);cases h;exact yD
theorem Zea {c:List ByteArray}{r:List ByteArray}(h:Zav c=some r):Sound prog J0 61 [(false,[.sl 9 1 (A0 ZB c)])] [(false,[(false,.sl 9 1 (A0 ZB r))])]:=by
 refine fnk func61 rfl ?_;unfold Zav at h;simp only[fnS,f61,Zk,go_sem,seval];obtain ⟨_,h⟩:=Zq h;cases h;exact yD
theorem ZaT {c:Zv}{r:Bool}(h:Xt c=some r):Sound prog J0 130 [(true,Q4 c)] [(false,[(false,.bool r)])]:=by
 refine fnk func130 rfl ?_;unfold Xt at h;have a:Z9 ⟨#[]⟩=true:=by decide
 simp only[fnS,f130,Zk,go_sem,seval,a];refine yB h (λ_ h=>?_) λ_ h=>?_;iterate 2 (cases h;exact yD)
theorem Zep {c:List Zs}{r:List Zs}(h:QI c=some r):Sound prog J0 155 [(false,[.sl 194 2 (A0 ePair c)])] [(false,[(false,.sl 194 2 (A0 ePair r))])]:=by
 refine fnk func155 rfl ?_;unfold QI at h;simp only[fnS,f155,Zk,go_sem,seval];obtain ⟨_,h⟩:=Zq h;cases h;exact yD
theorem ZnC {c:Int}{r:ByteArray}(h:ZbB c=some r):Sound prog J0 178 [(false,[.int .i64 c])] [(false,[(false,.str r)])]:=by
 refine fnk func178 rfl ?_;unfold ZbB at h;have a:Z9 ⟨#[]⟩=true:=by decide
 simp only[fnS,f178,Zk,go_sem,seval,a];refine Zb h λ_ b h=>Za (Zxk b) ?_;cases h;exact yD
theorem ZfO {c:Zf}{r:List Zp}(h:Y1 c=some r):Sound prog J0 70 [(true,eRule c)] [(false,[(true,.sl 134 5 (A0 ZO r))])]:=by
 refine fnk func70 rfl ?_;unfold Y1 at h;simp only[fnS,f70,Zk,go_sem,seval];refine Zh h (λi a st=>IV [(3,.p false [.row 0]),(7,yM (yY c.cond)),(8,yL c.cond.length),(9,yL i)] [.row 134 5 (A0 ZO a) 1] st) [(false,3,0),(true,112,1)] [112] yF yD ?_ ?_;rintro _ _ a ⟨_,_,_⟩ _ b d f h _;simp only[go_sem,seval,Zc]at d;obtain ⟨⟨_,g,_,_⟩,_,A⟩:=d;subst A;have k:=WF.slotL f g (j:=0) rfl;have:=Zz b;have:=ZC b;have:=Zj (ZA b) k;simp only[*,go_sem,seval];refine yB h (λ_ h=>?_) λ_ h=>?_;obtain ⟨l,h⟩:=Zq h;try simp only[Nat.reduceLeDiff]at l
 simp only[*,go_sem,seval];exact yR h [177];exact yR h [0];rintro a ⟨_,_,_⟩ e _ h;simp only[go_sem,seval,Zc]at e;obtain ⟨⟨_,_,_,_⟩,_,A⟩:=e;subst A;have:=Zx (c.cond.length);cases h;exact yD
theorem ZY {A:Int}{c:Int}{r:Int}(h:ZU A c=some r):Sound prog J0 96 [(false,[.int .i64 A]),(false,[.int .i64 c])] [(false,[(false,.int .i64 r)])]:=by
 refine fnk func96 rfl ?_;unfold ZU at h;simp only[fnS,f96,Zk,go_sem,seval];iterate 2 ((refine Ze h (λ_ h=>?_) λ_ h=>?_<;>try simp only[*,go_sem,seval]);cases h;simp only[*,go_sem,seval])
 cases h;exact yD
theorem QE {c:List ByteArray}{r:List ByteArray}(h:Yx c=some r):Sound prog J0 87 [(false,[.sl 9 1 (A0 ZB c)])] [(false,[(false,.sl 9 1 (A0 ZB r))])]:=by
 refine fnk func87 rfl ?_;unfold Yx at h;simp only[fnS,f87,Zk,go_sem,seval];obtain ⟨_,h⟩:=Zq h;simp only[*,go_sem,seval];obtain ⟨a,g,h⟩:=ZE h;refine Zan (ZkU g)<|yA ?_;refine Zh h (λi b st=>IV [(3,.p false [.row 0]),(4,.p false [.row 1]),(11,.p false [.row 0]),(12,yL a.length),(13,yL i)] [.row 9 1 (A0 ZB a) 2,.row 9 1 (A0 ZB b) 2] st) [(false,4,0)] [32,160] yF yD ?_ ?_;rintro _ _ b ⟨_,_,_⟩ _ d e j h _;simp only[go_sem,seval,Zc]at e;obtain ⟨⟨_,_,_,_,_⟩,k,_,A⟩:=e;subst A;have l:=WF.rowL j k;have:=Zz d;have:=ZC d;have:=Zj (ZA d) l;simp only[*,go_sem,seval];refine yB h (λ_ h=>?_) λ_ h=>?_;obtain ⟨m,h⟩:=Zq h;try simp only[Nat.reduceLeDiff]at m
 simp only[*,go_sem,seval];exact yR h [0,322];obtain ⟨_,h⟩:=Zq h;obtain ⟨_,_,h⟩:=ZE h;simp only[*,go_sem,seval];refine yB h (λ_ h=>?_) λ_ h=>?_;exact yR h [0,1];obtain ⟨o,h⟩:=Zq h;try simp only[Nat.reduceLeDiff]at o
 simp only[*,go_sem,seval];exact yR h [0,322];rintro b ⟨_,_,_⟩ f _ h;simp only[go_sem,seval,Zc]at f;obtain ⟨⟨_,_,_,_,_⟩,_,_,A⟩:=f;subst A;have:=Zx (a.length);cases h;exact yD
theorem ZaS {c:List ByteArray}{A:ByteArray}{r:Bool}(h:Xz c A=some r):Sound prog J0 86 [(false,[.sl 9 1 (A0 ZB c)]),(false,[.str A])] [(false,[(false,.bool r)])]:=by
 refine fnk func86 rfl ?_;unfold Xz at h;simp only[fnS,f86,Zk,go_sem,seval];refine Zh h (λi _ st=>IV [(1,yM (.str A)),(7,yM (yV c)),(8,yL c.length),(9,yL i)] [] st) [] [] yF yD ?_ ?_;rintro _ _ ⟨⟩ ⟨_,_,_⟩ _ a b e h f;simp only[go_sem,seval,Zc]at b;obtain ⟨⟨_,g,_,_⟩,B⟩:=b;subst B;have k:=WF.slotL e g (j:=0) rfl;have:=Zz a;have:=ZC a;have:=Zj (ZA a) k;simp only[*,go_sem,seval];refine yB h (λ_ h=>?_) λ_ h=>?_;replace h:=Zn h f;cases h;exact yD;exact yR h [];rintro ⟨⟩ ⟨_,_,_⟩ d _ h;simp only[go_sem,seval,Zc]at d;obtain ⟨⟨_,_,_,_⟩,B⟩:=d;subst B;have:=Zx (c.length);cases h;exact yD
theorem Zfe {A:List Zf}{c:ByteArray}{r:Int}(h:XG A c=some r):Sound prog J0 45 [(false,[.sl 76 4 (A0 eRule A)]),(false,[.str c])] [(false,[(false,.int .i64 r)])]:=by
 refine fnk func45 rfl ?_;unfold XG at h;simp only[fnS,f45,Zk,go_sem,seval];refine Zh h (λi _ st=>IV [(1,yM (.str c)),(7,yM (yW A)),(8,yL A.length),(9,yL i)] [] st) [] [] yF yD ?_ ?_;rintro _ _ ⟨⟩ ⟨_,_,_⟩ _ a b e h f;simp only[go_sem,seval,Zc]at b;obtain ⟨⟨_,g,_,_⟩,B⟩:=b;subst B;have k:=WF.slotL e g (j:=0) rfl;have:=Zz a;have:=ZC a;have:=Zj (ZA a) k;simp only[*,go_sem,seval];refine yB h (λ_ h=>?_) λ_ h=>?_;replace h:=Zn h f;cases h;exact yD;exact yR h [];rintro ⟨⟩ ⟨_,_,_⟩ d _ h;simp only[go_sem,seval,Zc]at d;obtain ⟨⟨_,_,_,_⟩,B⟩:=d;subst B;have:=Zx (A.length);cases h;exact yD
theorem Zpb {c:Zf}{r:Bool}(h:Zeb c=some r):Sound prog J0 198 [(true,eRule c)] [(false,[(false,.bool r)])]:=by
 refine fnk func198 rfl ?_;unfold Zeb at h;simp only[fnS,f198,Zk,go_sem,seval];refine Zh h (λi _ st=>IV [(6,yM (zA c.thn)),(7,yL c.thn.length),(8,yL i)] [] st) [] [] yF yD ?_ ?_;rintro _ _ ⟨⟩ ⟨_,_,_⟩ _ a b e h f;simp only[go_sem,seval,Zc]at b;obtain ⟨⟨g,_,_⟩,A⟩:=b;subst A;have k:=WF.slotL e g (j:=0) rfl;have:=Zz a;have:=ZC a;have:=Zj (ZA a) k;simp only[*,go_sem,seval];refine yB h (λ_ h=>?_) λ_ h=>?_;replace h:=Zn h f;cases h;exact yD;exact yR h [];rintro ⟨⟩ ⟨_,_,_⟩ d _ h;simp only[go_sem,seval,Zc]at d;obtain ⟨⟨_,_,_⟩,A⟩:=d;subst A;have:=Zx (c.thn.length);cases h;exact yD
theorem Zst {c:List Int}{A:Int}{r:Bool}(h:ZhJ c A=some r):Sound prog J0 114 [(false,[.sl 3 1 (A0 ZH c)]),(false,[.int .i64 A])] [(false,[(false,.bool r)])]:=by
 refine fnk func114 rfl ?_;unfold ZhJ at h;simp only[fnS,f114,Zk,go_sem,seval];refine Zh h (λi _ st=>IV [(1,yM (.int .i64 A)),(7,yM (yX c)),(8,yL c.length),(9,yL i)] [] st) [] [] yF yD ?_ ?_;rintro _ _ ⟨⟩ ⟨_,_,_⟩ _ a b e h f;simp only[go_sem,seval,Zc]at b;obtain ⟨⟨_,g,_,_⟩,B⟩:=b;subst B;have k:=WF.slotL e g (j:=0) rfl;have:=Zz a;have:=ZC a;have:=Zj (ZA a) k;simp only[*,go_sem,seval];refine yB h (λ_ h=>?_) λ_ h=>?_;replace h:=Zn h f;cases h;exact yD;exact yR h [];rintro ⟨⟩ ⟨_,_,_⟩ d _ h;simp only[go_sem,seval,Zc]at d;obtain ⟨⟨_,_,_,_⟩,B⟩:=d;subst B;have:=Zx (c.length);cases h;exact yD
theorem ZcW {c:List Int}{A:List Int}{r:Bool}(h:Qg c A=some r):Sound prog J0 92 [(false,[.sl 3 1 (A0 ZH c)]),(false,[.sl 3 1 (A0 ZH A)])] [(false,[(false,.bool r)])]:=by
 refine fnk func92 rfl ?_;unfold Qg at h;simp only[fnS,f92,Zk,go_sem,seval];refine yB h (λ_ h=>?_) λ_ h=>?_;cases h;exact yD;refine Zh h (λi _ st=>IV [(0,yM (yX c)),(1,yM (yX A)),(12,yL c.length),(13,yL i)] [] st) [] [] yF yD ?_ ?_;rintro _ _ ⟨⟩ ⟨_,_,_⟩ _ a b e h f;simp only[go_sem,seval,Zc]at b;obtain ⟨⟨g,_,_,_⟩,B⟩:=b;subst B;have k:=WF.slotL e g (j:=0) rfl;have:=Zz a;have:=ZC a;have:=Zj (ZA a) k;obtain ⟨_,_,_,l,h⟩:=ZaV h;simp only[A5]at l;simp only[*,go_sem,seval];refine yB h (λ_ h=>?_) λ_ h=>?_;replace h:=Zn h f;cases h;exact yD;exact yR h [];rintro ⟨⟩ ⟨_,_,_⟩ d _ h;simp only[go_sem,seval,Zc]at d;obtain ⟨⟨_,_,_,_⟩,B⟩:=d;subst B;have:=Zx (c.length);cases h;exact yD
end
section
theorem ZtJ {a:Zu}{r:List Int}(h:Zhh a=some r):Sound prog J0 117 [(true,QF a)] [(false,[(false,.sl 3 1 (A0 ZH r))])]:=by
 refine fnk func117 rfl ?_;unfold Zhh at h;simp only[fnS,f117,Zk,go_sem,seval];obtain ⟨_,h⟩:=Zq h;simp only[*,go_sem,seval];refine Yr h (λs st=>match s with|(q,t)=>IV [(1,.bp 0 0),(3,.p false [.row 1]),(4,yM (.bool t))] [.box 52 [.c (.int .i64 a.nodes),.c (zC a.reasons)],.row 3 1 (A0 ZH q) 2] st) [] [0,64] yF yD ?_;rintro ⟨q,t⟩ ⟨_,_,_⟩ _ u _ h C;simp only[go_sem,seval,Zc]at u;obtain ⟨⟨_,_,_⟩,_,_,M⟩:=u;subst M;simp only[*,go_sem,seval];refine yB h (λ_ h=>?_) λ_ h=>?_;refine Zh h (λi s st=>match s with|(e,f)=>IV [(1,.bp 0 0),(3,.p false [.row 1]),(4,yM (.bool f)),(17,yM (zC a.reasons)),(18,yL a.reasons.length),(19,yL i)] [.box 52 [.c (.int .i64 a.nodes),.c (zC a.reasons)],.row 3 1 (A0 ZH e) 2] st) [] [0,1] yF yD ?_ ?_;rintro v d ⟨e,f⟩ ⟨_,_,_⟩ _ g w D h _;simp only[go_sem,seval,Zc]at w;obtain ⟨⟨_,_,_,E,_,_⟩,_,_,M⟩:=w;subst M;have F:=WF.slotL D E (j:=0) rfl;have:=Zz g
 have:=ZC g;have:=Zj (ZA g) F;obtain ⟨_,h⟩:=Zq h;obtain ⟨_,_,h⟩:=ZE h;simp only[*,go_sem,seval];refine Zh h (λi k st=>IV [(1,.bp 0 0),(3,.p false [.row 1]),(4,yM (.bool f)),(6,.bp 2 0),(7,yM (.int .i64 k)),(17,yM (zC a.reasons)),(18,yL a.reasons.length),(19,yL v),(29,yM (yX d.inn)),(30,yL d.inn.length),(31,yL i)] [.box 52 [.c (.int .i64 a.nodes),.c (zC a.reasons)],.row 3 1 (A0 ZH e) 2,zI 125 (eReason d)] st) [] [0,1,50] yF yD ?_ ?_;rintro _ _ k ⟨_,_,_⟩ _ l x G h _;simp only[go_sem,seval,Zc]at x;obtain ⟨⟨_,_,_,_,_,_,_,_,H,_,_⟩,_,_,_,M⟩:=x;subst M;have I:=WF.slotL G H (j:=0) rfl;have:=Zz l;have:=ZC l;have:=Zj (ZA l) I;obtain ⟨_,h⟩:=Zq h;obtain ⟨_,_,h⟩:=ZE h;simp only[*,go_sem,seval];exact yR h [0,1,2];rintro k ⟨_,_,_⟩ y _ h;simp only[go_sem,seval,Zc]at y;obtain ⟨⟨_,_,_,_,_,_,_,_,_,_,_⟩,_,_,_,M⟩:=y;subst M;have:=Zx (d.inn.length);simp only[*,go_sem,seval]
 refine Zh h (λi m st=>IV [(1,.bp 0 0),(3,.p false [.row 1]),(4,yM (.bool f)),(6,.bp 2 0),(7,yM (.int .i64 m)),(17,yM (zC a.reasons)),(18,yL a.reasons.length),(19,yL v),(43,yM (yX d.outs)),(44,yL d.outs.length),(45,yL i)] [.box 52 [.c (.int .i64 a.nodes),.c (zC a.reasons)],.row 3 1 (A0 ZH e) 2,zI 125 (eReason d)] st) [] [0,1,2] yF yD ?_ ?_;rintro _ _ m ⟨_,_,_⟩ _ o z J h _;simp only[go_sem,seval,Zc]at z;obtain ⟨⟨_,_,_,_,_,_,_,_,K,_,_⟩,_,_,_,M⟩:=z;subst M;have L:=WF.slotL J K (j:=0) rfl;have:=Zz o;have:=ZC o;have:=Zj (ZA o) L;obtain ⟨_,h⟩:=Zq h;obtain ⟨_,_,h⟩:=ZE h;simp only[*,go_sem,seval];exact yR h [0,1,2];rintro m ⟨_,_,_⟩ A _ h;simp only[go_sem,seval,Zc]at A;obtain ⟨⟨_,_,_,_,_,_,_,_,_,_,_⟩,_,_,_,M⟩:=A;subst M;have:=Zx (d.outs.length);simp only[*,go_sem,seval];refine yB h (λ_ h=>?_) λ_ h=>?_;exact yR h [0,1];exact yR h [0,1];rintro ⟨e,f⟩ ⟨_,_,_⟩ B _ h
 simp only[go_sem,seval,Zc]at B;obtain ⟨⟨_,_,_,_,_,_⟩,_,_,M⟩:=B;subst M;have:=Zx (a.reasons.length);simp only[*,go_sem,seval];exact yR h [0,1];replace h:=Zn h C;cases h;exact yD
theorem Znu {B:Zg}{c:List Int}{A:Int}{r:Bool}(h:ZbD B c A=some r):Sound prog J0 118 [(true,eReason B),(false,[.sl 3 1 (A0 ZH c)]),(false,[.int .i64 A])] [(false,[(false,.bool r)])]:=by
 refine fnk func118 rfl ?_;unfold ZbD at h;simp only[fnS,f118,Zk,go_sem,seval];refine Zh h (λi _ st=>IV [(1,yM (yX c)),(2,yM (.int .i64 A)),(3,.bp 0 0),(12,yM (yX B.inn)),(13,yL B.inn.length),(14,yL i)] [zI 125 (eReason B)] st) [] [0] yF yD ?_ ?_;rintro _ _ ⟨⟩ ⟨_,_,_⟩ _ a d l h e;simp only[go_sem,seval,Zc]at d;obtain ⟨⟨_,_,_,m,_,_⟩,_,C⟩:=d;subst C;have o:=WF.slotL l m (j:=0) rfl;have:=Zz a;have:=ZC a;have:=Zj (ZA a) o;obtain ⟨_,_,_,_,h⟩:=ZaV h;simp only[*,go_sem,seval];refine yB h (λ_ h=>?_) λ_ h=>?_;replace h:=Zn h e;cases h;exact yD;refine yB h (λ_ h=>?_) λ_ h=>?_;replace h:=Zn h e;cases h;exact yD;exact yR h [0];rintro ⟨⟩ ⟨_,_,_⟩ f _ h;simp only[go_sem,seval,Zc]at f;obtain ⟨⟨_,_,_,_,_,_⟩,_,C⟩:=f;subst C;have:=Zx (B.inn.length);simp only[*,go_sem,seval]
 refine Zh h (λi _ st=>IV [(1,yM (yX c)),(33,yM (yX B.outs)),(34,yL B.outs.length),(35,yL i)] [] st) [] [] yF yD ?_ ?_;rintro _ _ ⟨⟩ ⟨_,_,_⟩ _ b g q h t;simp only[go_sem,seval,Zc]at g;obtain ⟨⟨_,u,_,_⟩,C⟩:=g;subst C;have v:=WF.slotL q u (j:=0) rfl;have:=Zz b;have:=ZC b;have:=Zj (ZA b) v;obtain ⟨_,_,_,_,h⟩:=ZaV h;simp only[*,go_sem,seval];refine yB h (λ_ h=>?_) λ_ h=>?_;replace h:=Zn h t;cases h;exact yD;exact yR h [];rintro ⟨⟩ ⟨_,_,_⟩ k _ h;simp only[go_sem,seval,Zc]at k;obtain ⟨⟨_,_,_,_⟩,C⟩:=k;subst C;have:=Zx (B.outs.length);cases h;exact yD
theorem Zlh {c:List ByteArray}{A:List ByteArray}{r:Bool}(h:Zfp c A=some r):Sound prog J0 63 [(false,[.sl 9 1 (A0 ZB c)]),(false,[.sl 9 1 (A0 ZB A)])] [(false,[(false,.bool r)])]:=by
 refine fnk func63 rfl ?_;unfold Zfp at h;simp only[fnS,f63,Zk,go_sem,seval];refine yB h (λ_ h=>?_) λ_ h=>?_;cases h;exact yD;refine Zh h (λi _ st=>IV [(0,yM (yV c)),(1,yM (yV A)),(5,yL i)] [] st) [] [] yF yD ?_ ?_;rintro _ _ ⟨⟩ ⟨_,_,_⟩ _ a b e h f;simp only[go_sem,seval,Zc]at b;obtain ⟨⟨g,_,_⟩,B⟩:=b;subst B;have k:=WF.slotL e g (j:=0) rfl;have:=Zz a;have:=ZC a;have:=Zj (ZA a) k;obtain ⟨_,_,_,l,h⟩:=ZaV h;simp only[A5]at l;simp only[*,go_sem,seval];refine yB h (λ_ h=>?_) λ_ h=>?_;exact yR h [];replace h:=Zn h f;cases h;exact yD;rintro ⟨⟩ ⟨_,_,_⟩ d _ h;simp only[go_sem,seval,Zc]at d;obtain ⟨⟨_,_,_⟩,B⟩:=d;subst B;have:=Zx (c.length);cases h;exact yD
theorem ZhL {c:List Zs}{r:List Zs}(h:Zc9 c=some r):Sound prog J0 212 [(false,[.sl 194 2 (A0 ePair c)])] [(false,[(false,.sl 194 2 (A0 ePair r))])]:=by
 refine fnk func212 rfl ?_;unfold Zc9 at h;simp only[fnS,f212,Zk,go_sem,seval];obtain ⟨_,h⟩:=Zq h;cases h;exact yD
theorem Zus {a:List Zs}{b:ByteArray}{d:ByteArray}{r:List Zs}(h:Zky a b d=some r):Sound prog J0 246 [(false,[.sl 194 2 (A0 ePair a)]),(false,[.str b]),(false,[.str d])] [(false,[(false,.sl 194 2 (A0 ePair r))])]:=by
 refine fnk func246 rfl ?_;unfold Zky at h;simp only[fnS,f246,Zk,go_sem,seval];refine Zh h (λi s st=>match s with|(e,f)=>IV [(0,yM (yZ a)),(1,yM (.str b)),(2,yM (.str d)),(7,.p false [.row 0]),(8,yM (.bool f)),(9,yL i)] [.row 194 2 (A0 ePair e) 2] st) [] [16] yF yD ?_ ?_;rintro _ _ ⟨e,f⟩ ⟨_,_,_⟩ _ g l o h _;simp only[go_sem,seval,Zc]at l;obtain ⟨⟨q,_,_,_,_,_⟩,_,c⟩:=l;subst c;have t:=WF.slotL o q (j:=0) rfl;have:=Zz g;have:=ZC g;have:=Zj (ZA g) t;simp only[*,go_sem,seval];refine yB h (λ_ h=>?_) λ_ h=>?_;obtain ⟨u,h⟩:=Zq h;try simp only[Nat.reduceLeDiff]at u
 simp only[*,go_sem,seval];exact yR h [337];refine Ze h (λk h=>?_) (λk h=>?_);have v:=k;obtain ⟨w,h⟩:=Zq h;try simp only[Nat.reduceLeDiff]at w
 simp only[*,go_sem,seval];exact yR h [337];have v:=k;obtain ⟨x,h⟩:=Zq h;try simp only[Nat.reduceLeDiff]at x
 obtain ⟨y,h⟩:=Zq h;try simp only[Nat.reduceLeDiff]at y
 simp only[*,go_sem,seval];exact yR h [465];rintro ⟨e,f⟩ ⟨_,_,_⟩ m _ h;simp only[go_sem,seval,Zc]at m;obtain ⟨⟨_,_,_,_,_,_⟩,_,c⟩:=m;subst c;have:=Zx (a.length);simp only[*,go_sem,seval];refine yB h (λ_ h=>?_) λ_ h=>?_;cases h;exact yD;obtain ⟨z,h⟩:=Zq h;try simp only[Nat.reduceLeDiff]at z
 cases h;exact yD
theorem s_l14Positive_ok {c:Zf}{r:List Zp}(h:Qf c=some r):Sound prog J0 76 [(true,eRule c)] [(false,[(true,.sl 134 5 (A0 ZO r))])]:=by
 refine fnk func76 rfl ?_;unfold Qf at h;simp only[fnS,f76,Zk,go_sem,seval];refine Zh h (λi a st=>IV [(1,.bp 0 0),(3,.p false [.row 1]),(4,yL i)] [zI 76 (eRule c),.row 134 5 (A0 ZO a) 1] st) [(true,32,1)] [0,32] yF yD ?_ ?_;rintro _ _ a ⟨_,_,_⟩ _ b d f h _;simp only[go_sem,seval,Zc]at d;obtain ⟨⟨_,_,_⟩,g,_,A⟩:=d;subst A;have k:=WF.boxL f g (j:=2) rfl;have:=Zz b;have:=ZC b;have:=Zj (ZA b) k;simp only[*,go_sem,seval];refine yB h (λ_ h=>?_) λ_ h=>?_;obtain ⟨l,h⟩:=Zq h;try simp only[Nat.reduceLeDiff]at l
 simp only[*,go_sem,seval];exact yR h [0,306];exact yR h [0,1];rintro a ⟨_,_,_⟩ e _ h;simp only[go_sem,seval,Zc]at e;obtain ⟨⟨_,_,_⟩,_,_,A⟩:=e;subst A;have:=Zx (c.cond.length);cases h;exact yD
theorem ZoO {A:List Zf}{c:ByteArray}{r:Int}(h:Zgn A c=some r):Sound prog J0 206 [(false,[.sl 76 4 (A0 eRule A)]),(false,[.str c])] [(false,[(false,.int .i64 r)])]:=by
 refine fnk func206 rfl ?_;unfold Zgn at h;simp only[fnS,f206,Zk,go_sem,seval];refine Zh h (λi _ st=>IV [(0,yM (yW A)),(1,yM (.str c)),(5,yL i)] [] st) [] [] yF yD ?_ ?_;rintro _ _ ⟨⟩ ⟨_,_,_⟩ _ a b e h f;simp only[go_sem,seval,Zc]at b;obtain ⟨⟨g,_,_⟩,B⟩:=b;subst B;have k:=WF.slotL e g (j:=0) rfl;have:=Zz a;have:=ZC a;have:=Zj (ZA a) k;simp only[*,go_sem,seval];refine yB h (λ_ h=>?_) λ_ h=>?_;replace h:=Zn h f;cases h;exact yD;exact yR h [];rintro ⟨⟩ ⟨_,_,_⟩ d _ h;simp only[go_sem,seval,Zc]at d;obtain ⟨⟨_,_,_⟩,B⟩:=d;subst B;have:=Zx (A.length);cases h;exact yD
theorem Ztb {a:List Int}{b:Int}{r:List Int}(h:Zhm a b=some r):Sound prog J0 169 [(false,[.sl 3 1 (A0 ZH a)]),(false,[.int .i64 b])] [(false,[(false,.sl 3 1 (A0 ZH r))])]:=by
 refine fnk func169 rfl ?_;unfold Zhm at h;simp only[fnS,f169,Zk,go_sem,seval];refine Zh h (λi s st=>match s with|(d,e)=>IV [(0,yM (yX a)),(1,yM (.int .i64 b)),(5,.p false [.row 0]),(6,yM (.bool e)),(7,yL i)] [.row 3 1 (A0 ZH d) 2] st) [] [16] yF yD ?_ ?_;rintro _ _ ⟨d,e⟩ ⟨_,_,_⟩ _ f k m h _;simp only[go_sem,seval,Zc]at k;obtain ⟨⟨o,_,_,_,_⟩,_,c⟩:=k;subst c;have q:=WF.slotL m o (j:=0) rfl;have:=Zz f;have:=ZC f;have:=Zj (ZA f) q;simp only[*,go_sem,seval];refine yB h (λ_ h=>?_) λ_ h=>?_;obtain ⟨t,h⟩:=Zq h;try simp only[Nat.reduceLeDiff]at t
 simp only[*,go_sem,seval];exact yR h [321];iterate 2 refine yB h (λ_ h=>?_) λ_ h=>?_
 obtain ⟨u,h⟩:=Zq h;try simp only[Nat.reduceLeDiff]at u
 obtain ⟨v,h⟩:=Zq h;try simp only[Nat.reduceLeDiff]at v
 simp only[*,go_sem,seval];exact yR h [513];obtain ⟨w,h⟩:=Zq h;try simp only[Nat.reduceLeDiff]at w
 simp only[*,go_sem,seval];exact yR h [433];obtain ⟨x,h⟩:=Zq h;try simp only[Nat.reduceLeDiff]at x
 simp only[*,go_sem,seval];exact yR h [321];rintro ⟨d,e⟩ ⟨_,_,_⟩ l _ h;simp only[go_sem,seval,Zc]at l;obtain ⟨⟨_,_,_,_,_⟩,_,c⟩:=l;subst c;have:=Zx (a.length);simp only[*,go_sem,seval];refine yB h (λ_ h=>?_) λ_ h=>?_;cases h;exact yD;obtain ⟨y,h⟩:=Zq h;try simp only[Nat.reduceLeDiff]at y
 cases h;exact yD
theorem ZgL {c:List Int}{A:List Int}{r:Bool}(h:Zb5 c A=some r):Sound prog J0 125 [(false,[.sl 3 1 (A0 ZH c)]),(false,[.sl 3 1 (A0 ZH A)])] [(false,[(false,.bool r)])]:=by
 refine fnk func125 rfl ?_;unfold Zb5 at h;simp only[fnS,f125,Zk,go_sem,seval];refine yB h (λ_ h=>?_) λ_ h=>?_;cases h;exact yD;refine Zh h (λi _ st=>IV [(0,yM (yX c)),(1,yM (yX A)),(5,yL i)] [] st) [] [] yF yD ?_ ?_;rintro _ _ ⟨⟩ ⟨_,_,_⟩ _ a b e h f;simp only[go_sem,seval,Zc]at b;obtain ⟨⟨g,_,_⟩,B⟩:=b;subst B;have k:=WF.slotL e g (j:=0) rfl;have:=Zz a;have:=ZC a;have:=Zj (ZA a) k;obtain ⟨_,_,_,l,h⟩:=ZaV h;simp only[A5]at l;simp only[*,go_sem,seval];refine yB h (λ_ h=>?_) λ_ h=>?_;replace h:=Zn h f;cases h;exact yD;exact yR h [];rintro ⟨⟩ ⟨_,_,_⟩ d _ h;simp only[go_sem,seval,Zc]at d;obtain ⟨⟨_,_,_⟩,B⟩:=d;subst B;have:=Zx (c.length);cases h;exact yD
theorem Zs3 {c:List Int}{r:List Int}(h:Zkb c=some r):Sound prog J0 215 [(false,[.sl 3 1 (A0 ZH c)])] [(false,[(false,.sl 3 1 (A0 ZH r))])]:=by
 refine fnk func215 rfl ?_;unfold Zkb at h;simp only[fnS,f215,Zk,go_sem,seval];obtain ⟨_,h⟩:=Zq h;cases h;exact yD
theorem ZnX {B:List Int}{c:List Int}{A:Int}{r:Bool}(h:Zdn B c A=some r):Sound prog J0 172 [(false,[.sl 3 1 (A0 ZH B)]),(false,[.sl 3 1 (A0 ZH c)]),(false,[.int .i64 A])] [(false,[(false,.bool r)])]:=by
 refine fnk func172 rfl ?_;unfold Zdn at h;simp only[fnS,f172,Zk,go_sem,seval];refine Zh h (λi _ st=>IV [(0,yM (yX B)),(1,yM (yX c)),(2,yM (.int .i64 A)),(7,yL i)] [] st) [] [] yF yD ?_ ?_;rintro _ _ ⟨⟩ ⟨_,_,_⟩ _ a b f h d;simp only[go_sem,seval,Zc]at b;obtain ⟨⟨g,_,_,_⟩,C⟩:=b;subst C;have k:=WF.slotL f g (j:=0) rfl;have:=Zz a;have:=ZC a;have:=Zj (ZA a) k;obtain ⟨_,_,_,_,h⟩:=ZaV h;simp only[*,go_sem,seval];refine yB h (λ_ h=>?_) λ_ h=>?_;replace h:=Zn h d;cases h;exact yD;refine yB h (λ_ h=>?_) λ_ h=>?_;replace h:=Zn h d;cases h;exact yD;exact yR h [];rintro ⟨⟩ ⟨_,_,_⟩ e _ h;simp only[go_sem,seval,Zc]at e;obtain ⟨⟨_,_,_,_⟩,C⟩:=e;subst C;have:=Zx (B.length);cases h;exact yD
theorem Zrg {A:List Int}{c:List Int}{r:Bool}(h:Zf6 A c=some r):Sound prog J0 173 [(false,[.sl 3 1 (A0 ZH A)]),(false,[.sl 3 1 (A0 ZH c)])] [(false,[(false,.bool r)])]:=by
 refine fnk func173 rfl ?_;unfold Zf6 at h;simp only[fnS,f173,Zk,go_sem,seval];refine Zh h (λi _ st=>IV [(0,yM (yX A)),(1,yM (yX c)),(5,yL i)] [] st) [] [] yF yD ?_ ?_;rintro _ _ ⟨⟩ ⟨_,_,_⟩ _ a b e h f;simp only[go_sem,seval,Zc]at b;obtain ⟨⟨g,_,_⟩,B⟩:=b;subst B;have k:=WF.slotL e g (j:=0) rfl;have:=Zz a;have:=ZC a;have:=Zj (ZA a) k;obtain ⟨_,_,_,_,h⟩:=ZaV h;simp only[*,go_sem,seval];refine yB h (λ_ h=>?_) λ_ h=>?_;replace h:=Zn h f;cases h;exact yD;exact yR h [];rintro ⟨⟩ ⟨_,_,_⟩ d _ h;simp only[go_sem,seval,Zc]at d;obtain ⟨⟨_,_,_⟩,B⟩:=d;subst B;have:=Zx (A.length);cases h;exact yD
theorem i_copyInts_ok {c:List Int}{r:List Int}(h:QU c=some r):Sound prog J0 47 [(false,[.sl 3 1 (A0 ZH c)])] [(false,[(false,.sl 3 1 (A0 ZH r))])]:=by
 refine fnk func47 rfl ?_;unfold QU at h;simp only[fnS,f47,Zk,go_sem,seval];obtain ⟨_,h⟩:=Zq h;cases h;exact yD
end
section
theorem s_l1Below_ok {B:l1CurD}{A:Int}{r:(Int×l1CurD)}(h:XZ B A=some r):SoundH prog J0 JF0 34 (.box 71 (el1Cur B)) [(false,[.int .i64 A])] [(false,[(false,.int .i64 r.1)])] (.box 71 (el1Cur r.2)):=by
 refine fnh func34 rfl ?_;unfold XZ at h;simp only[fnH,f34,ZeR,Zez,XY,go_sem,seval];refine yB h (λ_ h=>?_) λ_ h=>?_;cases h;exact yD;refine yB h (λ_ h=>?_) λ_ h=>?_;obtain ⟨_,a,h⟩:=ZE h;refine Zan (Ze0 a) ?_;obtain ⟨_,h⟩:=Zq h;cases h;exact yD;obtain ⟨_,b,h⟩:=ZE h;refine Zan (Ze0 b)<|yA ?_;obtain ⟨_,c,h⟩:=ZE h;refine Zan (Ze0 c)<|yA ?_;obtain ⟨_,d,h⟩:=ZE h;refine Zan (Ze0 d) ?_;obtain ⟨_,h⟩:=Zq h;cases h;exact yD
theorem ZcL {c:ByteArray}{r:(Int×Bool)}(h:Q3 c=some r):Sound prog J0 105 [(false,[.str c])] [(false,[(false,.int .i64 r.1)]),(false,[(false,.bool r.2)])]:=by
 refine fnk func105 rfl ?_;unfold Q3 at h;simp only[fnS,f105,Zk,go_sem,seval];refine Zb h λ_ g h=>Za (QD g)<|yA ?_;refine yB h (λ_ h=>?_) λ_ h=>?_;refine Zh h (λi a st=>IV [(0,yM (.str c)),(4,yM (.int .i64 a)),(5,yL i)] [] st) [] [] yF yD ?_ ?_;rintro _ _ a ⟨_,_,_⟩ _ b d k h e;simp only[go_sem,seval,Zc]at d;obtain ⟨⟨l,_,_⟩,A⟩:=d;subst A;have m:=WF.slotS k l (j:=0) rfl;have:=ZqO b;have:=ZzJ b;have:=Zj (ZvR b) m;simp only[*,go_sem,seval];refine yB h (λ_ h=>?_) λ_ h=>?_;replace h:=Zn h e;cases h;exact yD;refine yB h (λ_ h=>?_) λ_ h=>?_;replace h:=Zn h e;cases h;exact yD;exact yR h [];rintro a ⟨_,_,_⟩ f _ h;simp only[go_sem,seval,Zc]at f;obtain ⟨⟨_,_,_⟩,A⟩:=f;subst A;have:=Zx (c.size);simp only[*,go_sem,seval];refine Zb h λ_ o h=>Za (s_FormatInt_ok o)<|yA ?_;refine yB h (λ_ h=>?_) λ_ h=>?_;iterate 3 (cases h;exact yD)
theorem QL {c:ByteArray}{r:Bool}(h:Q5 c=some r):Sound prog J0 207 [(false,[.str c])] [(false,[(false,.bool r)])]:=by
 refine fnk func207 rfl ?_;unfold Q5 at h;simp only[fnS,f207,Zk,go_sem,seval];refine Zh h (λi _ st=>IV [(0,yM (.str c)),(3,yL i)] [] st) [] [] yF yD ?_ ?_;rintro _ _ ⟨⟩ ⟨_,_,_⟩ _ a b e h f;simp only[go_sem,seval,Zc]at b;obtain ⟨⟨g,_⟩,A⟩:=b;subst A;have k:=WF.slotS e g (j:=0) rfl;have:=ZqO a;have:=ZzJ a;have:=Zj (ZvR a) k;simp only[*,go_sem,seval];refine Zb h λ_ l h=>Za (QD l)<|yA ?_;refine yB h (λ_ h=>?_) λ_ h=>?_;exact yR h [];refine Zb h λ_ m h=>Za (QD m)<|yA ?_;refine yB h (λ_ h=>?_) λ_ h=>?_;exact yR h [];replace h:=Zn h f;cases h;exact yD;rintro ⟨⟩ ⟨_,_,_⟩ d _ h;simp only[go_sem,seval,Zc]at d;obtain ⟨⟨_,_⟩,A⟩:=d;subst A;have:=Zx (c.size);simp only[*,go_sem,seval];refine Zb h λ_ o h=>Za (QD o) ?_;cases h;exact yD
theorem ZrG {A:ByteArray}{r:(ByteArray×(List ByteArray)×Bool)}(h:ZfK A=some r):Sound prog J0 233 [(false,[.str A])] [(false,[(false,.str r.1)]),(false,[(false,.sl 9 1 (A0 ZB r.2.1))]),(false,[(false,.bool r.2.2)])]:=by
 refine fnk func233 rfl ?_;unfold ZfK at h;have a:Z9 ⟨#[40]⟩=true:=by decide
 have b:Z9 ⟨#[44]⟩=true:=by decide
 have c:Z9 ⟨#[]⟩=true:=by decide
 simp only[fnS,f233,Zk,go_sem,seval,a,b,c];refine Zb h λ_ d h=>Za (QV d)<|yA ?_;refine yB h (λ_ h=>?_) λ_ h=>?_;cases h;exact yD;obtain ⟨_,h⟩:=Zq h;obtain ⟨_,e,h⟩:=ZE h;try simp only[seval]at e
 simp only[*,go_sem,seval];refine yB h (λ_ h=>?_) λ_ h=>?_;cases h;exact yD;obtain ⟨_,_,_,h⟩:=Ztg h;simp only[*,go_sem,seval];refine yB h (λ_ h=>?_) λ_ h=>?_;cases h;exact yD;obtain ⟨_,h⟩:=Zq h;simp only[*,go_sem,seval];refine yB h (λ_ h=>?_) λ_ h=>?_;obtain ⟨_,h⟩:=Zq h;obtain ⟨_,f,h⟩:=ZE h;try simp only[seval]at f
 cases h;exact yD;obtain ⟨_,h⟩:=Zq h;obtain ⟨_,g,h⟩:=ZE h;try simp only[seval]at g
 simp only[*,go_sem,seval];refine Zb h λ_ i h=>Za (QV i) ?_;cases h;exact yD
theorem Xw {c:Zd}{r:Zd}(h:XB c=some r):Sound prog J0 43 [(true,eFact c)] [(true,[(false,.str r.rel),(false,.sl 9 1 (A0 ZB r.args))])]:=by
 refine fnk func43 rfl ?_;unfold XB at h;simp only[fnS,f43,Zk,go_sem,seval];refine Zb h λ_ a h=>Za (ZrN a) ?_;cases h;exact yD
theorem Y5 {c:ByteArray}{r:Bool}(h:XP c=some r):Sound prog J0 53 [(false,[.str c])] [(false,[(false,.bool r)])]:=by
 refine fnk func53 rfl ?_;unfold XP at h;simp only[fnS,f53,Zk,go_sem,seval];refine Zb h λ_ a h=>Za (Qb a)<|yA ?_;refine yB h (λ_ h=>?_) λ_ h=>?_;obtain ⟨_,_,b,h⟩:=Ztg h;try simp only[seval]at b
 iterate 2 (cases h;exact yD)
theorem Zef {c:ByteArray}{r:Bool}(h:ZdN c=some r):Sound prog J0 133 [(false,[.str c])] [(false,[(false,.bool r)])]:=by
 refine fnk func133 rfl ?_;unfold ZdN at h;simp only[fnS,f133,Zk,go_sem,seval];refine yB h (λ_ h=>?_) λ_ h=>?_;obtain ⟨_,_,a,h⟩:=Ztg h;try simp only[seval]at a
 simp only[*,go_sem,seval];refine yB h (λ_ h=>?_) λ_ h=>?_;obtain ⟨_,h⟩:=Zq h;simp only[*,go_sem,seval];refine Zb h λ_ b h=>Za (Qb b) ?_;iterate 3 (cases h;exact yD)
theorem ZcR {A:Zd}{c:Zd}{r:Bool}(h:Xh A c=some r):Sound prog J0 55 [(true,eFact A),(true,eFact c)] [(false,[(false,.bool r)])]:=by
 refine fnk func55 rfl ?_;unfold Xh at h;simp only[fnS,f55,Zk,go_sem,seval];refine yB h (λ_ h=>?_) λ_ h=>?_;refine Zb h λ_ a h=>Za (ZmT a) ?_;iterate 2 (cases h;exact yD)
theorem Z7 {c:Zd}{r:Zd}(h:Yd c=some r):Sound prog J0 30 [(true,eFact c)] [(true,[(false,.str r.rel),(false,.sl 9 1 (A0 ZB r.args))])]:=by
 refine fnk func30 rfl ?_;unfold Yd at h;simp only[fnS,f30,Zk,go_sem,seval];refine Zb h λ_ a h=>Za (Zea a) ?_;cases h;exact yD
theorem ZcU {c:ByteArray}{r:(Int×Bool)}(h:Zar c=some r):Sound prog J0 137 [(false,[.str c])] [(false,[(false,.int .i64 r.1)]),(false,[(false,.bool r.2)])]:=by
 refine fnk func137 rfl ?_;unfold Zar at h;simp only[fnS,f137,Zk,go_sem,seval];iterate 2 ((refine Ze h (λ_ h=>?_) λ_ h=>?_<;>try simp only[*,go_sem,seval]);cases h;simp only[*,go_sem,seval])
 refine Zb h λ_ a h=>Za (ZxG a)<|yA ?_;iterate 2 refine yB h (λ_ h=>?_) λ_ h=>?_
 cases h;exact yD;refine yB h (λ_ h=>?_) λ_ h=>?_;cases h;exact yD;refine Zb h λ_ b h=>Za (ZnC b)<|yA ?_;refine yB h (λ_ h=>?_) λ_ h=>?_;iterate 3 (cases h;exact yD)
theorem ZrY {c:Zp}{r:List ByteArray}(h:Zie c=some r):Sound prog J0 174 [(true,ZO c)] [(false,[(false,.sl 9 1 (A0 ZB r))])]:=by
 refine fnk func174 rfl ?_;unfold Zie at h;simp only[fnS,f174,Zk,go_sem,seval];refine Zb h λ_ a h=>Za (Zea a) ?_;obtain ⟨b,h⟩:=Zq h;try simp only[Nat.reduceLeDiff]at b
 cases h;exact yD
theorem ZiP {c:Zf}{r:List ByteArray}(h:Q0 c=some r):Sound prog J0 152 [(true,eRule c)] [(false,[(false,.sl 9 1 (A0 ZB r))])]:=by
 refine fnk func152 rfl ?_;unfold Q0 at h;simp only[fnS,f152,Zk,go_sem,seval];refine Zh h (λi a st=>IV [(3,.p false [.row 0]),(7,yM (zA c.thn)),(8,yL c.thn.length),(9,yL i)] [.row 9 1 (A0 ZB a) 2] st) [(false,3,0)] [112] yF yD ?_ ?_;rintro _ _ a ⟨_,_,_⟩ _ b d f h _;simp only[go_sem,seval,Zc]at d;obtain ⟨⟨_,g,_,_⟩,_,A⟩:=d;subst A;have k:=WF.slotL f g (j:=0) rfl;have:=Zz b;have:=ZC b;have:=Zj (ZA b) k;simp only[*,go_sem,seval];refine yB h (λ_ h=>?_) λ_ h=>?_;obtain ⟨l,h⟩:=Zq h;try simp only[Nat.reduceLeDiff]at l
 simp only[*,go_sem,seval];exact yR h [289];refine yB h (λ_ h=>?_) λ_ h=>?_;obtain ⟨m,h⟩:=Zq h;try simp only[Nat.reduceLeDiff]at m
 simp only[*,go_sem,seval];exact yR h [289];exact yR h [0];rintro a ⟨_,_,_⟩ e _ h;simp only[go_sem,seval,Zc]at e;obtain ⟨⟨_,_,_,_⟩,_,A⟩:=e;subst A;have:=Zx (c.thn.length);simp only[*,go_sem,seval];refine Zb h λ_ o h=>Za (QE o) ?_;cases h;exact yD
theorem Zrb {c:Zf}{r:List ByteArray}(h:Zct c=some r):Sound prog J0 199 [(true,eRule c)] [(false,[(false,.sl 9 1 (A0 ZB r))])]:=by
 refine fnk func199 rfl ?_;unfold Zct at h;simp only[fnS,f199,Zk,go_sem,seval];refine Zh h (λi a st=>IV [(3,.p false [.row 0]),(7,yM (yY c.cond)),(8,yL c.cond.length),(9,yL i)] [.row 9 1 (A0 ZB a) 2] st) [(false,3,0)] [112] yF yD ?_ ?_;rintro _ _ a ⟨_,_,_⟩ _ b d f h _;simp only[go_sem,seval,Zc]at d;obtain ⟨⟨_,g,_,_⟩,_,A⟩:=d;subst A;have k:=WF.slotL f g (j:=0) rfl;have:=Zz b;have:=ZC b;have:=Zj (ZA b) k;simp only[*,go_sem,seval];refine yB h (λ_ h=>?_) λ_ h=>?_;obtain ⟨l,h⟩:=Zq h;try simp only[Nat.reduceLeDiff]at l
 simp only[*,go_sem,seval];exact yR h [289];refine yB h (λ_ h=>?_) λ_ h=>?_;obtain ⟨m,h⟩:=Zq h;try simp only[Nat.reduceLeDiff]at m
 simp only[*,go_sem,seval];exact yR h [289];exact yR h [0];rintro a ⟨_,_,_⟩ e _ h;simp only[go_sem,seval,Zc]at e;obtain ⟨⟨_,_,_,_⟩,_,A⟩:=e;subst A;have:=Zx (c.cond.length);simp only[*,go_sem,seval];refine Zb h λ_ o h=>Za (QE o) ?_;cases h;exact yD
theorem Zl0 {A:Zg}{c:Zg}{r:Bool}(h:Zb0 A c=some r):Sound prog J0 116 [(true,eReason A),(true,eReason c)] [(false,[(false,.bool r)])]:=by
 refine fnk func116 rfl ?_;unfold Zb0 at h;simp only[fnS,f116,Zk,go_sem,seval];refine yB h (λ_ h=>?_) λ_ h=>?_;refine Zb h λ_ a h=>Za (ZcW a)<|yA ?_;refine yB h (λ_ h=>?_) λ_ h=>?_;refine Zb h λ_ b h=>Za (ZcW b) ?_;iterate 3 (cases h;exact yD)
theorem ZsS {b:Zu}{r:List Int}(h:Zg7 b=some r):Sound prog J0 73 [(true,QF b)] [(false,[(false,.sl 3 1 (A0 ZH r))])]:=by
 refine fnk func73 rfl ?_;unfold Zg7 at h;simp only[fnS,f73,Zk,go_sem,seval];refine Zb h λf B h=>Za (ZtJ B) ?_;obtain ⟨_,h⟩:=Zq h;simp only[*,go_sem,seval];refine Yr h (λs st=>match s with|(t,u,e)=>IV [(1,.bp 0 0),(3,.p false [.row 1]),(4,.p false [.row 2]),(5,yM (.int .i64 e)),(20,yM (.int .i64 ((Int.toNat b.nodes:Nat):Int))),(21,yM (.int .i64 u))] [.box 52 [.c (.int .i64 b.nodes),.c (zC b.reasons)],.row 3 1 (A0 ZH f) 2,.row 3 1 (A0 ZH t) 2] st) [] [0,48,112] yF yD ?_;rintro ⟨t,u,e⟩ ⟨_,_,_⟩ _ v _ h C;simp only[go_sem,seval,Zc]at v;obtain ⟨⟨_,_,_,_,_,_⟩,_,_,_,M⟩:=v;subst M;simp only[*,go_sem,seval];refine yB h (λ_ h=>?_) λ_ h=>?_;obtain ⟨_,h⟩:=Zq h;obtain ⟨_,_,h⟩:=ZE h;obtain ⟨_,h⟩:=Zq h;obtain ⟨_,_,h⟩:=ZE h;simp only[*,go_sem,seval];exact yR h [0,1,2]
 refine Yr h (λs st=>match s with|(l,g,k)=>IV [(1,.bp 0 0),(3,.p false [.row 1]),(4,.p false [.row 2]),(5,yM (.int .i64 e)),(7,yM (.int .i64 g)),(8,yM (.int .i64 k))] [.box 52 [.c (.int .i64 b.nodes),.c (zC b.reasons)],.row 3 1 (A0 ZH f) 2,.row 3 1 (A0 ZH l) 2] st) [] [0,1,2] yF yD ?_;rintro ⟨l,g,k⟩ ⟨_,_,_⟩ _ w _ h D;simp only[go_sem,seval,Zc]at w;obtain ⟨⟨_,_,_,_,_,_⟩,_,_,_,M⟩:=w;subst M;simp only[*,go_sem,seval];refine yB h (λ_ h=>?_) λ_ h=>?_;refine Zh h (λi d st=>IV [(1,.bp 0 0),(3,.p false [.row 1]),(4,.p false [.row 2]),(5,yM (.int .i64 e)),(7,yM (.int .i64 g)),(8,yM (.int .i64 k)),(9,.p false [.row 3]),(38,yM (zC b.reasons)),(39,yL b.reasons.length),(40,yL i)] [.box 52 [.c (.int .i64 b.nodes),.c (zC b.reasons)],.row 3 1 (A0 ZH f) 2,.row 3 1 (A0 ZH l) 2,.row 3 1 (A0 ZH d) 2] st) [(false,9,0)] [0,1,2,131] yF yD ?_ ?_;rintro _ _ d ⟨_,_,_⟩ _ m x E h _
 simp only[go_sem,seval,Zc]at x;obtain ⟨⟨_,_,_,_,_,_,_,F,_,_⟩,_,_,_,_,M⟩:=x;subst M;have G:=WF.slotL E F (j:=0) rfl;have:=Zz m;have:=ZC m;have:=Zj (ZA m) G;obtain ⟨_,h⟩:=Zq h;obtain ⟨_,_,h⟩:=ZE h;simp only[*,go_sem,seval];refine yB h (λ_ h=>?_) λ_ h=>?_;obtain ⟨_,h⟩:=Zq h;obtain ⟨_,_,h⟩:=ZE h;simp only[*,go_sem,seval];refine yB h (λ_ h=>?_) λ_ h=>?_;refine Zb h λ_ H h=>Za (Znu H)<|yA ?_;refine yB h (λ_ h=>?_) λ_ h=>?_;obtain ⟨I,h⟩:=Zq h;try simp only[Nat.reduceLeDiff]at I
 simp only[*,go_sem,seval];exact yR h [0,1,2,484];exact yR h [0,1,2,3];exact yR h [0,1,2,3];exact yR h [0,1,2,3];rintro d ⟨_,_,_⟩ y _ h;simp only[go_sem,seval,Zc]at y;obtain ⟨⟨_,_,_,_,_,_,_,_,_,_⟩,_,_,_,_,M⟩:=y;subst M;have:=Zx (b.reasons.length);simp only[*,go_sem,seval];refine yB h (λ_ h=>?_) λ_ h=>?_;exact yR h [0,1,2];refine Zh h (λi o st=>IV [(1,.bp 0 0),(3,.p false [.row 1]),(4,.p false [.row 2]),(5,yM (.int .i64 e)),(7,yM (.int .i64 g)),(8,yM (.int .i64 k)),(76,.p false [.row 3]),(77,yL d.length),(78,yL i)] [.box 52 [.c (.int .i64 b.nodes),.c (zC b.reasons)],.row 3 1 (A0 ZH f) 2,.row 3 1 (A0 ZH o) 2,.row 3 1 (A0 ZH d) 2] st) [] [0,1,2,3] yF yD ?_ ?_;rintro _ _ o ⟨_,_,_⟩ _ q z J h _;simp only[go_sem,seval,Zc]at z;obtain ⟨⟨_,_,_,_,_,_,_,_,_⟩,_,_,_,K,M⟩:=z;subst M;have L:=WF.rowL J K;have:=Zz q;have:=ZC q;have:=Zj (ZA q) L;obtain ⟨_,h⟩:=Zq h;obtain ⟨_,_,h⟩:=ZE h
 simp only[*,go_sem,seval];exact yR h [0,1,2,3];rintro o ⟨_,_,_⟩ A _ h;simp only[go_sem,seval,Zc]at A;obtain ⟨⟨_,_,_,_,_,_,_,_,_⟩,_,_,_,_,M⟩:=A;subst M;have:=Zx (d.length);simp only[*,go_sem,seval];exact yR h [0,1,2];replace h:=Zn h D;replace h:=Zn h C;cases h;exact yD
theorem ZlB {A:Zd}{c:Zd}{r:Bool}(h:ZhI A c=some r):Sound prog J0 33 [(true,eFact A),(true,eFact c)] [(false,[(false,.bool r)])]:=by
 refine fnk func33 rfl ?_;unfold ZhI at h;simp only[fnS,f33,Zk,go_sem,seval];refine yB h (λ_ h=>?_) λ_ h=>?_;refine Zb h λ_ a h=>Za (Zlh a) ?_;iterate 2 (cases h;exact yD)
theorem Zpc {c:List ByteArray}{A:List ByteArray}{r:Bool}(h:ZeB c A=some r):Sound prog J0 203 [(false,[.sl 9 1 (A0 ZB c)]),(false,[.sl 9 1 (A0 ZB A)])] [(false,[(false,.bool r)])]:=by
 refine fnk func203 rfl ?_;unfold ZeB at h;simp only[fnS,f203,Zk,go_sem,seval];refine Zh h (λi _ st=>IV [(0,yM (yV c)),(1,yM (yV A)),(5,yL i)] [] st) [] [] yF yD ?_ ?_;rintro _ _ ⟨⟩ ⟨_,_,_⟩ _ a b e h f;simp only[go_sem,seval,Zc]at b;obtain ⟨⟨g,_,_⟩,B⟩:=b;subst B;have k:=WF.slotL e g (j:=0) rfl;have:=Zz a;have:=ZC a;have:=Zj (ZA a) k;simp only[*,go_sem,seval];refine Zb h λ_ l h=>Za (YK l)<|yA ?_;refine yB h (λ_ h=>?_) λ_ h=>?_;exact yR h [];replace h:=Zn h f;cases h;exact yD;rintro ⟨⟩ ⟨_,_,_⟩ d _ h;simp only[go_sem,seval,Zc]at d;obtain ⟨⟨_,_,_⟩,B⟩:=d;subst B;have:=Zx (c.length);cases h;exact yD
theorem ZiL {c:Zf}{r:List ByteArray}(h:Zak c=some r):Sound prog J0 159 [(true,eRule c)] [(false,[(false,.sl 9 1 (A0 ZB r))])]:=by
 refine fnk func159 rfl ?_;unfold Zak at h;simp only[fnS,f159,Zk,go_sem,seval];refine Zh h (λi a st=>IV [(1,.bp 0 0),(3,.p false [.row 1]),(4,yL i)] [zI 76 (eRule c),.row 9 1 (A0 ZB a) 2] st) [] [0,32] yF yD ?_ ?_;rintro _ _ a ⟨_,_,_⟩ _ b d f h _;simp only[go_sem,seval,Zc]at d;obtain ⟨⟨_,_,_⟩,g,_,A⟩:=d;subst A;have k:=WF.boxL f g (j:=3) rfl;have:=Zz b;have:=ZC b;have:=Zj (ZA b) k;simp only[*,go_sem,seval];refine yB h (λ_ h=>?_) λ_ h=>?_;refine Zb h λ_ l h=>Za (XQ l)<|yA ?_;exact yR h [0,466];refine yB h (λ_ h=>?_) λ_ h=>?_;refine Zb h λ_ m h=>Za (XQ m)<|yA ?_;exact yR h [0,466];exact yR h [0,1];rintro a ⟨_,_,_⟩ e _ h;simp only[go_sem,seval,Zc]at e;obtain ⟨⟨_,_,_⟩,_,_,A⟩:=e;subst A;have:=Zx (c.thn.length);cases h;exact yD
theorem ZqF {c:Zf}{r:List ByteArray}(h:Zcs c=some r):Sound prog J0 205 [(true,eRule c)] [(false,[(false,.sl 9 1 (A0 ZB r))])]:=by
 refine fnk func205 rfl ?_;unfold Zcs at h;simp only[fnS,f205,Zk,go_sem,seval];refine Zh h (λi a st=>IV [(1,.bp 0 0),(3,.p false [.row 1]),(4,yL i)] [zI 76 (eRule c),.row 9 1 (A0 ZB a) 2] st) [] [0,32] yF yD ?_ ?_;rintro _ _ a ⟨_,_,_⟩ _ b d f h _;simp only[go_sem,seval,Zc]at d;obtain ⟨⟨_,_,_⟩,g,_,A⟩:=d;subst A;have k:=WF.boxL f g (j:=2) rfl;have:=Zz b;have:=ZC b;have:=Zj (ZA b) k;simp only[*,go_sem,seval];refine yB h (λ_ h=>?_) λ_ h=>?_;refine Zb h λ_ l h=>Za (XQ l)<|yA ?_;exact yR h [0,466];refine yB h (λ_ h=>?_) λ_ h=>?_;refine Zb h λ_ m h=>Za (XQ m)<|yA ?_;exact yR h [0,466];exact yR h [0,1];rintro a ⟨_,_,_⟩ e _ h;simp only[go_sem,seval,Zc]at e;obtain ⟨⟨_,_,_⟩,_,_,A⟩:=e;subst A;have:=Zx (c.cond.length);cases h;exact yD
theorem s_l14Find_ok {c:List Zg}{A:Zg}{r:Int}(h:ZfC c A=some r):Sound prog J0 78 [(false,[.sl 125 3 (A0 eReason c)]),(true,eReason A)] [(false,[(false,.int .i64 r)])]:=by
 refine fnk func78 rfl ?_;unfold ZfC at h;simp only[fnS,f78,Zk,go_sem,seval];refine Zh h (λi _ st=>IV [(0,yM (zC c)),(3,.bp 0 0),(5,yL i)] [zI 125 (eReason A)] st) [] [0] yF yD ?_ ?_;rintro _ _ ⟨⟩ ⟨_,_,_⟩ _ a b e h f;simp only[go_sem,seval,Zc]at b;obtain ⟨⟨g,_,_⟩,_,B⟩:=b;subst B;have k:=WF.slotL e g (j:=0) rfl;have:=Zz a;have:=ZC a;have:=Zj (ZA a) k;simp only[*,go_sem,seval];refine yB h (λ_ h=>?_) λ_ h=>?_;refine Zb h λ_ l h=>Za (ZgL l)<|yA ?_;refine yB h (λ_ h=>?_) λ_ h=>?_;refine Zb h λ_ m h=>Za (ZgL m)<|yA ?_;refine yB h (λ_ h=>?_) λ_ h=>?_;replace h:=Zn h f;cases h;exact yD;exact yR h [0];exact yR h [0];exact yR h [0];rintro ⟨⟩ ⟨_,_,_⟩ d _ h;simp only[go_sem,seval,Zc]at d;obtain ⟨⟨_,_,_⟩,_,B⟩:=d;subst B;have:=Zx (c.length);cases h;exact yD
theorem ZkK {c:List Int}{A:Int}{r:Bool}(h:ZcB c A=some r):Sound prog J0 214 [(false,[.sl 3 1 (A0 ZH c)]),(false,[.int .i64 A])] [(false,[(false,.bool r)])]:=by
 refine fnk func214 rfl ?_;unfold ZcB at h;simp only[fnS,f214,Zk,go_sem,seval];refine Zh h (λi _ st=>IV [(0,yM (yX c)),(1,yM (.int .i64 A)),(5,yL i)] [] st) [] [] yF yD ?_ ?_;rintro _ _ ⟨⟩ ⟨_,_,_⟩ _ a b f h d;simp only[go_sem,seval,Zc]at b;obtain ⟨⟨g,_,_⟩,B⟩:=b;subst B;have k:=WF.slotL f g (j:=0) rfl;have:=Zz a;have:=ZC a;have:=Zj (ZA a) k;simp only[*,go_sem,seval];refine Zb h λ_ l h=>Za (QD l)<|yA ?_;iterate 2 refine yB h (λ_ h=>?_) λ_ h=>?_
 obtain ⟨_,_,_,_,h⟩:=ZaV h;simp only[*,go_sem,seval];refine yB h (λ_ h=>?_) λ_ h=>?_;replace h:=Zn h d;cases h;exact yD;exact yR h [];exact yR h [];replace h:=Zn h d;cases h;exact yD;rintro ⟨⟩ ⟨_,_,_⟩ e _ h;simp only[go_sem,seval,Zc]at e;obtain ⟨⟨_,_,_⟩,B⟩:=e;subst B;have:=Zx (c.length);cases h;exact yD
end
section
theorem ZhS {A:ByteArray}{r:Bool}(h:Zd7 A=some r):Sound prog J0 189 [(false,[.str A])] [(false,[(false,.bool r)])]:=by
 refine fnk func189 rfl ?_;unfold Zd7 at h;simp only[fnS,f189,Zk,go_sem,seval];refine Zb h λ_ a h=>Za (QL a)<|yA ?_;refine yB h (λ_ h=>?_) λ_ h=>?_;obtain ⟨_,_,b,h⟩:=Ztg h;try simp only[seval]at b
 simp only[*,go_sem,seval];refine Zb h λ_ c h=>Za (QD c) ?_;iterate 2 (cases h;exact yD)
theorem ZaA {c:ByteArray}{r:Bool}(h:Zbm c=some r):Sound prog J0 209 [(false,[.str c])] [(false,[(false,.bool r)])]:=by
 refine fnk func209 rfl ?_;unfold Zbm at h;simp only[fnS,f209,Zk,go_sem,seval];refine yB h (λ_ h=>?_) λ_ h=>?_;obtain ⟨_,_,a,h⟩:=Ztg h;try simp only[seval]at a
 simp only[*,go_sem,seval];refine yB h (λ_ h=>?_) λ_ h=>?_;obtain ⟨_,h⟩:=Zq h;simp only[*,go_sem,seval];refine Zb h λ_ b h=>Za (QL b) ?_;iterate 3 (cases h;exact yD)
theorem Zn8 {A:l1CurD}{c:List ByteArray}{r:(ByteArray×l1CurD)}(h:Zfd A c=some r):SoundH prog J0 JF0 37 (.box 71 (el1Cur A)) [(false,[.sl 9 1 (A0 ZB c)])] [(false,[(false,.str r.1)])] (.box 71 (el1Cur r.2)):=by
 refine fnh func37 rfl ?_;unfold Zfd at h;have a:Z9 ⟨#[]⟩=true:=by decide
 simp only[fnH,f37,ZeR,Zez,XY,go_sem,seval,a];obtain ⟨_,b,h⟩:=ZE h;refine Zan (s_l1Below_ok b) ?_;obtain ⟨_,_,_,_,h⟩:=ZaV h;cases h;exact yD
theorem Zfc {B:ByteArray}{A:ByteArray}{r:Int}(h:XN B A=some r):Sound prog J0 108 [(false,[.str B]),(false,[.str A])] [(false,[(false,.int .i64 r)])]:=by
 refine fnk func108 rfl ?_;unfold XN at h;simp only[fnS,f108,Zk,go_sem,seval];refine Zb h λ_ a h=>Za (ZcL a)<|yA ?_;refine Zb h λ_ b h=>Za (ZcL b)<|yA ?_;iterate 3 refine yB h (λ_ h=>?_) λ_ h=>?_
 cases h;exact yD;refine yB h (λ_ h=>?_) λ_ h=>?_;iterate 3 (cases h;exact yD)
 refine yB h (λ_ h=>?_) λ_ h=>?_;cases h;exact yD;refine Zb h λ_ c h=>Za (Znl c) ?_;cases h;exact yD
theorem Zam {c:ByteArray}{r:Bool}(h:Zaq c=some r):Sound prog J0 129 [(false,[.str c])] [(false,[(false,.bool r)])]:=by
 refine fnk func129 rfl ?_;unfold Zaq at h;simp only[fnS,f129,Zk,go_sem,seval];refine Zb h λ_ a h=>Za (Qb a)<|yA ?_;refine yB h (λ_ h=>?_) λ_ h=>?_;cases h;exact yD;refine Zb h λ_ b h=>Za (Zef b) ?_;cases h;exact yD
theorem Zal {c:List Zs}{r:Bool}(h:Qd c=some r):Sound prog J0 102 [(false,[.sl 194 2 (A0 ePair c)])] [(false,[(false,.bool r)])]:=by
 refine fnk func102 rfl ?_;unfold Qd at h;simp only[fnS,f102,Zk,go_sem,seval];refine yB h (λ_ h=>?_) λ_ h=>?_;cases h;exact yD;refine Zh h (λi _ st=>IV [(0,yM (yZ c)),(8,yM (yZ c)),(9,yL c.length),(10,yL i)] [] st) [] [] yF yD ?_ ?_;rintro _ _ ⟨⟩ ⟨_,_,_⟩ _ a b f h d;simp only[go_sem,seval,Zc]at b;obtain ⟨⟨g,_,_,_⟩,A⟩:=b;subst A;have k:=WF.slotL f g (j:=0) rfl;have:=Zz a;have:=ZC a;have:=Zj (ZA a) k;simp only[*,go_sem,seval];refine Zb h λ_ l h=>Za (Zef l)<|yA ?_;refine yB h (λ_ h=>?_) λ_ h=>?_;refine Zb h λ_ m h=>Za (Qb m)<|yA ?_;iterate 2 refine yB h (λ_ h=>?_) λ_ h=>?_
 obtain ⟨_,_,_,_,h⟩:=ZaV h;simp only[*,go_sem,seval];refine yB h (λ_ h=>?_) λ_ h=>?_;exact yR h [];replace h:=Zn h d;cases h;exact yD;refine ⟨_,[],[],(A4 h).symm,yF,?_⟩;iterate 2 (simp only[*,go_sem,seval];replace h:=Zn h d;cases h)
 simp only[*,go_sem,seval];rintro ⟨⟩ ⟨_,_,_⟩ e _ h;simp only[go_sem,seval,Zc]at e;obtain ⟨⟨_,_,_,_⟩,A⟩:=e;subst A;have:=Zx (c.length);cases h;exact yD
theorem ZdJ {A:List Zs}{c:ByteArray}{r:(ByteArray×Bool)}(h:ZbG A c=some r):Sound prog J0 103 [(false,[.sl 194 2 (A0 ePair A)]),(false,[.str c])] [(false,[(false,.str r.1)]),(false,[(false,.bool r.2)])]:=by
 refine fnk func103 rfl ?_;unfold ZbG at h;have e:Z9 ⟨#[]⟩=true:=by decide
 simp only[fnS,f103,Zk,go_sem,seval,e];refine Zb h λ_ f h=>Za (Qb f)<|yA ?_;refine yB h (λ_ h=>?_) λ_ h=>?_;cases h;exact yD;refine Zb h λ_ g h=>Za (Zef g)<|yA ?_;refine yB h (λ_ h=>?_) λ_ h=>?_;refine Zh h (λi _ st=>IV [(1,yM (.str c)),(14,yM (yZ A)),(15,yL A.length),(16,yL i)] [] st) [] [] yF yD ?_ ?_;rintro _ _ ⟨⟩ ⟨_,_,_⟩ _ a b k h l;simp only[go_sem,seval,Zc]at b;obtain ⟨⟨_,m,_,_⟩,B⟩:=b;subst B;have o:=WF.slotL k m (j:=0) rfl;have:=Zz a;have:=ZC a;have:=Zj (ZA a) o;simp only[*,go_sem,seval];refine yB h (λ_ h=>?_) λ_ h=>?_;replace h:=Zn h l;cases h;exact yD;exact yR h [];rintro ⟨⟩ ⟨_,_,_⟩ d _ h;simp only[go_sem,seval,Zc]at d;obtain ⟨⟨_,_,_,_⟩,B⟩:=d;subst B;have:=Zx (A.length);iterate 2 (cases h;exact yD)
theorem ZcM {c:List Zd}{A:Zd}{r:Int}(h:Yo c A=some r):Sound prog J0 68 [(false,[.sl 40 2 (A0 eFact c)]),(true,eFact A)] [(false,[(false,.int .i64 r)])]:=by
 refine fnk func68 rfl ?_;unfold Yo at h;simp only[fnS,f68,Zk,go_sem,seval];refine Zh h (λi _ st=>IV [(3,.bp 0 0),(7,yM (yU c)),(8,yL c.length),(9,yL i)] [zI 40 (eFact A)] st) [] [0] yF yD ?_ ?_;rintro _ _ ⟨⟩ ⟨_,_,_⟩ _ a b e h f;simp only[go_sem,seval,Zc]at b;obtain ⟨⟨_,g,_,_⟩,_,B⟩:=b;subst B;have k:=WF.slotL e g (j:=0) rfl;have:=Zz a;have:=ZC a;have:=Zj (ZA a) k;simp only[*,go_sem,seval];refine Zb h λ_ l h=>Za (ZcR l)<|yA ?_;refine yB h (λ_ h=>?_) λ_ h=>?_;replace h:=Zn h f;cases h;exact yD;exact yR h [0];rintro ⟨⟩ ⟨_,_,_⟩ d _ h;simp only[go_sem,seval,Zc]at d;obtain ⟨⟨_,_,_,_⟩,_,B⟩:=d;subst B;have:=Zx (c.length);cases h;exact yD
theorem Zey {c:List Zd}{r:List Zd}(h:ZaO c=some r):Sound prog J0 110 [(false,[.sl 40 2 (A0 eFact c)])] [(false,[(false,.sl 40 2 (A0 eFact r))])]:=by
 refine fnk func110 rfl ?_;unfold ZaO at h;simp only[fnS,f110,Zk,go_sem,seval];refine Zh h (λi a st=>IV [(3,.p false [.row 0]),(6,yM (yU c)),(7,yL c.length),(8,yL i)] [.row 40 2 (A0 eFact a) 2] st) [(false,3,0)] [80] yF yD ?_ ?_;rintro _ _ a ⟨_,_,_⟩ _ b d f h _;simp only[go_sem,seval,Zc]at d;obtain ⟨⟨_,g,_,_⟩,_,A⟩:=d;subst A;have k:=WF.slotL f g (j:=0) rfl;have:=Zz b;have:=ZC b;have:=Zj (ZA b) k;simp only[*,go_sem,seval];refine Zb h λ_ l h=>Za (Z7 l) ?_;obtain ⟨m,h⟩:=Zq h;try simp only[Nat.reduceLeDiff]at m
 simp only[*,go_sem,seval];exact yR h [145];rintro a ⟨_,_,_⟩ e _ h;simp only[go_sem,seval,Zc]at e;obtain ⟨⟨_,_,_,_⟩,_,A⟩:=e;subst A;have:=Zx (c.length);cases h;exact yD
theorem Y9 {c:Zd}{r:Bool}(h:XE c=some r):Sound prog J0 26 [(true,eFact c)] [(false,[(false,.bool r)])]:=by
 refine fnk func26 rfl ?_;unfold XE at h;simp only[fnS,f26,Zk,go_sem,seval];refine Zb h λ_ e h=>Za (Y5 e)<|yA ?_;iterate 2 refine yB h (λ_ h=>?_) λ_ h=>?_
 cases h;exact yD;refine Zh h (λi _ st=>IV [(16,yM (yV c.args)),(17,yL c.args.length),(18,yL i)] [] st) [] [] yF yD ?_ ?_;rintro _ _ ⟨⟩ ⟨_,_,_⟩ _ a b f h g;simp only[go_sem,seval,Zc]at b;obtain ⟨⟨k,_,_⟩,A⟩:=b;subst A;have l:=WF.slotL f k (j:=0) rfl;have:=Zz a;have:=ZC a;have:=Zj (ZA a) l;simp only[*,go_sem,seval];refine Zb h λ_ m h=>Za (Qb m)<|yA ?_;refine yB h (λ_ h=>?_) λ_ h=>?_;exact yR h [];replace h:=Zn h g;cases h;exact yD;rintro ⟨⟩ ⟨_,_,_⟩ d _ h;simp only[go_sem,seval,Zc]at d;obtain ⟨⟨_,_,_⟩,A⟩:=d;subst A;have:=Zx (c.args.length);iterate 2 (cases h;exact yD)
theorem Zkg {B:ByteArray}{A:ByteArray}{r:Int}(h:Zaz B A=some r):Sound prog J0 95 [(false,[.str B]),(false,[.str A])] [(false,[(false,.int .i64 r)])]:=by
 refine fnk func95 rfl ?_;unfold Zaz at h;simp only[fnS,f95,Zk,go_sem,seval];refine Zb h λ_ a h=>Za (ZcU a)<|yA ?_;refine Zb h λ_ b h=>Za (ZcU b)<|yA ?_;iterate 2 refine yB h (λ_ h=>?_) λ_ h=>?_
 refine Zb h λ_ c h=>Za (ZY c) ?_;iterate 2 (cases h;exact yD)
 refine yB h (λ_ h=>?_) λ_ h=>?_;cases h;exact yD;refine Zb h λ_ d h=>Za (ZkB d) ?_;cases h;exact yD
theorem Zek {c:List ByteArray}{r:List ByteArray}(h:ZaN c=some r):Sound prog J0 85 [(false,[.sl 9 1 (A0 ZB c)])] [(false,[(false,.sl 9 1 (A0 ZB r))])]:=by
 refine fnk func85 rfl ?_;unfold ZaN at h;simp only[fnS,f85,Zk,go_sem,seval];refine Zh h (λi a st=>IV [(3,.p false [.row 0]),(6,yM (yV c)),(7,yL c.length),(8,yL i)] [.row 9 1 (A0 ZB a) 2] st) [(false,3,0)] [80] yF yD ?_ ?_;rintro _ _ a ⟨_,_,_⟩ _ b d f h _;simp only[go_sem,seval,Zc]at d;obtain ⟨⟨_,g,_,_⟩,_,A⟩:=d;subst A;have k:=WF.slotL f g (j:=0) rfl;have:=Zz b;have:=ZC b;have:=Zj (ZA b) k;simp only[*,go_sem,seval];refine Zb h λ_ l h=>Za (Zef l)<|yA ?_;refine yB h (λ_ h=>?_) λ_ h=>?_;obtain ⟨m,h⟩:=Zq h;try simp only[Nat.reduceLeDiff]at m
 simp only[*,go_sem,seval];exact yR h [145];exact yR h [0];rintro a ⟨_,_,_⟩ e _ h;simp only[go_sem,seval,Zc]at e;obtain ⟨⟨_,_,_,_⟩,_,A⟩:=e;subst A;have:=Zx (c.length);cases h;exact yD
theorem Zo5 {a:List Zf}{M:ByteArray}{r:(List (ByteArray×Bool))}(h:Zd0 a M=some r):ZmA prog J0 151 [(false,[.sl 76 4 (A0 eRule a)]),(false,[.str M])] (.map .str .bool (A0 eSB r)):=by
 refine fnb func151 rfl ?_;unfold Zd0 at h;simp only[fnB,f151,Zk,go_sem,seval];refine Yr h (λs st=>match s with|(o,q)=>IV [(0,yM (yW a)),(5,.p false [.row 0]),(6,.p false [.row 1])] [.map .str .bool (A0 eSB o),.row 9 1 (A0 ZB q) 2] st) [] [16,64] yF yD ?_;rintro ⟨o,q⟩ ⟨_,_,_⟩ _ t _ h z;simp only[go_sem,seval,Zc]at t;obtain ⟨⟨_,_,_⟩,_,_,c⟩:=t;subst c;simp only[*,go_sem,seval];refine yB h (λ_ h=>?_) λ_ h=>?_;obtain ⟨_,h⟩:=Zq h;obtain ⟨u,A,h⟩:=ZE h;try simp only[seval]at A
 obtain ⟨_,h⟩:=Zq h;simp only[*,go_sem,seval];refine Zh h (λi s st=>match s with|(d,e)=>IV [(0,yM (yW a)),(5,.p false [.row 0]),(6,.p false [.row 1]),(7,yM (.str u)),(23,yM (yW a)),(24,yL a.length),(25,yL i)] [.map .str .bool (A0 eSB d),.row 9 1 (A0 ZB e) 2] st) [] [0,130] yF yD ?_ ?_;rintro B _ ⟨d,e⟩ ⟨_,_,_⟩ _ f v C h _;simp only[go_sem,seval,Zc]at v;obtain ⟨⟨D,_,_,_,_,_,_⟩,_,_,c⟩:=v;subst c;have E:=WF.slotL C D (j:=0) rfl;have:=Zz f;have:=ZC f;have:=Zj (ZA f) E;simp only[*,go_sem,seval];refine Zb h λ_ F h=>Za (ZiP F)<|yA ?_;refine Zb h λ_ G h=>Za (ZaS G)<|yA ?_;refine yB h (λ_ h=>?_) λ_ h=>?_;refine Zb h λg H h=>Za (Zrb H)<|yA ?_
 refine Zh h (λi s st=>match s with|(k,l)=>IV [(0,yM (yW a)),(5,.p false [.row 0]),(6,.p false [.row 1]),(7,yM (.str u)),(23,yM (yW a)),(24,yL a.length),(25,yL B),(35,.p false [.row 2]),(36,yL g.length),(37,yL i)] [.map .str .bool (A0 eSB k),.row 9 1 (A0 ZB l) 2,.row 9 1 (A0 ZB g) 2] st) [] [0,1,178] yF yD ?_ ?_;rintro _ _ ⟨k,l⟩ ⟨_,_,_⟩ _ m w I h _;simp only[go_sem,seval,Zc]at w;obtain ⟨⟨_,_,_,_,_,_,_,_,_,_⟩,_,_,J,c⟩:=w;subst c;have K:=WF.rowL I J;have:=Zz m;have:=ZC m;have:=Zj (ZA m) K;simp only[*,go_sem,seval];refine yB h (λ_ h=>?_) λ_ h=>?_;exact yR h [0,1,2];obtain ⟨L,h⟩:=Zq h;try simp only[Nat.reduceLeDiff]at L
 simp only[*,go_sem,seval];exact yR h [0,227,2];rintro ⟨k,l⟩ ⟨_,_,_⟩ x _ h;simp only[go_sem,seval,Zc]at x;obtain ⟨⟨_,_,_,_,_,_,_,_,_,_⟩,_,_,_,c⟩:=x;subst c;have:=Zx (g.length);simp only[*,go_sem,seval];exact yR h [0,1];exact yR h [0,1];rintro ⟨d,e⟩ ⟨_,_,_⟩ y _ h;simp only[go_sem,seval,Zc]at y;obtain ⟨⟨_,_,_,_,_,_,_⟩,_,_,c⟩:=y;subst c;have:=Zx (a.length);simp only[*,go_sem,seval];exact yR h [0,1];replace h:=Zn h z;cases h;exact yD
theorem Znw {c:List Zg}{A:Zg}{r:Bool}(h:ZbO c A=some r):Sound prog J0 72 [(false,[.sl 125 3 (A0 eReason c)]),(true,eReason A)] [(false,[(false,.bool r)])]:=by
 refine fnk func72 rfl ?_;unfold ZbO at h;simp only[fnS,f72,Zk,go_sem,seval];refine Zh h (λi _ st=>IV [(3,.bp 0 0),(7,yM (zC c)),(8,yL c.length),(9,yL i)] [zI 125 (eReason A)] st) [] [0] yF yD ?_ ?_;rintro _ _ ⟨⟩ ⟨_,_,_⟩ _ a b e h f;simp only[go_sem,seval,Zc]at b;obtain ⟨⟨_,g,_,_⟩,_,B⟩:=b;subst B;have k:=WF.slotL e g (j:=0) rfl;have:=Zz a;have:=ZC a;have:=Zj (ZA a) k;simp only[*,go_sem,seval];refine Zb h λ_ l h=>Za (Zl0 l)<|yA ?_;refine yB h (λ_ h=>?_) λ_ h=>?_;replace h:=Zn h f;cases h;exact yD;exact yR h [0];rintro ⟨⟩ ⟨_,_,_⟩ d _ h;simp only[go_sem,seval,Zc]at d;obtain ⟨⟨_,_,_,_⟩,_,B⟩:=d;subst B;have:=Zx (c.length);cases h;exact yD
theorem Ztx {c:Zu}{r:List Bool}(h:Zh0 c=some r):Sound prog J0 40 [(true,QF c)] [(false,[(false,.sl 4 1 (A0 ZgK r))])]:=by
 refine fnk func40 rfl ?_;unfold Zh0 at h;simp only[fnS,f40,Zk,go_sem,seval];refine Zb h λa g h=>Za (ZsS g)<|yA ?_;refine Zh h (λi b st=>IV [(3,.p false [.row 0]),(7,.p false [.row 1]),(8,yL a.length),(9,yL i)] [.row 4 1 (A0 ZgK b) 2,.row 3 1 (A0 ZH a) 2] st) [(false,3,0)] [112,64] yF yD ?_ ?_;rintro _ _ b ⟨_,_,_⟩ _ d e j h _;simp only[go_sem,seval,Zc]at e;obtain ⟨⟨_,_,_,_⟩,_,k,A⟩:=e;subst A;have l:=WF.rowL j k;have:=Zz d;have:=ZC d;have:=Zj (ZA d) l;obtain ⟨m,h⟩:=Zq h;try simp only[Nat.reduceLeDiff]at m
 simp only[*,go_sem,seval];exact yR h [130,1];rintro b ⟨_,_,_⟩ f _ h;simp only[go_sem,seval,Zc]at f;obtain ⟨⟨_,_,_,_⟩,_,_,A⟩:=f;subst A;have:=Zx (a.length);cases h;exact yD
theorem s_FindFact_ok {c:List Zd}{A:Zd}{r:Int}(h:ZaL c A=some r):Sound prog J0 62 [(false,[.sl 40 2 (A0 eFact c)]),(true,eFact A)] [(false,[(false,.int .i64 r)])]:=by
 refine fnk func62 rfl ?_;unfold ZaL at h;simp only[fnS,f62,Zk,go_sem,seval];refine Zh h (λi _ st=>IV [(0,yM (yU c)),(3,.bp 0 0),(5,yL i)] [zI 40 (eFact A)] st) [] [0] yF yD ?_ ?_;rintro _ _ ⟨⟩ ⟨_,_,_⟩ _ a b e h f;simp only[go_sem,seval,Zc]at b;obtain ⟨⟨g,_,_⟩,_,B⟩:=b;subst B;have k:=WF.slotL e g (j:=0) rfl;have:=Zz a;have:=ZC a;have:=Zj (ZA a) k;simp only[*,go_sem,seval];refine Zb h λ_ l h=>Za (ZlB l)<|yA ?_;refine yB h (λ_ h=>?_) λ_ h=>?_;replace h:=Zn h f;cases h;exact yD;exact yR h [0];rintro ⟨⟩ ⟨_,_,_⟩ d _ h;simp only[go_sem,seval,Zc]at d;obtain ⟨⟨_,_,_⟩,_,B⟩:=d;subst B;have:=Zx (c.length);cases h;exact yD
theorem s_l2Copies_ok {c:List Zd}{r:List Zd}(h:Zbv c=some r):Sound prog J0 121 [(false,[.sl 40 2 (A0 eFact c)])] [(false,[(false,.sl 40 2 (A0 eFact r))])]:=by
 refine fnk func121 rfl ?_;unfold Zbv at h;simp only[fnS,f121,Zk,go_sem,seval];refine Zh h (λi a st=>IV [(0,yM (yU c)),(3,.p false [.row 0]),(4,yL i)] [.row 40 2 (A0 eFact a) 2] st) [] [16] yF yD ?_ ?_;rintro _ _ a ⟨_,_,_⟩ _ b d f h _;simp only[go_sem,seval,Zc]at d;obtain ⟨⟨g,_,_⟩,_,A⟩:=d;subst A;have k:=WF.slotL f g (j:=0) rfl;have:=Zz b;have:=ZC b;have:=Zj (ZA b) k;simp only[*,go_sem,seval];refine Zb h λ_ l h=>Za (Xw l) ?_;obtain ⟨m,h⟩:=Zq h;try simp only[Nat.reduceLeDiff]at m
 simp only[*,go_sem,seval];exact yR h [177];rintro a ⟨_,_,_⟩ e _ h;simp only[go_sem,seval,Zc]at e;obtain ⟨⟨_,_,_⟩,_,A⟩:=e;subst A;have:=Zx (c.length);cases h;exact yD
theorem ZiG {c:ByteArray}{r:Bool}(h:Zen c=some r):Sound prog J0 245 [(false,[.str c])] [(false,[(false,.bool r)])]:=by
 refine fnk func245 rfl ?_;unfold Zen at h;simp only[fnS,f245,Zk,go_sem,seval];refine Zb h λ_ a h=>Za (ZcL a) ?_;cases h;exact yD
theorem Zmb {a:List Zf}{String_1:ByteArray}{b:ByteArray}{r:Bool}(h:ZbU a String_1 b=some r):Sound prog J0 160 [(false,[.sl 76 4 (A0 eRule a)]),(false,[.str String_1]),(false,[.str b])] [(false,[(false,.bool r)])]:=by
 refine fnk func160 rfl ?_;unfold ZbU at h;simp only[fnS,f160,Zk,go_sem,seval];refine Yr h (λs st=>match s with|(m,e)=>IV [(0,yM (yW a)),(2,yM (.str b)),(7,.p false [.row 0]),(8,yM (.int .i64 e))] [.row 9 1 (A0 ZB m) 2] st) [] [32] yF yD ?_;rintro ⟨m,e⟩ ⟨_,_,_⟩ _ o _ h q;simp only[go_sem,seval,Zc]at o;obtain ⟨⟨_,_,_,_⟩,_,c⟩:=o;subst c;simp only[*,go_sem,seval];refine yB h (λ_ h=>?_) λ_ h=>?_;refine Zh h (λi f st=>IV [(0,yM (yW a)),(2,yM (.str b)),(7,.p false [.row 0]),(8,yM (.int .i64 e)),(9,yL i)] [.row 9 1 (A0 ZB f) 2] st) [] [0] yF yD ?_ ?_;rintro y _ f ⟨_,_,_⟩ _ g t z h A;simp only[go_sem,seval,Zc]at t;obtain ⟨⟨B,_,_,_,_⟩,_,c⟩:=t;subst c;have C:=WF.slotL z B (j:=0) rfl;have:=Zz g;have:=ZC g;have:=Zj (ZA g) C;simp only[*,go_sem,seval];refine Zb h λ_ D h=>Za (ZiL D) ?_;obtain ⟨_,h⟩:=Zq h;obtain ⟨_,_,h⟩:=ZE h;simp only[*,go_sem,seval]
 refine Zb h λ_ E h=>Za (YK E)<|yA ?_;refine yB h (λ_ h=>?_) λ_ h=>?_;refine Zb h λu F h=>Za (ZqF F)<|yA ?_;refine Zb h λ_ G h=>Za (YK G)<|yA ?_;refine yB h (λ_ h=>?_) λ_ h=>?_;replace h:=Zn h A;replace h:=Zn h q;cases h;exact yD;refine Zh h (λi k st=>IV [(0,yM (yW a)),(2,yM (.str b)),(7,.p false [.row 0]),(8,yM (.int .i64 e)),(9,yL y),(10,.p false [.row 1]),(11,yL i)] [.row 9 1 (A0 ZB k) 2,.row 9 1 (A0 ZB u) 2] st) [] [0,305] yF yD ?_ ?_;rintro _ _ k ⟨_,_,_⟩ _ l v H h _;simp only[go_sem,seval,Zc]at v;obtain ⟨⟨_,_,_,_,_,_,_⟩,_,I,c⟩:=v;subst c;have J:=WF.rowL H I;have:=Zz l;have:=ZC l;have:=Zj (ZA l) J;simp only[*,go_sem,seval];refine Zb h λ_ K h=>Za (YK K)<|yA ?_;refine yB h (λ_ h=>?_) λ_ h=>?_;exact yR h [0,1];obtain ⟨L,h⟩:=Zq h;try simp only[Nat.reduceLeDiff]at L
 simp only[*,go_sem,seval];exact yR h [274,1];rintro k ⟨_,_,_⟩ w _ h;simp only[go_sem,seval,Zc]at w;obtain ⟨⟨_,_,_,_,_,_,_⟩,_,_,c⟩:=w;subst c;have:=Zx (u.length);simp only[*,go_sem,seval];exact yR h [0];exact yR h [0];rintro f ⟨_,_,_⟩ x _ h;simp only[go_sem,seval,Zc]at x;obtain ⟨⟨_,_,_,_,_⟩,_,c⟩:=x;subst c;have:=Zx (a.length);simp only[*,go_sem,seval];exact yR h [0];replace h:=Zn h q;cases h;exact yD
end
section
theorem Zo7 {a:Zu}{String_1:Int}{r:List Bool}(h:ZeA a String_1=some r):Sound prog J0 171 [(true,QF a),(false,[.int .i64 String_1])] [(false,[(false,.sl 4 1 (A0 ZgK r))])]:=by
 refine fnk func171 rfl ?_;unfold ZeA at h;simp only[fnS,f171,Zk,go_sem,seval];obtain ⟨_,h⟩:=Zq h;simp only[*,go_sem,seval];refine Yr h (λs st=>match s with|(l,m,d)=>IV [(2,.bp 0 0),(5,.p false [.row 1]),(6,.p false [.row 2]),(7,yM (.int .i64 d))] [.box 52 [.c (.int .i64 a.nodes),.c (zC a.reasons)],.row 4 1 (A0 ZgK l) 2,.row 3 1 (A0 ZH m) 2] st) [] [0,64,112] yF yD ?_;rintro ⟨l,m,d⟩ ⟨_,_,_⟩ _ o _ h z;simp only[go_sem,seval,Zc]at o;obtain ⟨⟨_,_,_,_⟩,_,_,_,K⟩:=o;subst K;simp only[*,go_sem,seval];refine yB h (λ_ h=>?_) λ_ h=>?_;refine Zh h (λi s st=>match s with|(e,f)=>IV [(2,.bp 0 0),(5,.p false [.row 1]),(6,.p false [.row 2]),(7,yM (.int .i64 d)),(8,yL i)] [.box 52 [.c (.int .i64 a.nodes),.c (zC a.reasons)],.row 4 1 (A0 ZgK e) 2,.row 3 1 (A0 ZH f) 2] st) [] [0,1,2] yF yD ?_ ?_;rintro A q ⟨e,f⟩ ⟨_,_,_⟩ _ g t B h _;simp only[go_sem,seval,Zc]at t
 obtain ⟨⟨_,_,_,_,_⟩,C,_,_,K⟩:=t;subst K;have D:=WF.boxL B C (j:=1) rfl;have:=Zz g;have:=ZC g;have:=Zj (ZA g) D;obtain ⟨_,h⟩:=Zq h;obtain ⟨_,_,h⟩:=ZE h;simp only[*,go_sem,seval];refine yB h (λ_ h=>?_) λ_ h=>?_;exact yR h [0,1,2];refine Zb h λu E h=>Za (Zs3 E) ?_;obtain ⟨_,h⟩:=Zq h;simp only[*,go_sem,seval];refine Yr h (λs st=>match s with|(v,w,k)=>IV [(2,.bp 0 0),(5,.p false [.row 1]),(6,.p false [.row 2]),(7,yM (.int .i64 d)),(8,yL A),(9,.p false [.row 3]),(10,yM (.int .i64 k))] [.box 52 [.c (.int .i64 a.nodes),.c (zC a.reasons)],.row 4 1 (A0 ZgK v) 2,.row 3 1 (A0 ZH w) 2,.row 3 1 (A0 ZH (u++q.outs)) 2] st) [] [0,1,2,467] yF yD ?_;rintro ⟨v,w,k⟩ ⟨_,_,_⟩ _ x _ h F;simp only[go_sem,seval,Zc]at x;obtain ⟨⟨_,_,_,_,_,_,_⟩,_,_,_,_,K⟩:=x;subst K;simp only[*,go_sem,seval];refine yB h (λ_ h=>?_) λ_ h=>?_;obtain ⟨_,h⟩:=Zq h;obtain ⟨G,H,h⟩:=ZE h
 have J:(A0 ZH u++A0 ZH q.outs)[(Int.toNat k)]?=some (ZH G):=by rw [<-List.map_append,A6,H];rfl
 obtain ⟨_,h⟩:=Zq h;obtain ⟨_,_,h⟩:=ZE h;simp only[*,go_sem,seval];refine yB h (λ_ h=>?_) λ_ h=>?_;exact yR h [0,1,2,3];obtain ⟨I,h⟩:=Zq h;try simp only[Nat.reduceLeDiff]at I
 simp only[*,go_sem,seval];exact yR h [0,1,404,3];replace h:=Zn h F;exact yR h [0,1,2];rintro ⟨e,f⟩ ⟨_,_,_⟩ y _ h;simp only[go_sem,seval,Zc]at y;obtain ⟨⟨_,_,_,_,_⟩,_,_,_,K⟩:=y;subst K;have:=Zx (a.reasons.length);simp only[*,go_sem,seval];exact yR h [0,1,2];replace h:=Zn h z;cases h;exact yD
theorem Zi0 {b:Zu}{e:List Int}{f:Int}{d:List Int}{g:Int}{r:List Int}(h:ZcF b e f d g=some r):Sound prog J0 128 [(true,QF b),(false,[.sl 3 1 (A0 ZH e)]),(false,[.int .i64 f]),(false,[.sl 3 1 (A0 ZH d)]),(false,[.int .i64 g])] [(false,[(false,.sl 3 1 (A0 ZH r))])]:=by
 refine fnk func128 rfl ?_;unfold ZcF at h;simp only[fnS,f128,Zk,go_sem,seval];refine Yr h (λs st=>match s with|(l,k)=>IV [(1,yM (yX e)),(2,yM (.int .i64 f)),(3,yM (yX d)),(4,yM (.int .i64 g)),(5,.bp 0 0),(11,.p false [.row 1]),(12,yM (.int .i64 k))] [.box 52 [.c (.int .i64 b.nodes),.c (zC b.reasons)],.row 3 1 (A0 ZH l) 2] st) [] [0,32] yF yD ?_;rintro ⟨l,k⟩ ⟨_,_,_⟩ _ o _ h v;simp only[go_sem,seval,Zc]at o;obtain ⟨⟨_,_,_,_,_,_,_⟩,_,_,D⟩:=o;subst D;simp only[*,go_sem,seval];refine yB h (λ_ h=>?_) λ_ h=>?_;obtain ⟨_,_,_,_,h⟩:=ZaV h;simp only[*,go_sem,seval];refine yB h (λ_ h=>?_) λ_ h=>?_;exact yR h [0,1];obtain ⟨q,_,_,_,h⟩:=ZaV h;simp only[*,go_sem,seval];refine yB h (λ_ h=>?_) λ_ h=>?_;exact yR h [0,1]
 refine Zh h (λi _ st=>IV [(1,yM (yX e)),(2,yM (.int .i64 f)),(3,yM (yX d)),(4,yM (.int .i64 g)),(5,.bp 0 0),(11,.p false [.row 1]),(12,yM (.int .i64 k)),(13,yL i),(29,yM (yX d)),(30,yM (.int .i64 k)),(32,yM (.int .i64 q)),(33,yM (.bool (decide (0<=q))))] [.box 52 [.c (.int .i64 b.nodes),.c (zC b.reasons)],.row 3 1 (A0 ZH l) 2] st) [] [0,1] yF yD ?_ ?_;rintro _ _ ⟨⟩ ⟨_,_,_⟩ _ m t w h x;simp only[go_sem,seval,Zc]at t;obtain ⟨⟨_,_,_,_,_,_,_,_,_,_,_,_⟩,y,_,D⟩:=t;subst D;have z:=WF.boxL w y (j:=1) rfl;have:=Zz m;have:=ZC m;have:=Zj (ZA m) z;simp only[*,go_sem,seval];refine yB h (λ_ h=>?_) λ_ h=>?_;refine Zb h λ_ A h=>Za (ZnX A)<|yA ?_;refine yB h (λ_ h=>?_) λ_ h=>?_;refine Zb h λ_ B h=>Za (Zrg B)<|yA ?_;refine yB h (λ_ h=>?_) λ_ h=>?_;obtain ⟨C,h⟩:=Zq h;try simp only[Nat.reduceLeDiff]at C
 replace h:=Zn h x;simp only[*,go_sem,seval];exact yR h [0,514];exact yR h [0,1];exact yR h [0,1];exact yR h [0,1];rintro ⟨⟩ ⟨_,_,_⟩ u _ h;simp only[go_sem,seval,Zc]at u;obtain ⟨⟨_,_,_,_,_,_,_,_,_,_,_,_⟩,_,_,D⟩:=u;subst D;have:=Zx (b.reasons.length);simp only[*,go_sem,seval];exact yR h [0,1];replace h:=Zn h v;cases h;exact yD
theorem ZfT {c:Zv}{r:Zv}(h:Q8 c=some r):Sound prog J0 90 [(true,Q4 c)] [(true,[(false,.str r.rel),(false,.sl 9 1 (A0 ZB r.args))])]:=by
 refine fnk func90 rfl ?_;unfold Q8 at h;simp only[fnS,f90,Zk,go_sem,seval];refine Zb h λ_ a h=>Za (Zea a) ?_;cases h;exact yD
theorem ZlW {A:Zo}{B:ZK}{r:Bool}(h:ZbX A B=some r):Sound prog J0 50 [(true,eEngine A),(true,eFiring B)] [(false,[(false,.bool r)])]:=by
 refine fnk func50 rfl ?_;unfold ZbX at h;simp only[fnS,f50,Zk,go_sem,seval];refine Zb h λ_ o h=>Za (Zfe o)<|yA ?_;refine yB h (λ_ h=>?_) λ_ h=>?_;cases h;exact yD;obtain ⟨b,_,_,_,h⟩:=ZaV h;simp only[*,go_sem,seval];refine Zh h (λi a st=>IV [(2,.bp 0 0),(3,.bp 1 0),(6,yM (.int .i64 a)),(23,yM (yY b.cond)),(24,yL b.cond.length),(25,yL i)] [.box 34 [.c (yW A.rules),.c (zB A.memory),.c (.int .i64 A.clock),.c (zD A.fired),.c (.bool A.halted),.c (zE A.log)],zI 94 (eFiring B)] st) [] [0,16] yF yD ?_ ?_;rintro _ _ a ⟨_,_,_⟩ _ d f q h _;simp only[go_sem,seval,Zc]at f;obtain ⟨⟨_,_,_,t,_,_⟩,_,_,C⟩:=f;subst C;have u:=WF.slotL q t (j:=0) rfl;have:=Zz d;have:=ZC d;have:=Zj (ZA d) u;simp only[*,go_sem,seval];refine yB h (λ_ h=>?_) λ_ h=>?_;exact yR h [0,1];exact yR h [0,1];rintro a ⟨_,_,_⟩ g _ h;simp only[go_sem,seval,Zc]at g;obtain ⟨⟨_,_,_,_,_,_⟩,_,_,C⟩:=g;subst C
 have:=Zx (b.cond.length);simp only[*,go_sem,seval];refine Zh h (λi _ st=>IV [(2,.bp 0 0),(3,.bp 1 0),(6,yM (.int .i64 a)),(36,yM (yX B.times)),(37,yL B.times.length),(38,yL i)] [.box 34 [.c (yW A.rules),.c (zB A.memory),.c (.int .i64 A.clock),.c (zD A.fired),.c (.bool A.halted),.c (zE A.log)],zI 94 (eFiring B)] st) [] [0,1] yF yD ?_ ?_;rintro _ _ ⟨⟩ ⟨_,_,_⟩ _ e k v h l;simp only[go_sem,seval,Zc]at k;obtain ⟨⟨_,_,_,w,_,_⟩,_,_,C⟩:=k;subst C;have x:=WF.slotL v w (j:=0) rfl;have:=Zz e;have:=ZC e;have:=Zj (ZA e) x;simp only[*,go_sem,seval];refine yB h (λ_ h=>?_) λ_ h=>?_;replace h:=Zn h l;cases h;exact yD;refine yB h (λ_ h=>?_) λ_ h=>?_;replace h:=Zn h l;cases h;exact yD;exact yR h [0,1];rintro ⟨⟩ ⟨_,_,_⟩ m _ h;simp only[go_sem,seval,Zc]at m;obtain ⟨⟨_,_,_,_,_,_⟩,_,_,C⟩:=m;subst C;have:=Zx (B.times.length);cases h;exact yD
theorem Zl4 {A:ZK}{c:ZK}{r:Bool}(h:Zb6 A c=some r):Sound prog J0 51 [(true,eFiring A),(true,eFiring c)] [(false,[(false,.bool r)])]:=by
 refine fnk func51 rfl ?_;unfold Zb6 at h;simp only[fnS,f51,Zk,go_sem,seval];refine yB h (λ_ h=>?_) λ_ h=>?_;refine Zb h λ_ a h=>Za (ZcW a) ?_;iterate 2 (cases h;exact yD)
theorem ZkQ {c:Zf}{r:Int}(h:Zba c=some r):Sound prog J0 141 [(true,eRule c)] [(false,[(false,.int .i64 r)])]:=by
 refine fnk func141 rfl ?_;unfold Zba at h;simp only[fnS,f141,Zk,go_sem,seval];refine Zh h (λi b st=>IV [(3,yM (.int .i64 b)),(12,yM (yY c.cond)),(13,yL c.cond.length),(14,yL i)] [] st) [] [] yF yD ?_ ?_;rintro q d b ⟨_,_,_⟩ _ e k t h _;simp only[go_sem,seval,Zc]at k;obtain ⟨⟨_,u,_,_⟩,A⟩:=k;subst A;have v:=WF.slotL t u (j:=0) rfl;have:=Zz e;have:=ZC e;have:=Zj (ZA e) v;simp only[*,go_sem,seval];refine Zh h (λi f st=>IV [(3,yM (.int .i64 f)),(12,yM (yY c.cond)),(13,yL c.cond.length),(14,yL q),(20,yM (yV d.pattern.args)),(21,yL d.pattern.args.length),(22,yL i)] [] st) [] [] yF yD ?_ ?_;rintro _ _ f ⟨_,_,_⟩ _ g l w h _;simp only[go_sem,seval,Zc]at l;obtain ⟨⟨_,_,_,_,x,_,_⟩,A⟩:=l;subst A;have y:=WF.slotL w x (j:=0) rfl;have:=Zz g;have:=ZC g;have:=Zj (ZA g) y;simp only[*,go_sem,seval];refine Zb h λ_ z h=>Za (Qb z)<|yA ?_;refine yB h (λ_ h=>?_) λ_ h=>?_;exact yR h []
 exact yR h [];rintro f ⟨_,_,_⟩ m _ h;simp only[go_sem,seval,Zc]at m;obtain ⟨⟨_,_,_,_,_,_,_⟩,A⟩:=m;subst A;have:=Zx (d.pattern.args.length);simp only[*,go_sem,seval];exact yR h [];rintro b ⟨_,_,_⟩ o _ h;simp only[go_sem,seval,Zc]at o;obtain ⟨⟨_,_,_,_⟩,A⟩:=o;subst A;have:=Zx (c.cond.length);cases h;exact yD
theorem i_HasFired_ok {c:List ZK}{A:ZF}{r:Bool}(h:ZcA c A=some r):Sound prog J0 99 [(false,[.sl 94 2 (A0 eFiring c)]),(true,eChoice A)] [(false,[(false,.bool r)])]:=by
 refine fnk func99 rfl ?_;unfold ZcA at h;simp only[fnS,f99,Zk,go_sem,seval];refine Zh h (λi _ st=>IV [(3,.bp 0 0),(7,yM (zD c)),(8,yL c.length),(9,yL i)] [zI 112 (eChoice A)] st) [] [0] yF yD ?_ ?_;rintro _ _ ⟨⟩ ⟨_,_,_⟩ _ a b e h f;simp only[go_sem,seval,Zc]at b;obtain ⟨⟨_,g,_,_⟩,_,B⟩:=b;subst B;have k:=WF.slotL e g (j:=0) rfl;have:=Zz a;have:=ZC a;have:=Zj (ZA a) k;simp only[*,go_sem,seval];refine yB h (λ_ h=>?_) λ_ h=>?_;refine Zb h λ_ l h=>Za (ZcW l)<|yA ?_;refine yB h (λ_ h=>?_) λ_ h=>?_;replace h:=Zn h f;cases h;exact yD;exact yR h [0];exact yR h [0];rintro ⟨⟩ ⟨_,_,_⟩ d _ h;simp only[go_sem,seval,Zc]at d;obtain ⟨⟨_,_,_,_⟩,_,B⟩:=d;subst B;have:=Zx (c.length);cases h;exact yD
end
section
theorem Zn5 {A:Zu}{r:Bool}(h:Zdb A=some r):Sound prog J0 170 [(true,QF A)] [(false,[(false,.bool r)])]:=by
 refine fnk func170 rfl ?_;unfold Zdb at h;simp only[fnS,f170,Zk,go_sem,seval];refine Zh h (λi _ st=>IV [(1,.bp 0 0),(3,yL i)] [.box 52 [.c (.int .i64 A.nodes),.c (zC A.reasons)]] st) [] [0] yF yD ?_ ?_;rintro _ _ ⟨⟩ ⟨_,_,_⟩ _ a b e h f;simp only[go_sem,seval,Zc]at b;obtain ⟨⟨_,_⟩,g,B⟩:=b;subst B;have k:=WF.boxL e g (j:=1) rfl;have:=Zz a;have:=ZC a;have:=Zj (ZA a) k;simp only[*,go_sem,seval];refine Zb h λ_ l h=>Za (QD l)<|yA ?_;refine yB h (λ_ h=>?_) λ_ h=>?_;refine Zb h λ_ m h=>Za (ZkK m)<|yA ?_;refine yB h (λ_ h=>?_) λ_ h=>?_;refine Zb h λ_ o h=>Za (ZkK o)<|yA ?_;refine yB h (λ_ h=>?_) λ_ h=>?_;refine ⟨_,[],[0],(A4 h).symm,yF,?_⟩;iterate 3 (simp only[*,go_sem,seval];replace h:=Zn h f;cases h)
 simp only[*,go_sem,seval];rintro ⟨⟩ ⟨_,_,_⟩ d _ h;simp only[go_sem,seval,Zc]at d;obtain ⟨⟨_,_⟩,_,B⟩:=d;subst B;have:=Zx (A.reasons.length);simp only[*,go_sem,seval];refine Zb h λ_ q h=>Za (QD q)<|yA ?_;refine yB h (λ_ h=>?_) λ_ h=>?_;iterate 2 (cases h;exact yD)
theorem ZoF {c:Zp}{r:Zp}(h:Zed c=some r):Sound prog J0 135 [(true,ZO c)] [(true,[(false,.int .i64 r.kind),(false,.str r.pattern.rel),(false,.sl 9 1 (A0 ZB r.pattern.args)),(false,.str r.left),(false,.str r.right)])]:=by
 refine fnk func135 rfl ?_;unfold Zed at h;simp only[fnS,f135,Zk,go_sem,seval];refine Zb h λ_ a h=>Za (ZfT a) ?_;cases h;exact yD
theorem Znk {c:Yp}{r:Yp}(h:Ze2 c=some r):Sound prog J0 48 [(true,eEvent c)] [(true,[(false,.int .i64 r.kind),(false,.str r.rule),(false,.str r.fact.rel),(false,.sl 9 1 (A0 ZB r.fact.args))])]:=by
 refine fnk func48 rfl ?_;unfold Ze2 at h;simp only[fnS,f48,Zk,go_sem,seval];refine Zb h λ_ a h=>Za (Z7 a) ?_;cases h;exact yD
theorem i_FactsIn_ok {c:List Zr}{r:List Zd}(h:ZaY c=some r):Sound prog J0 11 [(false,[.sl 64 3 (A0 eStamp c)])] [(false,[(false,.sl 40 2 (A0 eFact r))])]:=by
 refine fnk func11 rfl ?_;unfold ZaY at h;simp only[fnS,f11,Zk,go_sem,seval];refine Zh h (λi a st=>IV [(3,.p false [.row 0]),(6,yM (zB c)),(7,yL c.length),(8,yL i)] [.row 40 2 (A0 eFact a) 2] st) [(false,3,0)] [80] yF yD ?_ ?_;rintro _ _ a ⟨_,_,_⟩ _ b d f h _;simp only[go_sem,seval,Zc]at d;obtain ⟨⟨_,g,_,_⟩,_,A⟩:=d;subst A;have k:=WF.slotL f g (j:=0) rfl;have:=Zz b;have:=ZC b;have:=Zj (ZA b) k;simp only[*,go_sem,seval];refine Zb h λ_ l h=>Za (Z7 l) ?_;obtain ⟨m,h⟩:=Zq h;try simp only[Nat.reduceLeDiff]at m
 simp only[*,go_sem,seval];exact yR h [161];rintro a ⟨_,_,_⟩ e _ h;simp only[go_sem,seval,Zc]at e;obtain ⟨⟨_,_,_,_⟩,_,A⟩:=e;subst A;have:=Zx (c.length);cases h;exact yD
theorem i_hasStamp_ok {c:List Zr}{A:Zd}{r:Bool}(h:Xg c A=some r):Sound prog J0 27 [(false,[.sl 64 3 (A0 eStamp c)]),(true,eFact A)] [(false,[(false,.bool r)])]:=by
 refine fnk func27 rfl ?_;unfold Xg at h;simp only[fnS,f27,Zk,go_sem,seval];refine Zh h (λi _ st=>IV [(3,.bp 0 0),(7,yM (zB c)),(8,yL c.length),(9,yL i)] [zI 40 (eFact A)] st) [] [0] yF yD ?_ ?_;rintro _ _ ⟨⟩ ⟨_,_,_⟩ _ a b e h f;simp only[go_sem,seval,Zc]at b;obtain ⟨⟨_,g,_,_⟩,_,B⟩:=b;subst B;have k:=WF.slotL e g (j:=0) rfl;have:=Zz a;have:=ZC a;have:=Zj (ZA a) k;simp only[*,go_sem,seval];refine Zb h λ_ l h=>Za (ZcR l)<|yA ?_;refine yB h (λ_ h=>?_) λ_ h=>?_;replace h:=Zn h f;cases h;exact yD;exact yR h [0];rintro ⟨⟩ ⟨_,_,_⟩ d _ h;simp only[go_sem,seval,Zc]at d;obtain ⟨⟨_,_,_,_⟩,_,B⟩:=d;subst B;have:=Zx (c.length);cases h;exact yD
theorem i_Engine_write_ok {a:Zo}{b:Int}{c:ByteArray}{d:Zd}{r:Zo}(h:Yq a b c d=some r):Zgo prog J0 JF0 57 34 [(false,.sl 76 4 (A0 eRule a.rules)),(false,.sl 64 3 (A0 eStamp a.memory)),(false,.int .i64 a.clock),(false,.sl 94 2 (A0 eFiring a.fired)),(false,.bool a.halted),(false,.sl 97 4 (A0 eEvent a.log))] none [(false,[.int .i64 b]),(false,[.str c]),(true,eFact d)] [] [(false,.sl 76 4 (A0 eRule r.rules)),(false,.sl 64 3 (A0 eStamp r.memory)),(false,.int .i64 r.clock),(false,.sl 94 2 (A0 eFiring r.fired)),(false,.bool r.halted),(false,.sl 97 4 (A0 eEvent r.log))]:=by
 refine fno func57 rfl ?_;unfold Yq at h;simp only[fnO,f57,Zk4,gvC,go_sem,seval];refine Zb h λC B h=>Za (Z7 B) ?_;obtain ⟨A,h⟩:=Zq h;try simp only[Nat.reduceLeDiff]at A
 obtain rfl:=A4 h;simp only[*,go_sem,seval]
theorem ZsA {c:List Zr}{A:Zd}{r:Int}(h:ZhX c A=some r):Sound prog J0 179 [(false,[.sl 64 3 (A0 eStamp c)]),(true,eFact A)] [(false,[(false,.int .i64 r)])]:=by
 refine fnk func179 rfl ?_;unfold ZhX at h;simp only[fnS,f179,Zk,go_sem,seval];refine Zh h (λi _ st=>IV [(3,.bp 0 0),(7,yM (zB c)),(8,yL c.length),(9,yL i)] [zI 40 (eFact A)] st) [] [0] yF yD ?_ ?_;rintro _ _ ⟨⟩ ⟨_,_,_⟩ _ a b e h f;simp only[go_sem,seval,Zc]at b;obtain ⟨⟨_,g,_,_⟩,_,B⟩:=b;subst B;have k:=WF.slotL e g (j:=0) rfl;have:=Zz a;have:=ZC a;have:=Zj (ZA a) k;simp only[*,go_sem,seval];refine Zb h λ_ l h=>Za (ZcR l)<|yA ?_;refine yB h (λ_ h=>?_) λ_ h=>?_;replace h:=Zn h f;cases h;exact yD;exact yR h [0];rintro ⟨⟩ ⟨_,_,_⟩ d _ h;simp only[go_sem,seval,Zc]at d;obtain ⟨⟨_,_,_,_⟩,_,B⟩:=d;subst B;have:=Zx (c.length);cases h;exact yD
theorem s_SameFacts_ok {c:List Zd}{A:List Zd}{r:Bool}(h:Zc2 c A=some r):Sound prog J0 14 [(false,[.sl 40 2 (A0 eFact c)]),(false,[.sl 40 2 (A0 eFact A)])] [(false,[(false,.bool r)])]:=by
 refine fnk func14 rfl ?_;unfold Zc2 at h;simp only[fnS,f14,Zk,go_sem,seval];refine yB h (λ_ h=>?_) λ_ h=>?_;cases h;exact yD;refine Zh h (λi _ st=>IV [(0,yM (yU c)),(1,yM (yU A)),(5,yL i)] [] st) [] [] yF yD ?_ ?_;rintro _ _ ⟨⟩ ⟨_,_,_⟩ _ a b e h f;simp only[go_sem,seval,Zc]at b;obtain ⟨⟨g,_,_⟩,B⟩:=b;subst B;have k:=WF.slotL e g (j:=0) rfl;have:=Zz a;have:=ZC a;have:=Zj (ZA a) k;obtain ⟨_,_,_,l,h⟩:=ZaV h;simp only[A5]at l;simp only[*,go_sem,seval];refine Zb h λ_ m h=>Za (ZlB m)<|yA ?_;refine yB h (λ_ h=>?_) λ_ h=>?_;exact yR h [];replace h:=Zn h f;cases h;exact yD;rintro ⟨⟩ ⟨_,_,_⟩ d _ h;simp only[go_sem,seval,Zc]at d;obtain ⟨⟨_,_,_⟩,B⟩:=d;subst B;have:=Zx (c.length);cases h;exact yD
end
end Go.Proofs.YthjnneiibkknhaaGreatDoor
