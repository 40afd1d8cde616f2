/- Texts of this proof, joined: Df, E1, P1, E2, E3, E15, P5, F3. What each holds is said at its theorems. -/
import Derived.Test.YthjnneiibkknhaaGreatDoorEngineModelQ1
import Derived.Lib.ItoaLen
import Derived.Laws.BitsLemmas
import Derived.Lib.Bytealg
open Bool renaming true_and→A5,and_eq_true→A6,false_eq_true→A9,eq_iff_iff→AB,or_eq_true→AX,and_true→Ag,not_not→Ao,false_or→Ap,false_and→Aq
open Go.ByteArray renaming toList_eq→Ai
open Int renaming toNat→A4,toNat_natCast→AD
open List renaming mem_cons→AA,length_cons→AC,pairwise_cons→AE,set→AG,all_eq_true→AJ,getElem?_eq_some_iff→AK,mem_append→AL,mem_of_getElem?→AN,flatMap_cons→AO,replicate→AP,length_append→AQ,foldl_cons→AT,mem_flatMap→AU,mem_cons_of_mem→AY,tail→AZ,drop_eq_nil_of_le→Ab,getElem?_eq_getElem→Ac,length_nil→Ad,foldl_append→Ae,append_nil→Ah,drop_eq_getElem_cons→Al,not_mem_nil→Am,not_any_eq_all_not→An
open List.Pairwise renaming nil→AF
open Nat renaming le_trans→AI,zero_add→AR,le_refl→AS,pow_le_pow_right→Aa,mul_assoc→Aj
open Option renaming bind_some→A0,map_some→Ak
open Option.some renaming inj→AH
open UInt8 renaming ofNat→AW
set_option linter.unusedSimpArgs false
set_option linter.unusedVariables false
set_option maxRecDepth 1000000
set_option maxHeartbeats 4000000
namespace Go.Proofs.YthjnneiibkknhaaGreatDoor
noncomputable section
section
structure l1CurD where
 b:(List Int)
 i:Int
 h:Int
structure Zbl where
 rule:ByteArray
 facts:(List Zd)
structure l14CauseD where
 rule:ByteArray
 token:Zt
def ZwB (a:List Int):Option Bool:=
 some (decide (4096<(a.length:Int)))
def Zj4 (d:List Int):Option l1CurD:=
 Zm (σ:=Int) (λ(e:Nat) (c:Int) a=>if (decide ((e:Int)<4000))=true then some (.inl (Zm8 .i64 (IntKind.i64.wrap ((IntKind.i64.wrap ((IntKind.i64.wrap (a*167))+IntKind.i64.wrap c))+29)) 1073741823)) else some (.inr ({ b:=d,i:=0,h:=a }:l1CurD))) (λa=>some ({ b:=d,i:=0,h:=a }:l1CurD)) d 0 (IntKind.i64.wrap (851207+(IntKind.i64.wrap (3*(d.length:Int)))))
def Zdk (a:l1CurD):Option (Int×l1CurD):=
 if (decide (a.i<(a.b.length:Int)))=true then (atI a.b a.i).bind λc=>some ((Zm8 .i64 (IntKind.i64.wrap ((Zm8 .i64 (ZA9 .i64 (Zw1 .i64 (IntKind.i64.wrap ((IntKind.i64.wrap (a.h*6364136223846793005))+1442695040888963407)) 35) (Zw1 .i64 (IntKind.i64.wrap ((IntKind.i64.wrap (a.h*6364136223846793005))+1442695040888963407)) 45)) 255)+IntKind.i64.wrap c)) 255),({ b:=a.b,i:=(IntKind.i64.wrap (a.i+1)),h:=(IntKind.i64.wrap ((IntKind.i64.wrap (a.h*6364136223846793005))+1442695040888963407)) }:l1CurD)) else some ((Zm8 .i64 (ZA9 .i64 (Zw1 .i64 (IntKind.i64.wrap ((IntKind.i64.wrap (a.h*6364136223846793005))+1442695040888963407)) 35) (Zw1 .i64 (IntKind.i64.wrap ((IntKind.i64.wrap (a.h*6364136223846793005))+1442695040888963407)) 45)) 255),({ b:=a.b,i:=a.i,h:=(IntKind.i64.wrap ((IntKind.i64.wrap (a.h*6364136223846793005))+1442695040888963407)) }:l1CurD))
def XZ (f:l1CurD) (e:Int):Option (Int×l1CurD):=
 if (decide (e<=0))=true then some (0,f) else if (decide (e<=256))=true then (Zdk f).bind λa=>chk (¬e=0) <|some ((Int.tmod a.1 e),a.2) else (Zdk f).bind λb=>(Zdk b.2).bind λc=>(Zdk c.2).bind λd=>chk (¬e=0) <|some ((Int.tmod (IntKind.i64.wrap ((IntKind.i64.wrap ((IntKind.i64.wrap (b.1*65536))+(IntKind.i64.wrap (c.1*256))))+d.1)) e),d.2)
def Zaf (b:ByteArray) (c:ByteArray):Option (List ByteArray):=
 if (sEq c ⟨#[]⟩)=true then some [b] else Ys (σ:=(List ByteArray)×Int×Int) (λs=>match s with |(e,d,a)=>if (decide ((IntKind.i64.wrap (a+(c.size:Int)))<=(b.size:Int)))=true then chk (0<=(IntKind.i64.wrap (a+(c.size:Int)))/\(IntKind.i64.wrap (a+(c.size:Int)))<=(b.size:Int)/\0<=a/\a<=(((A4 (IntKind.i64.wrap (a+(c.size:Int)))):Nat):Int)) <|if (sEq (b.extract (A4 a) (A4 (IntKind.i64.wrap (a+(c.size:Int))))) c)=true then chk (a<=(b.size:Int)/\0<=d/\d<=(((A4 a):Nat):Int)) <|chk (e.length+1<=1073741824) <|some (.inl ((e++[(b.extract (A4 d) (A4 a))]),(IntKind.i64.wrap (a+(c.size:Int))),(IntKind.i64.wrap (a+(c.size:Int))))) else some (.inl (e,d,(IntKind.i64.wrap (a+1)))) else chk (0<=d/\d<=(b.size:Int)) <|chk (e.length+1<=1073741824) <|some (.inr (e++[(b.extract (A4 d) b.size)]))) ([],0,0)
def Za5 (c:Int):Option ByteArray:=
 if (c==(-9223372036854775808))=true then some (⟨#[45,57,50,50,51,51,55,50,48,51,54,56,53,52,55,55,53,56,48,56]⟩) else if (decide (c<0))=true then none else Ys (σ:=Int×ByteArray) (λs=>match s with |(a,b)=>chk ((Xn [(IntKind.u8.wrap (IntKind.i64.wrap (48+(Int.tmod a 10))))]).size+b.size<=9223372036854775807) <|if ((IntKind.i64.wrap (Int.tdiv a 10))==0)=true then some (.inr ((Xn [(IntKind.u8.wrap (IntKind.i64.wrap (48+(Int.tmod a 10))))])++b)) else some (.inl ((IntKind.i64.wrap (Int.tdiv a 10)),((Xn [(IntKind.u8.wrap (IntKind.i64.wrap (48+(Int.tmod a 10))))])++b)))) (c,⟨#[]⟩)
def QJ (d:Int):Option ByteArray:=
 if (d==(-9223372036854775808))=true then some (⟨#[45,57,50,50,51,51,55,50,48,51,54,56,53,52,55,55,53,56,48,56]⟩) else if (decide (d<0))=true then (Za5 (IntKind.i64.wrap (0 - d))).bind λc=>chk ((⟨#[45]⟩:ByteArray).size+c.size<=9223372036854775807) <|some ((⟨#[45]⟩:ByteArray)++c) else Ys (σ:=Int×ByteArray) (λs=>match s with |(a,b)=>chk ((Xn [(IntKind.u8.wrap (IntKind.i64.wrap (48+(Int.tmod a 10))))]).size+b.size<=9223372036854775807) <|if ((IntKind.i64.wrap (Int.tdiv a 10))==0)=true then some (.inr ((Xn [(IntKind.u8.wrap (IntKind.i64.wrap (48+(Int.tmod a 10))))])++b)) else some (.inl ((IntKind.i64.wrap (Int.tdiv a 10)),((Xn [(IntKind.u8.wrap (IntKind.i64.wrap (48+(Int.tmod a 10))))])++b)))) (d,⟨#[]⟩)
def QY (a:Int) (b:Int) (c:Int):Option Bool:=
 if (decide (b<=a))=true then some (decide (a<=c)) else some false
def Q3 (e:ByteArray):Option (Int×Bool):=
 (QY (e.size:Int) 1 4).bind λc=>if c=true then Zm (σ:=Int) (λ(f:Nat) (b:UInt8) a=>if (decide ((b.toNat:Int)<48))=true then some (.inr (0,false)) else if (decide (57<(b.toNat:Int)))=true then some (.inr (0,false)) else some (.inl (IntKind.i64.wrap ((IntKind.i64.wrap (10*a))+IntKind.i64.wrap (IntKind.u8.wrap ((b.toNat:Int) - 48)))))) (λa=>(QJ a).bind λd=>if (sEq d e)=true then some (a,true) else some (0,false)) e.data.toList 0 0 else some (0,false)
def ZhC (a:Int):Option ByteArray:=
 if (a==3)=true then some (⟨#[32,61,32]⟩) else if (a==4)=true then some (⟨#[32,33,61,32]⟩) else some (⟨#[32,60,32]⟩)
def Q5 (e:ByteArray):Option Bool:=
 Zm (σ:=Unit) (λ(f:Nat) (a:UInt8) _=>(QY (IntKind.i64.wrap (a.toNat:Int)) 97 122).bind λb=>if b=true then some (.inl ()) else (QY (IntKind.i64.wrap (a.toNat:Int)) 48 57).bind λc=>if c=true then some (.inl ()) else some (.inr false)) (λ_=>(QY (e.size:Int) 1 8).bind λd=>some d) e.data.toList 0 ()
def Zd7 (d:ByteArray):Option Bool:=
 (Q5 d).bind λa=>if a=true then (sAt d 0).bind λb=>(QY (IntKind.i64.wrap (b.toNat:Int)) 97 122).bind λc=>some c else some false
def Zbm (a:ByteArray):Option Bool:=
 if (decide (1<(a.size:Int)))=true then (sAt a 0).bind λb=>if ((b.toNat:Int)==63)=true then chk (0<=1/\1<=(a.size:Int)) <|(Q5 (a.extract (A4 1) a.size)).bind λc=>some c else some false else some false
def ZaH (c:ByteArray):Option Bool:=
 (Q5 c).bind λa=>if a=true then some true else (Zbm c).bind λb=>some b
def Y6 (d:Zv):Option Bool:=
 Zm (σ:=Unit) (λ(e:Nat) (a:ByteArray) _=>(ZaH a).bind λb=>if b=true then some (.inl ()) else some (.inr false)) (λ_=>(Zd7 d.rel).bind λc=>if c=true then some (decide ((d.args.length:Int)<=3)) else some false) d.args 0 ()
def Zdi (h:Zp):Option Bool:=
 if (h.kind==1)=true then (Y6 h.pattern).bind λa=>if a=true then if (sEq h.left ⟨#[]⟩)=true then some (sEq h.right ⟨#[]⟩) else some false else some false else if (h.kind==2)=true then (Y6 h.pattern).bind λb=>if b=true then if (sEq h.left ⟨#[]⟩)=true then some (sEq h.right ⟨#[]⟩) else some false else some false else if (h.kind==3)=true then if (sEq h.pattern.rel ⟨#[]⟩)=true then if ((h.pattern.args.length:Int)==0)=true then (ZaH h.left).bind λc=>if c=true then (ZaH h.right).bind λd=>some d else some false else some false else some false else if (h.kind==4)=true then if (sEq h.pattern.rel ⟨#[]⟩)=true then if ((h.pattern.args.length:Int)==0)=true then (ZaH h.left).bind λe=>if e=true then (ZaH h.right).bind λf=>some f else some false else some false else some false else if (h.kind==5)=true then if (sEq h.pattern.rel ⟨#[]⟩)=true then if ((h.pattern.args.length:Int)==0)=true then (ZaH h.left).bind λg=>if g=true then (ZaH h.right).bind λi=>some i else some false else some false else some false else some false
def ZfK (g:ByteArray):Option (ByteArray×(List ByteArray)×Bool):=
 (Zaf g (⟨#[40]⟩)).bind λb=>if ((b.length:Int) != 2)=true then some ((⟨#[]⟩),[],false) else chk (0<=1/\1<(b.length:Int)) <|(b[(A4 1)]?).bind λa=>if ((a.size:Int)==0)=true then some ((⟨#[]⟩),[],false) else (sAt a (IntKind.i64.wrap ((a.size:Int) - 1))).bind λc=>if ((c.toNat:Int) != 41)=true then some ((⟨#[]⟩),[],false) else chk (0<=(IntKind.i64.wrap ((a.size:Int) - 1))/\(IntKind.i64.wrap ((a.size:Int) - 1))<=(a.size:Int)) <|if (sEq (a.extract 0 (A4 (IntKind.i64.wrap ((a.size:Int) - 1)))) ⟨#[]⟩)=true then chk (0<=0/\0<(b.length:Int)) <|(b[(A4 0)]?).bind λd=>some (d,[],true) else chk (0<=0/\0<(b.length:Int)) <|(b[(A4 0)]?).bind λe=>(Zaf (a.extract 0 (A4 (IntKind.i64.wrap ((a.size:Int) - 1)))) (⟨#[44]⟩)).bind λf=>some (e,f,true)
def Yt (c:ByteArray):Option (Zv×Bool):=
 (ZfK c).bind λa=>if a.2.2=true then (Y6 ({ rel:=a.1,args:=a.2.1 }:Zv)).bind λb=>if b=true then some (({ rel:=a.1,args:=a.2.1 }:Zv),true) else some (({ rel:=(⟨#[]⟩),args:=[] }:Zv),false) else some (({ rel:=(⟨#[]⟩),args:=[] }:Zv),false)
def ZbI (a:ByteArray):Option (Zp×Bool):=
 Ys (σ:=Int) (λb=>if (decide (b<=5))=true then (ZhC b).bind λj=>(Zaf a j).bind λc=>if ((c.length:Int)==2)=true then chk (0<=0/\0<(c.length:Int)) <|(c[(A4 0)]?).bind λd=>chk (0<=1/\1<(c.length:Int)) <|(c[(A4 1)]?).bind λe=>(Zdi ({ kind:=b,pattern:=({ rel:=(⟨#[]⟩),args:=[] }:Zv),left:=d,right:=e }:Zp)).bind λk=>if k=true then some (.inr (({ kind:=b,pattern:=({ rel:=(⟨#[]⟩),args:=[] }:Zv),left:=d,right:=e }:Zp),true)) else some (.inl (IntKind.i64.wrap (b+1))) else some (.inl (IntKind.i64.wrap (b+1))) else if (decide (4<(a.size:Int)))=true then chk (0<=4/\4<=(a.size:Int)) <|if (sEq (a.extract 0 (A4 4)) ⟨#[110,111,116,32]⟩)=true then (Yt (a.extract (A4 4) a.size)).bind λf=>if f.2=true then some (.inr (({ kind:=2,pattern:=f.1,left:=(⟨#[]⟩),right:=(⟨#[]⟩) }:Zp),true)) else some (.inr (({ kind:=0,pattern:=({ rel:=(⟨#[]⟩),args:=[] }:Zv),left:=(⟨#[]⟩),right:=(⟨#[]⟩) }:Zp),false)) else (Yt a).bind λg=>if g.2=true then some (.inr (({ kind:=1,pattern:=g.1,left:=(⟨#[]⟩),right:=(⟨#[]⟩) }:Zp),true)) else some (.inr (({ kind:=0,pattern:=({ rel:=(⟨#[]⟩),args:=[] }:Zv),left:=(⟨#[]⟩),right:=(⟨#[]⟩) }:Zp),false)) else (Yt a).bind λi=>if i.2=true then some (.inr (({ kind:=1,pattern:=i.1,left:=(⟨#[]⟩),right:=(⟨#[]⟩) }:Zp),true)) else some (.inr (({ kind:=0,pattern:=({ rel:=(⟨#[]⟩),args:=[] }:Zv),left:=(⟨#[]⟩),right:=(⟨#[]⟩) }:Zp),false))) 3
def Zbu (g:ByteArray):Option (Zw×Bool):=
 if (sEq g ⟨#[115,116,111,112]⟩)=true then some (({ kind:=3,pattern:=({ rel:=(⟨#[]⟩),args:=[] }:Zv) }:Zw),true) else (Zaf g (⟨#[32]⟩)).bind λa=>if ((a.length:Int) != 2)=true then some (({ kind:=0,pattern:=({ rel:=(⟨#[]⟩),args:=[] }:Zv) }:Zw),false) else chk (0<=0/\0<(a.length:Int)) <|(a[(A4 0)]?).bind λb=>if (sEq b ⟨#[97,100,100]⟩)=true then chk (0<=1/\1<(a.length:Int)) <|(a[(A4 1)]?).bind λe=>(Yt e).bind λc=>some (({ kind:=1,pattern:=c.1 }:Zw),c.2) else if (sEq b ⟨#[100,114,111,112]⟩)=true then chk (0<=1/\1<(a.length:Int)) <|(a[(A4 1)]?).bind λf=>(Yt f).bind λd=>some (({ kind:=2,pattern:=d.1 }:Zw),d.2) else some (({ kind:=0,pattern:=({ rel:=(⟨#[]⟩),args:=[] }:Zv) }:Zw),false)
def Qp (e:List ByteArray) (d:ByteArray):Option (List ByteArray):=
 Zm (σ:=(List ByteArray)×Bool) (λ(f:Nat) (b:ByteArray) s=>match s with |(a,c)=>if c=true then chk (a.length+1<=1073741824) <|some (.inl ((a++[b]),true)) else if (sLt b d)=true then chk (a.length+1<=1073741824) <|some (.inl ((a++[b]),false)) else if (sEq b d)=true then chk (a.length+1<=1073741824) <|some (.inl ((a++[b]),true)) else chk (a.length+1<=1073741824) <|chk (a.length+1+1<=1073741824) <|some (.inl (((a++[d])++[b]),true))) (λs=>match s with |(a,c)=>if c=true then some a else chk (a.length+1<=1073741824) <|some (a++[d])) e 0 ([],false)
def Zcd (e:Zv):Option (List ByteArray):=
 Zm (σ:=(List ByteArray)) (λ(f:Nat) (b:ByteArray) a=>(Zbm b).bind λc=>if c=true then (Qp a b).bind λd=>some (.inl d) else some (.inl a)) (λa=>some a) e.args 0 []
def QM (g:Zf) (h:Int):Option (List ByteArray):=
 Zm (σ:=(List ByteArray)) (λ(i:Nat) (c:Zp) a=>if (decide ((i:Int)<h))=true then if (c.kind==1)=true then (Zcd c.pattern).bind λd=>Zm (σ:=(List ByteArray)) (λ(j:Nat) (e:ByteArray) b=>(Qp b e).bind λf=>some (.inl f)) (λb=>some (.inl b)) d 0 a else some (.inl a) else some (.inr a)) (λa=>some a) g.cond 0 []
def Qi (h:Zp):Option (List ByteArray):=
 (Zcd h.pattern).bind λa=>(Zbm h.left).bind λc=>if c=true then (Qp a h.left).bind λb=>(Zbm h.right).bind λd=>if d=true then (Qp b h.right).bind λe=>some e else some b else (Zbm h.right).bind λf=>if f=true then (Qp a h.right).bind λg=>some g else some a
def ZX (b:List ByteArray) (c:ByteArray):Option Bool:=
 Zm (σ:=Unit) (λ(d:Nat) (a:ByteArray) _=>if (sEq a c)=true then some (.inr true) else some (.inl ())) (λ_=>some false) b 0 ()
def Zcc (b:Zp):Option Bool:=
 (Zdi b).bind λa=>if a=true then some (decide (3<=b.kind)) else some false
def Qj (g:Zf) (i:Int) (h:ByteArray):Option Bool:=
 Zm (σ:=Unit) (λ(j:Nat) (a:Zp) _=>if ((j:Int) != i)=true then (Qi a).bind λb=>(ZX b h).bind λc=>if c=true then some (.inr true) else some (.inl ()) else some (.inl ())) (λ_=>Zm (σ:=Unit) (λ(k:Nat) (d:Zw) _=>(Zcd d.pattern).bind λe=>(ZX e h).bind λf=>if f=true then some (.inr true) else some (.inl ())) (λ_=>some false) g.thn 0 ()) g.cond 0 ()
def ZeK (c:Zw):Option Bool:=
 if (c.kind==1)=true then (Y6 c.pattern).bind λa=>some a else if (c.kind==2)=true then (Y6 c.pattern).bind λb=>some b else if (c.kind==3)=true then if (sEq c.pattern.rel ⟨#[]⟩)=true then some ((c.pattern.args.length:Int)==0) else some false else some false
def ZeC (h:Zf):Option (List ByteArray):=
 Zm (σ:=(List ByteArray)) (λ(n:Nat) (e:Zp) a=>(Qi e).bind λf=>Zm (σ:=(List ByteArray)) (λ(o:Nat) (g:ByteArray) b=>(Qp b g).bind λi=>some (.inl i)) (λb=>some (.inl b)) f 0 a) (λa=>Zm (σ:=(List ByteArray)) (λ(p:Nat) (j:Zw) c=>(Zcd j.pattern).bind λk=>Zm (σ:=(List ByteArray)) (λ(q:Nat) (l:ByteArray) d=>(Qp d l).bind λm=>some (.inl m)) (λd=>some (.inl d)) k 0 c) (λc=>some c) h.thn 0 a) h.cond 0 []
def Zc3 (h:Zf):Option Bool:=
 (Zd7 h.name).bind λg=>if g=true then (QY h.priority 0 9).bind λi=>if i=true then (QY (h.cond.length:Int) 1 4).bind λj=>if j=true then (QY (h.thn.length:Int) 1 2).bind λk=>if k=true then (QM h (h.cond.length:Int)).bind λl=>Zm (σ:=Unit) (λ(n:Nat) (a:Zp) _=>(Zdi a).bind λm=>if m=true then if ((n:Int)==0)=true then if (a.kind != 1)=true then some (.inr false) else (QM h (n:Int)).bind λo=>(Qi a).bind λp=>Zm (σ:=Unit) (λ(r:Nat) (b:ByteArray) _=>(ZX o b).bind λc=>(Zcc a).bind λq=>if q=true then if c=true then if (a.kind==2)=true then some (.inl ()) else some (.inl ()) else some (.inr (.inr false)) else if (a.kind==2)=true then if c=true then some (.inl ()) else (Qj h (n:Int) b).bind λt=>if t=true then some (.inr (.inr false)) else some (.inl ()) else some (.inl ())) (λ_=>some (.inl ())) p 0 () else (QM h (n:Int)).bind λu=>(Qi a).bind λv=>Zm (σ:=Unit) (λ(s:Nat) (d:ByteArray) _=>(ZX u d).bind λe=>(Zcc a).bind λw=>if w=true then if e=true then if (a.kind==2)=true then some (.inl ()) else some (.inl ()) else some (.inr (.inr false)) else if (a.kind==2)=true then if e=true then some (.inl ()) else (Qj h (n:Int) d).bind λx=>if x=true then some (.inr (.inr false)) else some (.inl ()) else some (.inl ())) (λ_=>some (.inl ())) v 0 () else some (.inr false)) (λ_=>Zm (σ:=Unit) (λ(aa:Nat) (f:Zw) _=>(ZeK f).bind λy=>if y=true then (Zcd f.pattern).bind λz=>Zm (σ:=Unit) (λ(ab:Nat) (A:ByteArray) _=>(ZX l A).bind λB=>if B=true then some (.inl ()) else some (.inr (.inr false))) (λ_=>some (.inl ())) z 0 () else some (.inr false)) (λ_=>(ZeC h).bind λC=>some (decide ((C.length:Int)<=6))) h.thn 0 ()) h.cond 0 () else some false else some false else some false else some false
def Zfz (h:Zf) (k:ByteArray) (l:ByteArray):Option (Zf×Bool):=
 (Zaf k (⟨#[32,38,32]⟩)).bind λe=>Zm (σ:=(List Zp)) (λ(m:Nat) (f:ByteArray) a=>(ZbI f).bind λc=>if c.2=true then chk (a.length+1<=1073741824) <|some (.inl (a++[c.1])) else some (.inr (({ name:=h.name,priority:=h.priority,cond:=a,thn:=[] }:Zf),false))) (λa=>(Zaf l (⟨#[32,38,32]⟩)).bind λg=>Zm (σ:=(List Zw)) (λ(n:Nat) (i:ByteArray) b=>(Zbu i).bind λd=>if d.2=true then chk (b.length+1<=1073741824) <|some (.inl (b++[d.1])) else some (.inr (({ name:=h.name,priority:=h.priority,cond:=a,thn:=b }:Zf),false))) (λb=>(Zc3 ({ name:=h.name,priority:=h.priority,cond:=a,thn:=b }:Zf)).bind λj=>some (({ name:=h.name,priority:=h.priority,cond:=a,thn:=b }:Zf),j)) g 0 []) e 0 []
def Zat (f:ByteArray):Option (Zf×Bool):=
 (Zaf f (⟨#[58,32]⟩)).bind λa=>if ((a.length:Int) != 2)=true then some (({ name:=(⟨#[]⟩),priority:=0,cond:=[],thn:=[] }:Zf),false) else chk (0<=0/\0<(a.length:Int)) <|(a[(A4 0)]?).bind λg=>(Zaf g (⟨#[32]⟩)).bind λb=>chk (0<=1/\1<(a.length:Int)) <|(a[(A4 1)]?).bind λi=>(Zaf i (⟨#[32,45,62,32]⟩)).bind λc=>if ((b.length:Int) != 2)=true then some (({ name:=(⟨#[]⟩),priority:=0,cond:=[],thn:=[] }:Zf),false) else if ((c.length:Int) != 2)=true then some (({ name:=(⟨#[]⟩),priority:=0,cond:=[],thn:=[] }:Zf),false) else chk (1<(b.length:Int)) <|(b[(A4 1)]?).bind λj=>(Q3 j).bind λd=>if d.2=true then chk (0<(b.length:Int)) <|(b[(A4 0)]?).bind λk=>chk (0<(c.length:Int)) <|(c[(A4 0)]?).bind λl=>chk (1<(c.length:Int)) <|(c[(A4 1)]?).bind λm=>(Zfz ({ name:=k,priority:=d.1,cond:=[],thn:=[] }:Zf) l m).bind λe=>if e.2=true then some (e.1,true) else some (({ name:=(⟨#[]⟩),priority:=0,cond:=[],thn:=[] }:Zf),false) else some (({ name:=(⟨#[]⟩),priority:=0,cond:=[],thn:=[] }:Zf),false)
def Zcn (g:l1CurD) (h:Bool):Option (Zf×l1CurD):=
 if h=true then (XZ g 11).bind λa=>chk (0<=a.1/\a.1<((11:Nat):Int)) <|(([(⟨#[114,32,49,58,32,111,110,40,63,120,44,63,121,41,32,38,32,111,110,40,63,121,44,63,122,41,32,45,62,32,97,100,100,32,111,110,40,63,120,44,63,122,41]⟩),(⟨#[114,32,50,58,32,111,110,40,63,120,44,63,121,41,32,38,32,112,40,63,121,41,32,45,62,32,97,100,100,32,112,40,63,120,41]⟩),(⟨#[114,32,48,58,32,112,40,63,120,41,32,38,32,111,110,40,63,120,44,63,121,41,32,38,32,63,120,32,33,61,32,63,121,32,45,62,32,97,100,100,32,113,40,63,121,41]⟩),(⟨#[114,32,51,58,32,112,40,63,120,41,32,38,32,112,40,63,121,41,32,38,32,63,120,32,60,32,63,121,32,45,62,32,97,100,100,32,122,40,41]⟩),(⟨#[114,32,52,58,32,111,110,40,63,120,44,97,41,32,45,62,32,97,100,100,32,113,40,63,120,41,32,38,32,97,100,100,32,112,40,97,41]⟩),(⟨#[114,32,49,58,32,113,40,63,120,41,32,38,32,112,40,63,120,41,32,45,62,32,97,100,100,32,98,97,100,40,41]⟩),(⟨#[114,32,49,58,32,97,116,40,63,120,44,63,121,41,32,45,62,32,97,100,100,32,111,110,40,63,120,44,63,121,41]⟩),(⟨#[114,32,50,58,32,112,40,63,120,41,32,38,32,110,111,116,32,113,40,63,120,41,32,45,62,32,97,100,100,32,115,40,63,120,41]⟩),(⟨#[114,32,53,58,32,111,110,40,63,120,44,63,121,41,32,38,32,110,111,116,32,112,40,63,121,41,32,45,62,32,97,100,100,32,115,40,63,121,41]⟩),(⟨#[114,32,48,58,32,115,40,63,120,41,32,38,32,110,111,116,32,122,40,41,32,38,32,110,111,116,32,112,40,63,120,41,32,45,62,32,97,100,100,32,98,97,100,40,41]⟩),(⟨#[114,32,49,58,32,113,40,63,120,41,32,38,32,111,110,40,63,120,44,63,121,41,32,38,32,110,111,116,32,113,40,63,121,41,32,45,62,32,97,100,100,32,115,40,63,120,41]⟩)])[(A4 a.1)]?).bind λc=>(Zat c).bind λd=>some (d.1,a.2) else (XZ g 7).bind λb=>chk (0<=b.1/\b.1<((11:Nat):Int)) <|(([(⟨#[114,32,49,58,32,111,110,40,63,120,44,63,121,41,32,38,32,111,110,40,63,121,44,63,122,41,32,45,62,32,97,100,100,32,111,110,40,63,120,44,63,122,41]⟩),(⟨#[114,32,50,58,32,111,110,40,63,120,44,63,121,41,32,38,32,112,40,63,121,41,32,45,62,32,97,100,100,32,112,40,63,120,41]⟩),(⟨#[114,32,48,58,32,112,40,63,120,41,32,38,32,111,110,40,63,120,44,63,121,41,32,38,32,63,120,32,33,61,32,63,121,32,45,62,32,97,100,100,32,113,40,63,121,41]⟩),(⟨#[114,32,51,58,32,112,40,63,120,41,32,38,32,112,40,63,121,41,32,38,32,63,120,32,60,32,63,121,32,45,62,32,97,100,100,32,122,40,41]⟩),(⟨#[114,32,52,58,32,111,110,40,63,120,44,97,41,32,45,62,32,97,100,100,32,113,40,63,120,41,32,38,32,97,100,100,32,112,40,97,41]⟩),(⟨#[114,32,49,58,32,113,40,63,120,41,32,38,32,112,40,63,120,41,32,45,62,32,97,100,100,32,98,97,100,40,41]⟩),(⟨#[114,32,49,58,32,97,116,40,63,120,44,63,121,41,32,45,62,32,97,100,100,32,111,110,40,63,120,44,63,121,41]⟩),(⟨#[114,32,50,58,32,112,40,63,120,41,32,38,32,110,111,116,32,113,40,63,120,41,32,45,62,32,97,100,100,32,115,40,63,120,41]⟩),(⟨#[114,32,53,58,32,111,110,40,63,120,44,63,121,41,32,38,32,110,111,116,32,112,40,63,121,41,32,45,62,32,97,100,100,32,115,40,63,121,41]⟩),(⟨#[114,32,48,58,32,115,40,63,120,41,32,38,32,110,111,116,32,122,40,41,32,38,32,110,111,116,32,112,40,63,120,41,32,45,62,32,97,100,100,32,98,97,100,40,41]⟩),(⟨#[114,32,49,58,32,113,40,63,120,41,32,38,32,111,110,40,63,120,44,63,121,41,32,38,32,110,111,116,32,113,40,63,121,41,32,45,62,32,97,100,100,32,115,40,63,120,41]⟩)])[(A4 b.1)]?).bind λe=>(Zat e).bind λf=>some (f.1,b.2)
def s_l14Rules (l:l1CurD) (m:Bool):Option ((List Zf)×l1CurD):=
 (XZ l 4).bind λc=>Ys (σ:=(List Int)×Int×Int×(List Zf)×Int) (λs=>match s with |(f,g,j,d,e)=>if (decide (0<e))=true then (Zcn ({ b:=f,i:=g,h:=j }:l1CurD) m).bind λa=>(QJ e).bind λk=>chk ((⟨#[114]⟩:ByteArray).size+k.size<=9223372036854775807) <|chk (d.length+1<=1073741824) <|some (.inl (a.2.b,a.2.i,a.2.h,(d++[({ name:=((⟨#[114]⟩:ByteArray)++k),priority:=a.1.priority,cond:=a.1.cond,thn:=a.1.thn }:Zf)]),(IntKind.i64.wrap (e - 1)))) else some (.inr (d,({ b:=f,i:=g,h:=j }:l1CurD)))) (c.2.b,c.2.i,c.2.h,[],c.1)
def Zfd (d:l1CurD) (a:List ByteArray):Option (ByteArray×l1CurD):=
 (XZ d (a.length:Int)).bind λb=>(atI a b.1).bind λc=>some (c,b.2)
def Zf1 (a:List ByteArray):Option (List ByteArray):=
 chk (a.length<=1073741824) <|some a
def XB (b:Zd):Option Zd:=
 (Zf1 b.args).bind λa=>some ({ rel:=b.rel,args:=a }:Zd)
def Zim (a:ByteArray) (b:ByteArray):Option Int:=
 if (sLt a b)=true then some (-1) else if (sLt a b||sEq a b)=true then some 0 else some 1
def XN (d:ByteArray) (e:ByteArray):Option Int:=
 (Q3 d).bind λb=>(Q3 e).bind λa=>if b.2=true then if a.2=true then if (decide (b.1<a.1))=true then some (-1) else if (decide (a.1<b.1))=true then some 1 else some 0 else some (-1) else if a.2=true then some 1 else (Zim d e).bind λc=>some c
def XF (g:Zd) (a:Zd):Option Int:=
 if (sEq g.rel a.rel)=true then Zm (σ:=Unit) (λ(b:Nat) (d:ByteArray) _=>if (decide ((b:Int)<(a.args.length:Int)))=true then (atI a.args (b:Int)).bind λe=>(XN d e).bind λc=>if (c != 0)=true then some (.inr c) else some (.inl ()) else if (decide ((g.args.length:Int)<(a.args.length:Int)))=true then some (.inr (-1)) else if (decide ((a.args.length:Int)<(g.args.length:Int)))=true then some (.inr 1) else some (.inr 0)) (λ_=>if (decide ((g.args.length:Int)<(a.args.length:Int)))=true then some (-1) else if (decide ((a.args.length:Int)<(g.args.length:Int)))=true then some 1 else some 0) g.args 0 () else (Zim g.rel a.rel).bind λf=>some f
def Xe (m:List Zd) (h:Zd):Option (List Zd):=
 Zm (σ:=(List Zd)×Bool) (λ(n:Nat) (b:Zd) s=>match s with |(a,c)=>if c=true then (XB b).bind λd=>chk (a.length+1<=1073741824) <|some (.inl ((a++[d]),true)) else (XF b h).bind λe=>if (decide (0<=e))=true then (XF b h).bind λf=>if (decide (0<f))=true then (XB h).bind λg=>chk (a.length+1<=1073741824) <|(XB b).bind λi=>chk (a.length+1+1<=1073741824) <|some (.inl (((a++[g])++[i]),true)) else (XB b).bind λj=>chk (a.length+1<=1073741824) <|some (.inl ((a++[j]),true)) else (XB b).bind λk=>chk (a.length+1<=1073741824) <|some (.inl ((a++[k]),false))) (λs=>match s with |(a,c)=>if c=true then some a else (XB h).bind λl=>chk (a.length+1<=1073741824) <|some (a++[l])) m 0 ([],false)
def ZfG (n:l1CurD) (r:Int):Option ((List Zd)×l1CurD):=
 (XZ n (IntKind.i64.wrap (r+1))).bind λf=>Ys (σ:=(List Int)×Int×Int×(List Zd)×Int) (λs=>match s with |(j,k,l,c,d)=>if (decide (0<d))=true then (Zfd ({ b:=j,i:=k,h:=l }:l1CurD) ([(⟨#[97]⟩),(⟨#[98]⟩),(⟨#[49]⟩),(⟨#[50]⟩)])).bind λe=>(Zfd e.2 ([(⟨#[97]⟩),(⟨#[98]⟩),(⟨#[49]⟩)])).bind λg=>(XZ g.2 5).bind λa=>if (a.1==0)=true then (Xe c ({ rel:=(⟨#[112]⟩),args:=[e.1] }:Zd)).bind λm=>some (.inl (a.2.b,a.2.i,a.2.h,m,(IntKind.i64.wrap (d - 1)))) else if (a.1==1)=true then (Xe c ({ rel:=(⟨#[97,116]⟩),args:=[e.1,g.1] }:Zd)).bind λo=>some (.inl (a.2.b,a.2.i,a.2.h,o,(IntKind.i64.wrap (d - 1)))) else if (a.1==2)=true then (Xe c ({ rel:=(⟨#[113]⟩),args:=[e.1] }:Zd)).bind λp=>some (.inl (a.2.b,a.2.i,a.2.h,p,(IntKind.i64.wrap (d - 1)))) else (Xe c ({ rel:=(⟨#[111,110]⟩),args:=[e.1,g.1] }:Zd)).bind λq=>some (.inl (a.2.b,a.2.i,a.2.h,q,(IntKind.i64.wrap (d - 1)))) else some (.inr (c,({ b:=j,i:=k,h:=l }:l1CurD)))) (f.2.b,f.2.i,f.2.h,[],f.1)
def s_DrawMonotone (d:List Int):Option ((List Zf)×(List Zd)):=
 (Zj4 d).bind λb=>(s_l14Rules b false).bind λa=>(ZfG a.2 5).bind λc=>some (a.1,c.1)
def QA (b:ByteArray):Option Bool:=
 if (decide ((b.size:Int)<1))=true then some false else if (decide (8<(b.size:Int)))=true then some false else Zm (σ:=Unit) (λ(c:Nat) (a:UInt8) _=>if (decide ((a.toNat:Int)<97))=true then if (decide ((a.toNat:Int)<48))=true then some (.inr false) else if (decide (57<(a.toNat:Int)))=true then some (.inr false) else some (.inl ()) else if (decide (122<(a.toNat:Int)))=true then if (decide ((a.toNat:Int)<48))=true then some (.inr false) else if (decide (57<(a.toNat:Int)))=true then some (.inr false) else some (.inl ()) else some (.inl ())) (λ_=>some true) b.data.toList 0 ()
def XP (c:ByteArray):Option Bool:=
 (QA c).bind λa=>if a=true then (sAt c 0).bind λb=>some (decide (97<=(b.toNat:Int))) else some false
def ZdN (a:ByteArray):Option Bool:=
 if (decide (1<(a.size:Int)))=true then (sAt a 0).bind λb=>if ((b.toNat:Int)==63)=true then chk (0<=1/\1<=(a.size:Int)) <|(QA (a.extract (A4 1) a.size)).bind λc=>some c else some false else some false
def Zaq (c:ByteArray):Option Bool:=
 (QA c).bind λa=>if a=true then some true else (ZdN c).bind λb=>some b
def Xu (d:Zv):Option Bool:=
 (XP d.rel).bind λa=>if a=true then if (decide (3<(d.args.length:Int)))=true then some false else Zm (σ:=Unit) (λ(e:Nat) (b:ByteArray) _=>(Zaq b).bind λc=>if c=true then some (.inl ()) else some (.inr false)) (λ_=>some true) d.args 0 () else some false
def Qd (a:List Zs):Option Bool:=
 if (decide (6<(a.length:Int)))=true then some false else Zm (σ:=Unit) (λ(c:Nat) (b:Zs) _=>(ZdN b.var).bind λd=>if d=true then (QA b.value).bind λe=>if e=true then if (decide (0<(c:Int)))=true then (atI a (IntKind.i64.wrap ((c:Int) - 1))).bind λf=>if (sLt f.var b.var)=true then some (.inl ()) else some (.inr false) else some (.inl ()) else some (.inr false) else some (.inr false)) (λ_=>some true) a 0 ()
def ZbG (e:List Zs) (d:ByteArray):Option (ByteArray×Bool):=
 (QA d).bind λb=>if b=true then some (d,true) else (ZdN d).bind λc=>if c=true then Zm (σ:=Unit) (λ(f:Nat) (a:Zs) _=>if (sEq a.var d)=true then some (.inr (a.value,true)) else some (.inl ())) (λ_=>some ((⟨#[]⟩),false)) e 0 () else some ((⟨#[]⟩),false)
def Xi (f:Zv) (g:List Zs):Option (Zd×Bool):=
 (Xu f).bind λc=>if c=true then (Qd g).bind λd=>if d=true then Zm (σ:=(List ByteArray)) (λ(h:Nat) (e:ByteArray) a=>(ZbG g e).bind λb=>if b.2=true then chk (a.length+1<=1073741824) <|some (.inl (a++[b.1])) else some (.inr (({ rel:=(⟨#[]⟩),args:=[] }:Zd),false))) (λa=>some (({ rel:=f.rel,args:=a }:Zd),true)) f.args 0 [] else some (({ rel:=(⟨#[]⟩),args:=[] }:Zd),false) else some (({ rel:=(⟨#[]⟩),args:=[] }:Zd),false)
def Zc6 (e:List ByteArray) (a:List ByteArray):Option Bool:=
 if ((e.length:Int) != (a.length:Int))=true then some false else Zm (σ:=Unit) (λ(b:Nat) (c:ByteArray) _=>(atI a (b:Int)).bind λd=>if (sEq c d)=true then some (.inl ()) else some (.inr false)) (λ_=>some true) e 0 ()
def Xh (b:Zd) (c:Zd):Option Bool:=
 if (sEq b.rel c.rel)=true then (Zc6 b.args c.args).bind λa=>some a else some false
def Yo (c:List Zd) (d:Zd):Option Int:=
 Zm (σ:=Unit) (λ(e:Nat) (a:Zd) _=>(Xh a d).bind λb=>if b=true then some (.inr (e:Int)) else some (.inl ())) (λ_=>some (-1)) c 0 ()
def Zav (a:List ByteArray):Option (List ByteArray):=
 chk (a.length<=1073741824) <|some a
def Yd (b:Zd):Option Zd:=
 (Zav b.args).bind λa=>some ({ rel:=b.rel,args:=a }:Zd)
def ZaO (d:List Zd):Option (List Zd):=
 Zm (σ:=(List Zd)) (λ(e:Nat) (b:Zd) a=>(Yd b).bind λc=>chk (a.length+1<=1073741824) <|some (.inl (a++[c]))) (λa=>some a) d 0 []
def Xt (a:Zv):Option Bool:=
 if (sEq a.rel ⟨#[]⟩)=true then some ((a.args.length:Int)==0) else some false
def Zer (h:Zp):Option Bool:=
 if (h.kind==1)=true then (Xu h.pattern).bind λa=>if a=true then if (sEq h.left ⟨#[]⟩)=true then some (sEq h.right ⟨#[]⟩) else some false else some false else if (h.kind==2)=true then (Xu h.pattern).bind λb=>if b=true then if (sEq h.left ⟨#[]⟩)=true then some (sEq h.right ⟨#[]⟩) else some false else some false else if (h.kind==3)=true then (Zaq h.left).bind λc=>if c=true then (Zaq h.right).bind λd=>if d=true then (Xt h.pattern).bind λe=>some e else some false else some false else if (h.kind==4)=true then (Zaq h.left).bind λf=>if f=true then (Zaq h.right).bind λg=>if g=true then (Xt h.pattern).bind λi=>some i else some false else some false else if (h.kind==5)=true then (Zaq h.left).bind λj=>if j=true then (Zaq h.right).bind λk=>if k=true then (Xt h.pattern).bind λl=>some l else some false else some false else some false
def XE (d:Zd):Option Bool:=
 (XP d.rel).bind λa=>if a=true then if (decide (3<(d.args.length:Int)))=true then some false else Zm (σ:=Unit) (λ(e:Nat) (b:ByteArray) _=>(QA b).bind λc=>if c=true then some (.inl ()) else some (.inr false)) (λ_=>some true) d.args 0 () else some false
def QI (a:List Zs):Option (List Zs):=
 chk (a.length<=1073741824) <|some a
def Zhf (h:List Zs) (b:ByteArray) (k:ByteArray):Option ((List Zs)×Bool):=
 (Qd h).bind λf=>if f=true then (ZdN b).bind λg=>if g=true then (QA k).bind λi=>if i=true then (ZbG h b).bind λe=>if e.2=true then if (sEq e.1 k)=true then (QI h).bind λj=>some (j,true) else some ([],false) else if (decide (6<=(h.length:Int)))=true then some ([],false) else Zm (σ:=(List Zs)×Bool) (λ(l:Nat) (c:Zs) s=>match s with |(a,d)=>if d=true then chk (a.length+1<=1073741824) <|some (.inl ((a++[c]),true)) else if (sLt c.var b||sEq c.var b)=true then chk (a.length+1<=1073741824) <|some (.inl ((a++[c]),false)) else chk (a.length+1<=1073741824) <|chk (a.length+1+1<=1073741824) <|some (.inl (((a++[({ var:=b,value:=k }:Zs)])++[c]),true))) (λs=>match s with |(a,d)=>if d=true then some (a,true) else chk (a.length+1<=1073741824) <|some ((a++[({ var:=b,value:=k }:Zs)]),true)) h 0 ([],false) else some ([],false) else some ([],false) else some ([],false)
def ZbF (h:Zv) (a:Zd) (n:List Zs):Option ((List Zs)×Bool):=
 (Xu h).bind λf=>if f=true then (XE a).bind λg=>if g=true then (Qd n).bind λi=>if i=true then if (sEq h.rel a.rel)=true then if ((h.args.length:Int) != (a.args.length:Int))=true then some ([],false) else (QI n).bind λj=>Zm (σ:=(List Zs)) (λ(d:Nat) (c:ByteArray) b=>(QA c).bind λk=>if k=true then (atI a.args (d:Int)).bind λl=>if (sEq c l)=true then some (.inl b) else some (.inr ([],false)) else (atI a.args (d:Int)).bind λm=>(Zhf b c m).bind λe=>if e.2=true then some (.inl e.1) else some (.inr ([],false))) (λb=>some (b,true)) h.args 0 j else some ([],false) else some ([],false) else some ([],false) else some ([],false)
def X0 (e:Zv) (f:List Zs) (g:List Zd):Option (List Zd):=
 Zm (σ:=(List Zd)) (λ(h:Nat) (b:Zd) a=>(ZbF e b f).bind λc=>if c.2=true then (Yd b).bind λd=>chk (a.length+1<=1073741824) <|some (.inl (a++[d])) else some (.inl a)) (λa=>some a) g 0 []
def ZbB (b:Int):Option ByteArray:=
 (Zrq b).bind λa=>some a
def Zar (c:ByteArray):Option (Int×Bool):=
 if (decide ((c.size:Int)<1))=true then some (0,false) else if (decide (4<(c.size:Int)))=true then some (0,false) else (ZmO c).bind λa=>if a.2=true then if (decide (a.1<0))=true then some (0,false) else if (decide (9999<a.1))=true then some (0,false) else (ZbB a.1).bind λb=>if (sEq b c)=true then some (a.1,true) else some (0,false) else some (0,false)
def ZjJ (b:Zp):Option Bool:=
 (Zer b).bind λa=>if a=true then some (decide (3<=b.kind)) else some false
def Zdq (g:Zp) (h:List Zs):Option Bool:=
 (ZjJ g).bind λe=>if e=true then (Qd h).bind λf=>if f=true then (ZbG h g.left).bind λa=>(ZbG h g.right).bind λb=>if a.2=true then if b.2=true then if (g.kind==3)=true then some (sEq a.1 b.1) else if (g.kind==4)=true then some (!(sEq a.1 b.1)) else (Zar a.1).bind λc=>(Zar b.1).bind λd=>if c.2=true then if d.2=true then some (decide (c.1<d.1)) else some false else some false else some false else some false else some false else some false
def ZcZ (h:Zp) (a:List Zs) (b:List Zd):Option Bool:=
 (Zer h).bind λc=>if c=true then (Qd a).bind λd=>if d=true then if (h.kind==1)=true then (X0 h.pattern a b).bind λe=>some (decide (0<(e.length:Int))) else if (h.kind==2)=true then (X0 h.pattern a b).bind λf=>some ((f.length:Int)==0) else (Zdq h a).bind λg=>some g else some false else some false
def Zap (l:List Zp) (h:List Zd):Option (List Zt):=
 Zm (σ:=(List Zt)) (λ(m:Nat) (d:Zp) e=>Zm (σ:=(List Zt)) (λ(n:Nat) (c:Zt) a=>if (d.kind != 1)=true then (ZcZ d c.binding h).bind λj=>if j=true then chk (a.length+1<=1073741824) <|some (.inl (a++[c])) else some (.inl a) else Zm (σ:=(List Zt)) (λ(o:Nat) (f:Zd) b=>(ZbF d.pattern f c.binding).bind λg=>if g.2=true then (ZaO c.facts).bind λi=>(Yd f).bind λk=>chk (i.length+1<=1073741824) <|chk (b.length+1<=1073741824) <|some (.inl (b++[({ facts:=(i++[k]),binding:=g.1 }:Zt)])) else some (.inl b)) (λb=>some (.inl b)) h 0 a) (λa=>some (.inl a)) e 0 []) (λe=>some e) l 0 ([({ facts:=[],binding:=[] }:Zt)])
def Y1 (c:Zf):Option (List Zp):=
 Zm (σ:=(List Zp)) (λ(d:Nat) (b:Zp) a=>if (b.kind != 2)=true then chk (a.length+1<=1073741824) <|some (.inl (a++[b])) else some (.inl a)) (λa=>some a) c.cond 0 []
def ZU (a:Int) (b:Int):Option Int:=
 if (decide (a<b))=true then some (-1) else if (decide (b<a))=true then some 1 else some 0
def Zaz (e:ByteArray) (f:ByteArray):Option Int:=
 (Zar e).bind λb=>(Zar f).bind λa=>if b.2=true then if a.2=true then (ZU b.1 a.1).bind λc=>some c else some (-1) else if a.2=true then some 1 else (ZfS e f).bind λd=>some d
def Yn (h:Zd) (a:Zd):Option Int:=
 (ZfS h.rel a.rel).bind λb=>if (b != 0)=true then some b else Zm (σ:=Unit) (λ(c:Nat) (e:ByteArray) _=>if (decide ((c:Int)<(a.args.length:Int)))=true then (atI a.args (c:Int)).bind λf=>(Zaz e f).bind λd=>if (d != 0)=true then some (.inr d) else some (.inl ()) else (ZU (h.args.length:Int) (a.args.length:Int)).bind λg=>some (.inr g)) (λ_=>(ZU (h.args.length:Int) (a.args.length:Int)).bind λi=>some i) h.args 0 ()
def Zbt (a:List Zd):Option Bool:=
 if (decide (24<(a.length:Int)))=true then some false else Zm (σ:=Unit) (λ(b:Nat) (c:Zd) _=>(XE c).bind λd=>if d=true then if (decide (0<(b:Int)))=true then (atI a (IntKind.i64.wrap ((b:Int) - 1))).bind λe=>(Yn e c).bind λf=>if (decide (0<=f))=true then some (.inr false) else some (.inl ()) else some (.inl ()) else some (.inr false)) (λ_=>some true) a 0 ()
def ZaN (d:List ByteArray):Option (List ByteArray):=
 Zm (σ:=(List ByteArray)) (λ(e:Nat) (b:ByteArray) a=>(ZdN b).bind λc=>if c=true then chk (a.length+1<=1073741824) <|some (.inl (a++[b])) else some (.inl a)) (λa=>some a) d 0 []
def Yx (f:List ByteArray):Option (List ByteArray):=
 chk (f.length<=1073741824) <|(ZcJ f).bind λc=>Zm (σ:=(List ByteArray)) (λ(b:Nat) (d:ByteArray) a=>if ((b:Int)==0)=true then chk (a.length+1<=1073741824) <|some (.inl (a++[d])) else chk (0<=(IntKind.i64.wrap ((b:Int) - 1))/\(IntKind.i64.wrap ((b:Int) - 1))<(c.length:Int)) <|(c[(A4 (IntKind.i64.wrap ((b:Int) - 1)))]?).bind λe=>if (sEq e d)=true then some (.inl a) else chk (a.length+1<=1073741824) <|some (.inl (a++[d]))) (λa=>some a) c 0 []
def Zax (e:Zf) (f:Int):Option (List ByteArray):=
 Zm (σ:=(List ByteArray)) (λ(g:Nat) (b:Zp) a=>if (decide ((g:Int)<f))=true then if (b.kind==1)=true then (ZaN b.pattern.args).bind λc=>chk (a.length+c.length<=1073741824) <|some (.inl (a++c)) else some (.inl a) else some (.inl a)) (λa=>(Yx a).bind λd=>some d) e.cond 0 []
def Xz (b:List ByteArray) (c:ByteArray):Option Bool:=
 Zm (σ:=Unit) (λ(d:Nat) (a:ByteArray) _=>if (sEq a c)=true then some (.inr true) else some (.inl ())) (λ_=>some false) b 0 ()
def Zie (b:Zp):Option (List ByteArray):=
 (Zav b.pattern.args).bind λa=>chk (a.length+2<=1073741824) <|some (a++[b.left,b.right])
def QQ (d:Zp):Option (List ByteArray):=
 (Zie d).bind λa=>(ZaN a).bind λb=>(Yx b).bind λc=>some c
def Qe (g:Zf) (h:Int) (a:ByteArray):Option Bool:=
 Zm (σ:=Unit) (λ(i:Nat) (b:Zp) _=>if ((i:Int) != h)=true then (QQ b).bind λc=>(Xz c a).bind λd=>if d=true then some (.inr true) else some (.inl ()) else some (.inl ())) (λ_=>Zm (σ:=Unit) (λ(j:Nat) (e:Zw) _=>(Xz e.pattern.args a).bind λf=>if f=true then some (.inr true) else some (.inl ())) (λ_=>some false) g.thn 0 ()) g.cond 0 ()
def Zcw (a:Zf) (b:Int):Option Bool:=
 (atI a.cond b).bind λc=>(Zax a b).bind λe=>(QQ c).bind λf=>Zm (σ:=Unit) (λ(h:Nat) (d:ByteArray) _=>if (c.kind==1)=true then some (.inl ()) else (Xz e d).bind λg=>if g=true then some (.inl ()) else if (c.kind != 2)=true then some (.inr false) else (Qe a b d).bind λi=>if i=true then some (.inr false) else some (.inl ())) (λ_=>some true) f 0 ()
def Zej (d:Zw):Option Bool:=
 if (d.kind==1)=true then (Xu d.pattern).bind λa=>some a else if (d.kind==2)=true then (Xu d.pattern).bind λb=>some b else if (d.kind==3)=true then (Xt d.pattern).bind λc=>some c else some false
def Zb7 (d:List Zp):Option (List ByteArray):=
 Zm (σ:=(List ByteArray)) (λ(e:Nat) (c:Zp) a=>(QQ c).bind λb=>chk (a.length+b.length<=1073741824) <|some (.inl (a++b))) (λa=>some a) d 0 []
def ZfP (h:Zf):Option Bool:=
 (XP h.name).bind λc=>if c=true then if (decide (h.priority<0))=true then some false else if (decide (9<h.priority))=true then some false else if (decide ((h.cond.length:Int)<1))=true then some false else if (decide (4<(h.cond.length:Int)))=true then some false else if (decide ((h.thn.length:Int)<1))=true then some false else if (decide (2<(h.thn.length:Int)))=true then some false else Zm (σ:=Unit) (λ(n:Nat) (a:Zp) _=>(Zer a).bind λd=>if d=true then if ((n:Int)==0)=true then if (a.kind != 1)=true then some (.inr false) else (Zcw h (n:Int)).bind λe=>if e=true then some (.inl ()) else some (.inr false) else (Zcw h (n:Int)).bind λf=>if f=true then some (.inl ()) else some (.inr false) else some (.inr false)) (λ_=>(Zax h (h.cond.length:Int)).bind λg=>Zm (σ:=Unit) (λ(p:Nat) (b:Zw) _=>(Zej b).bind λi=>if i=true then (ZaN b.pattern.args).bind λj=>Zm (σ:=Unit) (λ(q:Nat) (k:ByteArray) _=>(Xz g k).bind λl=>if l=true then some (.inl ()) else some (.inr (.inr false))) (λ_=>some (.inl ())) j 0 () else some (.inr false)) (λ_=>(Zb7 h.cond).bind λm=>(Yx m).bind λo=>some (decide ((o.length:Int)<=6))) h.thn 0 ()) h.cond 0 () else some false
def XG (b:List Zf) (c:ByteArray):Option Int:=
 Zm (σ:=Unit) (λ(d:Nat) (a:Zf) _=>if (sEq a.name c)=true then some (.inr (d:Int)) else some (.inl ())) (λ_=>some (-1)) b 0 ()
def Zau (d:List Zf):Option Bool:=
 if (decide (6<(d.length:Int)))=true then some false else Zm (σ:=Unit) (λ(e:Nat) (a:Zf) _=>(ZfP a).bind λb=>if b=true then (XG d a.name).bind λc=>if (c != (e:Int))=true then some (.inr false) else some (.inl ()) else some (.inr false)) (λ_=>some true) d 0 ()
def Zeb (b:Zf):Option Bool:=
 Zm (σ:=Unit) (λ(c:Nat) (a:Zw) _=>if (a.kind != 1)=true then some (.inr false) else some (.inl ())) (λ_=>some true) b.thn 0 ()
def Zc7 (h:Zf):Option Bool:=
 (ZfP h).bind λb=>if b=true then (Zeb h).bind λc=>if c=true then Zm (σ:=Unit) (λ(i:Nat) (a:Zp) _=>if (a.kind != 2)=true then some (.inl ()) else (Zax h (i:Int)).bind λd=>(QQ a).bind λe=>Zm (σ:=Unit) (λ(j:Nat) (f:ByteArray) _=>(Xz d f).bind λg=>if g=true then some (.inl ()) else some (.inr (.inr false))) (λ_=>some (.inl ())) e 0 ()) (λ_=>some true) h.cond 0 () else some false else some false
def Q0 (d:Zf):Option (List ByteArray):=
 Zm (σ:=(List ByteArray)) (λ(e:Nat) (b:Zw) a=>if (b.kind==1)=true then chk (a.length+1<=1073741824) <|some (.inl (a++[b.pattern.rel])) else if (b.kind==2)=true then chk (a.length+1<=1073741824) <|some (.inl (a++[b.pattern.rel])) else some (.inl a)) (λa=>(Yx a).bind λc=>some c) d.thn 0 []
def Zct (d:Zf):Option (List ByteArray):=
 Zm (σ:=(List ByteArray)) (λ(e:Nat) (b:Zp) a=>if (b.kind==1)=true then chk (a.length+1<=1073741824) <|some (.inl (a++[b.pattern.rel])) else if (b.kind==2)=true then chk (a.length+1<=1073741824) <|some (.inl (a++[b.pattern.rel])) else some (.inl a)) (λa=>(Yx a).bind λc=>some c) d.cond 0 []
def Zd0 (h:List Zf) (n:ByteArray):Option (List (ByteArray×Bool)):=
 Ys (σ:=(List (ByteArray×Bool))×(List ByteArray)) (λs=>match s with |(g,a)=>if (decide (0<(a.length:Int)))=true then chk (0<=0/\0<(a.length:Int)) <|(a[(A4 0)]?).bind λj=>chk (0<=1/\1<=(a.length:Int)) <|Zm (σ:=(List (ByteArray×Bool))×(List ByteArray)) (λ(o:Nat) (i:Zf) s=>match s with |(d,e)=>(Q0 i).bind λk=>(Xz k j).bind λl=>if l=true then (Zct i).bind λm=>Zm (σ:=(List (ByteArray×Bool))×(List ByteArray)) (λ(p:Nat) (f:ByteArray) s=>match s with |(b,c)=>if (XU b f false)=true then some (.inl (b,c)) else chk (c.length+1<=1073741824) <|some (.inl ((Zc8 b f true),(c++[f])))) (λs=>match s with |(b,c)=>some (.inl (b,c))) m 0 (d,e) else some (.inl (d,e))) (λs=>match s with |(d,e)=>some (.inl (d,e))) h 0 (g,(List.drop (A4 1) a)) else some (.inr g)) ([],[n])
def Zb4 (h:List Zf):Option Bool:=
 (Zau h).bind λd=>if d=true then Zm (σ:=Unit) (λ(i:Nat) (a:Zf) _=>(Zc7 a).bind λe=>if e=true then Zm (σ:=Unit) (λ(j:Nat) (b:Zp) _=>if (b.kind != 2)=true then some (.inl ()) else (Zd0 h b.pattern.rel).bind λf=>(Q0 a).bind λg=>Zm (σ:=Unit) (λ(k:Nat) (c:ByteArray) _=>if (sEq c b.pattern.rel)=true then some (.inr (.inr (.inr false))) else if (XU f c false)=true then some (.inr (.inr (.inr false))) else some (.inl ())) (λ_=>some (.inl ())) g 0 ()) (λ_=>some (.inl ())) a.cond 0 () else some (.inr false)) (λ_=>some true) h 0 () else some false
def Qw (k:List Zd) (h:Zd):Option (List Zd):=
 Zm (σ:=(List Zd)×Bool) (λ(l:Nat) (b:Zd) s=>match s with |(a,c)=>if c=true then (Yd b).bind λd=>chk (a.length+1<=1073741824) <|some (.inl ((a++[d]),true)) else (Yn b h).bind λe=>if (decide (0<e))=true then (Yd h).bind λf=>chk (a.length+1<=1073741824) <|(Yd b).bind λg=>chk (a.length+1+1<=1073741824) <|some (.inl (((a++[f])++[g]),true)) else (Yd b).bind λi=>chk (a.length+1<=1073741824) <|some (.inl ((a++[i]),false))) (λs=>match s with |(a,c)=>if c=true then some a else (Yd h).bind λj=>chk (a.length+1<=1073741824) <|some (a++[j])) k 0 ([],false)
def Yy (h:List Zf) (n:List Zd):Option ((List Zd)×Bool):=
 (Zb4 h).bind λk=>if k=true then (Zbt n).bind λl=>if l=true then (ZaO n).bind λm=>Ys (σ:=(List Zd)×Bool) (λs=>match s with |(g,o)=>if o=true then Zm (σ:=(List Zd)×Bool) (λ(r:Nat) (i:Zf) s=>match s with |(b,c)=>(Y1 i).bind λp=>(Zap p b).bind λq=>Zm (σ:=(List Zd)×Bool) (λ(x:Nat) (t:Zt) s=>match s with |(d,e)=>Zm (σ:=(List Zd)×Bool) (λ(y:Nat) (u:Zw) s=>match s with |(a,f)=>(Xi u.pattern t.binding).bind λj=>(Yo a j.1).bind λv=>if (decide (0<=v))=true then some (.inl (a,f)) else if (decide (24<=(a.length:Int)))=true then some (.inr (.inr (.inr (.inr ([],false))))) else (Qw a j.1).bind λw=>some (.inl (w,true))) (λs=>match s with |(a,f)=>some (.inl (a,f))) i.thn 0 (d,e)) (λs=>match s with |(d,e)=>some (.inl (d,e))) q 0 (b,c)) (λs=>match s with |(b,c)=>some (.inl (b,c))) h 0 (g,false) else some (.inr (g,true))) (m,true) else some ([],false) else some ([],false)
def ZhJ (b:List Int) (c:Int):Option Bool:=
 Zm (σ:=Unit) (λ(d:Nat) (a:Int) _=>if (a==c)=true then some (.inr true) else some (.inl ())) (λ_=>some false) b 0 ()
def ZdX (f:List Zd) (g:List Zd):Option (List Int):=
 Zm (σ:=(List Int)) (λ(h:Nat) (c:Zd) a=>(Yo f c).bind λb=>if (decide (0<=b))=true then (ZhJ a b).bind λd=>if d=true then some (.inl a) else chk (a.length+1<=1073741824) <|some (.inl (a++[b])) else some (.inl a)) (λa=>(Zgl a).bind λe=>some e) g 0 []
def Qg (e:List Int) (a:List Int):Option Bool:=
 if ((e.length:Int) != (a.length:Int))=true then some false else Zm (σ:=Unit) (λ(b:Nat) (c:Int) _=>(atI a (b:Int)).bind λd=>if (c != d)=true then some (.inr false) else some (.inl ())) (λ_=>some true) e 0 ()
def Zb0 (c:Zg) (d:Zg):Option Bool:=
 if (c.for_==d.for_)=true then (Qg c.inn d.inn).bind λa=>if a=true then (Qg c.outs d.outs).bind λb=>some b else some false else some false
def ZbO (c:List Zg) (d:Zg):Option Bool:=
 Zm (σ:=Unit) (λ(e:Nat) (a:Zg) _=>(Zb0 a d).bind λb=>if b=true then some (.inr true) else some (.inl ())) (λ_=>some false) c 0 ()
def Zb1 (h:List Zf) (n:List Zd):Option ((List Zd)×Zu×(List Zbl)×Bool):=
 (Yy h n).bind λa=>if a.2=true then Zm (σ:=(List Zg)×(List Zbl)) (λ(r:Nat) (u:Zd) s=>match s with |(e,f)=>(Yo a.1 u).bind λv=>chk (e.length+1<=1073741824) <|chk (f.length+1<=1073741824) <|some (.inl ((e++[({ for_:=v,inn:=[],outs:=[] }:Zg)]),(f++[({ rule:=(⟨#[]⟩),facts:=[] }:Zbl)])))) (λs=>match s with |(e,f)=>Zm (σ:=(List Zg)×(List Zbl)) (λ(aa:Nat) (g:Zf) s=>match s with |(i,k)=>(Y1 g).bind λw=>(Zap w a.1).bind λx=>Zm (σ:=(List Zg)×(List Zbl)) (λ(ab:Nat) (j:Zt) s=>match s with |(l,m)=>Zm (σ:=(List Zd)) (λ(ac:Nat) (o:Zp) c=>if (o.kind==2)=true then (Xi o.pattern j.binding).bind λy=>chk (c.length+1<=1073741824) <|some (.inl (c++[y.1])) else some (.inl c)) (λc=>Zm (σ:=(List Zg)×(List Zbl)) (λ(ad:Nat) (z:Zw) s=>match s with |(b,d)=>(Xi z.pattern j.binding).bind λA=>(Yo a.1 A.1).bind λp=>(ZdX a.1 j.facts).bind λq=>(ZdX a.1 c).bind λt=>(ZbO b ({ for_:=p,inn:=q,outs:=t }:Zg)).bind λB=>if B=true then some (.inl (b,d)) else chk (b.length+1<=1073741824) <|chk (d.length+1<=1073741824) <|some (.inl ((b++[({ for_:=p,inn:=q,outs:=t }:Zg)]),(d++[({ rule:=g.name,facts:=j.facts }:Zbl)])))) (λs=>match s with |(b,d)=>some (.inl (b,d))) g.thn 0 (l,m)) g.cond 0 []) (λs=>match s with |(l,m)=>some (.inl (l,m))) x 0 (i,k)) (λs=>match s with |(i,k)=>if (decide (60<(i.length:Int)))=true then some ([],({ nodes:=0,reasons:=[] }:Zu),[],false) else some (a.1,({ nodes:=(a.1.length:Int),reasons:=i }:Zu),k,true)) h 0 (e,f)) n 0 ([],[]) else some ([],({ nodes:=0,reasons:=[] }:Zu),[],false)
def i_GroundReasons (b:List Zf) (c:List Zd):Option ((List Zd)×Zu×Bool):=
 (Zb1 b c).bind λa=>some (a.1,a.2.1,a.2.2.2)
def Zhh (d:Zu):Option (List Int):=
 chk (0<=d.nodes/\d.nodes<=1073741824) <|Ys (σ:=(List Int)×Bool) (λs=>match s with |(j,o)=>if o=true then Zm (σ:=(List Int)×Bool) (λ(h:Nat) (b:Zg) s=>match s with |(a,f)=>chk (0<=b.for_/\b.for_<(a.length:Int)) <|(a[(A4 b.for_)]?).bind λk=>Zm (σ:=Int) (λ(n:Nat) (g:Int) e=>chk (0<=g/\g<(a.length:Int)) <|(a[(A4 g)]?).bind λl=>some (.inl (if e<l then l else e))) (λe=>Zm (σ:=Int) (λ(p:Nat) (i:Int) c=>chk (0<=i/\i<(a.length:Int)) <|(a[(A4 i)]?).bind λm=>some (.inl (if c<(IntKind.i64.wrap (m+1)) then (IntKind.i64.wrap (m+1)) else c))) (λc=>if (decide (k<c))=true then some (.inl ((AG a (A4 b.for_) c),true)) else some (.inl (a,f))) b.outs 0 e) b.inn 0 k) (λs=>match s with |(a,f)=>some (.inl (a,f))) d.reasons 0 (j,false) else some (.inr j)) ((AP (A4 d.nodes) 0),true)
def ZbD (f:Zg) (a:List Int) (g:Int):Option Bool:=
 Zm (σ:=Unit) (λ(h:Nat) (c:Int) _=>(atI a c).bind λb=>if (decide (b<0))=true then some (.inr false) else if (decide (g<=b))=true then some (.inr false) else some (.inl ())) (λ_=>Zm (σ:=Unit) (λ(i:Nat) (d:Int) _=>(atI a d).bind λe=>if (decide (0<=e))=true then some (.inr false) else some (.inl ())) (λ_=>some true) f.outs 0 ()) f.inn 0 ()
def Zg7 (d:Zu):Option (List Int):=
 (Zhh d).bind λg=>chk (0<=d.nodes/\d.nodes<=1073741824) <|Ys (σ:=(List Int)×Int×Int) (λs=>match s with |(i,a,m)=>if (decide (a<((A4 d.nodes:Nat):Int)))=true then chk (0<=a/\a<(i.length:Int)) <|(i[(A4 a)]?).bind λu=>chk (a<(g.length:Int)) <|(g[(A4 a)]?).bind λo=>some (.inl ((AG i (A4 a) (-1)),(IntKind.i64.wrap (a+1)),(if m<o then o else m))) else Ys (σ:=(List Int)×Int×Int) (λs=>match s with |(e,j,k)=>if (decide (k<=m))=true then Zm (σ:=(List Int)) (λ(h:Nat) (c:Zg) b=>chk (0<=c.for_/\c.for_<(g.length:Int)) <|(g[(A4 c.for_)]?).bind λp=>if (p==k)=true then chk (c.for_<(e.length:Int)) <|(e[(A4 c.for_)]?).bind λq=>if (decide (q<0))=true then (ZbD c e j).bind λt=>if t=true then chk (b.length+1<=1073741824) <|some (.inl (b++[c.for_])) else some (.inl b) else some (.inl b) else some (.inl b)) (λb=>if ((b.length:Int)==0)=true then some (.inl (e,j,(IntKind.i64.wrap (k+1)))) else Zm (σ:=(List Int)) (λ(n:Nat) (l:Int) f=>chk (0<=l/\l<(f.length:Int)) <|(f[(A4 l)]?).bind λv=>some (.inl (AG f (A4 l) j))) (λf=>some (.inl (f,(IntKind.i64.wrap (j+1)),k))) b 0 e) d.reasons 0 [] else some (.inr (.inr e))) (i,0,0)) ((AP (A4 d.nodes) 0),0,0)
def Zh0 (d:Zu):Option (List Bool):=
 (Zg7 d).bind λb=>Zm (σ:=(List Bool)) (λ(e:Nat) (c:Int) a=>chk (a.length+1<=1073741824) <|some (.inl (a++[(decide (0<=c))]))) (λa=>some a) b 0 []
def Zd6 (b:List Zd) (h:Zu):Option (List Zd):=
 (Zh0 h).bind λc=>Zm (σ:=(List Zd)) (λ(d:Nat) (e:Bool) a=>if e=true then (atI b (d:Int)).bind λf=>(Yd f).bind λg=>chk (a.length+1<=1073741824) <|some (.inl (a++[g])) else some (.inl a)) (λa=>some a) c 0 []
def i_ModelOf (c:List Zf) (d:List Zd):Option ((List Zd)×Bool):=
 (i_GroundReasons c d).bind λa=>if a.2.2=true then (Zd6 a.1 a.2.1).bind λb=>some (b,true) else some ([],false)
def Zfp (e:List ByteArray) (a:List ByteArray):Option Bool:=
 if ((e.length:Int) != (a.length:Int))=true then some false else Zm (σ:=Unit) (λ(b:Nat) (c:ByteArray) _=>(atI a (b:Int)).bind λd=>if (sEq c d)=true then some (.inl ()) else some (.inr false)) (λ_=>some true) e 0 ()
def ZhI (b:Zd) (c:Zd):Option Bool:=
 if (sEq b.rel c.rel)=true then (Zfp b.args c.args).bind λa=>some a else some false
def ZaL (c:List Zd) (d:Zd):Option Int:=
 Zm (σ:=Unit) (λ(e:Nat) (a:Zd) _=>(ZhI a d).bind λb=>if b=true then some (.inr (e:Int)) else some (.inl ())) (λ_=>some (-1)) c 0 ()
def Zbv (d:List Zd):Option (List Zd):=
 Zm (σ:=(List Zd)) (λ(e:Nat) (b:Zd) a=>(XB b).bind λc=>chk (a.length+1<=1073741824) <|some (.inl (a++[c]))) (λa=>some a) d 0 []
def X6 (a:List Zs):Option Bool:=
 Zm (σ:=Unit) (λ(c:Nat) (b:Zs) _=>(Zbm b.var).bind λd=>if d=true then (Q5 b.value).bind λe=>if e=true then if (decide (0<(c:Int)))=true then (atI a (IntKind.i64.wrap ((c:Int) - 1))).bind λf=>if (sLt f.var b.var)=true then some (.inl ()) else some (.inr false) else some (.inl ()) else some (.inr false) else some (.inr false)) (λ_=>some (decide ((a.length:Int)<=6))) a 0 ()
def ZfL (d:Zd):Option Bool:=
 Zm (σ:=Unit) (λ(e:Nat) (a:ByteArray) _=>(Q5 a).bind λb=>if b=true then some (.inl ()) else some (.inr false)) (λ_=>(Zd7 d.rel).bind λc=>if c=true then some (decide ((d.args.length:Int)<=3)) else some false) d.args 0 ()
def Zc9 (a:List Zs):Option (List Zs):=
 chk (a.length<=1073741824) <|some a
def ZbK (e:List Zs) (d:ByteArray):Option (ByteArray×Bool):=
 (Q5 d).bind λb=>if b=true then some (d,true) else Zm (σ:=Unit) (λ(f:Nat) (a:Zs) _=>if (sEq a.var d)=true then (Zbm d).bind λc=>if c=true then some (.inr (a.value,true)) else some (.inl ()) else some (.inl ())) (λ_=>some ((⟨#[]⟩),false)) e 0 ()
def Zky (f:List Zs) (c:ByteArray) (e:ByteArray):Option (List Zs):=
 Zm (σ:=(List Zs)×Bool) (λ(g:Nat) (b:Zs) s=>match s with |(a,d)=>if d=true then chk (a.length+1<=1073741824) <|some (.inl ((a++[b]),true)) else if (sLt b.var c||sEq b.var c)=true then chk (a.length+1<=1073741824) <|some (.inl ((a++[b]),false)) else chk (a.length+1<=1073741824) <|chk (a.length+1+1<=1073741824) <|some (.inl (((a++[({ var:=c,value:=e }:Zs)])++[b]),true))) (λs=>match s with |(a,d)=>if d=true then some a else chk (a.length+1<=1073741824) <|some (a++[({ var:=c,value:=e }:Zs)])) f 0 ([],false)
def ZhG (g:List Zs) (h:ByteArray) (i:ByteArray):Option ((List Zs)×Bool):=
 (X6 g).bind λb=>if b=true then (Zbm h).bind λc=>if c=true then (Q5 i).bind λd=>if d=true then (ZbK g h).bind λa=>if a.2=true then if (sEq a.1 i)=true then (Zc9 g).bind λe=>some (e,true) else some ([],false) else if ((g.length:Int)==6)=true then some ([],false) else (Zky g h i).bind λf=>some (f,true) else some ([],false) else some ([],false) else some ([],false)
def ZbP (h:Zv) (a:Zd) (n:List Zs):Option ((List Zs)×Bool):=
 (Y6 h).bind λf=>if f=true then (ZfL a).bind λg=>if g=true then (X6 n).bind λi=>if i=true then if (sEq h.rel a.rel)=true then if ((h.args.length:Int) != (a.args.length:Int))=true then some ([],false) else (Zc9 n).bind λj=>Zm (σ:=(List Zs)) (λ(d:Nat) (c:ByteArray) b=>(Q5 c).bind λk=>if k=true then (atI a.args (d:Int)).bind λl=>if (sEq c l)=true then some (.inl b) else some (.inr ([],false)) else (atI a.args (d:Int)).bind λm=>(ZhG b c m).bind λe=>if e.2=true then some (.inl e.1) else some (.inr ([],false))) (λb=>some (b,true)) h.args 0 j else some ([],false) else some ([],false) else some ([],false) else some ([],false)
def X1 (e:Zv) (f:List Zs) (g:List Zd):Option (List Zd):=
 Zm (σ:=(List Zd)) (λ(h:Nat) (b:Zd) a=>(ZbP e b f).bind λc=>if c.2=true then (XB b).bind λd=>chk (a.length+1<=1073741824) <|some (.inl (a++[d])) else some (.inl a)) (λa=>some a) g 0 []
def Zen (b:ByteArray):Option Bool:=
 (Q3 b).bind λa=>some a.2
def Zc5 (h:Zp) (i:List Zs):Option Bool:=
 (Zcc h).bind λc=>if c=true then (X6 i).bind λd=>if d=true then (ZbK i h.left).bind λa=>(ZbK i h.right).bind λb=>if a.2=true then if b.2=true then if (h.kind==3)=true then some (sEq a.1 b.1) else if (h.kind==4)=true then some (!(sEq a.1 b.1)) else (Zen a.1).bind λe=>if e=true then (Zen b.1).bind λf=>if f=true then (XN a.1 b.1).bind λg=>some (decide (g<0)) else some false else some false else some false else some false else some false else some false
def Zdr (h:Zp) (a:List Zs) (b:List Zd):Option Bool:=
 (Zdi h).bind λc=>if c=true then (X6 a).bind λd=>if d=true then if (h.kind==1)=true then (X1 h.pattern a b).bind λe=>some (decide (0<(e.length:Int))) else if (h.kind==2)=true then (X1 h.pattern a b).bind λf=>some ((f.length:Int)==0) else (Zc5 h a).bind λg=>some g else some false else some false
def Zhw (c:Zt):Option Zt:=
 (Zbv c.facts).bind λa=>(Zc9 c.binding).bind λb=>some ({ facts:=a,binding:=b }:Zt)
def ZhB (l:List Zt) (h:Zp) (k:List Zd):Option (List Zt):=
 Zm (σ:=(List Zt)) (λ(m:Nat) (c:Zt) a=>if (h.kind != 1)=true then (Zdr h c.binding k).bind λg=>if g=true then (Zhw c).bind λi=>chk (a.length+1<=1073741824) <|some (.inl (a++[i])) else some (.inl a) else Zm (σ:=(List Zt)) (λ(n:Nat) (d:Zd) b=>(ZbP h.pattern d c.binding).bind λe=>if e.2=true then (Zbv c.facts).bind λf=>(XB d).bind λj=>chk (f.length+1<=1073741824) <|chk (b.length+1<=1073741824) <|some (.inl (b++[({ facts:=(f++[j]),binding:=e.1 }:Zt)])) else some (.inl b)) (λb=>some (.inl b)) k 0 a) (λa=>some a) l 0 []
def Zbx (d:List Zp) (e:List Zd):Option (List Zt):=
 Zm (σ:=(List Zt)) (λ(f:Nat) (b:Zp) a=>(ZhB a b e).bind λc=>some (.inl c)) (λa=>some a) d 0 ([({ facts:=[],binding:=[] }:Zt)])
def Qf (c:Zf):Option (List Zp):=
 Zm (σ:=(List Zp)) (λ(d:Nat) (b:Zp) a=>if (b.kind != 2)=true then chk (a.length+1<=1073741824) <|some (.inl (a++[b])) else some (.inl a)) (λa=>some a) c.cond 0 []
def ZeB (c:List ByteArray) (d:List ByteArray):Option Bool:=
 Zm (σ:=Unit) (λ(e:Nat) (a:ByteArray) _=>(ZX d a).bind λb=>if b=true then some (.inl ()) else some (.inr false)) (λ_=>some true) c 0 ()
def Zc4 (g:Zf):Option Bool:=
 (Zc3 g).bind λb=>if b=true then Zm (σ:=Unit) (λ(h:Nat) (a:Zp) _=>if (a.kind==2)=true then (Qi a).bind λc=>(QM g (h:Int)).bind λd=>(ZeB c d).bind λe=>if e=true then some (.inl ()) else some (.inr false) else some (.inl ())) (λ_=>Zm (σ:=Unit) (λ(i:Nat) (f:Zw) _=>if (f.kind != 1)=true then some (.inr false) else some (.inl ())) (λ_=>some true) g.thn 0 ()) g.cond 0 () else some false
def Zak (e:Zf):Option (List ByteArray):=
 Zm (σ:=(List ByteArray)) (λ(f:Nat) (b:Zw) a=>if (b.kind==1)=true then (Qp a b.pattern.rel).bind λc=>some (.inl c) else if (b.kind==2)=true then (Qp a b.pattern.rel).bind λd=>some (.inl d) else some (.inl a)) (λa=>some a) e.thn 0 []
def Zcs (e:Zf):Option (List ByteArray):=
 Zm (σ:=(List ByteArray)) (λ(f:Nat) (b:Zp) a=>if (b.kind==1)=true then (Qp a b.pattern.rel).bind λc=>some (.inl c) else if (b.kind==2)=true then (Qp a b.pattern.rel).bind λd=>some (.inl d) else some (.inl a)) (λa=>some a) e.cond 0 []
def ZbU (h:List Zf) (n:ByteArray) (o:ByteArray):Option Bool:=
 Ys (σ:=(List ByteArray)×Int) (λs=>match s with |(d,c)=>if (decide (c<(d.length:Int)))=true then Zm (σ:=(List ByteArray)) (λ(p:Nat) (e:Zf) a=>(Zak e).bind λi=>chk (0<=c/\c<(a.length:Int)) <|(a[(A4 c)]?).bind λj=>(ZX i j).bind λk=>if k=true then (Zcs e).bind λf=>(ZX f o).bind λl=>if l=true then some (.inr (.inr true)) else Zm (σ:=(List ByteArray)) (λ(q:Nat) (g:ByteArray) b=>(ZX b g).bind λm=>if m=true then some (.inl b) else chk (b.length+1<=1073741824) <|some (.inl (b++[g]))) (λb=>some (.inl b)) f 0 a else some (.inl a)) (λa=>some (.inl (a,(IntKind.i64.wrap (c+1))))) h 0 d else some (.inr false)) ([n],0)
def Zgn (b:List Zf) (c:ByteArray):Option Int:=
 Zm (σ:=Unit) (λ(d:Nat) (a:Zf) _=>if (sEq a.name c)=true then some (.inr (d:Int)) else some (.inl ())) (λ_=>some (-1)) b 0 ()
def ZeI (d:List Zf):Option Bool:=
 Zm (σ:=Unit) (λ(e:Nat) (a:Zf) _=>(Zc3 a).bind λb=>if b=true then (Zgn d a.name).bind λc=>if (c != (e:Int))=true then some (.inr false) else some (.inl ()) else some (.inr false)) (λ_=>some (decide ((d.length:Int)<=6))) d 0 ()
def ZbR (h:List Zf):Option Bool:=
 Zm (σ:=Unit) (λ(i:Nat) (a:Zf) _=>(Zc4 a).bind λd=>if d=true then (Zak a).bind λe=>Zm (σ:=Unit) (λ(j:Nat) (b:Zp) _=>Zm (σ:=Unit) (λ(k:Nat) (c:ByteArray) _=>if (b.kind==2)=true then if (sEq b.pattern.rel c)=true then some (.inr (.inr (.inr false))) else (ZbU h b.pattern.rel c).bind λf=>if f=true then some (.inr (.inr (.inr false))) else some (.inl ()) else some (.inr (.inl ()))) (λ_=>some (.inl ())) e 0 ()) (λ_=>some (.inl ())) a.cond 0 () else some (.inr false)) (λ_=>(ZeI h).bind λg=>some g) h 0 ()
def Zec (a:List Zd):Option Bool:=
 Zm (σ:=Unit) (λ(b:Nat) (c:Zd) _=>(ZfL c).bind λd=>if d=true then if (decide (0<(b:Int)))=true then (atI a (IntKind.i64.wrap ((b:Int) - 1))).bind λe=>(XF e c).bind λf=>if (decide (0<=f))=true then some (.inr false) else some (.inl ()) else some (.inl ()) else some (.inr false)) (λ_=>some (decide ((a.length:Int)<=24))) a 0 ()
def XO (f:Zv) (g:List Zs):Option (Zd×Bool):=
 (Y6 f).bind λc=>if c=true then (X6 g).bind λd=>if d=true then Zm (σ:=(List ByteArray)) (λ(h:Nat) (e:ByteArray) a=>(ZbK g e).bind λb=>if b.2=true then chk (a.length+1<=1073741824) <|some (.inl (a++[b.1])) else some (.inr (({ rel:=(⟨#[]⟩),args:=[] }:Zd),false))) (λa=>some (({ rel:=f.rel,args:=a }:Zd),true)) f.args 0 [] else some (({ rel:=(⟨#[]⟩),args:=[] }:Zd),false) else some (({ rel:=(⟨#[]⟩),args:=[] }:Zd),false)
def s_PossibleFacts (h:List Zf) (n:List Zd):Option ((List Zd)×Bool):=
 (ZbR h).bind λf=>if f=true then (Zec n).bind λg=>if g=true then (Zbv n).bind λi=>Ys (σ:=(List Zd)×Bool) (λs=>match s with |(a,j)=>if j=true then Zm (σ:=(List Zd)) (λ(r:Nat) (e:Zf) b=>(Qf e).bind λk=>(Zbx k a).bind λl=>Zm (σ:=(List Zd)) (λ(t:Nat) (m:Zt) c=>Zm (σ:=(List Zd)) (λ(u:Nat) (o:Zw) d=>(XO o.pattern m.binding).bind λp=>(Xe d p.1).bind λq=>some (.inl q)) (λd=>some (.inl d)) e.thn 0 c) (λc=>if (decide (24<(c.length:Int)))=true then some (.inr (.inr ([],false))) else some (.inl c)) l 0 b) (λb=>some (.inl (b,(decide ((a.length:Int)<(b.length:Int)))))) h 0 a else some (.inr (a,true))) (i,true) else some ([],false) else some ([],false)
def Zhm (e:List Int) (d:Int):Option (List Int):=
 Zm (σ:=(List Int)×Bool) (λ(f:Nat) (b:Int) s=>match s with |(a,c)=>if c=true then chk (a.length+1<=1073741824) <|some (.inl ((a++[b]),true)) else if (decide (d<=b))=true then if (b != d)=true then chk (a.length+1<=1073741824) <|chk (a.length+1+1<=1073741824) <|some (.inl (((a++[d])++[b]),true)) else chk (a.length+1<=1073741824) <|some (.inl ((a++[b]),true)) else chk (a.length+1<=1073741824) <|some (.inl ((a++[b]),false))) (λs=>match s with |(a,c)=>if c=true then some a else chk (a.length+1<=1073741824) <|some (a++[d])) e 0 ([],false)
def ZcC (e:List Zd) (f:List Zd):Option (List Int):=
 Zm (σ:=(List Int)) (λ(g:Nat) (c:Zd) a=>(ZaL e c).bind λb=>if (decide (0<=b))=true then (Zhm a b).bind λd=>some (.inl d) else some (.inl a)) (λa=>some a) f 0 []
def ZbJ (c:Zf) (e:Int) (b:Zt) (h:List Zd):Option Zg:=
 (atI c.thn e).bind λf=>(XO f.pattern b.binding).bind λg=>Zm (σ:=(List Zd)) (λ(m:Nat) (d:Zp) a=>if (d.kind==2)=true then (XO d.pattern b.binding).bind λi=>chk (a.length+1<=1073741824) <|some (.inl (a++[i.1])) else some (.inl a)) (λa=>(ZaL h g.1).bind λj=>(ZcC h b.facts).bind λk=>(ZcC h a).bind λl=>some ({ for_:=j,inn:=k,outs:=l }:Zg)) c.cond 0 []
def Zb5 (e:List Int) (a:List Int):Option Bool:=
 if ((e.length:Int) != (a.length:Int))=true then some false else Zm (σ:=Unit) (λ(b:Nat) (c:Int) _=>(atI a (b:Int)).bind λd=>if (c != d)=true then some (.inr false) else some (.inl ())) (λ_=>some true) e 0 ()
def ZfC (e:List Zg) (d:Zg):Option Int:=
 Zm (σ:=Unit) (λ(f:Nat) (a:Zg) _=>if (a.for_==d.for_)=true then (Zb5 a.inn d.inn).bind λb=>if b=true then (Zb5 a.outs d.outs).bind λc=>if c=true then some (.inr (f:Int)) else some (.inl ()) else some (.inl ()) else some (.inl ())) (λ_=>some (-1)) e 0 ()
def s_l14Ground (h:List Zf) (n:List Zd):Option ((List Zd)×Zu×(List l14CauseD)×Bool):=
 (s_PossibleFacts h n).bind λb=>if b.2=true then Zm (σ:=(List Zg)×(List l14CauseD)) (λ(w:Nat) (o:Zd) s=>match s with |(d,e)=>(ZaL b.1 o).bind λp=>chk (d.length+1<=1073741824) <|chk (e.length+1<=1073741824) <|some (.inl ((d++[({ for_:=p,inn:=[],outs:=[] }:Zg)]),(e++[({ rule:=(⟨#[]⟩),token:=({ facts:=[],binding:=[] }:Zt) }:l14CauseD)])))) (λs=>match s with |(d,e)=>Zm (σ:=(List Zg)×(List l14CauseD)) (λ(x:Nat) (f:Zf) s=>match s with |(g,i)=>(Qf f).bind λq=>(Zbx q b.1).bind λt=>Zm (σ:=(List Zg)×(List l14CauseD)) (λ(y:Nat) (l:Zt) s=>match s with |(j,k)=>Zm (σ:=(List Zg)×(List l14CauseD)) (λ(r:Nat) (v:Zw) s=>match s with |(a,c)=>(ZbJ f (r:Int) l b.1).bind λm=>(ZfC a m).bind λu=>if (decide (0<=u))=true then some (.inl (a,c)) else if (decide (60<=(a.length:Int)))=true then some (.inr (.inr (.inr ([],({ nodes:=0,reasons:=[] }:Zu),[],false)))) else chk (a.length+1<=1073741824) <|chk (c.length+1<=1073741824) <|some (.inl ((a++[m]),(c++[({ rule:=f.name,token:=l }:l14CauseD)])))) (λs=>match s with |(a,c)=>some (.inl (a,c))) f.thn 0 (j,k)) (λs=>match s with |(j,k)=>some (.inl (j,k))) t 0 (g,i)) (λs=>match s with |(g,i)=>some (b.1,({ nodes:=(b.1.length:Int),reasons:=g }:Zu),i,true)) h 0 (d,e)) n 0 ([],[]) else some ([],({ nodes:=0,reasons:=[] }:Zu),[],false)
def s_GroundReasons (b:List Zf) (c:List Zd):Option ((List Zd)×Zu×Bool):=
 (s_l14Ground b c).bind λa=>if a.2.2.2=true then some (a.1,a.2.1,true) else some ([],({ nodes:=0,reasons:=[] }:Zu),false)
def ZcB (a:List Int) (f:Int):Option Bool:=
 Zm (σ:=Unit) (λ(b:Nat) (c:Int) _=>(QY c 0 (IntKind.i64.wrap (f - 1))).bind λd=>if d=true then if (decide (0<(b:Int)))=true then (atI a (IntKind.i64.wrap ((b:Int) - 1))).bind λe=>if (decide (c<=e))=true then some (.inr false) else some (.inl ()) else some (.inl ()) else some (.inr false)) (λ_=>some true) a 0 ()
def Zdb (f:Zu):Option Bool:=
 Zm (σ:=Unit) (λ(g:Nat) (a:Zg) _=>(QY a.for_ 0 (IntKind.i64.wrap (f.nodes - 1))).bind λb=>if b=true then (ZcB a.inn f.nodes).bind λc=>if c=true then (ZcB a.outs f.nodes).bind λd=>if d=true then some (.inl ()) else some (.inr false) else some (.inr false) else some (.inr false)) (λ_=>(QY f.nodes 0 24).bind λe=>if e=true then some (decide ((f.reasons.length:Int)<=60)) else some false) f.reasons 0 ()
def Zkb (a:List Int):Option (List Int):=
 chk (a.length<=1073741824) <|some a
def ZeA (g:Zu) (o:Int):Option (List Bool):=
 chk (0<=g.nodes/\g.nodes<=1073741824) <|Ys (σ:=(List Bool)×(List Int)×Int) (λs=>match s with |(l,m,d)=>if (decide (d<(m.length:Int)))=true then Zm (σ:=(List Bool)×(List Int)) (λ(h:Nat) (a:Zg) s=>match s with |(i,b)=>chk (0<=d/\d<(b.length:Int)) <|(b[(A4 d)]?).bind λp=>if (a.for_ != p)=true then some (.inl (i,b)) else (Zkb a.inn).bind λj=>chk (j.length+a.outs.length<=1073741824) <|Ys (σ:=(List Bool)×(List Int)×Int) (λs=>match s with |(e,k,c)=>if (decide (c<((j.length+a.outs.length:Nat):Int)))=true then chk (0<=c/\c<((j.length+a.outs.length:Nat):Int)) <|((j++a.outs)[(A4 c)]?).bind λf=>chk (0<=f/\f<(e.length:Int)) <|(e[(A4 f)]?).bind λq=>if q=true then some (.inl (e,k,(IntKind.i64.wrap (c+1)))) else chk (k.length+1<=1073741824) <|some (.inl ((AG e (A4 f) true),(k++[f]),(IntKind.i64.wrap (c+1)))) else some (.inr (.inl (e,k)))) (i,b,0)) (λs=>match s with |(i,b)=>some (.inl (i,b,(IntKind.i64.wrap (d+1))))) g.reasons 0 (l,m) else some (.inr l)) ((AP (A4 g.nodes) false),[o],0)
def Qt (f:Zu):Option Bool:=
 (Zdb f).bind λd=>if d=true then Zm (σ:=Unit) (λ(g:Nat) (a:Zg) _=>Zm (σ:=Unit) (λ(h:Nat) (b:Int) _=>if (b==a.for_)=true then some (.inr (.inr false)) else (ZeA f b).bind λc=>chk (0<=a.for_/\a.for_<(c.length:Int)) <|(c[(A4 a.for_)]?).bind λe=>if e=true then some (.inr (.inr false)) else some (.inl ())) (λ_=>some (.inl ())) a.outs 0 ()) (λ_=>some true) f.reasons 0 () else some false
def ZeO (d:Zu):Option (List Int):=
 (Qt d).bind λp=>if p=true then chk (0<=d.nodes/\d.nodes<=1073741824) <|Ys (σ:=(List Int)×Int) (λs=>match s with |(i,j)=>if (decide (j<=d.nodes))=true then Zm (σ:=(List Int)) (λ(h:Nat) (a:Zg) e=>Zm (σ:=(List Int)) (λ(n:Nat) (f:Int) b=>chk (0<=a.for_/\a.for_<(b.length:Int)) <|(b[(A4 a.for_)]?).bind λk=>chk (0<=f/\f<(b.length:Int)) <|(b[(A4 f)]?).bind λl=>some (.inl (AG b (A4 a.for_) (if k<l then l else k)))) (λb=>Zm (σ:=(List Int)) (λ(q:Nat) (g:Int) c=>chk (0<=a.for_/\a.for_<(c.length:Int)) <|(c[(A4 a.for_)]?).bind λm=>chk (0<=g/\g<(c.length:Int)) <|(c[(A4 g)]?).bind λo=>some (.inl (AG c (A4 a.for_) (if m<(IntKind.i64.wrap (o+1)) then (IntKind.i64.wrap (o+1)) else m)))) (λc=>some (.inl c)) a.outs 0 b) a.inn 0 e) (λe=>some (.inl (e,(IntKind.i64.wrap (j+1))))) d.reasons 0 i else some (.inr i)) ((AP (A4 d.nodes) 0),0) else some []
def Zdn (d:List Int) (b:List Int) (e:Int):Option Bool:=
 Zm (σ:=Unit) (λ(f:Nat) (c:Int) _=>(atI b c).bind λa=>if (decide (a<0))=true then some (.inr false) else if (decide (e<=a))=true then some (.inr false) else some (.inl ())) (λ_=>some true) d 0 ()
def Zf6 (d:List Int) (a:List Int):Option Bool:=
 Zm (σ:=Unit) (λ(e:Nat) (b:Int) _=>(atI a b).bind λc=>if (decide (0<=c))=true then some (.inr false) else some (.inl ())) (λ_=>some true) d 0 ()
def ZcF (h:Zu) (e:List Int) (k:Int) (c:List Int) (l:Int):Option (List Int):=
 Ys (σ:=(List Int)×Int) (λs=>match s with |(b,a)=>if (decide (a<h.nodes))=true then (atI e a).bind λf=>if (f != k)=true then some (.inl (b,(IntKind.i64.wrap (a+1)))) else (atI c a).bind λg=>if (decide (0<=g))=true then some (.inl (b,(IntKind.i64.wrap (a+1)))) else Zm (σ:=Unit) (λ(m:Nat) (d:Zg) _=>if (d.for_==a)=true then (Zdn d.inn c l).bind λi=>if i=true then (Zf6 d.outs c).bind λj=>if j=true then chk (b.length+1<=1073741824) <|some (.inr (.inl ((b++[a]),(IntKind.i64.wrap (a+1))))) else some (.inl ()) else some (.inl ()) else some (.inl ())) (λ_=>some (.inl (b,(IntKind.i64.wrap (a+1))))) h.reasons 0 () else some (.inr b)) ([],0)
def Zeo (h:Zu):Option (List Int):=
 (Qt h).bind λm=>if m=true then (ZeO h).bind λg=>Ys (σ:=(List Int)×Int) (λs=>match s with |(e,i)=>if (decide (i<h.nodes))=true then chk (e.length+1<=1073741824) <|some (.inl ((e++[(-1)]),(IntKind.i64.wrap (i+1)))) else Ys (σ:=(List Int)×Int×Int) (λs=>match s with |(f,j,b)=>if (decide (b<h.nodes))=true then (ZcF h g b f j).bind λo=>Ys (σ:=(List Int)×(List Int)×Int) (λs=>match s with |(k,l,c)=>if (decide (0<(l.length:Int)))=true then Zm (σ:=(List Int)) (λ(n:Nat) (d:Int) a=>chk (0<=d/\d<(a.length:Int)) <|(a[(A4 d)]?).bind λq=>some (.inl (AG a (A4 d) c))) (λa=>(ZcF h g b a (IntKind.i64.wrap (c+1))).bind λp=>some (.inl (a,p,(IntKind.i64.wrap (c+1))))) l 0 k else some (.inr (.inl (k,c,(IntKind.i64.wrap (b+1)))))) (f,o,j) else some (.inr (.inr f))) (e,0,0)) ([],0) else some []
def ZeN (d:Zu):Option (List Bool):=
 (Zeo d).bind λb=>Zm (σ:=(List Bool)) (λ(e:Nat) (c:Int) a=>chk (a.length+1<=1073741824) <|some (.inl (a++[(decide (0<=c))]))) (λa=>some a) b 0 []
def ZkH (g:List Zd) (h:Zu):Option (List Zd):=
 (ZeN h).bind λb=>Zm (σ:=(List Zd)) (λ(f:Nat) (c:Zd) a=>if (decide ((f:Int)<(b.length:Int)))=true then chk (0<=(f:Int)/\(f:Int)<(b.length:Int)) <|(b[f]?).bind λd=>if d=true then (XB c).bind λe=>chk (a.length+1<=1073741824) <|some (.inl (a++[e])) else some (.inl a) else some (.inr a)) (λa=>some a) g 0 []
def s_ModelOf (c:List Zf) (d:List Zd):Option ((List Zd)×Bool):=
 (s_GroundReasons c d).bind λa=>if a.2.2=true then (ZkH a.1 a.2.1).bind λb=>some (b,true) else some ([],false)
def Q8 (b:Zv):Option Zv:=
 (Zav b.args).bind λa=>some ({ rel:=b.rel,args:=a }:Zv)
def Zed (b:Zp):Option Zp:=
 (Q8 b.pattern).bind λa=>some ({ kind:=b.kind,pattern:=a,left:=b.left,right:=b.right }:Zp)
def Zdp (d:List Zp):Option (List Zp):=
 Zm (σ:=(List Zp)) (λ(e:Nat) (b:Zp) a=>(Zed b).bind λc=>chk (a.length+1<=1073741824) <|some (.inl (a++[c]))) (λa=>some a) d 0 []
def Zd5 (e:Zf):Option Zf:=
 (Zdp e.cond).bind λc=>Zm (σ:=(List Zw)) (λ(f:Nat) (b:Zw) a=>(Q8 b.pattern).bind λd=>chk (a.length+1<=1073741824) <|some (.inl (a++[({ kind:=b.kind,pattern:=d }:Zw)]))) (λa=>some ({ name:=e.name,priority:=e.priority,cond:=c,thn:=a }:Zf)) e.thn 0 []
def ZbC (d:List Zf):Option (List Zf):=
 Zm (σ:=(List Zf)) (λ(e:Nat) (b:Zf) a=>(Zd5 b).bind λc=>chk (a.length+1<=1073741824) <|some (.inl (a++[c]))) (λa=>some a) d 0 []
def Zdg (c:List Zf):Option (Zo×Bool):=
 (Zau c).bind λa=>if a=true then (ZbC c).bind λb=>some (({ rules:=b,memory:=[],clock:=0,fired:=[],halted:=false,log:=[] }:Zo),true) else some (({ rules:=[],memory:=[],clock:=0,fired:=[],halted:=false,log:=[] }:Zo),false)
def QU (a:List Int):Option (List Int):=
 chk (a.length<=1073741824) <|some a
def Ze2 (b:Yp):Option Yp:=
 (Yd b.fact).bind λa=>some ({ kind:=b.kind,rule:=b.rule,fact:=a }:Yp)
def QS (h:Zo):Option Zo:=
 (ZbC h.rules).bind λf=>Zm (σ:=(List Zr)) (λ(l:Nat) (d:Zr) a=>(Yd d.fact).bind λg=>chk (a.length+1<=1073741824) <|some (.inl (a++[({ fact:=g,time:=d.time }:Zr)]))) (λa=>Zm (σ:=(List ZK)) (λ(m:Nat) (e:ZK) b=>(QU e.times).bind λi=>chk (b.length+1<=1073741824) <|some (.inl (b++[({ rule:=e.rule,times:=i }:ZK)]))) (λb=>Zm (σ:=(List Yp)) (λ(n:Nat) (j:Yp) c=>(Ze2 j).bind λk=>chk (c.length+1<=1073741824) <|some (.inl (c++[k]))) (λc=>some ({ rules:=f,memory:=a,clock:=h.clock,fired:=b,halted:=h.halted,log:=c }:Zo)) h.log 0 []) h.fired 0 []) h.memory 0 []
def ZaY (d:List Zr):Option (List Zd):=
 Zm (σ:=(List Zd)) (λ(e:Nat) (b:Zr) a=>(Yd b.fact).bind λc=>chk (a.length+1<=1073741824) <|some (.inl (a++[c]))) (λa=>some a) d 0 []
def Zcr (e:List Zr):Option Bool:=
 Zm (σ:=(List (Int×Bool))) (λ(f:Nat) (a:Zr) b=>if (decide (a.time<1))=true then some (.inr false) else if (decide (200<a.time))=true then some (.inr false) else if (XU b a.time false)=true then some (.inr false) else some (.inl (Zc8 b a.time true))) (λb=>(ZaY e).bind λc=>(Zbt c).bind λd=>some d) e 0 []
def ZbX (b:Zo) (g:ZK):Option Bool:=
 (XG b.rules g.rule).bind λc=>if (decide (c<0))=true then some false else (atI b.rules c).bind λe=>Zm (σ:=Int) (λ(h:Nat) (f:Zp) a=>if (f.kind==1)=true then some (.inl (IntKind.i64.wrap (a+1))) else some (.inl a)) (λa=>Zm (σ:=Unit) (λ(i:Nat) (d:Int) _=>if (decide (d<1))=true then some (.inr false) else if (decide (b.clock<d))=true then some (.inr false) else some (.inl ())) (λ_=>some ((g.times.length:Int)==a)) g.times 0 ()) e.cond 0 0
def Zb6 (b:ZK) (c:ZK):Option Bool:=
 if (sEq b.rule c.rule)=true then (Qg b.times c.times).bind λa=>some a else some false
def Qr (h:Yp):Option Bool:=
 if (sEq h.fact.rel ⟨#[]⟩)=true then if (h.kind==1)=true then if (sEq h.rule ⟨#[]⟩)=true then (XE h.fact).bind λa=>some a else some false else if (h.kind==2)=true then if (sEq h.rule ⟨#[]⟩)=true then (XE h.fact).bind λb=>some b else some false else if (h.kind==3)=true then (XP h.rule).bind λc=>if c=true then some ((h.fact.args.length:Int)==0) else some false else if (h.kind==6)=true then (XP h.rule).bind λd=>if d=true then some ((h.fact.args.length:Int)==0) else some false else if (h.kind==4)=true then (XP h.rule).bind λe=>if e=true then (XE h.fact).bind λf=>some f else some false else if (h.kind==5)=true then (XP h.rule).bind λg=>if g=true then (XE h.fact).bind λi=>some i else some false else some false else if (h.kind==1)=true then if (sEq h.rule ⟨#[]⟩)=true then (XE h.fact).bind λj=>some j else some false else if (h.kind==2)=true then if (sEq h.rule ⟨#[]⟩)=true then (XE h.fact).bind λk=>some k else some false else if (h.kind==3)=true then (XP h.rule).bind λl=>if l=true then some false else some false else if (h.kind==6)=true then (XP h.rule).bind λm=>if m=true then some false else some false else if (h.kind==4)=true then (XP h.rule).bind λo=>if o=true then (XE h.fact).bind λp=>some p else some false else if (h.kind==5)=true then (XP h.rule).bind λq=>if q=true then (XE h.fact).bind λt=>some t else some false else some false
def QX (a:Zo):Option Bool:=
 (Zau a.rules).bind λd=>if d=true then (Zcr a.memory).bind λe=>if e=true then if (decide (a.clock<0))=true then some false else if (decide (200<a.clock))=true then some false else if (decide (40<(a.fired.length:Int)))=true then some false else if (decide (500<(a.log.length:Int)))=true then some false else Zm (σ:=Unit) (λ(m:Nat) (f:Zr) _=>if (decide (a.clock<f.time))=true then some (.inr false) else some (.inl ())) (λ_=>Zm (σ:=Unit) (λ(h:Nat) (c:ZK) _=>(ZbX a c).bind λg=>if g=true then Ys (σ:=Int) (λb=>if (decide (b<(h:Int)))=true then (atI a.fired b).bind λi=>(Zb6 i c).bind λj=>if j=true then some (.inr (.inr false)) else some (.inl (IntKind.i64.wrap (b+1))) else some (.inr (.inl ()))) 0 else some (.inr false)) (λ_=>Zm (σ:=Unit) (λ(n:Nat) (k:Yp) _=>(Qr k).bind λl=>if l=true then some (.inl ()) else some (.inr false)) (λ_=>some true) a.log 0 ()) a.fired 0 ()) a.memory 0 () else some false else some false
def Xg (c:List Zr) (d:Zd):Option Bool:=
 Zm (σ:=Unit) (λ(e:Nat) (a:Zr) _=>(Xh a.fact d).bind λb=>if b=true then some (.inr true) else some (.inl ())) (λ_=>some false) c 0 ()
def Yq (b:Zo) (c:Int) (d:ByteArray) (e:Zd):Option Zo:=
 (Yd e).bind λa=>chk (b.log.length+1<=1073741824) <|some ({ rules:=b.rules,memory:=b.memory,clock:=b.clock,fired:=b.fired,halted:=b.halted,log:=(b.log++[({ kind:=c,rule:=d,fact:=a }:Yp)]) }:Zo)
def ZuS (cmp:Zd->Option Int) (s:Zr):List Zr->Option (List Zr)
 | []=>some [s]
 |x::l=>(cmp x.fact).bind λv=>if 0<v then some (s::x::l) else (ZuS cmp s l).map λr=>x::r
def Xp (a:Zo) (b:Zd) (c:Int) (d:ByteArray):Option Zo:=
 if a.memory.length<=1048576/\b.args.length<=1048576/\0<=a.clock/\a.clock<=1048576 then (ZuS (λx=>Yn x b) ({ fact:=b,time:=a.clock+1 }:Zr) a.memory).bind λm=>Yq ({ rules:=a.rules,memory:=m,clock:=a.clock+1,fired:=a.fired,halted:=a.halted,log:=a.log }:Zo) c d b else none
def ZdU (f:Zo) (g:Zd):Option (Zo×Bool):=
 (QS f).bind λa=>(QX f).bind λb=>if b=true then (XE g).bind λc=>if c=true then (Xg f.memory g).bind λd=>if d=true then some (a,false) else if (decide (24<=(f.memory.length:Int)))=true then some (a,false) else if (decide (200<=f.clock))=true then some (a,false) else if (decide (500<=(f.log.length:Int)))=true then some (a,false) else (Xp a g 1 (⟨#[]⟩)).bind λe=>some (e,true) else some (a,false) else some (a,false)
def Zc0 (d:Zf) (e:List Zd):Option (List Xb):=
 (Zap d.cond e).bind λc=>Zm (σ:=(List Xb)) (λ(f:Nat) (b:Zt) a=>chk (a.length+1<=1073741824) <|some (.inl (a++[({ rule:=d.name,facts:=b.facts,binding:=b.binding }:Xb)]))) (λa=>some a) c 0 []
def Zcf (d:List Zf) (e:List Zd):Option (List Xb):=
 Zm (σ:=(List Xb)) (λ(f:Nat) (c:Zf) a=>(Zc0 c e).bind λb=>chk (a.length+b.length<=1073741824) <|some (.inl (a++b))) (λa=>some a) d 0 []
def ZbL (c:Xb):Option Xb:=
 (ZaO c.facts).bind λa=>(QI c.binding).bind λb=>some ({ rule:=c.rule,facts:=a,binding:=b }:Xb)
def ZhX (c:List Zr) (d:Zd):Option Int:=
 Zm (σ:=Unit) (λ(e:Nat) (a:Zr) _=>(Xh a.fact d).bind λb=>if b=true then some (.inr a.time) else some (.inl ())) (λ_=>some 0) c 0 ()
def Zfs (d:List Zr) (e:List Zd):Option (List Int):=
 Zm (σ:=(List Int)) (λ(f:Nat) (b:Zd) a=>(ZhX d b).bind λc=>chk (a.length+1<=1073741824) <|some (.inl (a++[c]))) (λa=>some a) e 0 []
def Zba (f:Zf):Option Int:=
 Zm (σ:=Int) (λ(g:Nat) (c:Zp) b=>Zm (σ:=Int) (λ(h:Nat) (d:ByteArray) a=>(QA d).bind λe=>if e=true then some (.inl (IntKind.i64.wrap (a+1))) else some (.inl a)) (λa=>some (.inl a)) c.pattern.args 0 b) (λb=>some b) f.cond 0 (f.cond.length:Int)
def Zcq (b:List Zf) (j:List Zr) (h:Xb):Option (ZF×Bool):=
 (XG b h.rule).bind λa=>if (decide (a<0))=true then some (({ mtch:=({ rule:=(⟨#[]⟩),facts:=[],binding:=[] }:Xb),priority:=0,times:=[],specific:=0,ordr:=0 }:ZF),false) else Zm (σ:=Unit) (λ(k:Nat) (d:Zd) _=>(Xg j d).bind λe=>if e=true then some (.inl ()) else some (.inr (({ mtch:=({ rule:=(⟨#[]⟩),facts:=[],binding:=[] }:Xb),priority:=0,times:=[],specific:=0,ordr:=0 }:ZF),false))) (λ_=>(ZbL h).bind λf=>(atI b a).bind λc=>(Zfs j h.facts).bind λg=>(Zba c).bind λi=>some (({ mtch:=f,priority:=c.priority,times:=g,specific:=i,ordr:=a }:ZF),true)) h.facts 0 ()
def ZcA (d:List ZK) (c:ZF):Option Bool:=
 Zm (σ:=Unit) (λ(e:Nat) (a:ZK) _=>if (sEq a.rule c.mtch.rule)=true then (Qg a.times c.times).bind λb=>if b=true then some (.inr true) else some (.inl ()) else some (.inl ())) (λ_=>some false) d 0 ()
def QR (c:ZF):Option ZF:=
 (ZbL c.mtch).bind λa=>(QU c.times).bind λb=>some ({ mtch:=a,priority:=c.priority,times:=b,specific:=c.specific,ordr:=c.ordr }:ZF)
def ZdP (b:List Int):Option (List Int):=
 (QU b).bind λa=>if a.length<=12 then some (ZlG a) else none
def Y0 (h:List Zd) (a:List Zd):Option Int:=
 Zm (σ:=Unit) (λ(b:Nat) (d:Zd) _=>if (decide ((b:Int)<(a.length:Int)))=true then (atI a (b:Int)).bind λe=>(Yn d e).bind λc=>if (c != 0)=true then some (.inr c) else some (.inl ()) else (ZU (h.length:Int) (a.length:Int)).bind λf=>some (.inr f)) (λ_=>(ZU (h.length:Int) (a.length:Int)).bind λg=>some g) h 0 ()
def Yc (h:ZF) (n:ZF):Option Int:=
 if (h.priority != n.priority)=true then (ZU n.priority h.priority).bind λe=>some e else (ZdP h.times).bind λb=>(ZdP n.times).bind λa=>Zm (σ:=Unit) (λ(q:Nat) (c:Int) _=>if (decide ((q:Int)<(a.length:Int)))=true then chk (0<=(q:Int)/\(q:Int)<(a.length:Int)) <|(a[q]?).bind λd=>if (c != d)=true then (ZU d c).bind λf=>some (.inr f) else some (.inl ()) else if ((b.length:Int) != (a.length:Int))=true then (ZU (a.length:Int) (b.length:Int)).bind λg=>some (.inr g) else if (h.specific != n.specific)=true then (ZU n.specific h.specific).bind λi=>some (.inr i) else if (h.ordr != n.ordr)=true then (ZU h.ordr n.ordr).bind λj=>some (.inr j) else (Y0 h.mtch.facts n.mtch.facts).bind λk=>some (.inr k)) (λ_=>if ((b.length:Int) != (a.length:Int))=true then (ZU (a.length:Int) (b.length:Int)).bind λl=>some l else if (h.specific != n.specific)=true then (ZU n.specific h.specific).bind λm=>some m else if (h.ordr != n.ordr)=true then (ZU h.ordr n.ordr).bind λo=>some o else (Y0 h.mtch.facts n.mtch.facts).bind λp=>some p) b 0 ()
def Zbh (b:Int) (c:Int) (a:List ZF):Option Bool:=
 (atI a b).bind λd=>(atI a c).bind λe=>(Yc d e).bind λf=>some (decide (f<0))
def Zbb (d:List ZF):Option (List ZF):=
 Zm (σ:=(List ZF)) (λ(e:Nat) (b:ZF) a=>(QR b).bind λc=>chk (a.length+1<=1073741824) <|some (.inl (a++[c]))) (λa=>some a) d 0 []
def ltC (l:List ZF) (i j:Nat):Bool:=decide (((l[i]?).bind λx=>(l[j]?).bind λy=>Yc x y).getD 0<0)
def Zbd (a:List ZF):Option (List ZF):=
 (Zbb a).bind λl=>if l.length<=1048576/\∀x∈l,∀y∈l,(Yc x y).isSome=true then some ((ZhF (ltC l) l.length (Array.range l.length)).toList.filterMap λi=>l[i]?) else none
def i_FreshChoices (h:List Zf) (k:List Zr) (l:List ZK):Option (List ZF):=
 (Zau h).bind λc=>if c=true then (Zcr k).bind λd=>if d=true then (ZaY k).bind λe=>(Zcf h e).bind λf=>Zm (σ:=(List ZF)) (λ(m:Nat) (g:Xb) a=>(Zcq h k g).bind λb=>(ZcA l b.1).bind λi=>if i=true then some (.inl a) else chk (a.length+1<=1073741824) <|some (.inl (a++[b.1]))) (λa=>(Zbd a).bind λj=>some j) f 0 [] else some [] else some []
def Xr (a:Zo) (b:Zd) (c:Int) (d:ByteArray):Option Zo:=
 if a.memory.length<=1048576/\b.args.length<=1048576 then Yq ({ rules:=a.rules,memory:=a.memory.filter λx=>!decide (Xh x.fact b=some true),clock:=a.clock,fired:=a.fired,halted:=a.halted,log:=a.log }:Zo) c d b else none
def i_StepEngine (c:Zo):Option (Zo×Bool):=
 (QS c).bind λa=>(QX c).bind λu=>if u=true then if c.halted=true then some (a,false) else if (decide (198<c.clock))=true then some (a,false) else if (decide (40<=(c.fired.length:Int)))=true then some (a,false) else if (decide (498<=(c.log.length:Int)))=true then some (a,false) else (i_FreshChoices c.rules c.memory c.fired).bind λt=>if ((t.length:Int)==0)=true then some (a,false) else chk (0<=0/\0<(t.length:Int)) <|(t[(A4 0)]?).bind λi=>(QU i.times).bind λv=>chk (a.fired.length+1<=1073741824) <|(Yq ({ rules:=a.rules,memory:=a.memory,clock:=a.clock,fired:=(a.fired++[({ rule:=i.mtch.rule,times:=v }:ZK)]),halted:=a.halted,log:=a.log }:Zo) 3 i.mtch.rule ({ rel:=(⟨#[]⟩),args:=[] }:Zd)).bind λk=>(atI c.rules i.ordr).bind λw=>Zm (σ:=Int×Bool×(List Zf)×(List Zr)×(List ZK)×(List Yp)) (λ(h:Nat) (p:Zw) s=>match s with |(d,j,e,b,f,g)=>(Xi p.pattern i.mtch.binding).bind λq=>if (p.kind==1)=true then (Xg b q.1).bind λx=>if x=true then some (.inl (d,j,e,b,f,g)) else if (decide ((b.length:Int)<24))=true then (Xp ({ rules:=e,memory:=b,clock:=d,fired:=f,halted:=j,log:=g }:Zo) q.1 4 i.mtch.rule).bind λl=>some (.inl (l.clock,l.halted,l.rules,l.memory,l.fired,l.log)) else some (.inl (d,j,e,b,f,g)) else if (p.kind==2)=true then (Xg b q.1).bind λy=>if y=true then (Xr ({ rules:=e,memory:=b,clock:=d,fired:=f,halted:=j,log:=g }:Zo) q.1 5 i.mtch.rule).bind λm=>some (.inl (m.clock,m.halted,m.rules,m.memory,m.fired,m.log)) else some (.inl (d,j,e,b,f,g)) else if (p.kind==3)=true then (Yq ({ rules:=e,memory:=b,clock:=d,fired:=f,halted:=true,log:=g }:Zo) 6 i.mtch.rule ({ rel:=(⟨#[]⟩),args:=[] }:Zd)).bind λo=>some (.inl (o.clock,o.halted,o.rules,o.memory,o.fired,o.log)) else some (.inl (d,j,e,b,f,g))) (λs=>match s with |(d,j,e,b,f,g)=>some (({ rules:=e,memory:=b,clock:=d,fired:=f,halted:=j,log:=g }:Zo),true)) w.thn 0 (k.clock,k.halted,k.rules,k.memory,k.fired,k.log) else some (a,false)
def i_RunEngine (h:Zo) (k:Int):Option (Zo×Int):=
 (QS h).bind λb=>Ys (σ:=Int×Bool×(List Zf)×(List Zr)×(List ZK)×(List Yp)×Int) (λs=>match s with |(d,e,f,g,i,j,c)=>if (decide (c<k))=true then (i_StepEngine ({ rules:=f,memory:=g,clock:=d,fired:=i,halted:=e,log:=j }:Zo)).bind λa=>if a.2=true then some (.inl (a.1.clock,a.1.halted,a.1.rules,a.1.memory,a.1.fired,a.1.log,(IntKind.i64.wrap (c+1)))) else some (.inr (({ rules:=f,memory:=g,clock:=d,fired:=i,halted:=e,log:=j }:Zo),c)) else some (.inr (({ rules:=f,memory:=g,clock:=d,fired:=i,halted:=e,log:=j }:Zo),c))) (b.clock,b.halted,b.rules,b.memory,b.fired,b.log,0)
def Zku (b:List Zd) (c:Zd):Option Bool:=
 (ZaL b c).bind λa=>some (decide (0<=a))
def ZeF (c:List Zd) (d:List Zd):Option Bool:=
 Zm (σ:=Unit) (λ(e:Nat) (a:Zd) _=>(Zku d a).bind λb=>if b=true then some (.inl ()) else some (.inr false)) (λ_=>some true) c 0 ()
def i_Conflicts (c:Zo):Option (List ZF):=
 (QX c).bind λa=>if a=true then (i_FreshChoices c.rules c.memory c.fired).bind λb=>some b else some []
def i_IsQuiet (c:Zo):Option Bool:=
 (QX c).bind λa=>if a=true then (i_Conflicts c).bind λb=>some ((b.length:Int)==0) else some false
def Zc2 (f:List Zd) (a:List Zd):Option Bool:=
 if ((f.length:Int) != (a.length:Int))=true then some false else Zm (σ:=Unit) (λ(b:Nat) (c:Zd) _=>(atI a (b:Int)).bind λd=>(ZhI c d).bind λe=>if e=true then some (.inl ()) else some (.inr false)) (λ_=>some true) f 0 ()
def w_FnEngineModel (h:List Int):Option Bool:=
 (ZwB h).bind λo=>if o=true then some true else (s_DrawMonotone h).bind λa=>(i_ModelOf a.1 a.2).bind λd=>(s_ModelOf a.1 a.2).bind λp=>if (d.2==p.2)=true then (Zdg a.1).bind λb=>Zm (σ:=Int×Bool×(List Zf)×(List Zr)×(List ZK)×(List Yp)) (λ(n:Nat) (q:Zd) s=>match s with |(e,f,g,i,j,k)=>(ZdU ({ rules:=g,memory:=i,clock:=e,fired:=j,halted:=f,log:=k }:Zo) q).bind λc=>some (.inl (c.1.clock,c.1.halted,c.1.rules,c.1.memory,c.1.fired,c.1.log))) (λs=>match s with |(e,f,g,i,j,k)=>(i_RunEngine ({ rules:=g,memory:=i,clock:=e,fired:=j,halted:=f,log:=k }:Zo) 60).bind λm=>(ZaY m.1.memory).bind λl=>if d.2=true then if b.2=true then (ZeF a.2 l).bind λt=>if t=true then (ZeF l d.1).bind λu=>if u=true then (i_IsQuiet m.1).bind λv=>if v=true then (Zc2 l d.1).bind λw=>some w else some true else some false else some false else some false else some true) a.2 0 (b.1.clock,b.1.halted,b.1.rules,b.1.memory,b.1.fired,b.1.log) else some false
end
theorem ZeL (a b:ByteArray):toL (a++b)=toL a++toL b:=by simp [toL]
theorem ZuU (a b:List UInt8):ofL (a++b)=ofL a++ofL b:=Zgd (by rw [ZeL,ZcT,ZcT,ZcT])
theorem Zg9 (a:List UInt8):(ofL a).size=a.length:=by rw [<-ZdG,ZcT]
theorem Zz0 (a b c:ByteArray):(a++b)++c=a++(b++c):=Zgd (by simp only[ZeL,List.append_assoc])
theorem ZCd (a b:ByteArray):(a++b).size=a.size+b.size:=by rw [<-ZdG,<-ZdG,<-ZdG,ZeL,AQ]
theorem ZeY {n:Int}(c:-9223372036854775808<=n) (a:n<=9223372036854775807):IntKind.i64.wrap n=n:=by rw [IntKind.wrap_i64];omega
theorem ZyU (u:Nat) (c:u<9223372036854775808):Xn [IntKind.u8.wrap (IntKind.i64.wrap (48+Int.tmod (u:Int) 10))]=ofL [AW (48+u % 10)]:=by
 have a:Int.tmod (u:Int) 10=((u % 10:Nat):Int):=by rw [Int.tmod_eq_emod_of_nonneg yE];omega
 rw [a,ZeY yE yE,IntKind.wrap_u8,show (48+((u % 10:Nat):Int)) % 256=((48+u % 10:Nat):Int) by omega];apply Zgd;rw [ZcT];simp only[Xn,List.map_cons,List.map_nil,toL,AD]
theorem ZCI (u:Nat) (a:u<9223372036854775808):IntKind.i64.wrap (Int.tdiv (u:Int) 10)=((u / 10:Nat):Int):=by
 rw [Int.tdiv_eq_ediv_of_nonneg yE,ZeY yE yE];omega
theorem Zz6 {body:Int×ByteArray->Option ((Int×ByteArray) ⊕ ByteArray)}(d:∀n t,body (n,t)=chk ((Xn [IntKind.u8.wrap (IntKind.i64.wrap (48+Int.tmod n 10))]).size+t.size<=9223372036854775807)
   (if (IntKind.i64.wrap (Int.tdiv n 10)==0)=true then some (.inr (Xn [IntKind.u8.wrap (IntKind.i64.wrap (48+Int.tmod n 10))]++t)) else some (.inl (IntKind.i64.wrap (Int.tdiv n 10),Xn [IntKind.u8.wrap (IntKind.i64.wrap (48+Int.tmod n 10))]++t)))):
  ∀(u:Nat) (t:ByteArray),u<9223372036854775808->t.size+Lib.nDigits u<=1000->Ys body ((u:Int),t)=some (ofL (Lib.decDigits u)++t):=by
 intro u;induction u using Nat.strongRecOn with
 |ind u ih=>
  intro t c i;rw [Zj3,d,ZyU u c,ZCI u c];have hp:=Lib.nDigits_pos u;rw [Zi _ (by rw [Zg9];simp;omega)];by_cases h:u<10
  .have a:u / 10=0:=by omega
   rw [a,Lib.decDigits_one h,show u % 10=u by omega];rfl
  .have a:¬(((u / 10:Nat):Int)==0)=true:=by simp;omega
   rw [if_neg a];have hd:=Lib.nDigits_big h;show Ys body (((u / 10:Nat):Int),ofL [AW (48+u % 10)]++t)=_
   rw [ih (u / 10) yE _ yE (by rw [ZCd,Zg9];simp;omega),<-Zz0,<-ZuU];congr 2
   rw [show Lib.decDigits u=Lib.decDigits (u / 10)++[AW (48+u % 10)] by rw [Lib.decDigits,dif_neg h]]
theorem ZGb (t:ByteArray):t++(⟨#[]⟩:ByteArray)=t:=Zgd (by rw [ZeL];simp [toL])
theorem ZpK {body:Int×ByteArray->Option ((Int×ByteArray) ⊕ ByteArray)}(a:∀n t,body (n,t)=chk ((Xn [IntKind.u8.wrap (IntKind.i64.wrap (48+Int.tmod n 10))]).size+t.size<=9223372036854775807)
   (if (IntKind.i64.wrap (Int.tdiv n 10)==0)=true then some (.inr (Xn [IntKind.u8.wrap (IntKind.i64.wrap (48+Int.tmod n 10))]++t)) else some (.inl (IntKind.i64.wrap (Int.tdiv n 10),Xn [IntKind.u8.wrap (IntKind.i64.wrap (48+Int.tmod n 10))]++t))))
  {n:Int} (d:0<=n) (c:n<=9223372036854775807):Ys body (n,⟨#[]⟩)=some (ofL (Lib.itoa n)):=by
 obtain ⟨u,rfl⟩:∃u:Nat,n=(u:Int):=⟨n.toNat,yE⟩
 have:=Lib.nDigits_le20 u yE;rw [Zz6 a u _ yE (by show 0+_<=_;omega),ZGb,Lib.itoa_nonneg]
theorem ZuP:ofL (Lib.itoa (-9223372036854775808))=(⟨#[45,57,50,50,51,51,55,50,48,51,54,56,53,52,55,55,53,56,48,56]⟩:ByteArray):=by
 rw [show (-9223372036854775808:Int)=-((9223372036854775808:Nat):Int) by rfl,Lib.itoa_neg _ yE,Lib.decDigits_eq,Lib.nDigits_unique 18 _ yF yF];decide +kernel
theorem ZkS {n:Int}(c:0<=n) (a:n<=9223372036854775807):Za5 n=some (ofL (Lib.itoa n)):=by
 unfold Za5;rw [if_neg (by simp;omega),if_neg (by simp;omega)];exact ZpK (λ_ _=>rfl) c a
theorem Zho {n:Int}(h:ZsH n):QJ n=some (ofL (Lib.itoa n)):=by
 unfold QJ;by_cases c:n=-9223372036854775808
 .subst c;rw [if_pos yF,ZuP]
 .rw [if_neg (by simpa using c)];by_cases a:n<0
  .have d:ZsH n:=h;unfold ZsH at d;rw [if_pos (by simpa using a),ZeY yE yE,ZkS yE yE,A0];obtain ⟨u,rfl⟩:∃u:Nat,n=-(u:Int):=⟨n.natAbs,yE⟩
   rw [show (0 - -(u:Int))=(u:Int) by omega,Lib.itoa_nonneg,Lib.itoa_neg u yE];have:=Lib.nDigits_le20 u yE;rw [Zi _ (by rw [Zg9,Lib.decDigits_length];show 1+_<=_;omega)];exact congrArg some (Zgd (by rw [ZeL,ZcT,ZcT];rfl))
  .rw [if_neg (by simpa using a)];exact ZpK (λ_ _=>rfl) yE h.2
theorem Zew {n:Int}(h:ZsH n):ZbB n=some (ofL (Lib.itoa n)):=by
 have a:-9223372036854775808<=n/\n<=9223372036854775807:=h;unfold ZbB Zrq;rw [Zi _ a];rfl
theorem Zx1 {n:Int}(h:ZsH n):(ofL (Lib.itoa n)).size<=21:=by
 rw [Zg9];exact Lib.itoa_length_le n h.1 h.2
def Zcb (b:UInt8):Bool:=(decide (97<=b.toNat)&&decide (b.toNat<=122))||(decide (48<=b.toNat)&&decide (b.toNat<=57))
def ZS (s:ByteArray):Bool:=decide (1<=s.size)&&decide (s.size<=8)&&(toL s).all Zcb
theorem Zis (x a b:Int):QY x a b=some (decide (a<=x)&&decide (x<=b)):=by
 unfold QY;by_cases h:a<=x<;>simp [h]
theorem ZpH (b:UInt8):IntKind.i64.wrap (b.toNat:Int)=(b.toNat:Int):=Y2 yE (by have:=b.toNat_lt;omega)
theorem ZaU {b:UInt8}:Zcb b=true↔(97<=b.toNat/\b.toNat<=122)\/(48<=b.toNat/\b.toNat<=57):=by
 simp only[Zcb,AX,A6,decide_eq_true_eq]
theorem QO (s:ByteArray):Q5 s=some (ZS s):=by
 unfold Q5 ZS;rw [show s.data.toList=toL s from rfl,Z1 (p:=Zcb) (r:=false)]
 .simp only[Zis,A0];cases (toL s).all Zcb with
  |true=>
   simp only[if_true,Ag];congr 1
   rw [AB];simp only[A6,decide_eq_true_eq];omega
  |false=>simp
 .intro i x _;simp only[Zis,A0,ZpH,A6,decide_eq_true_eq];cases hp:Zcb x with
  |true=>
   have:=ZaU.1 hp
   repeat' split
   all_goals first|rfl|(exfalso;omega)|(exfalso;simp_all;done)
  |false=>
   have:=mt (ZaU (b:=x)).2 (by simp [hp])
   repeat' split
   all_goals first|rfl|(exfalso;omega)|(exfalso;simp_all;done)
theorem X5 (s:ByteArray):QA s=some (ZS s):=by
 unfold QA ZS;simp only[decide_eq_true_eq];rw [show s.data.toList=toL s from rfl,Z1 (p:=Zcb) (r:=false)]
 .repeat' split
  .rw [decide_eq_false (show ¬1<=s.size by omega)];rfl
  .rw [decide_eq_false (show ¬s.size<=8 by omega)];simp
  .rename_i h;rw [h,decide_eq_true (show 1<=s.size by omega),decide_eq_true (show s.size<=8 by omega)];rfl
  .rename_i h;rw [eq_false_of_ne_true h];simp
 .intro i x _;cases hp:Zcb x with
  |true=>
   have:=ZaU.1 hp
   repeat' split
   all_goals first|rfl|(exfalso;omega)|(exfalso;simp_all;done)
  |false=>
   have:=mt (ZaU (b:=x)).2 (by simp [hp])
   repeat' split
   all_goals first|rfl|(exfalso;omega)|(exfalso;simp_all;done)
def ZiV (s:ByteArray):UInt8:=(toL s).headD 0
theorem ZjU {s:ByteArray}(h:1<=s.size):sAt s 0=some (ZiV s):=by
 unfold sAt ZiV;have c:0<(toL s).length:=by rw [ZdG];omega
 have:(toL s)[0]?=some ((toL s).headD 0):=by
  cases hh:toL s with
  |nil=>rw [hh]at c;simp at c
  |cons a r=>simp
 rw [if_pos yE];exact ZqO this
def Qa (s:ByteArray):Bool:=ZS s&&decide (97<=(ZiV s).toNat)
theorem ZgF {s:ByteArray}(h:ZS s=true):1<=s.size/\s.size<=8:=by
 simp only[ZS,A6,decide_eq_true_eq]at h;exact h.1
theorem Zj2 {s:ByteArray}(h:ZS s=true):Zcb (ZiV s)=true:=by
 have hs:=ZgF h;simp only[ZS,A6]at h;have c:0<(toL s).length:=by rw [ZdG];omega
 refine AJ.1 h.2 _ ?_;unfold ZiV;cases hh:toL s with
 |nil=>rw [hh]at c;simp at c
 |cons a r=>simp
theorem Zg3 (s:ByteArray):Zd7 s=some (Qa s):=by
 unfold Zd7 Qa;rw [QO,A0];cases h:ZS s with
 |false=>simp
 |true=>
  simp only[if_true,ZjU (ZgF h).1,A0,Zis,ZpH,A5];have hb:=ZaU.1 (Zj2 h);congr 1
  rw [AB];simp only[A6,decide_eq_true_eq];omega
theorem QN (s:ByteArray):XP s=some (Qa s):=by
 unfold XP Qa;rw [X5,A0];cases h:ZS s with
 |false=>simp
 |true=>
  simp only[if_true,ZjU (ZgF h).1,A0,A5];congr 1
  rw [AB];simp only[decide_eq_true_eq];omega
def ZAf (s:ByteArray):ByteArray:=s.extract 1 s.size
def Yw (s:ByteArray):Bool:=decide (1<s.size)&&decide ((ZiV s).toNat=63)&&ZS (ZAf s)
theorem ZaK (s:ByteArray):Zbm s=some (Yw s):=by
 unfold Zbm Yw ZAf;by_cases h:1<s.size
 .have a:(1:Int)<(s.size:Int):=by omega
  simp only[a,h,decide_true,if_true,ZjU (show 1<=s.size by omega),A0,A5];rw [Zi _ ⟨yE,yE⟩,show A4 1=1 from rfl,QO,A0];by_cases c:(ZiV s).toNat=63
  .simp [c]
  .have:¬((ZiV s).toNat:Int)=63:=by omega
   simp [c,this]
 .have a:¬(1:Int)<(s.size:Int):=by omega
  simp [a,h]
theorem Zd2 (s:ByteArray):ZdN s=some (Yw s):=by
 unfold ZdN Yw ZAf;by_cases h:1<s.size
 .have a:(1:Int)<(s.size:Int):=by omega
  simp only[a,h,decide_true,if_true,ZjU (show 1<=s.size by omega),A0,A5];rw [Zi _ ⟨yE,yE⟩,show A4 1=1 from rfl,X5,A0];by_cases c:(ZiV s).toNat=63
  .simp [c]
  .have:¬((ZiV s).toNat:Int)=63:=by omega
   simp [c,this]
 .have a:¬(1:Int)<(s.size:Int):=by omega
  simp [a,h]
def YF (s:ByteArray):Bool:=ZS s||Yw s
theorem Zlz (s:ByteArray):ZaH s=some (YF s):=by
 unfold ZaH YF;rw [QO,ZaK];cases ZS s<;>simp
theorem ZlK (s:ByteArray):Zaq s=some (YF s):=by
 unfold Zaq YF;rw [X5,Zd2];cases ZS s<;>simp
theorem Y8 (l:List ByteArray) (s:ByteArray):ZX l s=some (YI l s):=by
 unfold ZX YI;rw [Zbf (p:=λx=>sEq x s) (r:=true)]
 .cases l.any λx=>sEq x s<;>simp
 .intro i x _;cases sEq x s<;>simp
theorem ZaR (l:List ByteArray) (s:ByteArray):Xz l s=some (YI l s):=by
 unfold Xz YI;rw [Zbf (p:=λx=>sEq x s) (r:=true)]
 .cases l.any λx=>sEq x s<;>simp
 .intro i x _;cases sEq x s<;>simp
theorem QZ (l:List ByteArray) (s:ByteArray) (h:l.length+1<=1073741824):Qp l s=some (QW l s):=by
 unfold Qp;refine (Za9 (λl _ (c:List ByteArray×Bool)=>some (if c.2=true then c.1++l else c.1++QW l s)) (λl _ (c:List ByteArray×Bool)=>c.1.length+l.length+(if c.2=true then 0 else 1)<=1073741824) ?_ ?_ l 0 ([],false) (by simpa using h)).trans yG
 .rintro i ⟨a,d⟩ j;cases d with
  |true=>simp
  |false=>simp only[A9,if_false,QW];simp at j;rw [Zi _ yE]
 .rintro x l i ⟨a,d⟩ j;left
  cases d with
  |true=>
   simp at j;exact ⟨(a++[x],true),by simp only[if_true];rw [Zi _ yE],by simp;omega,yG⟩
  |false=>
   simp at j;cases h1:sLt x s with
   |true=>exact ⟨(a++[x],false),by simp only[A9,if_false,if_true];rw [Zi _ yE],by simp;omega,by simp [QW,h1]⟩
   |false=>
    cases h2:sEq x s with
    |true=>exact ⟨(a++[x],true),by simp only[A9,if_false,if_true];rw [Zi _ yE],by simp;omega,by simp [QW,h1,h2]⟩
    |false=>exact ⟨(a++[s]++[x],true),by simp only[A9,if_false];rw [Zi _ yE,Zi _ yE],by simp;omega,by simp [QW,h1,h2]⟩
def XC:ByteArray->List ByteArray->List ByteArray
 |_,[]=>[]
 |y,x::r=>if sEq y x=true then XC x r else x::XC x r
def ZmL:List ByteArray->List ByteArray
 | []=>[]
 |x::r=>x::XC x r
theorem ZgA {z:ByteArray}:∀{l:List ByteArray}{y:ByteArray},z∈XC y l->z∈l
 | [],_,h=>by simp [XC]at h
 |x::r,y,h=>by
  simp only[XC]at h;split at h
  .exact AY _ (ZgA h)
  .rcases AA.1 h with rfl|h
   .simp
   .exact AY _ (ZgA h)
theorem Zj7 {z:ByteArray}:∀{l:List ByteArray}{y:ByteArray},z∈l->z=y\/z∈XC y l
 | [],_,h=>by simp at h
 |x::r,y,h=>by
  simp only[XC];rcases AA.1 h with rfl|h
  .split
   .rename_i e;exact .inl (ZP.1 e).symm
   .simp
  .rcases Zj7 (y:=x) h with rfl|a
   .split
    .rename_i e;exact .inl (ZP.1 e).symm
    .simp
   .split
    .exact .inr a
    .exact .inr (AY _ a)
theorem ZkJ:∀{l:List ByteArray}{y:ByteArray},(y::l).Pairwise (λa b=>sLt b a=false)->Asc (y::XC y l)
 | [],_,_=>by simp [XC,Asc]
 |x::r,y,h=>by
  rw [AE]at h;have ih:=ZkJ h.2;simp only[XC];split
  .rename_i e;have e':=ZP.1 e;subst e';exact ih
  .rename_i e;have c:sLt y x=true:=ZfQ (h.1 x yG) (λh=>e (ZP.2 h.symm));refine AE.2 ⟨λz d=>?_,ih⟩;rcases AA.1 d with rfl|d
   .exact c
   .exact ZfM c ((AE.1 ih).1 z d)
theorem ZrS (l:List ByteArray):ZmL (ZfA l)=ZV l:=by
 have hs:=ZAc l;refine Zgx ?_ λx=>?_
 .cases h:ZfA l with
  |nil=>simp [ZmL,Asc]
  |cons y r=>rw [h]at hs;exact ZkJ hs
 .rw [<-ZxK (l:=l)];cases h:ZfA l with
  |nil=>simp [ZmL]
  |cons y r=>
   simp only[ZmL,AA];constructor
   .rintro (rfl|h)
    .exact .inl rfl
    .exact .inr (ZgA h)
   .rintro (rfl|h)
    .exact .inl rfl
    .exact Zj7 h
theorem Qv (l:List ByteArray) (h:l.length<=1073741824):Yx l=some (ZV l):=by
 unfold Yx;rw [Zi _ h,ZcJ,Zi _ yE,A0];have hl:=ZxC l;rw [<-ZrS];generalize ZfA l=v at hl
 refine (Za9 (λr i (c:List ByteArray)=>some (c++match i with|0=>ZmL r|i+1=>(match v[i]? with|some y=>XC y r|none=>[]))) (λr i c=>v.drop i=r/\c.length<=i/\i<=v.length) ?_ ?_ v 0 [] ⟨yG,yG,yG⟩).trans yG
 .rintro i c ⟨m,k,s⟩;cases i with
  |zero=>simp [ZmL]
  |succ i=>cases hv:v[i]?<;>simp [XC,hv]
 .rintro x r i c ⟨m,k,s⟩;left
  have d:v[i]?=some x:=by have:=congrArg (λl=>l[0]?) m;simpa using this
  have q:i<v.length:=(AK.1 d).1;have j:v.drop (i+1)=r:=by have:=congrArg AZ m;simpa using this
  cases i with
  |zero=>
   refine ⟨c++[x],?_,⟨j,by simp at k ⊢;simp [k],yE⟩,?_⟩
   .simp only[Int.natCast_zero,beq_self_eq_true,if_true];rw [Zi _ yE]
   .simp [ZmL,d]
  |succ i=>
   have o:IntKind.i64.wrap (((i+1:Nat):Int) - 1)=(i:Int):=by rw [Y2 yE yE];omega
   have a:((((i+1:Nat):Int))==0)=false:=by rw [beq_eq_false_iff_ne];omega
   obtain ⟨y,hy⟩:∃y,v[i]?=some y:=⟨v[i],yG⟩
   simp only[a,A9,if_false,o,AD,hy,A0];cases he:sEq y x with
   |true=>
    refine ⟨c,?_,⟨j,yE,yE⟩,?_⟩
    .rw [Zi _ ⟨yE,yE⟩];rfl
    .simp [XC,he,d]
   |false=>
    refine ⟨c++[x],?_,⟨j,by simp;omega,yE⟩,?_⟩
    .rw [Zi _ ⟨yE,yE⟩];simp only[A9,if_false];rw [Zi _ yE]
    .simp [XC,he,d]
theorem Zex (l:List ByteArray) (h:l.length<=1073741824):Zav l=some l:=by
 unfold Zav;rw [Zi _ h]
theorem Zr4 (l:List ByteArray) (h:l.length<=1073741824):Zf1 l=some l:=by
 unfold Zf1;rw [Zi _ h]
theorem Zoc {ρ:Type}{fin:List ByteArray->Option ρ}{body:Nat->ByteArray->List ByteArray->Option (List ByteArray ⊕ ρ)}(c:∀j x s,body j x s=(Qp s x).bind λv=>some (.inl v)) {l a:List ByteArray}(h:a.length+l.length<=1073741824):Zm body fin l 0 a=fin (l.foldl QW a):=by
 refine YZ (f:=QW) (λj s=>s.length<=a.length+j) yE λj x s d k i m=>?_;have hp:=ZeS x s;exact ⟨by rw [c,QZ _ _ yE];rfl,yE⟩
theorem ZaZ {α σ ρ:Type}{body:Nat->α->σ->Option (σ ⊕ ρ)}{fin:σ->Option ρ}(a:List α->σ) (l:List α) (h:∀p x q,l=p++x::q->body p.length x (a p)=some (.inl (a (p++[x])))):Zm body fin l 0 (a [])=fin (a l):=by
 have c:∀(q p:List α),l=p++q->Zm body fin q p.length (a p)=fin (a l):=by
  intro q;induction q with
  |nil=>intro p e;rw [Znv,e,Ah]
  |cons x q ih=>
   intro p e;rw [ZQ (h p x q e)];have:=ih (p++[x]) (by rw [e];simp);simpa using this
 exact c l [] rfl
def Ya (f:Zd):Bool:=Qa f.rel&&decide (f.args.length<=3)&&f.args.all ZS
theorem Zlp (f:Zd):ZfL f=some (Ya f):=by
 unfold ZfL Ya;rw [Z1 (p:=ZS) (r:=false)]
 .rw [Zg3,A0];cases Qa f.rel<;>cases h:f.args.all ZS<;>simp<;>omega
 .intro i x _;rw [QO,A0];cases ZS x<;>rfl
theorem QK (f:Zd):XE f=some (Ya f):=by
 unfold XE Ya;rw [QN,A0];cases Qa f.rel with
 |false=>rfl
 |true=>
  rw [if_pos rfl];by_cases h:f.args.length<=3
  .rw [if_neg (by simp;omega),Z1 (p:=ZS) (r:=false)]
   .cases h2:f.args.all ZS<;>simp [h]
   .intro i x _;rw [X5,A0];cases ZS x<;>rfl
  .rw [if_pos (by simp;omega)];simp [h]
structure ZpN {α:Type}(c:α->α->Int):Prop where
 eq:∀a b,c a b=0↔a=b
 anti:∀a b,c b a=- c a b
 tr:∀a b d,c a b<0->c b d<0->c a d<0
def Zjb (a b:ByteArray):Int:=Lib.compareBytes (toL a) (toL b)
theorem ZiX:∀(x y:List UInt8),Lib.compareBytes x y=if Op.bytesLess x y=true then -1 else if x=y then 0 else 1
 | [],[]=>by simp [Lib.compareBytes,Op.bytesLess]
 | [],_::_=>by simp [Lib.compareBytes,Op.bytesLess]
 |_::_,[]=>by simp [Lib.compareBytes,Op.bytesLess]
 |a::x,b::y=>by
  have ih:=ZiX x y;unfold Lib.compareBytes Op.bytesLess;by_cases d:a<b
  .simp [d]
  .rw [if_neg d];by_cases c:b<a
   .have h:¬a=b:=λe=>by rw [e]at c;exact absurd c (UInt8.lt_irrefl _)
    rw [if_pos c];simp [d,h]
   .have h:a=b:=by
     apply UInt8.toNat_inj.1;rw [UInt8.lt_iff_toNat_lt]at d c;omega
    subst h;rw [if_neg c,ih];simp [d]
theorem Zh9 (a b:ByteArray):Zjb a b=if sLt a b=true then -1 else if a=b then 0 else 1:=by
 unfold Zjb;rw [ZiX];have c:Op.bytesLess (toL a) (toL b)=sLt a b:=by unfold sLt toL;rw [Ai,Ai]
 rw [c];by_cases h:a=b
 .subst h;simp
 .rw [if_neg h,if_neg (λe=>h (Zgd e))]
theorem ZbY:ZpN Zjb where
 eq:=λa b=>by
  rw [Zh9];by_cases h:sLt a b=true
  .simp [h,ZqN h]
  .rw [if_neg h];by_cases h2:a=b<;>simp [h2]
 anti:=λa b=>by
  rw [Zh9,Zh9];by_cases h:sLt a b=true
  .have h2:=Zk8 h;have h3:=ZqN h;rw [if_pos h,if_neg (by simp [h2]),if_neg (λe=>h3 e.symm)];rfl
  .rw [if_neg h];by_cases h2:a=b
   .subst h2;rw [if_neg h];simp
   .rw [if_pos (ZfQ (by simpa using h) h2),if_neg h2]
 tr:=λa b d j h2=>by
  have c:∀x y,Zjb x y<0->sLt x y=true:=λx y h=>by
   rw [Zh9]at h;by_cases i:sLt x y=true
   .exact i
   .rw [if_neg i]at h;split at h<;>omega
  rw [Zh9,if_pos (ZfM (c _ _ j) (c _ _ h2))];omega
theorem ZmE (a b:ByteArray):Zim a b=some (Zjb a b):=by
 unfold Zim;rw [Zh9];by_cases h:sLt a b=true
 .rw [if_pos h,if_pos h]
 .rw [if_neg h,if_neg h];by_cases d:a=b
  .subst d;rw [if_pos (by rw [Zz5];simp),if_pos rfl]
  .rw [if_neg (by simp only[AX,ZP];rintro (c|c);exact h c;exact d c),if_neg d]
theorem ZkG (a b:ByteArray):ZfS a b=some (Zjb a b):=rfl
/- numbers -/
theorem ZoQ {u:Nat}{b:UInt8}(h:b∈Lib.decDigits u):48<=b.toNat/\b.toNat<=57:=by
 rw [Lib.decDigits_eq,List.mem_map]at h;obtain ⟨t,_,rfl⟩:=h;unfold Lib.dg;have:u / 10 ^ (Lib.nDigits u - 1 - t) % 10<10:=Nat.mod_lt _ yE;rw [UInt8.toNat_ofNat'];omega
def Zaj (s:ByteArray):Option Nat:=
 if 1<=s.size/\s.size<=4 then (match Lib.decNat (toL s) with|some n=>if ofL (Lib.decDigits n)=s then some n else none|none=>none) else none
def Zd4 (s:ByteArray):Int×Bool:=match Zaj s with|some n=>((n:Int),true)|none=>(0,false)
theorem Zk0 {s:ByteArray}{n:Nat}(h:Zaj s=some n):s=ofL (Lib.decDigits n)/\n<=9999:=by
 unfold Zaj at h;split at h
 .rename_i d;split at h
  .split at h
   .rename_i m _ a;obtain rfl:=AH h;refine ⟨a.symm,?_⟩;have c:Lib.nDigits m<=4:=by
     have:=congrArg ByteArray.size a;rw [Zg9,Lib.decDigits_length]at this;omega
    have:=Lib.lt_pow_nDigits m;have i:10 ^ Lib.nDigits m<=10 ^ 4:=Aa yE c;omega
   .simp at h
  .simp at h
 .simp at h
theorem Zzv {a b:ByteArray}{n:Nat}(d:Zaj a=some n) (c:Zaj b=some n):a=b:=(Zk0 d).1.trans (Zk0 c).1.symm
theorem Ztv {body:Nat->UInt8->Int->Option (Int ⊕ (Int×Bool))}{fin:Int->Option (Int×Bool)}
  (c:∀i (x:UInt8) n,body i x n=if (decide ((x.toNat:Int)<48))=true then some (.inr (0,false)) else if (decide (57<(x.toNat:Int)))=true then some (.inr (0,false)) else some (.inl (IntKind.i64.wrap ((IntKind.i64.wrap (10*n))+IntKind.i64.wrap (IntKind.u8.wrap ((x.toNat:Int) - 48)))))):
  ∀(l:List UInt8) (i a:Nat),(a+1)*10 ^ l.length<=100000->Zm body fin l i (a:Int)=match Lib.decFrom a l with|some n=>fin (n:Int)|none=>some (0,false)
 | [],i,a,_=>rfl
 |x::l,i,a,h=>by
  unfold Lib.decFrom Lib.digitVal;by_cases d:48<=x.toNat/\x.toNat<=57
  .have e:body i x (a:Int)=some (.inl ((a*10+(x.toNat - 48):Nat):Int)):=by
    have j:1<=10 ^ (x::l).length:=Nat.one_le_pow _ _ yE;have k:a+1<=100000:=AI (Nat.le_mul_of_pos_right _ j) h;rw [c,if_neg (by simp;omega),if_neg (by simp;omega),ZeY (n:=10*(a:Int)) yE yE,IntKind.wrap_u8,ZeY (n:=((x.toNat:Int) - 48) % 256) yE yE,ZeY yE yE];congr 2
    omega
   rw [ZQ e,if_pos d];refine Ztv c l (i+1) _ ?_;rw [AC,Nat.pow_succ]at h;refine AI ?_ h;rw [show (a+1)*(10 ^ l.length*10)=((a+1)*10)*10 ^ l.length by rw [Aj,Nat.mul_comm 10]];exact Nat.mul_le_mul_right _ yE
  .have e:body i x (a:Int)=some (.inr (0,false)):=by
    rw [c];by_cases k:x.toNat<48
    .rw [if_pos (by simp;omega)]
    .rw [if_neg (by simp;omega),if_pos (by simp;omega)]
   rw [Z4 e,if_neg d]
theorem ZAT (n a b:Int):QY n a b=some (decide (a<=n)&&decide (n<=b)):=by
 unfold QY;by_cases h:a<=n<;>simp [h]
theorem Zbc (s:ByteArray):Q3 s=some (Zd4 s):=by
 unfold Q3 Zd4 Zaj;rw [ZAT,A0];by_cases c:1<=s.size/\s.size<=4
 .rw [if_pos (by simp;omega),if_pos c];have d:s.data.toList.length=s.size:=ZdG s;refine (Ztv (λ_ _ _=>rfl) s.data.toList 0 0 (by
   rw [d,AR,Nat.one_mul];exact AI (Aa yE c.2) yE)).trans ?_
  have h:Lib.decNat (toL s)=Lib.decFrom 0 s.data.toList:=by
   unfold Lib.decNat;rw [if_neg]
   .rfl
   .intro e;have:=ZdG s;rw [List.isEmpty_iff.1 e]at this;simp at this;omega
  rw [h];cases hv:Lib.decFrom 0 s.data.toList with
  |none=>rfl
  |some n=>
   have i:n<1000000000000000000:=Lib.decFrom_lt18 hv yE;show (QJ (n:Int)).bind _=_
   rw [Zho ⟨yE,yE⟩,A0,Lib.itoa_nonneg];by_cases a:ofL (Lib.decDigits n)=s
   .rw [if_pos (ZP.2 a)];simp only[a,if_true]
   .rw [if_neg (by rw [ZP];exact a)];simp only[a,if_false]
 .rw [if_neg (by simp;omega),if_neg c]
theorem ZAr {b:UInt8}{r:List UInt8}(h:b=45\/b=43):Lib.decNat (b::r)=none:=by
 rcases h with rfl|rfl<;>simp [Lib.decNat,Lib.decFrom,Lib.digitVal]
theorem ZpI {s:ByteArray}(h:Lib.decNat (toL s)=none):Zaj s=none:=by
 unfold Zaj;rw [h];split<;>rfl
theorem ZcV (s:ByteArray):Zar s=some (Zd4 s):=by
 unfold Zar;by_cases t:s.size<1
 .rw [if_pos (by simp;omega)];unfold Zd4 Zaj;rw [if_neg yE]
 by_cases q:4<s.size
 .rw [if_neg (by simp;omega),if_pos (by simp;omega)];unfold Zd4 Zaj;rw [if_neg yE]
 rw [if_neg (by simp;omega),if_neg (by simp;omega)];have hl:=ZdG s;have o:ZmO s=some (match Lib.atoi (toL s) with|some n=>(n,true)|none=>(0,false)):=by
  unfold ZmO;exact Zi _ yE
 rw [o,A0];cases hL:toL s with
 |nil=>rw [hL]at hl;simp at hl;omega
 |cons b r=>
  have d:b=45\/b=43->Zd4 s=(0,false):=λh=>by
   unfold Zd4;rw [ZpI (by rw [hL];exact ZAr h)]
  have f:∀m,(b=45\/b=43)->¬ofL (Lib.decDigits m)=s:=λm h e=>by
   have i:b∈Lib.decDigits m:=by
    have:toL s=Lib.decDigits m:=by rw [<-e,ZcT]
    rw [<-this,hL];simp
   have:=ZoQ i;rcases h with rfl|rfl<;>simp at this
  by_cases a:b=45
  .rw [d (.inl a)];cases hd:Lib.decNat r with
   |none=>simp [Lib.atoi,a,hd]
   |some m=>
    have e:Lib.atoi (b::r)=some (-(m:Int)):=by simp [Lib.atoi,a,hd]
    rw [e];simp only[if_true];by_cases i:m=0
    .subst i;rw [if_neg yG,if_neg yG];show (ZbB ((0:Nat):Int)).bind _=_
     rw [Zew ⟨yE,yE⟩,A0,Lib.itoa_nonneg,if_neg (by rw [ZP];exact f 0 (.inl a))]
    .rw [if_pos (by simp;omega)]
  .by_cases c:b=43
   .rw [d (.inr c)];cases hd:Lib.decNat r with
    |none=>simp [Lib.atoi,c,hd]
    |some m=>
     have e:Lib.atoi (b::r)=some (m:Int):=by simp [Lib.atoi,c,hd]
     rw [e];simp only[if_true];rw [if_neg yG];by_cases i:9999<m
     .rw [if_pos (by simp;omega)]
     .rw [if_neg (by simp;omega),Zew ⟨yE,yE⟩,A0,Lib.itoa_nonneg,if_neg (by rw [ZP];exact f m (.inr c))]
   .have e:Lib.atoi (b::r)=(Lib.decNat (b::r)).map λ(m:Nat)=>(m:Int):=by simp [Lib.atoi,a,c]
    rw [e];cases hd:Lib.decNat (b::r) with
    |none=>
     unfold Zd4;rw [ZpI (by rw [hL];exact hd)];rfl
    |some m=>
     simp only[Ak,if_true];rw [if_neg yG];have k:Zaj s=if ofL (Lib.decDigits m)=s then some m else none:=by
      unfold Zaj;rw [if_pos yE,hL,hd]
     by_cases i:9999<m
     .rw [if_pos (by simp;omega)];have:Zaj s=none:=by
       cases hq:Zaj s with
       |none=>rfl
       |some n=>
        have h3:=(Zk0 hq).2;rw [k]at hq;split at hq
        .obtain rfl:=AH hq;omega
        .simp at hq
      unfold Zd4;rw [this]
     .rw [if_neg (by simp;omega),Zew ⟨yE,yE⟩,A0,Lib.itoa_nonneg];unfold Zd4;rw [k];by_cases j:ofL (Lib.decDigits m)=s
      .rw [if_pos (ZP.2 j),if_pos j]
      .rw [if_neg (by rw [ZP];exact j),if_neg j]
def Zl3 (x y:Nat):Int:=if x<y then -1 else if y<x then 1 else 0
theorem ZqI:ZpN Zl3 where
 eq:=λa b=>by unfold Zl3;split<;>(try split)<;>omega
 anti:=λa b=>by unfold Zl3;split<;>(try split)<;>(try split)<;>omega
 tr:=λa b d h c=>by
  unfold Zl3 at *;split at h
  .split at c
   .rw [if_pos yE];omega
   .split at c<;>omega
  .split at h<;>omega
def ZgU (a b:ByteArray):Int:=
 match Zaj a,Zaj b with
 |some x,some y=>Zl3 x y
 |some _,none=>-1
 |none,some _=>1
 |none,none=>Zjb a b
theorem ZrJ:ZpN ZgU where
 eq:=λa b=>by
  unfold ZgU;cases ha:Zaj a with
  |none=>
   cases hb:Zaj b with
   |none=>exact ZbY.eq a b
   |some y=>simp only;exact ⟨λh=>by omega,λh=>by rw [h,hb]at ha;simp at ha⟩
  |some x=>
   cases hb:Zaj b with
   |none=>simp only;exact ⟨λh=>by omega,λh=>by rw [h,hb]at ha;simp at ha⟩
   |some y=>
    simp only;rw [ZqI.eq];exact ⟨λh=>Zzv ha (h ▸ hb),λh=>by rw [h,hb]at ha;exact (AH ha).symm⟩
 anti:=λa b=>by
  unfold ZgU;cases Zaj a<;>cases Zaj b<;>simp only
  .exact ZbY.anti a b
  .rfl
  .exact ZqI.anti _ _
 tr:=λa b d i c=>by
  unfold ZgU at *;cases ha:Zaj a<;>cases hb:Zaj b<;>cases hd:Zaj d<;>simp only[ha,hb,hd]at i c ⊢<;>first|omega|exact ZbY.tr a b d i c|exact ZqI.tr _ _ _ i c
theorem Zcz (x y:Nat):ZU (x:Int) (y:Int)=some (Zl3 x y):=by
 unfold ZU Zl3;by_cases c:x<y
 .rw [if_pos (by simpa using c),if_pos c]
 .rw [if_neg (by simpa using c),if_neg c];by_cases a:y<x
  .rw [if_pos (by simpa using a),if_pos a]
  .rw [if_neg (by simpa using a),if_neg a]
theorem Ze9 (a b:ByteArray):XN a b=some (ZgU a b):=by
 unfold XN ZgU;rw [Zbc,A0,Zbc,A0];unfold Zd4;cases Zaj a with
 |none=>
  cases Zaj b with
  |none=>simp only[A9,if_false];rw [ZmE];rfl
  |some y=>rfl
 |some x=>
  cases Zaj b with
  |none=>rfl
  |some y=>
   simp only[if_true];unfold Zl3;by_cases d:x<y
   .rw [if_pos (by simpa using d),if_pos d]
   .rw [if_neg (by simpa using d),if_neg d];by_cases c:y<x
    .rw [if_pos (by simpa using c),if_pos c]
    .rw [if_neg (by simpa using c),if_neg c]
theorem ZjL (a b:ByteArray):Zaz a b=some (ZgU a b):=by
 unfold Zaz ZgU;rw [ZcV,A0,ZcV,A0];unfold Zd4;cases Zaj a with
 |none=>
  cases Zaj b with
  |none=>simp only[A9,if_false];rw [ZkG];rfl
  |some y=>rfl
 |some x=>
  cases Zaj b with
  |none=>rfl
  |some y=>simp only[if_true];rw [Zcz];rfl
def Zg1 {α:Type}(c:α->α->Int):List α->List α->Int
 | [],[]=>0
 | [],_::_=>-1
 |_::_,[]=>1
 |x::l,y::r=>if c x y=0 then Zg1 c l r else c x y
theorem ZrT {α:Type}{c:α->α->Int}(h:ZpN c):ZpN (Zg1 c) where
 eq:=λa=>by
  induction a with
  |nil=>intro b;cases b<;>simp [Zg1]
  |cons x l ih=>
   intro b;cases b with
   |nil=>simp [Zg1]
   |cons y r=>
    simp only[Zg1];by_cases i:c x y=0
    .rw [if_pos i,ih,(h.eq x y).1 i];simp
    .rw [if_neg i];exact ⟨λe=>absurd e i,λe=>absurd ((h.eq x y).2 (by simp at e;exact e.1)) i⟩
 anti:=λa=>by
  induction a with
  |nil=>intro b;cases b<;>simp [Zg1]
  |cons x l ih=>
   intro b;cases b with
   |nil=>simp [Zg1]
   |cons y r=>
    simp only[Zg1];have hy:=h.anti x y;by_cases i:c x y=0
    .rw [if_pos i,if_pos yE,ih]
    .rw [if_neg i,if_neg yE,hy]
 tr:=λa=>by
  induction a with
  |nil=>
   intro b d k j;cases b with
   |nil=>simp [Zg1]at k
   |cons y r=>cases d with
    |nil=>simp [Zg1]at j
    |cons z q=>simp [Zg1]
  |cons x l ih=>
   intro b d k j;cases b with
   |nil=>simp [Zg1]at k
   |cons y r=>cases d with
    |nil=>simp [Zg1]at j
    |cons z q=>
     simp only[Zg1]at k j ⊢;by_cases i:c x y=0
     .rw [if_pos i]at k;obtain rfl:=(h.eq x y).1 i;by_cases m:c x z=0
      .rw [if_pos m]at j ⊢;exact ih r q k j
      .rw [if_neg m]at j ⊢;exact j
     .rw [if_neg i]at k;by_cases m:c y z=0
      .obtain rfl:=(h.eq y z).1 m;rw [if_neg i];exact k
      .rw [if_neg m]at j;have:=h.tr x y z k j;rw [if_neg yE];exact this
def Zci (a b:Zd):Int:=if Zjb a.rel b.rel=0 then Zg1 ZgU a.args b.args else Zjb a.rel b.rel
theorem ZtS {a b:Zd}(d:a.rel=b.rel) (c:a.args=b.args):a=b:=by cases a;cases b;simp_all
theorem ZdF:ZpN Zci where
 eq:=λa b=>by
  unfold Zci;by_cases h:Zjb a.rel b.rel=0
  .rw [if_pos h,(ZrT ZrJ).eq];exact ⟨λe=>ZtS ((ZbY.eq _ _).1 h) e,λe=>by rw [e]⟩
  .rw [if_neg h];exact ⟨λe=>absurd e h,λe=>absurd ((ZbY.eq _ _).2 (by rw [e])) h⟩
 anti:=λa b=>by
  unfold Zci;have hy:=ZbY.anti a.rel b.rel;by_cases h:Zjb a.rel b.rel=0
  .rw [if_pos h,if_pos yE,(ZrT ZrJ).anti]
  .rw [if_neg h,if_neg yE,hy]
 tr:=λa b d j c=>by
  unfold Zci at *;by_cases k:Zjb a.rel b.rel=0
  .rw [if_pos k]at j;have e:=(ZbY.eq _ _).1 k;rw [e];by_cases i:Zjb b.rel d.rel=0
   .rw [if_pos i]at c ⊢;exact (ZrT ZrJ).tr _ _ _ j c
   .rw [if_neg i]at c ⊢;exact c
  .rw [if_neg k]at j;by_cases i:Zjb b.rel d.rel=0
   .rw [<-(ZbY.eq _ _).1 i,if_neg k];exact j
   .rw [if_neg i]at c;have:=ZbY.tr _ _ _ j c;rw [if_neg yE];exact this
theorem Y3 {α:Type}(l:List α) (i:Nat):atI l (i:Int)=l[i]?:=by unfold atI;rw [if_pos yE,AD]
theorem Zlg {A B:List ByteArray}{body:Nat->ByteArray->Unit->Option (Unit ⊕ Int)}{fin:Unit->Option Int}
  (b:∀i x y,B[i]?=some y->body i x ()=if ZgU x y=0 then some (.inl ()) else some (.inr (ZgU x y))) (c:∀x,B.length<A.length->body B.length x ()=some (.inr 1)) (a:A.length<=B.length->fin ()=some (if A.length<B.length then -1 else 0)):
  ∀(l:List ByteArray) (i:Nat),i+l.length=A.length->i<=B.length->Zm body fin l i ()=some (Zg1 ZgU l (B.drop i))
 | [],i,h,hi=>by
  simp at h;rw [Znv,a yE];by_cases d:A.length<B.length
  .rw [if_pos d];cases hd:B.drop i with
   |nil=>have:=congrArg List.length hd;simp at this;omega
   |cons y r=>rfl
  .rw [if_neg d,Ab yE];rfl
 |x::l,i,h,hi=>by
  simp only[AC]at h;by_cases d:i<B.length
  .have k:B[i]?=some B[i]:=Ac d;rw [Al d];simp only[Zg1];by_cases j:ZgU x B[i]=0
   .rw [ZQ (by rw [b i x _ k,if_pos j]),if_pos j];exact Zlg b c a l (i+1) yE yE
   .rw [Z4 (by rw [b i x _ k,if_neg j]),if_neg j]
  .obtain rfl:i=B.length:=by omega
   rw [Z4 (c x yE),Ab (AS _)];rfl
theorem ZeX (a b:Zd):XF a b=some (Zci a b):=by
 unfold XF Zci;by_cases h:a.rel=b.rel
 .rw [if_pos (ZP.2 h),if_pos ((ZbY.eq _ _).2 h)];refine Zlg (A:=a.args) (B:=b.args) (λi x y j=>?_) (λx k=>?_) (λk=>?_) a.args 0 yG (Nat.zero_le _)
  .have hi:=(AK.1 j).1;rw [if_pos (by simpa using hi),Y3,j,A0,Ze9,A0];by_cases d:ZgU x y=0
   .rw [d];rfl
   .rw [if_pos (by simpa using d),if_neg d]
  .rw [if_neg yG,if_neg (by simp;omega),if_pos (by simpa using k)]
  .by_cases c:a.args.length<b.args.length
   .rw [if_pos (by simpa using c),if_pos c]
   .rw [if_neg (by simpa using c),if_neg (by simp;omega),if_neg c]
 .rw [if_neg (by rw [ZP];exact h),if_neg (λe=>h ((ZbY.eq _ _).1 e)),ZmE];rfl
theorem Xd (a b:Zd):Yn a b=some (Zci a b):=by
 unfold Yn Zci;rw [ZkG,A0];by_cases h:Zjb a.rel b.rel=0
 .rw [if_neg (by simpa using h),if_pos h];refine Zlg (A:=a.args) (B:=b.args) (λi x y j=>?_) (λx k=>?_) (λk=>?_) a.args 0 yG (Nat.zero_le _)
  .have hi:=(AK.1 j).1;rw [if_pos (by simpa using hi),Y3,j,A0,ZjL,A0];by_cases d:ZgU x y=0
   .rw [d];rfl
   .rw [if_pos (by simpa using d),if_neg d]
  .rw [if_neg yG,Zcz];unfold Zl3;rw [if_neg yE,if_pos k];rfl
  .rw [Zcz];unfold Zl3;by_cases c:a.args.length<b.args.length
   .rw [if_pos c,if_pos c];rfl
   .rw [if_neg c,if_neg yE,if_neg c];rfl
 .rw [if_pos (by simpa using h),if_neg h]
section
theorem Xx (f:Zd) (h:f.args.length<=1048576):XB f=some f:=by
 unfold XB;rw [Zr4 _ yE];rfl
theorem Z6 (f:Zd) (h:f.args.length<=1048576):Yd f=some f:=by
 unfold Yd;rw [Zex _ yE];rfl
theorem Zno {B:List ByteArray}{body:Nat->ByteArray->Unit->Option (Unit ⊕ Bool)}(d:∀i x y,B[i]?=some y->body i x ()=if x=y then some (.inl ()) else some (.inr false)):
  ∀(l:List ByteArray) (i:Nat),i+l.length=B.length->Zm body (λ_=>some true) l i ()=some (decide (l=B.drop i))
 | [],i,h=>by
  simp at h;rw [Znv,Ab yE];simp
 |x::l,i,h=>by
  simp only[AC]at h;have c:i<B.length:=by omega
  have j:(x::l=B.drop i)↔(x=B[i]/\l=B.drop (i+1)):=by rw [Al c,List.cons.injEq]
  rw [AB.2 (show decide (x::l=B.drop i)=true↔decide (x=B[i]/\l=B.drop (i+1))=true by rw [decide_eq_true_iff,decide_eq_true_iff];exact j)];by_cases a:x=B[i]
  .rw [ZQ (by rw [d i x _ (Ac c),if_pos a]),Zno d l (i+1) yE];simp [a]
  .rw [Z4 (by rw [d i x _ (Ac c),if_neg a])];simp [a]
theorem ZmV (a b:List ByteArray):Zc6 a b=some (decide (a=b)):=by
 unfold Zc6;by_cases h:a.length=b.length
 .rw [if_neg (by simp;omega)];have:=Zno (B:=b) (body:=λk j _=>(atI b (k:Int)).bind λd=>if (sEq j d)=true then some (.inl ()) else some (.inr false)) (λi x y m=>by
   show (atI b (i:Int)).bind _=_
   rw [Y3,m,A0];by_cases c:x=y
   .rw [if_pos (ZP.2 c),if_pos c]
   .rw [if_neg (by rw [ZP];exact c),if_neg c]) a 0 yE
  simpa using this
 .rw [if_pos (by simp;omega),decide_eq_false (λe=>h (by rw [e]))]
open Classical
theorem Yv (a b:Zd):Xh a b=some (decide (a=b)):=by
 unfold Xh;by_cases h:a.rel=b.rel
 .rw [if_pos (ZP.2 h),ZmV,A0];congr 1
  rw [AB,decide_eq_true_iff,decide_eq_true_iff];exact ⟨λe=>ZtS h e,λe=>by rw [e]⟩
 .rw [if_neg (by rw [ZP];exact h),decide_eq_false (λe=>h (by rw [e]))]
theorem ZoI (l:List Zd) (f:Zd):∃z,Yo l f=some z/\(z<0↔f∉l):=by
 unfold Yo;have d:∀(l:List Zd) (i:Nat),∃z,Zm (σ:=Unit) (λ(m:Nat) (j:Zd) _=>(Xh j f).bind λk=>if k=true then some (.inr (m:Int)) else some (.inl ())) (λ_=>some (-1)) l i ()=some z/\(z<0↔f∉l):=by
  intro l;induction l with
  |nil=>intro i;exact ⟨-1,rfl,yG⟩
  |cons x l ih=>
   intro i;by_cases c:x=f
   .refine ⟨(i:Int),Z4 (by rw [Yv,A0,if_pos (decide_eq_true c)]),by simp [c]⟩
   .obtain ⟨z,e,o⟩:=ih (i+1);refine ⟨z,(ZQ (by rw [Yv,A0,if_neg (by simpa using c)])).trans e,?_⟩;rw [o,AA];exact ⟨λh=>by rintro (a|a);exact c a.symm;exact h a,λh a=>h (.inr a)⟩
 exact d l 0
def Zdy:List Zd->Zd->List Zd
 | [],f=>[f]
 |x::l,f=>if Zci x f<0 then x::Zdy l f else if Zci x f=0 then x::l else f::x::l
def ZgV (l:List Zd):Prop:=l.Pairwise λx y=>Zci x y<0
theorem XI {y f:Zd}:∀{l:List Zd},y∈Zdy l f↔y=f\/y∈l
 | []=>by simp [Zdy]
 |x::l=>by
  simp only[Zdy];split
  .rw [AA,XI,AA];exact ⟨λh=>by rcases h with h|h|h<;>simp [h],λh=>by rcases h with h|h|h<;>simp [h]⟩
  .split
   .rename_i h;have e:=(ZdF.eq _ _).1 h;rw [AA,e];exact ⟨λh=>by rcases h with h|h<;>simp [h],λh=>by rcases h with h|h|h<;>simp [h]⟩
   .rw [AA]
theorem Zj6 (f:Zd):∀l:List Zd,(Zdy l f).length<=l.length+1
 | []=>by simp [Zdy]
 |x::l=>by
  have:=Zj6 f l;simp only[Zdy];split
  .simp;omega
  .split<;>simp
theorem Zoj {f:Zd}:∀{l:List Zd},ZgV l->ZgV (Zdy l f)
 | [],_=>by simp [Zdy,ZgV]
 |x::l,h=>by
  unfold ZgV at *;rw [AE]at h;simp only[Zdy];split
  .rename_i d;rw [AE];refine ⟨λy c=>?_,Zoj h.2⟩;rcases XI.1 c with rfl|c
   .exact d
   .exact h.1 y c
  .rename_i d;split
   .rw [AE];exact h
   .rename_i i;have a:Zci f x<0:=by rw [ZdF.anti x f];omega
    rw [AE,AE];refine ⟨λy c=>?_,h⟩;rcases AA.1 c with rfl|c
    .exact a
    .exact ZdF.tr _ _ _ a (h.1 y c)
theorem ZnH (l:List Zd) (f:Zd) (q:l.length<=1048576) (o:∀x∈l,x.args.length<=1048576) (k:f.args.length<=1048576):Xe l f=some (Zdy l f):=by
 unfold Xe;rw [Za9 (λl _ s=>some (s.1++(if s.2=true then l else Zdy l f))) (λl _ s=>s.1.length+2*l.length+1<=4000000/\∀x∈l,x.args.length<=1048576) ?_ ?_ l 0 ([],false) ⟨by simp;omega,o⟩]
 .simp
 .rintro i ⟨h,a⟩ ⟨j,_⟩;cases a with
  |true=>simp
  |false=>
   simp only[A9,if_false];simp only[Ad]at j;rw [Xx f k,A0,Zi _ yE];rfl
 .rintro x l i ⟨h,a⟩ ⟨j,d⟩;simp only[AC]at j;have hx:=d x yG;left
  cases a with
  |true=>
   simp only[if_true];rw [Xx x hx,A0,Zi _ yE];exact ⟨_,rfl,⟨by simp;omega,λy c=>d y (by simp [c])⟩,yG⟩
  |false=>
   simp only[A9,if_false];rw [ZeX,A0];by_cases b:Zci x f<0
   .rw [if_neg (by simp;omega),Xx x hx,A0,Zi _ yE];exact ⟨_,rfl,⟨by simp;omega,λy c=>d y (by simp [c])⟩,by simp [Zdy,b]⟩
   .rw [if_pos (by simp;omega),A0];by_cases m:Zci x f=0
    .rw [if_neg (by simp;omega),Xx x hx,A0,Zi _ yE];exact ⟨_,rfl,⟨by simp;omega,λy c=>d y (by simp [c])⟩,by simp [Zdy,m]⟩
    .rw [if_pos (by simp;omega),Xx f k,A0,Zi _ yE,Xx x hx,A0,Zi _ yE];exact ⟨_,rfl,⟨by simp;omega,λy c=>d y (by simp [c])⟩,by simp [Zdy,m,b]⟩
theorem Zq0 (l:List Zd) (f:Zd) (t:f∉l) (w:l.length<=1048576) (u:∀x∈l,x.args.length<=1048576) (o:f.args.length<=1048576):Qw l f=some (Zdy l f):=by
 unfold Qw;rw [Za9 (λl _ s=>some (s.1++(if s.2=true then l else Zdy l f))) (λl _ s=>s.1.length+2*l.length+1<=4000000/\f∉l/\∀x∈l,x.args.length<=1048576) ?_ ?_ l 0 ([],false) ⟨by simp;omega,t,u⟩]
 .simp
 .rintro i ⟨j,a⟩ ⟨k,_⟩;cases a with
  |true=>simp
  |false=>
   simp only[A9,if_false];simp only[Ad]at k;rw [Z6 f o,A0,Zi _ yE];rfl
 .rintro x l i ⟨j,a⟩ ⟨k,q,h⟩;simp only[AC]at k;have hx:=h x yG;have b:f∉l:=λm=>q (by simp [m]);left
  cases a with
  |true=>
   simp only[if_true];rw [Z6 x hx,A0,Zi _ yE];exact ⟨_,rfl,⟨by simp;omega,b,λy d=>h y (by simp [d])⟩,yG⟩
  |false=>
   simp only[A9,if_false];rw [Xd,A0];have v:¬Zci x f=0:=λe=>q (by rw [(ZdF.eq _ _).1 e];simp);by_cases c:Zci x f<0
   .rw [if_neg (by simp;omega),Z6 x hx,A0,Zi _ yE];exact ⟨_,rfl,⟨by simp;omega,b,λy d=>h y (by simp [d])⟩,by simp [Zdy,c]⟩
   .rw [if_pos (by simp;omega),Z6 f o,A0,Zi _ yE,Z6 x hx,A0,Zi _ yE];exact ⟨_,rfl,⟨by simp;omega,b,λy d=>h y (by simp [d])⟩,by simp [Zdy,v,c]⟩
end
def Z5 (p:Zv):Bool:=Qa p.rel&&decide (p.args.length<=3)&&p.args.all YF
theorem ZaB (p:Zv):Y6 p=some (Z5 p):=by
 unfold Y6 Z5;rw [Z1 (p:=YF) (r:=false)]
 .simp only[Zg3,A0];have:decide ((p.args.length:Int)<=3)=decide (p.args.length<=3):=by rw [AB];simp only[decide_eq_true_eq];omega
  rw [this];cases p.args.all YF<;>cases Qa p.rel<;>simp
 .intro i x _;rw [Zlz];cases YF x<;>simp
theorem Zb9 (p:Zv):Xu p=some (Z5 p):=by
 unfold Xu Z5;rw [QN,Z1 (p:=YF) (r:=false)]
 .by_cases h:p.args.length<=3
  .have a:¬(3:Int)<(p.args.length:Int):=by omega
   cases p.args.all YF<;>cases Qa p.rel<;>simp [h,a]
  .have a:(3:Int)<(p.args.length:Int):=by omega
   cases Qa p.rel<;>simp [h,a]
 .intro i x _;rw [ZlK];cases YF x<;>simp
def Xo (p:Zv):Bool:=sEq p.rel ⟨#[]⟩&&decide (p.args.length=0)
theorem Zyi {α:Type}(l:List α):(((l.length:Int))==0)=decide (l.length=0):=by
 rw [AB,beq_iff_eq,decide_eq_true_eq];omega
theorem Zf2 (p:Zv):Xt p=some (Xo p):=by
 unfold Xt Xo;rw [Zyi];cases sEq p.rel ⟨#[]⟩<;>simp
def Y4 (x:Zp):Bool:=
 if x.kind=1\/x.kind=2 then Z5 x.pattern&&sEq x.left ⟨#[]⟩&&sEq x.right ⟨#[]⟩ else if x.kind=3\/x.kind=4\/x.kind=5 then Xo x.pattern&&YF x.left&&YF x.right else false
theorem Zdm (x:Zp):Zdi x=some (Y4 x):=by
 unfold Zdi Y4;simp only[ZaB,Zlz,A0,Xo,Zyi,beq_iff_eq];by_cases i:x.kind=1
 .simp only[i,if_true,true_or];cases Z5 x.pattern<;>cases sEq x.left ⟨#[]⟩<;>simp
 by_cases h:x.kind=2
 .simp only[h,if_true,or_true];cases Z5 x.pattern<;>cases sEq x.left ⟨#[]⟩<;>simp
 simp only[i,h,if_false,or_self];by_cases d:x.kind=3
 .simp only[d,if_true,true_or];cases sEq x.pattern.rel ⟨#[]⟩<;>cases decide (x.pattern.args.length=0)<;>cases YF x.left<;>simp
 by_cases c:x.kind=4
 .simp only[c,if_true,true_or,or_true];cases sEq x.pattern.rel ⟨#[]⟩<;>cases decide (x.pattern.args.length=0)<;>cases YF x.left<;>simp
 by_cases a:x.kind=5
 .simp only[a,if_true,or_true];cases sEq x.pattern.rel ⟨#[]⟩<;>cases decide (x.pattern.args.length=0)<;>cases YF x.left<;>simp
 simp [d,c,a]
theorem ZhQ (x:Zp):Zer x=some (Y4 x):=by
 unfold Zer Y4;simp only[Zb9,ZlK,Zf2,A0,beq_iff_eq];by_cases i:x.kind=1
 .simp only[i,if_true,true_or];cases Z5 x.pattern<;>cases sEq x.left ⟨#[]⟩<;>simp
 by_cases h:x.kind=2
 .simp only[h,if_true,or_true];cases Z5 x.pattern<;>cases sEq x.left ⟨#[]⟩<;>simp
 simp only[i,h,if_false,or_self];by_cases d:x.kind=3
 .simp only[d,if_true,true_or];cases Xo x.pattern<;>cases YF x.left<;>cases YF x.right<;>simp
 by_cases c:x.kind=4
 .simp only[c,if_true,true_or,or_true];cases Xo x.pattern<;>cases YF x.left<;>cases YF x.right<;>simp
 by_cases a:x.kind=5
 .simp only[a,if_true,or_true];cases Xo x.pattern<;>cases YF x.left<;>cases YF x.right<;>simp
 simp [d,c,a]
theorem ZrA {x:Zp}(h:Y4 x=true):x.kind=1\/x.kind=2\/x.kind=3\/x.kind=4\/x.kind=5:=by
 unfold Y4 at h;split at h
 .rename_i a;omega
 .split at h
  .rename_i a;omega
  .simp at h
theorem ZsD (x:Zp):Zcc x=some (Y4 x&&decide (3<=x.kind)):=by
 unfold Zcc;rw [Zdm];cases Y4 x<;>simp
def X2 (a:Zw):Bool:=
 if a.kind=1\/a.kind=2 then Z5 a.pattern else if a.kind=3 then Xo a.pattern else false
theorem ZoN (a:Zw):ZeK a=some (X2 a):=by
 unfold ZeK X2;simp only[ZaB,A0,Xo,Zyi,beq_iff_eq];by_cases h:a.kind=1
 .simp [h]
 by_cases d:a.kind=2
 .simp [d]
 by_cases c:a.kind=3
 .simp only[c,if_true];cases sEq a.pattern.rel ⟨#[]⟩<;>simp
 simp [h,d,c]
theorem Zou (a:Zw):Zej a=some (X2 a):=by
 unfold Zej X2;simp only[Zb9,Zf2,A0,beq_iff_eq];by_cases h:a.kind=1
 .simp [h]
 by_cases d:a.kind=2
 .simp [d]
 by_cases c:a.kind=3
 .simp [c]
 simp [h,d,c]
def Xk (l:List ByteArray):List ByteArray:=l.filter Yw
theorem ZdY (l:List ByteArray):(Xk l).length<=l.length:=List.length_filter_le _ _
theorem Zcy {x:ByteArray}{l:List ByteArray}:x∈Xk l↔x∈l/\Yw x=true:=by simp [Xk]
theorem Zd1 (l:List ByteArray) (h:l.length<=1073741824):ZaN l=some (Xk l):=by
 unfold ZaN;rw [Ze5 (p:=Yw)]
 .simp [Xk]
 .intro j x s _ a;rw [Zd2,A0];split
  .rw [Zi _ (by simp at a;omega)]
  .rfl
theorem Zlv {p:ByteArray->Bool}:∀(l a:List ByteArray),l.foldl (λs x=>if p x=true then QW s x else s) a=(l.filter p).foldl QW a
 | [],_=>rfl
 |x::l,a=>by
  rw [AT,Zlv l];by_cases h:p x=true<;>simp [h]
theorem ZcY (p:Zv) (h:p.args.length<=1073741823):Zcd p=some (ZV (Xk p.args)):=by
 unfold Zcd;rw [YZ (f:=λs x=>if Yw x=true then QW s x else s) (λj s=>s.length<=j) yG]
 .rw [Zlv];rfl
 .intro j x s _ _ a c;simp at a;have:=ZeS x s;rw [ZaK,A0];split
  .rw [QZ _ _ yE];exact ⟨rfl,yE⟩
  .exact ⟨rfl,yE⟩
def ZhR (x:Zp):List ByteArray:=x.pattern.args++[x.left,x.right]
def YW (x:Zp):List ByteArray:=ZV (Xk (ZhR x))
theorem ZcS (x:Zp) (h:x.pattern.args.length<=1073741822):QQ x=some (YW x):=by
 unfold QQ Zie;rw [Zex _ yE,A0,Zi _ yE,A0,Zd1 _ (by simp;omega),A0];have:=ZdY (x.pattern.args++[x.left,x.right]);simp at this;rw [Qv _ yE];rfl
theorem ZcP (x:Zp) (h:x.pattern.args.length<=1073741820):Qi x=some (YW x):=by
 unfold Qi;have h1:=Ze6 (Xk x.pattern.args);have h2:=ZdY x.pattern.args;have h3:=ZeS x.left (ZV (Xk x.pattern.args));have c:∀l:List ByteArray,(∀y,y∈l↔y∈Xk (ZhR x))->Asc l->l=YW x:=λl d i=>Zgx i d;rw [ZcY _ yE,A0,ZaK,A0,ZaK];simp only[A0];rw [QZ _ _ yE,A0,QZ (QW _ _) _ yE,A0,QZ _ x.right yE,A0];cases hl:Yw x.left<;>cases hr:Yw x.right<;>simp only[if_true,A9,if_false]<;>congr 1<;>apply c<;>(try intro y)<;>(try simp only[Zj0,ZW,Zcy,ZhR,AL,AA,Am,or_false])
 all_goals first
  |exact Zdh _
  |exact Zg4 (Zdh _)
  |exact Zg4 (Zg4 (Zdh _))
  |skip
 .constructor
  .rintro ⟨a,b⟩;exact ⟨.inl a,b⟩
  .rintro ⟨a|rfl|rfl,b⟩
   .exact ⟨a,b⟩
   .rw [hl]at b;simp at b
   .rw [hr]at b;simp at b
 .constructor
  .rintro (rfl|⟨a,b⟩)
   .exact ⟨yG,hr⟩
   .exact ⟨.inl a,b⟩
  .rintro ⟨a|rfl|rfl,b⟩
   .exact .inr ⟨a,b⟩
   .rw [hl]at b;simp at b
   .exact .inl rfl
 .constructor
  .rintro (rfl|⟨a,b⟩)
   .exact ⟨yG,hl⟩
   .exact ⟨.inl a,b⟩
  .rintro ⟨a|rfl|rfl,b⟩
   .exact .inr ⟨a,b⟩
   .exact .inl rfl
   .rw [hr]at b;simp at b
 .constructor
  .rintro (rfl|rfl|⟨a,b⟩)
   .exact ⟨yG,hr⟩
   .exact ⟨yG,hl⟩
   .exact ⟨.inl a,b⟩
  .rintro ⟨a|rfl|rfl,b⟩
   .exact .inr (.inr ⟨a,b⟩)
   .exact .inr (.inl rfl)
   .exact .inl rfl
theorem Zic (x:Zp):(YW x).length<=x.pattern.args.length+2:=by
 have h1:=Ze6 (Xk (ZhR x));have h2:=ZdY (ZhR x);have a:(ZhR x).length=x.pattern.args.length+2:=by simp [ZhR]
 unfold YW;omega
theorem Zyv {x:Zp}{v:ByteArray}(h:v∈YW x):Yw v=true:=(Zcy.1 (ZW.1 h)).2
structure Xa (r:Zf):Prop where
 cl:r.cond.length<=1048576
 tl:r.thn.length<=1048576
 ca:∀x∈r.cond,x.pattern.args.length<=1048576
 ta:∀a∈r.thn,a.pattern.args.length<=1048576
def YU (l:List Zp):List ByteArray:=l.flatMap λx=>if x.kind=1 then Xk x.pattern.args else []
def YP (r:Zf) (n:Nat):List ByteArray:=ZV (YU (r.cond.take n))
theorem Zd9 (r:Zf) (n:Int) (h:Xa r) (u:r.cond.length<=4):Zax r n=some (YP r n.toNat):=by
 unfold Zax YP;refine (Za9 (λl i (a:List ByteArray)=>some (ZV (a++YU (l.take (n.toNat - i))))) (λl i a=>r.cond.drop i=l/\a.length<=1048576*i/\i<=r.cond.length) ?_ ?_ r.cond 0 [] ⟨yG,yG,yG⟩).trans yG
 .rintro i a ⟨k,s,q⟩;rw [Qv _ yE];simp [YU]
 .rintro x l i a ⟨k,s,q⟩;left
  have m:r.cond[i]?=some x:=by have:=congrArg (λl=>l[0]?) k;simpa using this
  have o:i<r.cond.length:=(AK.1 m).1;have d:r.cond.drop (i+1)=l:=by have:=congrArg AZ k;simpa using this
  have hx:=h.ca x (AN m);have hv:=ZdY x.pattern.args;by_cases j:(i:Int)<n
  .have e:n.toNat - i=(n.toNat - (i+1))+1:=by omega
   by_cases c:x.kind=1
   .refine ⟨a++Xk x.pattern.args,?_,⟨d,by simp;omega,yE⟩,?_⟩
    .simp only[j,c,decide_true,beq_self_eq_true,if_true];rw [Zd1 _ yE,A0,Zi _ yE]
    .rw [e];simp [YU,c]
   .refine ⟨a,?_,⟨d,yE,yE⟩,?_⟩
    .simp [j,c]
    .rw [e];simp [YU,c]
  .have e:n.toNat - i=0:=by omega
   have t:n.toNat - (i+1)=0:=by omega
   refine ⟨a,?_,⟨d,yE,yE⟩,?_⟩
   .simp [j]
   .rw [e,t];simp
theorem ZeG (r:Zf) (n:Int) (h:Xa r) (A:r.cond.length<=4):QM r n=some (YP r n.toNat):=by
 unfold QM YP;refine (Za9 (λl i (a:List ByteArray)=>some ((YU (l.take (n.toNat - i))).foldl QW a)) (λl i a=>r.cond.drop i=l/\a.length<=1048576*i/\i<=r.cond.length/\Asc a) ?_ ?_ r.cond 0 [] ⟨yG,yG,yG,AF⟩).trans (by simp [ZV])
 .rintro i a ⟨k,u,t,d⟩;simp [YU]
 .rintro x l i a ⟨k,u,t,d⟩;have o:r.cond[i]?=some x:=by have:=congrArg (λl=>l[0]?) k;simpa using this
  have s:i<r.cond.length:=(AK.1 o).1;have m:r.cond.drop (i+1)=l:=by have:=congrArg AZ k;simpa using this
  have hx:=h.ca x (AN o);have hv:=ZdY x.pattern.args;have hs:=Ze6 (Xk x.pattern.args);by_cases j:(i:Int)<n
  .left
   have e:n.toNat - i=(n.toNat - (i+1))+1:=by omega
   by_cases c:x.kind=1
   .obtain ⟨q,z,B⟩:=Qn (ZV (Xk x.pattern.args)) a d;refine ⟨(ZV (Xk x.pattern.args)).foldl QW a,?_,⟨m,yE,yE,q⟩,?_⟩
    .simp only[j,c,decide_true,beq_self_eq_true,if_true];rw [ZcY _ yE,A0,Zoc (λ_ _ _=>rfl) yE]
    .rw [e];simp only[YU,List.take_succ_cons,AO,c,if_true,Ae];congr 2
     obtain ⟨w,v,_⟩:=Qn (Xk x.pattern.args) a d;exact ZqU w q λy=>by rw [v,z,ZW]
   .refine ⟨a,?_,⟨m,yE,yE,d⟩,?_⟩
    .simp [j,c]
    .rw [e];simp [YU,c]
  .right
   have e:n.toNat - i=0:=by omega
   refine ⟨a,by simp [j],by rw [e];simp [YU]⟩
def Znj (r:Zf) (i:Int) (v:ByteArray):Bool:=!(QG (λk x=>!(decide ((k:Int)≠i)&&YI (YW x) v)) r.cond 0&&r.thn.all λa=>!YI a.pattern.args v)
theorem ZhV {r:Zf}{i:Int}{v:ByteArray}{f:Zp->Option (List ByteArray)}{g:List ByteArray->ByteArray->Option Bool}(o:∀x∈r.cond,f x=some (YW x)) (m:∀l,g l v=some (YI l v)) {fin:Unit->Option Bool}(c:fin ()=some (!(r.thn.all λa=>!YI a.pattern.args v))):
  Zm (σ:=Unit) (λ(k:Nat) (x:Zp) _=>if ((k:Int) != i)=true then (f x).bind λl=>(g l v).bind λb=>if b=true then some (.inr true) else some (.inl ()) else some (.inl ())) fin r.cond 0 ()=some (Znj r i v):=by
 rw [Xf (p:=λk x=>!(decide ((k:Int)≠i)&&YI (YW x) v)) (r:=true)]
 .unfold Znj;cases QG (λk x=>!(decide ((k:Int)≠i)&&YI (YW x) v)) r.cond 0 with
  |true=>simp only[if_true,c,A5]
  |false=>simp
 .intro j x d;rw [o x (AN d),A0,m,A0,AR];by_cases h:(j:Int)=i
  .simp [h]
  .have:((j:Int) != i)=true:=by simpa using h
   simp only[this,if_true];cases YI (YW x) v<;>simp [h]
theorem Zg0 (r:Zf) (i:Int) (v:ByteArray) (h:Xa r):Qe r i v=some (Znj r i v):=by
 unfold Qe;refine ZhV (f:=QQ) (g:=Xz) (λx c=>ZcS x (by have:=h.ca x c;omega)) (λl=>ZaR l v) ?_;rw [Zbf (p:=λa=>YI a.pattern.args v) (r:=true)]
 .simp only[<-An,Ao];cases r.thn.any λa=>YI a.pattern.args v<;>rfl
 .intro j a _;rw [ZaR];cases YI a.pattern.args v<;>simp
theorem ZkX (r:Zf) (i:Int) (v:ByteArray) (h:Xa r) (k:Yw v=true):Qj r i v=some (Znj r i v):=by
 unfold Qj;refine ZhV (f:=Qi) (g:=ZX) (λx c=>ZcP x (by have:=h.ca x c;omega)) (λl=>Y8 l v) ?_;rw [Zbf (p:=λa=>YI a.pattern.args v) (r:=true)]
 .simp only[<-An,Ao];cases r.thn.any λa=>YI a.pattern.args v<;>rfl
 .intro j a d;rw [ZcY _ (by have:=h.ta a d;omega),A0,Y8,A0];have:YI (ZV (Xk a.pattern.args)) v=YI a.pattern.args v:=by
   rw [AB,Qz,Qz,ZW,Zcy];simp [k]
  rw [this];cases YI a.pattern.args v<;>simp
def Zok (r:Zf) (i:Nat) (x:Zp) (v:ByteArray):Bool:=decide (x.kind=1)||YI (YP r i) v||(decide (x.kind=2)&&!Znj r i v)
def Zg2 (r:Zf) (i:Nat) (x:Zp):Bool:=(YW x).all (Zok r i x)
theorem Zox (r:Zf) (i:Nat) (x:Zp) (h:Xa r) (m:r.cond.length<=4) (a:r.cond[i]?=some x):Zcw r i=some (Zg2 r i x):=by
 unfold Zcw Zg2;have k:atI r.cond (i:Int)=some x:=by unfold atI;rw [if_pos yE,AD];exact a
 rw [k,A0,Zd9 r _ h m,A0,ZcS x (by have:=h.ca x (AN a);omega),A0,AD];rw [Z1 (p:=Zok r i x) (r:=false)]
 .cases (YW x).all (Zok r i x)<;>rfl
 .intro j v o;rw [ZaR,Zg0 r _ v h];simp only[A0,Zok,beq_iff_eq,bne_iff_ne,ne_eq];by_cases d:x.kind=1
  .simp [d]
  .simp only[d,if_false,decide_false,Ap];cases YI (YP r i) v with
   |true=>simp
   |false=>
    by_cases c:x.kind=2
    .simp only[c,not_true_eq_false,if_false,A9,decide_true,A5,Ap];cases Znj r i v<;>simp
    .simp [c]
def YE (r:Zf):Bool:=
 Qa r.name&&decide (0<=r.priority)&&decide (r.priority<=9)&&decide (1<=r.cond.length)&&decide (r.cond.length<=4)&&decide (1<=r.thn.length)&&decide (r.thn.length<=2) && QG (λi x=>Y4 x&&(decide (i≠0)||decide (x.kind=1))&&Zg2 r i x) r.cond 0 && r.thn.all (λa=>X2 a&&(Xk a.pattern.args).all (YI (YP r r.cond.length))) && decide ((ZV (r.cond.flatMap YW)).length<=6)
theorem Zl9 (l:List Zp) (h:∀x∈l,x.pattern.args.length<=1048576) (k:l.length<=4):Zb7 l=some (l.flatMap YW):=by
 unfold Zb7;rw [YZ (f:=λs x=>s++YW x) (λj s=>s.length<=1048578*j) yG]
 .congr 1
  have:∀(l:List Zp) (a:List ByteArray),l.foldl (λs x=>s++YW x) a=a++l.flatMap YW:=by
   intro l;induction l with
   |nil=>simp
   |cons x l ih=>intro a;rw [AT,ih];simp
  simpa using this l []
 .intro j x s c _ d i;have:=h x c;have:=Zic x;rw [ZcS x yE,A0,Zi _ yE];exact ⟨rfl,by simp;omega⟩
theorem ZlI (r:Zf) (h:Xa r):ZfP r=some (YE r):=by
 unfold ZfP YE;rw [QN,A0];cases Qa r.name with
 |false=>simp
 |true=>
 simp only[if_true,decide_eq_true_eq,A5];split
 .rw [decide_eq_false (show ¬0<=r.priority by omega)];simp
 split
 .rw [decide_eq_false (show ¬r.priority<=9 by omega)];simp
 split
 .rw [decide_eq_false (show ¬1<=r.cond.length by omega)];simp
 split
 .rw [decide_eq_false (show ¬r.cond.length<=4 by omega)];simp
 split
 .rw [decide_eq_false (show ¬1<=r.thn.length by omega)];simp
 split
 .rw [decide_eq_false (show ¬r.thn.length<=2 by omega)];simp
 rw [decide_eq_true (show 0<=r.priority by omega),decide_eq_true (show r.priority<=9 by omega),decide_eq_true (show 1<=r.cond.length by omega),decide_eq_true (show r.cond.length<=4 by omega),decide_eq_true (show 1<=r.thn.length by omega),decide_eq_true (show r.thn.length<=2 by omega)];simp only[A5];have d:r.cond.length<=4:=by omega
 rw [Xf (p:=λi x=>Y4 x&&(decide (i≠0)||decide (x.kind=1))&&Zg2 r i x) (r:=false)]
 .cases QG (λi x=>Y4 x&&(decide (i≠0)||decide (x.kind=1))&&Zg2 r i x) r.cond 0 with
  |false=>simp
  |true=>
   simp only[if_true,A5];rw [Zd9 r _ h d,A0,AD,Z1 (p:=λa=>X2 a&&(Xk a.pattern.args).all (YI (YP r r.cond.length))) (r:=false)]
   .cases r.thn.all λa=>X2 a&&(Xk a.pattern.args).all (YI (YP r r.cond.length)) with
    |false=>simp
    |true=>
     have c:(r.cond.flatMap YW).length<=1048578*r.cond.length:=by
      have:∀l:List Zp,(∀x∈l,x.pattern.args.length<=1048576)->(l.flatMap YW).length<=1048578*l.length:=by
       intro l;induction l with
       |nil=>simp
       |cons x l ih=>
        intro c;have h1:=ih λy q=>c y (by simp [q]);have h2:=c x yG;have h3:=Zic x;simp only[AO,AQ,AC];omega
      exact this r.cond h.ca
     simp only[if_true,A5];rw [Zl9 _ h.ca d,A0,Qv _ yE,A0];congr 1
     rw [AB];simp only[decide_eq_true_eq];omega
   .intro j a s;rw [Zou,A0];cases X2 a with
    |false=>simp
    |true=>
     simp only[if_true,A5];rw [Zd1 _ (by have:=h.ta a s;omega),A0,Z1 (p:=YI (YP r r.cond.length)) (r:=.inr false)]
     .cases (Xk a.pattern.args).all (YI (YP r r.cond.length))<;>rfl
     .intro k v _;rw [ZaR,A0];cases YI (YP r r.cond.length) v<;>simp
 .intro j x t;rw [AR,ZhQ,A0,Zox r j x h d t];simp only[A0];cases Y4 x with
  |false=>simp
  |true=>
   by_cases o:j=0
   .subst o;by_cases m:x.kind=1
    .simp only[m];cases Zg2 r 0 x<;>simp
    .simp [m]
   .have:((j:Int)==0)=false:=by rw [beq_eq_false_iff_ne];omega
    simp only[this];cases Zg2 r j x<;>simp [o]
theorem Zf9 {α:Type}(f:α->List ByteArray):∀(l:List α) (a:List ByteArray),Asc a->l.foldl (λs x=>(f x).foldl QW s) a=(l.flatMap f).foldl QW a
 | [],_,_=>rfl
 |x::l,a,h=>by rw [AT,Zf9 f l _ (Qn (f x) a h).1,AO,Ae]
def ZmP (r:Zf):List ByteArray:=ZV (r.cond.flatMap YW++r.thn.flatMap λa=>Xk a.pattern.args)
theorem Zoq (r:Zf) (h:Xa r) (w:r.cond.length<=4) (h2:r.thn.length<=2):ZeC r=some (ZmP r):=by
 unfold ZeC ZmP;rw [YZ (f:=λs x=>(YW x).foldl QW s) (λj s=>s.length<=1048578*j/\Asc s) ⟨yG,AF⟩]
 .have hA:=Zf9 YW r.cond [] AF;have k:Asc (r.cond.foldl (λs x=>(YW x).foldl QW s) []):=by rw [hA];exact (Qn _ [] AF).1
  have c:(r.cond.foldl (λs x=>(YW x).foldl QW s) []).length<=1048578*4:=by
   rw [hA];have:=(Qn (r.cond.flatMap YW) [] AF).2.2;have h3:(r.cond.flatMap YW).length<=1048578*r.cond.length:=by
    have:∀l:List Zp,(∀x∈l,x.pattern.args.length<=1048576)->(l.flatMap YW).length<=1048578*l.length:=by
     intro l;induction l with
     |nil=>simp
     |cons x l ih=>
      intro c;have h1:=ih λy m=>c y (by simp [m]);have h2:=c x yG;have h3:=Zic x;simp only[AO,AQ,AC];omega
    exact this r.cond h.ca
   simp only[Ad,Nat.add_zero]at this;omega
  rw [YZ (f:=λs a=>(ZV (Xk a.pattern.args)).foldl QW s) (λj s=>s.length<=1048578*4+1048576*j/\Asc s) ⟨yE,k⟩]
  .congr 1
   rw [Zf9 (λa:Zw=>ZV (Xk a.pattern.args)) r.thn _ k,hA];refine Zgx (Qn _ _ (Qn _ [] AF).1).1 λy=>?_;rw [(Qn _ _ (Qn _ [] AF).1).2.1 y,(Qn _ [] AF).2.1 y];simp only[AL,AU,ZW,Am,or_false];exact Or.comm
  .intro j a s q _ t d;have h5:=h.ta a q;have h6:=ZdY a.pattern.args;have h7:=Ze6 (Xk a.pattern.args);obtain ⟨i,v,u⟩:=Qn (ZV (Xk a.pattern.args)) s d.2;rw [ZcY _ yE,A0,Zoc (λ_ _ _=>rfl) yE];exact ⟨rfl,yE,i⟩
 .intro j x s o _ t d;have h5:=h.ca x o;have h6:=Zic x;obtain ⟨i,v,u⟩:=Qn (YW x) s d.2;rw [ZcP _ yE,A0,Zoc (λ_ _ _=>rfl) yE];exact ⟨rfl,yE,i⟩
theorem Ztr {l:List Zp}{y:ByteArray}(h:y∈YU l):y∈l.flatMap YW:=by
 simp only[YU,AU]at h ⊢;obtain ⟨x,c,a⟩:=h;refine ⟨x,c,?_⟩;split at a
 .rw [YW,ZW,Zcy];rw [Zcy]at a;exact ⟨by simp [ZhR,a.1],a.2⟩
 .simp at a
theorem ZhT (r:Zf) (h:Xa r):Zc3 r=some (YE r):=by
 unfold Zc3 YE;rw [Zg3,A0];cases Qa r.name with
 |false=>simp
 |true=>
 simp only[if_true,Zis,A0,A5,A6,decide_eq_true_eq];split
 rotate_left
 .rename_i w;have:(decide (0<=r.priority)&&decide (r.priority<=9))=false:=by simp;omega
  rw [this];simp
 rename_i u;rw [decide_eq_true u.1,decide_eq_true u.2];split
 rotate_left
 .rename_i w;have:(decide (1<=r.cond.length)&&decide (r.cond.length<=4))=false:=by simp;omega
  simp only[A5,this,Aq]
 rename_i D;rw [decide_eq_true (show 1<=r.cond.length by omega),decide_eq_true (show r.cond.length<=4 by omega)];split
 rotate_left
 .rename_i w;have:(decide (1<=r.thn.length)&&decide (r.thn.length<=2))=false:=by simp;omega
  simp only[A5,this,Aq]
 rename_i C;rw [decide_eq_true (show 1<=r.thn.length by omega),decide_eq_true (show r.thn.length<=2 by omega)];simp only[A5];have s:r.cond.length<=4:=by omega
 rw [ZeG r _ h s,A0,AD];rw [Xf (p:=λi x=>Y4 x&&(decide (i≠0)||decide (x.kind=1))&&Zg2 r i x) (r:=false)]
 .cases QG (λi x=>Y4 x&&(decide (i≠0)||decide (x.kind=1))&&Zg2 r i x) r.cond 0 with
  |false=>simp
  |true=>
   simp only[if_true,A5];rw [Z1 (p:=λa=>X2 a&&(Xk a.pattern.args).all (YI (YP r r.cond.length))) (r:=false)]
   .cases ha:r.thn.all λa=>X2 a&&(Xk a.pattern.args).all (YI (YP r r.cond.length)) with
    |false=>simp
    |true=>
     simp only[if_true,A5];rw [Zoq r h s yE,A0];have e:ZmP r=ZV (r.cond.flatMap YW):=Zos λy=>by
      simp only[AL];refine ⟨λo=>?_,.inl⟩;rcases o with o|o
      .exact o
      .obtain ⟨a,q,o⟩:=AU.1 o;have:=AJ.1 ha a q;simp only[A6]at this;have:=AJ.1 this.2 y o;rw [Qz,YP,ZW,List.take_length]at this;exact Ztr this
     rw [e];congr 1
     rw [AB];simp only[decide_eq_true_eq];omega
   .intro j a q;rw [ZoN,A0];cases X2 a with
    |false=>simp
    |true=>
     simp only[if_true,A5];rw [ZcY _ (by have:=h.ta a q;omega),A0,Z1 (p:=YI (YP r r.cond.length)) (r:=.inr false)]
     .have:(ZV (Xk a.pattern.args)).all (YI (YP r r.cond.length))=(Xk a.pattern.args).all (YI (YP r r.cond.length)):=by
       rw [AB,AJ,AJ];simp only[ZW]
      rw [this];cases (Xk a.pattern.args).all (YI (YP r r.cond.length))<;>rfl
     .intro k v _;rw [Y8,A0];cases YI (YP r r.cond.length) v<;>simp
 .intro j x B;have hxa:=h.ca x (AN B);rw [AR,Zdm,A0,ZeG r _ h s,ZcP x yE,AD];simp only[A0];cases hic:Y4 x with
  |false=>simp
  |true=>
   have c:∀{fin:Unit->Option (Unit ⊕ Bool)} (d:fin ()=some (.inl ())),Zm (σ:=Unit) (ρ:=Unit ⊕ Bool) (λ(_:Nat) (v:ByteArray) _=>(ZX (YP r j) v).bind λb=>(Zcc x).bind λt=>if t=true then (if b=true then (if (x.kind==2)=true then some (.inl ()) else some (.inl ())) else some (.inr (.inr false))) else (if (x.kind==2)=true then (if b=true then some (.inl ()) else (Qj r (j:Int) v).bind λe=>if e=true then some (.inr (.inr false)) else some (.inl ())) else some (.inl ()))) fin (YW x) 0 ()=some (bif Zg2 r j x then .inl () else .inr false):=λ{fin} d=>by
    rw [Z1 (p:=Zok r j x) (r:=.inr false)]
    .unfold Zg2;cases (YW x).all (Zok r j x)<;>simp [d]
    .intro k v A;rw [Y8,ZsD,ZkX r _ v h (Zyv A),hic];simp only[A0,A5,decide_eq_true_eq,beq_iff_eq,Zok];rcases ZrA hic with m|m|m|m|m<;>rw [m]<;>cases YI (YP r j) v<;>cases Znj r j v<;>simp
   by_cases z:j=0
   .subst z;by_cases m:x.kind=1
    .have f:(x.kind != 1)=false:=by simp [m]
     simp only[if_true,f,show (((0:Nat):Int)==0)=true from rfl,A9,if_false];rw [c rfl];simp [m]
    .have f:(x.kind != 1)=true:=by simpa using m
     simp [f,m]
   .have:((j:Int)==0)=false:=by rw [beq_eq_false_iff_ne];omega
    simp only[if_true,this,A9,if_false];rw [c rfl];simp [z]
theorem Zkl {v:ByteArray}(h:Yw v=true):ZS v=false:=by
 cases ha:ZS v with
 |false=>rfl
 |true=>
  have h1:=Zj2 ha;rw [ZaU]at h1;unfold Yw at h;simp only[A6,decide_eq_true_iff]at h;omega
def Zah:List Zs->ByteArray->Option ByteArray
 | [],_=>none
 |x::b,v=>if x.var=v then some x.value else Zah b v
def Qk (b:List Zs) (t:ByteArray):Option ByteArray:=if ZS t=true then some t else if Yw t=true then Zah b t else none
theorem Zjw {b:List Zs}{v:ByteArray}(h:Yw v=true):Qk b v=Zah b v:=by
 unfold Qk;rw [if_neg (by rw [Zkl h];simp),if_pos h]
def Zgp (x:Zs):Bool:=Yw x.var&&ZS x.value
def Zjj:Option ByteArray->ByteArray->Bool
 |none,_=>true
 |some p,v=>sLt p v
def YV:Option ByteArray->List Zs->Bool
 |_,[]=>true
 |prev,x::r=>Zgp x&&Zjj prev x.var&&YV (some x.var) r
def Yb (b:List Zs):Bool:=decide (b.length<=6)&&YV none b
theorem Zyh {a:Option ByteArray}{b:List Zs}(h:YV a b=true):∀x∈b,Zgp x=true/\∀p,a=some p->sLt p x.var=true:=by
 induction b generalizing a with
 |nil=>simp
 |cons y r ih=>
  simp only[YV,A6]at h;obtain ⟨⟨o,i⟩,m⟩:=h;intro x c;rcases AA.1 c with rfl|c
  .exact ⟨o,λp d=>by subst d;exact i⟩
  .obtain ⟨k,j⟩:=ih m x c;exact ⟨k,λp d=>by subst d;exact ZfM i (j _ rfl)⟩
theorem ZxW {b:List Zs}{v:ByteArray}(h:Zah b v=none):∀x∈b,¬x.var=v:=by
 induction b with
 |nil=>simp
 |cons y r ih=>
  simp only[Zah]at h;split at h
  .simp at h
  .rename_i c;intro x a;rcases AA.1 a with rfl|a
   .exact c
   .exact ih h x a
theorem Zx9 {b:List Zs}{v w:ByteArray}(h:Zah b v=some w):∃x∈b,x.var=v/\x.value=w:=by
 induction b with
 |nil=>simp [Zah]at h
 |cons y r ih=>
  simp only[Zah]at h;split at h
  .rename_i c;exact ⟨y,yG,c,AH h⟩
  .obtain ⟨x,a,d⟩:=ih h;exact ⟨x,by simp [a],d⟩
def Zge:List Zs->ByteArray->ByteArray->List Zs
 | [],v,w=>[⟨v,w⟩]
 |x::b,v,w=>if sLt v x.var=true then ⟨v,w⟩::x::b else x::Zge b v w
theorem Zsk (v w:ByteArray):∀b:List Zs,(Zge b v w).length=b.length+1
 | []=>rfl
 |x::b=>by
  simp only[Zge];split
  .rfl
  .rw [AC,Zsk v w b];rfl
theorem ZkV {v w u:ByteArray}:∀{b:List Zs},Zah b v=none->Zah (Zge b v w) u=if v=u then some w else Zah b u
 | [],_=>by simp [Zge,Zah]
 |x::b,h=>by
  simp only[Zah]at h;split at h
  .simp at h
  .rename_i c;simp only[Zge];split
   .simp [Zah]
   .simp only[Zah];rw [ZkV h];by_cases a:x.var=u
    .rw [if_pos a,if_pos a,if_neg (λe=>c (a.trans e.symm))]
    .rw [if_neg a,if_neg a]
theorem Zps {v w:ByteArray}(j:Yw v=true) (i:ZS w=true):∀{b:List Zs}{a:Option ByteArray},YV a b=true->Zah b v=none->(∀p,a=some p->sLt p v=true)->YV a (Zge b v w)=true
 | [],a,_,_,hp=>by
  simp only[Zge,YV,Zgp,j,i,Bool.and_self,A5,Ag];cases a with
  |none=>rfl
  |some p=>exact hp p rfl
 |x::b,a,h,hg,hp=>by
  have hx:=ZxW hg x yG;simp only[Zah,hx,if_false]at hg;simp only[YV,A6]at h;obtain ⟨⟨m,q⟩,k⟩:=h;simp only[Zge];by_cases c:sLt v x.var=true
  .rw [if_pos c];have o:Zjj a v=true:=by
    cases a with
    |none=>rfl
    |some p=>exact hp p rfl
   simp only[YV,A6];exact ⟨⟨by simp [Zgp,j,i],o⟩,⟨⟨m,c⟩,k⟩⟩
  .rw [if_neg c];simp only[YV,A6];refine ⟨⟨m,q⟩,Zps j i k hg λp d=>?_⟩;obtain rfl:=AH d;exact ZfQ (by simpa using c) (λe=>hx e.symm)
def ZhP (b:List Zs) (v w:ByteArray):Option (List Zs):=
 if Yb b=true/\Yw v=true/\ZS w=true then
  (match Zah b v with
  |some old=>if old=w then some b else none
  |none=>if b.length=6 then none else some (Zge b v w))
 else none
theorem ZwG {b d:List Zs}{v w:ByteArray}(h:ZhP b v w=some d):Yb d=true/\Zah d v=some w/\∀u z,Zah b u=some z->Zah d u=some z:=by
 unfold ZhP at h;split at h
 .rename_i j;obtain ⟨c,m,k⟩:=j;cases hg:Zah b v with
  |some old=>
   rw [hg]at h;simp only at h;split at h
   .rename_i i;obtain rfl:=AH h;exact ⟨c,by rw [hg,i],λu z a=>a⟩
   .simp at h
  |none=>
   rw [hg]at h;simp only at h;split at h
   .simp at h
   .rename_i o;obtain rfl:=AH h;unfold Yb at c ⊢;rw [A6,decide_eq_true_iff]at c;refine ⟨?_,by rw [ZkV hg,if_pos rfl],λu z a=>?_⟩
    .rw [A6,decide_eq_true_iff,Zsk];exact ⟨yE,Zps m k c.2 hg yG⟩
    .rw [ZkV hg,if_neg (λe=>by rw [<-e,hg]at a;simp at a)];exact a
 .simp at h
def Zfh:List ByteArray->List ByteArray->List Zs->Option (List Zs)
 | [],_,b=>some b
 |_::_,[],_=>none
 |a::p,w::f,b=>if ZS a=true then (if a=w then Zfh p f b else none) else (ZhP b a w).bind (Zfh p f)
theorem ZkM:∀{p f:List ByteArray}{b d:List Zs},Yb b=true->Zfh p f b=some d->Yb d=true/\(∀a∈p,Yw a=true->∃z,Zah d a=some z)/\∀u z,Zah b u=some z->Zah d u=some z
 | [],_,b,d,hb,h=>by
  simp only[Zfh,Option.some.injEq]at h;subst h;exact ⟨hb,yG,λu z h=>h⟩
 |_::_,[],_,_,_,h=>by simp [Zfh]at h
 |a::p,w::f,b,d,hb,h=>by
  simp only[Zfh]at h;by_cases j:ZS a=true
  .rw [if_pos j]at h;split at h
   .obtain ⟨o,m,k⟩:=ZkM hb h;refine ⟨o,λx c i=>?_,k⟩;rcases AA.1 c with rfl|c
    .rw [Zkl i]at j;simp at j
    .exact m x c i
   .simp at h
  .rw [if_neg j]at h;obtain ⟨B,A,h⟩:=Option.bind_eq_some_iff.1 h;obtain ⟨t,s,q⟩:=ZwG A;obtain ⟨o,m,k⟩:=ZkM t h;refine ⟨o,λx c i=>?_,λu z v=>k u z (q u z v)⟩;rcases AA.1 c with rfl|c
   .exact ⟨w,k _ _ s⟩
   .exact m x c i
def Zhv (p:Zv) (f:Zd) (b:List Zs):Bool:=Z5 p&&Ya f&&Yb b&&decide (p.rel=f.rel)&&decide (p.args.length=f.args.length)
def ZbA (p:Zv) (f:Zd) (b:List Zs):Option (List Zs):=if Zhv p f b=true then Zfh p.args f.args b else none
theorem ZxX {p:Zv}{f:Zd}{b c:List Zs}(h:ZbA p f b=some c):Yb c=true/\(∀a∈p.args,Yw a=true->∃z,Zah c a=some z)/\∀u z,Zah b u=some z->Zah c u=some z:=by
 unfold ZbA at h;split at h
 .rename_i d;unfold Zhv at d;simp only[A6]at d;exact ZkM d.1.1.2 h
 .simp at h
def Zf3:List ByteArray->List Zs->Option (List ByteArray)
 | [],_=>some []
 |a::p,b=>(Qk b a).bind λv=>(Zf3 p b).map λl=>v::l
theorem Zju {b:List Zs}:∀{p:List ByteArray},p.all YF=true->(∀a∈p,Yw a=true->∃z,Zah b a=some z)->∃l,Zf3 p b=some l/\l.length=p.length
 | [],_,_=>⟨[],rfl,rfl⟩
 |a::p,h,c=>by
  simp only[List.all_cons,A6]at h;obtain ⟨l,e,j⟩:=Zju h.2 λx d=>c x (by simp [d]);have:∃v,Qk b a=some v:=by
   have ht:=h.1;unfold YF at ht;rw [AX]at ht;rcases ht with ht|ht
   .exact ⟨a,by unfold Qk;rw [if_pos ht]⟩
   .obtain ⟨z,i⟩:=c a yG ht;exact ⟨z,by rw [Zjw ht];exact i⟩
  obtain ⟨v,c⟩:=this;exact ⟨v::l,by simp only[Zf3,c,e,A0,Ak],by simp [j]⟩
def Xc (p:Zv) (b:List Zs):Option Zd:=if Z5 p=true/\Yb b=true then (Zf3 p.args b).map λl=>{ rel:=p.rel,args:=l } else none
def ZdR (p:Zv) (b:List Zs) (F:List Zd):List Zd:=F.filter λf=>(ZbA p f b).isSome
def ZAj (l r:ByteArray):Bool:=match Zaj l,Zaj r with|some m,some n=>decide (m<n)|_,_=>false
def ZtD (k:Int) (l r:ByteArray):Bool:=if k=3 then decide (l=r) else if k=4 then !decide (l=r) else ZAj l r
def ZmH (x:Zp) (b:List Zs):Bool:=
 if Y4 x=true/\3<=x.kind/\Yb b=true then (match Qk b x.left,Qk b x.right with|some l,some r=>ZtD x.kind l r|_,_=>false) else false
def Zeu (x:Zp) (b:List Zs) (F:List Zd):Bool:=
 if Y4 x=true/\Yb b=true then (if x.kind=1 then decide (0<(ZdR x.pattern b F).length) else if x.kind=2 then decide ((ZdR x.pattern b F).length=0) else ZmH x b) else false
def Zc1 (x:Zp) (F:List Zd) (t:Zt):List Zt:=
 if x.kind=1 then F.filterMap λf=>(ZbA x.pattern f t.binding).map λb=>{ facts:=t.facts++[f],binding:=b } else if Zeu x t.binding F=true then [t] else []
def Zdj (x:Zp) (F:List Zd) (l:List Zt):List Zt:=l.flatMap (Zc1 x F)
def Zs0:Zt:={ facts:=[],binding:=[] }
def Zy (l:List Zp) (F:List Zd):List Zt:=l.foldl (λts x=>Zdj x F ts) [Zs0]
theorem ZaQ (p:List Zp) (x:Zp) (F:List Zd):Zy (p++[x]) F=Zdj x F (Zy p F):=by
 unfold Zy;rw [Ae];rfl
structure Zi2 (p:List Zp) (F:List Zd) (t:Zt):Prop where
 bind:Yb t.binding=true
 len:t.facts.length<=p.length
 sub:∀f∈t.facts,f∈F
 vars:∀v∈YU p,∃z,Zah t.binding v=some z
theorem ZCc {p:List Zp}{x:Zp}{F:List Zd}{t u:Zt}(h:Zi2 p F t) (c:u∈Zc1 x F t):Zi2 (p++[x]) F u:=by
 unfold Zc1 at c;have j:YU (p++[x])=YU p++(if x.kind=1 then Xk x.pattern.args else []):=by simp [YU]
 by_cases i:x.kind=1
 .rw [if_pos i]at c;obtain ⟨f,k,e⟩:=List.mem_filterMap.1 c;obtain ⟨b,B,rfl⟩:=Option.map_eq_some_iff.1 e;obtain ⟨A,w,s⟩:=ZxX B;refine ⟨A,by have:=h.len;simp;omega,λg d=>?_,λv a=>?_⟩
  .rcases AL.1 d with d|d
   .exact h.sub g d
   .simp at d;subst d;exact k
  .rw [j,if_pos i]at a;rcases AL.1 a with a|a
   .obtain ⟨z,q⟩:=h.vars v a;exact ⟨z,s v z q⟩
   .obtain ⟨o,m⟩:=Zcy.1 a;exact w v o m
 .rw [if_neg i]at c;split at c
  .simp at c;subst c;refine ⟨h.bind,by have:=h.len;simp;omega,h.sub,λv a=>?_⟩;rw [j,if_neg i,Ah]at a;exact h.vars v a
  .simp at c
theorem ZBP (F:List Zd):Zi2 [] F Zs0:=⟨rfl,AS _,by simp [Zs0],by simp [YU]⟩
theorem XA (F:List Zd) (l:List Zp):∀t∈Zy l F,Zi2 l F t:=by
 have:∀n (l:List Zp),l.length=n->∀t∈Zy l F,Zi2 l F t:=by
  intro n;induction n with
  |zero=>
   intro l h;rw [List.eq_nil_of_length_eq_zero h];intro t a;simp [Zy]at a;subst a;exact ZBP F
  |succ n ih=>
   intro l h;obtain ⟨p,x,rfl⟩:∃p x,l=p++[x]:=⟨l.dropLast,l.getLast (by intro e;simp [e]at h),(List.dropLast_concat_getLast _).symm⟩
   intro t a;rw [ZaQ]at a;obtain ⟨s,c,a⟩:=AU.1 a;exact ZCc (ih p (by simpa using h) s c) a
 exact this _ l rfl
theorem Zny (x:Zp) (F:List Zd) (a:F.length<=24):∀l:List Zt,(Zdj x F l).length<=24*l.length
 | []=>AS _
 |t::l=>by
  have ih:=Zny x F a l;have c:(Zc1 x F t).length<=24:=by
   unfold Zc1;split
   .exact AI (List.length_filterMap_le _ _) a
   .split<;>simp
  unfold Zdj at *;rw [AO,AQ,AC];omega
theorem Zbw (F:List Zd) (h:F.length<=24) (l:List Zp) (d:l.length<=4):(Zy l F).length<=331776:=by
 have c:∀(l:List Zp) (a:List Zt),(l.foldl (λa x=>Zdj x F a) a).length<=24 ^ l.length*a.length:=by
  intro l;induction l with
  |nil=>intro a;simp
  |cons x l ih=>
   intro a;rw [AT,AC,Nat.pow_succ];have h1:=ih (Zdj x F a);have h2:=Zny x F h a;refine AI h1 (AI (Nat.mul_le_mul_left _ h2) ?_);rw [<-Aj];exact AS _
 have h1:=c l [Zs0];have h2:24 ^ l.length<=24 ^ 4:=Aa yE d;unfold Zy;simp only[List.length_singleton,Nat.mul_one]at h1;omega
end
end Go.Proofs.YthjnneiibkknhaaGreatDoor
