/- Parts of this proof, joined; what they hold is said at the theorems. -/
import Derived.Test.YtnacpkmpdlodoaaGreatDoorTrimmedQ1
import Derived.Lib.ItoaLen
import Derived.Laws.BitsLemmas
import Derived.Lib.Bytealg
open Bool renaming true_and→AA,false_eq_true→AB,eq_iff_iff→AD,and_eq_true→AL,or_eq_true→Aw,not_not→BC,false_or→BD,false_and→BE
open ByteArray renaming size→Ax
open Go.ByteArray renaming toList_eq→B4
open Int renaming toNat→A9,toNat_natCast→AK
open List renaming set→AC,mem_cons→AE,drop→AH,length_cons→AI,replicate→AJ,pairwise_cons→AM,take→AP,length_append→AQ,all_eq_true→AS,getElem?_eq_some_iff→AT,mem_of_getElem?→AW,map_cons→AX,foldl_append→AY,flatMap_cons→Aa,map_nil→Ac,mem_cons_of_mem→Ad,tail→Ae,drop_eq_nil_of_le→Ak,getElem?_eq_getElem→Am,length_nil→An,foldl_cons→Ap,mem_append→Aq,mem_flatMap→As,map_append→Ay,eq_nil_of_length_eq_zero→Az,dropLast_concat_getLast→B3,drop_eq_getElem_cons→B9,not_mem_nil→BA,not_any_eq_all_not→BB
open List.Pairwise renaming nil→AN
open Nat renaming zero_le→AU,zero_add→AZ,le_trans→Aj,pow_le_pow_right→B5
open Option renaming bind_some→A0
open Option.some renaming inj→Ah
open UInt8 renaming ofNat→Ab
set_option linter.unusedSimpArgs false
set_option linter.unusedVariables false
set_option maxRecDepth 1000000
set_option maxHeartbeats 4000000
namespace Go.Proofs.YtnacpkmpdlodoaaGreatDoor
open Go.IntKind
noncomputable section
section
structure Zi where
 b:(List Int)
 i:Int
 h:Int
structure Yc where
 rule:BYT
 token:Zw
structure Yz where
 rule:BYT
 facts:(List Za)
def goO(f:Int->List Int->Option (List Int)):List Int->List Int->Option (List Int)
 | [],l=>some l
 |y::ys,l=>(f y l).bind (goO f ys)
def ZfU(sup:Int->Option Int)(has:List Int->Int->Option Bool)(b:Zl):Nat->Int->List Int->Option (List Int)
 |0,_,_=>none
 |n+1,x,l=>(sup x).bind fun s=>if decide (s<0)=true then some l else (has l s).bind fun h=>if h=true then some l else (b.reasons[s.toNat]?).bind fun r=>(goO (ZfU sup has b n) r.inn l).bind fun t=>if t.length<1048576 then some (t++[s]) else none
def Zxa(a:List Int):Option Bool:=
 some (decide (4096<(a.length:Int)))
def ZfT(e a:List BYT):Option Bool:=
 if ((e.length:Int) != (a.length:Int))=true then some false else forL (σ:=Unit) (fun (b:Nat) (c:BYT) _=>(atI a (b:Int)).bind fun d=>if (sEq c d)=true then some (.inl ()) else some (.inr false)) (fun _=>some true) e 0 ()
def Zfa(a b:Za):Option Bool:=
 if (sEq a.rel b.rel)=true then (ZfT a.args b.args).bind fun c=>some c else some false
def Xs(c:List Za)(d:Za):Option Int:=
 forL (σ:=Unit) (fun (e:Nat) (a:Za) _=>(Zfa a d).bind fun b=>if b=true then some (.inr (e:Int)) else some (.inl ())) (fun _=>some (-1)) c 0 ()
def XV(a b c:Int):Option Bool:=
 if (decide (b<=a))=true then some (decide (a<=c)) else some false
def Zaf(e:BYT):Option Bool:=
 forL (σ:=Unit) (fun (f:Nat) (a:UInt8) _=>(XV (i64.wrap (a.toNat:Int)) 97 122).bind fun b=>if b=true then some (.inl ()) else (XV (i64.wrap (a.toNat:Int)) 48 57).bind fun c=>if c=true then some (.inl ()) else some (.inr false)) (fun _=>(XV (e.size:Int) 1 8).bind fun d=>some d) e.data.toList 0 ()
def Zas(a:BYT):Option Bool:=
 if (decide (1<(a.size:Int)))=true then (sAt a 0).bind fun b=>if ((b.toNat:Int)==63)=true then chk (0<=1/\1<=(a.size:Int)) <|(Zaf (a.extract (A9 1) a.size)).bind fun c=>some c else some false else some false
def Za4(b:BYT):Option Bool:=
 (Zaf b).bind fun c=>if c=true then some true else (Zas b).bind fun a=>some a
def Zfe(c:BYT):Option Bool:=
 (Zaf c).bind fun d=>if d=true then (sAt c 0).bind fun a=>(XV (i64.wrap (a.toNat:Int)) 97 122).bind fun b=>some b else some false
def Y5(d:Zo):Option Bool:=
 forL (σ:=Unit) (fun (e:Nat) (a:BYT) _=>(Za4 a).bind fun b=>if b=true then some (.inl ()) else some (.inr false)) (fun _=>(Zfe d.rel).bind fun c=>if c=true then some (decide ((d.args.length:Int)<=3)) else some false) d.args 0 ()
def Qn(a:List Zx):Option Bool:=
 forL (σ:=Unit) (fun (c:Nat) (b:Zx) _=>(Zas b.var).bind fun d=>if d=true then (Zaf b.value).bind fun e=>if e=true then if (decide (0<(c:Int)))=true then (atI a (i64.wrap ((c:Int) - 1))).bind fun f=>if (sLt f.var b.var)=true then some (.inl ()) else some (.inr false) else some (.inl ()) else some (.inr false) else some (.inr false)) (fun _=>some (decide ((a.length:Int)<=6))) a 0 ()
def Zb6(d:List Zx)(c:BYT):Option (BYT×Bool):=
 (Zaf c).bind fun e=>if e=true then some (c,true) else forL (σ:=Unit) (fun (f:Nat) (a:Zx) _=>if (sEq a.var c)=true then (Zas c).bind fun b=>if b=true then some (.inr (a.value,true)) else some (.inl ()) else some (.inl ())) (fun _=>some ((⟨#[]⟩),false)) d 0 ()
def Xr(e:Zo)(f:List Zx):Option (Za×Bool):=
 (Y5 e).bind fun g=>if g=true then (Qn f).bind fun c=>if c=true then forL (σ:=(List BYT)) (fun (h:Nat) (d:BYT) a=>(Zb6 f d).bind fun b=>if b.2=true then chk (a.length+1<=1073741824) <|some (.inl (a++[b.1])) else some (.inr (({ rel:=(⟨#[]⟩),args:=[] }:Za),false))) (fun a=>some (({ rel:=e.rel,args:=a }:Za),true)) e.args 0 [] else some (({ rel:=(⟨#[]⟩),args:=[] }:Za),false) else some (({ rel:=(⟨#[]⟩),args:=[] }:Za),false)
def Zgx(a:List BYT):Option (List BYT):=
 chk (a.length<=1073741824) <|some a
def Xc(a:Za):Option Za:=
 (Zgx a.args).bind fun b=>some ({ rel:=a.rel,args:=b }:Za)
def ZbL(d:List Za):Option (List Za):=
 forL (σ:=(List Za)) (fun (e:Nat) (b:Za) a=>(Xc b).bind fun c=>chk (a.length+1<=1073741824) <|some (.inl (a++[c]))) (fun a=>some a) d 0 []
def Zcg(h:Zu):Option Bool:=
 if (h.kind==1)=true then (Y5 h.pattern).bind fun i=>if i=true then if (sEq h.left ⟨#[]⟩)=true then some (sEq h.right ⟨#[]⟩) else some false else some false else if (h.kind==2)=true then (Y5 h.pattern).bind fun a=>if a=true then if (sEq h.left ⟨#[]⟩)=true then some (sEq h.right ⟨#[]⟩) else some false else some false else if (h.kind==3)=true then if (sEq h.pattern.rel ⟨#[]⟩)=true then if ((h.pattern.args.length:Int)==0)=true then (Za4 h.left).bind fun b=>if b=true then (Za4 h.right).bind fun c=>some c else some false else some false else some false else if (h.kind==4)=true then if (sEq h.pattern.rel ⟨#[]⟩)=true then if ((h.pattern.args.length:Int)==0)=true then (Za4 h.left).bind fun d=>if d=true then (Za4 h.right).bind fun e=>some e else some false else some false else some false else if (h.kind==5)=true then if (sEq h.pattern.rel ⟨#[]⟩)=true then if ((h.pattern.args.length:Int)==0)=true then (Za4 h.left).bind fun f=>if f=true then (Za4 h.right).bind fun g=>some g else some false else some false else some false else some false
def Zgq(d:Za):Option Bool:=
 forL (σ:=Unit) (fun (e:Nat) (a:BYT) _=>(Zaf a).bind fun b=>if b=true then some (.inl ()) else some (.inr false)) (fun _=>(Zfe d.rel).bind fun c=>if c=true then some (decide ((d.args.length:Int)<=3)) else some false) d.args 0 ()
def ZdO(a:List Zx):Option (List Zx):=
 chk (a.length<=1073741824) <|some a
def Zkl(f:List Zx)(c e:BYT):Option (List Zx):=
 forL (σ:=(List Zx)×Bool) (fun (g:Nat) (b:Zx) s=>match s with |(a,d)=>if d=true then chk (a.length+1<=1073741824) <|some (.inl ((a++[b]),true)) else if (sLt b.var c||sEq b.var c)=true then chk (a.length+1<=1073741824) <|some (.inl ((a++[b]),false)) else chk (a.length+1<=1073741824) <|chk (a.length+1+1<=1073741824) <|some (.inl (((a++[({ var:=c,value:=e }:Zx)])++[b]),true))) (fun s=>match s with |(a,d)=>if d=true then some a else chk (a.length+1<=1073741824) <|some (a++[({ var:=c,value:=e }:Zx)])) f 0 ([],false)
def Zio(f:List Zx)(g h:BYT):Option ((List Zx)×Bool):=
 (Qn f).bind fun i=>if i=true then (Zas g).bind fun b=>if b=true then (Zaf h).bind fun c=>if c=true then (Zb6 f g).bind fun a=>if a.2=true then if (sEq a.1 h)=true then (ZdO f).bind fun d=>some (d,true) else some ([],false) else if ((f.length:Int)==6)=true then some ([],false) else (Zkl f g h).bind fun e=>some (e,true) else some ([],false) else some ([],false) else some ([],false)
def Zb5(h:Zo)(a:Za)(m:List Zx):Option ((List Zx)×Bool):=
 (Y5 h).bind fun n=>if n=true then (Zgq a).bind fun f=>if f=true then (Qn m).bind fun g=>if g=true then if (sEq h.rel a.rel)=true then if ((h.args.length:Int) != (a.args.length:Int))=true then some ([],false) else (ZdO m).bind fun i=>forL (σ:=(List Zx)) (fun (d:Nat) (c:BYT) b=>(Zaf c).bind fun j=>if j=true then (atI a.args (d:Int)).bind fun k=>if (sEq c k)=true then some (.inl b) else some (.inr ([],false)) else (atI a.args (d:Int)).bind fun l=>(Zio b c l).bind fun e=>if e.2=true then some (.inl e.1) else some (.inr ([],false))) (fun b=>some (b,true)) h.args 0 i else some ([],false) else some ([],false) else some ([],false) else some ([],false)
def X6(e:Zo)(f:List Zx)(g:List Za):Option (List Za):=
 forL (σ:=(List Za)) (fun (h:Nat) (b:Za) a=>(Zb5 e b f).bind fun c=>if c.2=true then (Xc b).bind fun d=>chk (a.length+1<=1073741824) <|some (.inl (a++[d])) else some (.inl a)) (fun a=>some a) g 0 []
def ZiY(a b:BYT):Option Int:=
 if (sLt a b)=true then some (-1) else if (sLt a b||sEq a b)=true then some 0 else some 1
def Zbq(c:Int):Option BYT:=
 if (c==(-9223372036854775808))=true then some (⟨#[45,57,50,50,51,51,55,50,48,51,54,56,53,52,55,55,53,56,48,56]⟩) else if (decide (c<0))=true then none else iter (σ:=Int×BYT) (fun s=>match s with |(a,b)=>chk ((Xz [(IntKind.u8.wrap (i64.wrap (48+(Int.tmod a 10))))]).size+b.size<=9223372036854775807) <|if ((i64.wrap (Int.tdiv a 10))==0)=true then some (.inr ((Xz [(IntKind.u8.wrap (i64.wrap (48+(Int.tmod a 10))))])++b)) else some (.inl ((i64.wrap (Int.tdiv a 10)),((Xz [(IntKind.u8.wrap (i64.wrap (48+(Int.tmod a 10))))])++b)))) (c,⟨#[]⟩)
def YJ(c:Int):Option BYT:=
 if (c==(-9223372036854775808))=true then some (⟨#[45,57,50,50,51,51,55,50,48,51,54,56,53,52,55,55,53,56,48,56]⟩) else if (decide (c<0))=true then (Zbq (i64.wrap (0 - c))).bind fun d=>chk ((⟨#[45]⟩:BYT).size+d.size<=9223372036854775807) <|some ((⟨#[45]⟩:BYT)++d) else iter (σ:=Int×BYT) (fun s=>match s with |(a,b)=>chk ((Xz [(IntKind.u8.wrap (i64.wrap (48+(Int.tmod a 10))))]).size+b.size<=9223372036854775807) <|if ((i64.wrap (Int.tdiv a 10))==0)=true then some (.inr ((Xz [(IntKind.u8.wrap (i64.wrap (48+(Int.tmod a 10))))])++b)) else some (.inl ((i64.wrap (Int.tdiv a 10)),((Xz [(IntKind.u8.wrap (i64.wrap (48+(Int.tmod a 10))))])++b)))) (c,⟨#[]⟩)
def Qw(d:BYT):Option (Int×Bool):=
 (XV (d.size:Int) 1 4).bind fun e=>if e=true then forL (σ:=Int) (fun (f:Nat) (b:UInt8) a=>if (decide ((b.toNat:Int)<48))=true then some (.inr (0,false)) else if (decide (57<(b.toNat:Int)))=true then some (.inr (0,false)) else some (.inl (i64.wrap ((i64.wrap (10*a))+i64.wrap (IntKind.u8.wrap ((b.toNat:Int) - 48)))))) (fun a=>(YJ a).bind fun c=>if (sEq c d)=true then some (a,true) else some (0,false)) d.data.toList 0 0 else some (0,false)
def XZ(d e:BYT):Option Int:=
 (Qw d).bind fun c=>(Qw e).bind fun a=>if c.2=true then if a.2=true then if (decide (c.1<a.1))=true then some (-1) else if (decide (a.1<c.1))=true then some 1 else some 0 else some (-1) else if a.2=true then some 1 else (ZiY d e).bind fun b=>some b
def Zcr(a:Zu):Option Bool:=
 (Zcg a).bind fun b=>if b=true then some (decide (3<=a.kind)) else some false
def ZeT(a:BYT):Option Bool:=
 (Qw a).bind fun b=>some b.2
def ZdD(g:Zu)(h:List Zx):Option Bool:=
 (Zcr g).bind fun i=>if i=true then (Qn h).bind fun c=>if c=true then (Zb6 h g.left).bind fun a=>(Zb6 h g.right).bind fun b=>if a.2=true then if b.2=true then if (g.kind==3)=true then some (sEq a.1 b.1) else if (g.kind==4)=true then some (!(sEq a.1 b.1)) else (ZeT a.1).bind fun d=>if d=true then (ZeT b.1).bind fun e=>if e=true then (XZ a.1 b.1).bind fun f=>some (decide (f<0)) else some false else some false else some false else some false else some false else some false
def ZdN(g:Zu)(a:List Zx)(b:List Za):Option Bool:=
 (Zcg g).bind fun h=>if h=true then (Qn a).bind fun c=>if c=true then if (g.kind==1)=true then (X6 g.pattern a b).bind fun d=>some (decide (0<(d.length:Int))) else if (g.kind==2)=true then (X6 g.pattern a b).bind fun e=>some ((e.length:Int)==0) else (ZdD g a).bind fun f=>some f else some false else some false
def Ziv(b:Zw):Option Zw:=
 (ZbL b.facts).bind fun c=>(ZdO b.binding).bind fun a=>some ({ facts:=c,binding:=a }:Zw)
def Zie(l:List Zw)(h:Zu)(k:List Za):Option (List Zw):=
 forL (σ:=(List Zw)) (fun (m:Nat) (c:Zw) a=>if (h.kind != 1)=true then (ZdN h c.binding k).bind fun g=>if g=true then (Ziv c).bind fun i=>chk (a.length+1<=1073741824) <|some (.inl (a++[i])) else some (.inl a) else forL (σ:=(List Zw)) (fun (n:Nat) (d:Za) b=>(Zb5 h.pattern d c.binding).bind fun e=>if e.2=true then (ZbL c.facts).bind fun f=>(Xc d).bind fun j=>chk (f.length+1<=1073741824) <|chk (b.length+1<=1073741824) <|some (.inl (b++[({ facts:=(f++[j]),binding:=e.1 }:Zw)])) else some (.inl b)) (fun b=>some (.inl b)) k 0 a) (fun a=>some a) l 0 []
def QY(d:List Zu)(e:List Za):Option (List Zw):=
 forL (σ:=(List Zw)) (fun (f:Nat) (b:Zu) a=>(Zie a b e).bind fun c=>some (.inl c)) (fun a=>some a) d 0 ([({ facts:=[],binding:=[] }:Zw)])
def XG(c:Zf):Option (List Zu):=
 forL (σ:=(List Zu)) (fun (d:Nat) (b:Zu) a=>if (b.kind != 2)=true then chk (a.length+1<=1073741824) <|some (.inl (a++[b])) else some (.inl a)) (fun a=>some a) c.cond 0 []
def QF(e:List BYT)(d:BYT):Option (List BYT):=
 forL (σ:=(List BYT)×Bool) (fun (f:Nat) (b:BYT) s=>match s with |(a,c)=>if c=true then chk (a.length+1<=1073741824) <|some (.inl ((a++[b]),true)) else if (sLt b d)=true then chk (a.length+1<=1073741824) <|some (.inl ((a++[b]),false)) else if (sEq b d)=true then chk (a.length+1<=1073741824) <|some (.inl ((a++[b]),true)) else chk (a.length+1<=1073741824) <|chk (a.length+1+1<=1073741824) <|some (.inl (((a++[d])++[b]),true))) (fun s=>match s with |(a,c)=>if c=true then some a else chk (a.length+1<=1073741824) <|some (a++[d])) e 0 ([],false)
def Zco(e:Zo):Option (List BYT):=
 forL (σ:=(List BYT)) (fun (f:Nat) (b:BYT) a=>(Zas b).bind fun c=>if c=true then (QF a b).bind fun d=>some (.inl d) else some (.inl a)) (fun a=>some a) e.args 0 []
def Qh(g:Zf)(h:Int):Option (List BYT):=
 forL (σ:=(List BYT)) (fun (i:Nat) (c:Zu) a=>if (decide ((i:Int)<h))=true then if (c.kind==1)=true then (Zco c.pattern).bind fun d=>forL (σ:=(List BYT)) (fun (j:Nat) (e:BYT) b=>(QF b e).bind fun f=>some (.inl f)) (fun b=>some (.inl b)) d 0 a else some (.inl a) else some (.inr a)) (fun a=>some a) g.cond 0 []
def Qr(g:Zu):Option (List BYT):=
 (Zco g.pattern).bind fun h=>(Zas g.left).bind fun b=>if b=true then (QF h g.left).bind fun a=>(Zas g.right).bind fun c=>if c=true then (QF a g.right).bind fun d=>some d else some a else (Zas g.right).bind fun e=>if e=true then (QF h g.right).bind fun f=>some f else some h
def Z4(b:List BYT)(c:BYT):Option Bool:=
 forL (σ:=Unit) (fun (d:Nat) (a:BYT) _=>if (sEq a c)=true then some (.inr true) else some (.inl ())) (fun _=>some false) b 0 ()
def Qt(g:Zf)(i:Int)(h:BYT):Option Bool:=
 forL (σ:=Unit) (fun (j:Nat) (a:Zu) _=>if ((j:Int) != i)=true then (Qr a).bind fun b=>(Z4 b h).bind fun c=>if c=true then some (.inr true) else some (.inl ()) else some (.inl ())) (fun _=>forL (σ:=Unit) (fun (k:Nat) (d:Zy) _=>(Zco d.pattern).bind fun e=>(Z4 e h).bind fun f=>if f=true then some (.inr true) else some (.inl ())) (fun _=>some false) g.thn 0 ()) g.cond 0 ()
def ZeS(b:Zy):Option Bool:=
 if (b.kind==1)=true then (Y5 b.pattern).bind fun c=>some c else if (b.kind==2)=true then (Y5 b.pattern).bind fun a=>some a else if (b.kind==3)=true then if (sEq b.pattern.rel ⟨#[]⟩)=true then some ((b.pattern.args.length:Int)==0) else some false else some false
def Zfc(h:Zf):Option (List BYT):=
 forL (σ:=(List BYT)) (fun (n:Nat) (e:Zu) a=>(Qr e).bind fun f=>forL (σ:=(List BYT)) (fun (o:Nat) (g:BYT) b=>(QF b g).bind fun i=>some (.inl i)) (fun b=>some (.inl b)) f 0 a) (fun a=>forL (σ:=(List BYT)) (fun (p:Nat) (j:Zy) c=>(Zco j.pattern).bind fun k=>forL (σ:=(List BYT)) (fun (q:Nat) (l:BYT) d=>(QF d l).bind fun m=>some (.inl m)) (fun d=>some (.inl d)) k 0 c) (fun c=>some c) h.thn 0 a) h.cond 0 []
def XU(h:Zf):Option Bool:=
 (Zfe h.name).bind fun r=>if r=true then (XV h.priority 0 9).bind fun g=>if g=true then (XV (h.cond.length:Int) 1 4).bind fun i=>if i=true then (XV (h.thn.length:Int) 1 2).bind fun j=>if j=true then (Qh h (h.cond.length:Int)).bind fun k=>forL (σ:=Unit) (fun (n:Nat) (a:Zu) _=>(Zcg a).bind fun l=>if l=true then if ((n:Int)==0)=true then if (a.kind != 1)=true then some (.inr false) else (Qh h (n:Int)).bind fun m=>(Qr a).bind fun o=>forL (σ:=Unit) (fun (s:Nat) (b:BYT) _=>(Z4 m b).bind fun c=>(Zcr a).bind fun p=>if p=true then if c=true then if (a.kind==2)=true then some (.inl ()) else some (.inl ()) else some (.inr (.inr false)) else if (a.kind==2)=true then if c=true then some (.inl ()) else (Qt h (n:Int) b).bind fun q=>if q=true then some (.inr (.inr false)) else some (.inl ()) else some (.inl ())) (fun _=>some (.inl ())) o 0 () else (Qh h (n:Int)).bind fun t=>(Qr a).bind fun u=>forL (σ:=Unit) (fun (aa:Nat) (d:BYT) _=>(Z4 t d).bind fun e=>(Zcr a).bind fun v=>if v=true then if e=true then if (a.kind==2)=true then some (.inl ()) else some (.inl ()) else some (.inr (.inr false)) else if (a.kind==2)=true then if e=true then some (.inl ()) else (Qt h (n:Int) d).bind fun w=>if w=true then some (.inr (.inr false)) else some (.inl ()) else some (.inl ())) (fun _=>some (.inl ())) u 0 () else some (.inr false)) (fun _=>forL (σ:=Unit) (fun (ab:Nat) (f:Zy) _=>(ZeS f).bind fun x=>if x=true then (Zco f.pattern).bind fun y=>forL (σ:=Unit) (fun (ac:Nat) (z:BYT) _=>(Z4 k z).bind fun A=>if A=true then some (.inl ()) else some (.inr (.inr false))) (fun _=>some (.inl ())) y 0 () else some (.inr false)) (fun _=>(Zfc h).bind fun B=>some (decide ((B.length:Int)<=6))) h.thn 0 ()) h.cond 0 () else some false else some false else some false else some false
def Zeq(c d:List BYT):Option Bool:=
 forL (σ:=Unit) (fun (e:Nat) (a:BYT) _=>(Z4 d a).bind fun b=>if b=true then some (.inl ()) else some (.inr false)) (fun _=>some true) c 0 ()
def Zdt(f:Zf):Option Bool:=
 (XU f).bind fun g=>if g=true then forL (σ:=Unit) (fun (h:Nat) (a:Zu) _=>if (a.kind==2)=true then (Qr a).bind fun b=>(Qh f (h:Int)).bind fun c=>(Zeq b c).bind fun d=>if d=true then some (.inl ()) else some (.inr false) else some (.inl ())) (fun _=>forL (σ:=Unit) (fun (i:Nat) (e:Zy) _=>if (e.kind != 1)=true then some (.inr false) else some (.inl ())) (fun _=>some true) f.thn 0 ()) f.cond 0 () else some false
def ZaD(e:Zf):Option (List BYT):=
 forL (σ:=(List BYT)) (fun (f:Nat) (b:Zy) a=>if (b.kind==1)=true then (QF a b.pattern.rel).bind fun c=>some (.inl c) else if (b.kind==2)=true then (QF a b.pattern.rel).bind fun d=>some (.inl d) else some (.inl a)) (fun a=>some a) e.thn 0 []
def Zc7(e:Zf):Option (List BYT):=
 forL (σ:=(List BYT)) (fun (f:Nat) (b:Zu) a=>if (b.kind==1)=true then (QF a b.pattern.rel).bind fun c=>some (.inl c) else if (b.kind==2)=true then (QF a b.pattern.rel).bind fun d=>some (.inl d) else some (.inl a)) (fun a=>some a) e.cond 0 []
def ZcJ(h:List Zf)(n o:BYT):Option Bool:=
 iter (σ:=(List BYT)×Int) (fun s=>match s with |(d,c)=>if (decide (c<(d.length:Int)))=true then forL (σ:=(List BYT)) (fun (p:Nat) (e:Zf) a=>(ZaD e).bind fun i=>chk (0<=c/\c<(a.length:Int)) <|(a[(A9 c)]?).bind fun j=>(Z4 i j).bind fun k=>if k=true then (Zc7 e).bind fun f=>(Z4 f o).bind fun l=>if l=true then some (.inr (.inr true)) else forL (σ:=(List BYT)) (fun (q:Nat) (g:BYT) b=>(Z4 b g).bind fun m=>if m=true then some (.inl b) else chk (b.length+1<=1073741824) <|some (.inl (b++[g]))) (fun b=>some (.inl b)) f 0 a else some (.inl a)) (fun a=>some (.inl (a,(i64.wrap (c+1))))) h 0 d else some (.inr false)) ([n],0)
def Ze3(b:List Zf)(c:BYT):Option Int:=
 forL (σ:=Unit) (fun (d:Nat) (a:Zf) _=>if (sEq a.name c)=true then some (.inr (d:Int)) else some (.inl ())) (fun _=>some (-1)) b 0 ()
def Zen(d:List Zf):Option Bool:=
 forL (σ:=Unit) (fun (e:Nat) (a:Zf) _=>(XU a).bind fun b=>if b=true then (Ze3 d a.name).bind fun c=>if (c != (e:Int))=true then some (.inr false) else some (.inl ()) else some (.inr false)) (fun _=>some (decide ((d.length:Int)<=6))) d 0 ()
def ZcE(h:List Zf):Option Bool:=
 forL (σ:=Unit) (fun (i:Nat) (a:Zf) _=>(Zdt a).bind fun d=>if d=true then (ZaD a).bind fun e=>forL (σ:=Unit) (fun (j:Nat) (b:Zu) _=>forL (σ:=Unit) (fun (k:Nat) (c:BYT) _=>if (b.kind==2)=true then if (sEq b.pattern.rel c)=true then some (.inr (.inr (.inr false))) else (ZcJ h b.pattern.rel c).bind fun f=>if f=true then some (.inr (.inr (.inr false))) else some (.inl ()) else some (.inr (.inl ()))) (fun _=>some (.inl ())) e 0 ()) (fun _=>some (.inl ())) a.cond 0 () else some (.inr false)) (fun _=>(Zen h).bind fun g=>some g) h 0 ()
def XQ(g a:Za):Option Int:=
 if (sEq g.rel a.rel)=true then forL (σ:=Unit) (fun (b:Nat) (d:BYT) _=>if (decide ((b:Int)<(a.args.length:Int)))=true then (atI a.args (b:Int)).bind fun e=>(XZ d e).bind fun c=>if (c != 0)=true then some (.inr c) else some (.inl ()) else if (decide ((g.args.length:Int)<(a.args.length:Int)))=true then some (.inr (-1)) else if (decide ((a.args.length:Int)<(g.args.length:Int)))=true then some (.inr 1) else some (.inr 0)) (fun _=>if (decide ((g.args.length:Int)<(a.args.length:Int)))=true then some (-1) else if (decide ((a.args.length:Int)<(g.args.length:Int)))=true then some 1 else some 0) g.args 0 () else (ZiY g.rel a.rel).bind fun f=>some f
def ZcZ(a:List Za):Option Bool:=
 forL (σ:=Unit) (fun (b:Nat) (c:Za) _=>(Zgq c).bind fun d=>if d=true then if (decide (0<(b:Int)))=true then (atI a (i64.wrap ((b:Int) - 1))).bind fun e=>(XQ e c).bind fun f=>if (decide (0<=f))=true then some (.inr false) else some (.inl ()) else some (.inl ()) else some (.inr false)) (fun _=>some (decide ((a.length:Int)<=24))) a 0 ()
def YS(m:List Za)(h:Za):Option (List Za):=
 forL (σ:=(List Za)×Bool) (fun (n:Nat) (b:Za) s=>match s with |(a,c)=>if c=true then (Xc b).bind fun d=>chk (a.length+1<=1073741824) <|some (.inl ((a++[d]),true)) else (XQ b h).bind fun e=>if (decide (0<=e))=true then (XQ b h).bind fun f=>if (decide (0<f))=true then (Xc h).bind fun g=>chk (a.length+1<=1073741824) <|(Xc b).bind fun i=>chk (a.length+1+1<=1073741824) <|some (.inl (((a++[g])++[i]),true)) else (Xc b).bind fun j=>chk (a.length+1<=1073741824) <|some (.inl ((a++[j]),true)) else (Xc b).bind fun k=>chk (a.length+1<=1073741824) <|some (.inl ((a++[k]),false))) (fun s=>match s with |(a,c)=>if c=true then some a else (Xc h).bind fun l=>chk (a.length+1<=1073741824) <|some (a++[l])) m 0 ([],false)
def Yw(h:List Zf)(n:List Za):Option ((List Za)×Bool):=
 (ZcE h).bind fun q=>if q=true then (ZcZ n).bind fun f=>if f=true then (ZbL n).bind fun g=>iter (σ:=(List Za)×Bool) (fun s=>match s with |(a,i)=>if i=true then forL (σ:=(List Za)) (fun (r:Nat) (e:Zf) b=>(XG e).bind fun j=>(QY j a).bind fun k=>forL (σ:=(List Za)) (fun (t:Nat) (l:Zw) c=>forL (σ:=(List Za)) (fun (u:Nat) (m:Zy) d=>(Xr m.pattern l.binding).bind fun o=>(YS d o.1).bind fun p=>some (.inl p)) (fun d=>some (.inl d)) e.thn 0 c) (fun c=>if (decide (24<(c.length:Int)))=true then some (.inr (.inr ([],false))) else some (.inl c)) k 0 b) (fun b=>some (.inl (b,(decide ((a.length:Int)<(b.length:Int)))))) h 0 a else some (.inr (a,true))) (g,true) else some ([],false) else some ([],false)
def ZiL(e:List Int)(d:Int):Option (List Int):=
 forL (σ:=(List Int)×Bool) (fun (f:Nat) (b:Int) s=>match s with |(a,c)=>if c=true then chk (a.length+1<=1073741824) <|some (.inl ((a++[b]),true)) else if (decide (d<=b))=true then if (b != d)=true then chk (a.length+1<=1073741824) <|chk (a.length+1+1<=1073741824) <|some (.inl (((a++[d])++[b]),true)) else chk (a.length+1<=1073741824) <|some (.inl ((a++[b]),true)) else chk (a.length+1<=1073741824) <|some (.inl ((a++[b]),false))) (fun s=>match s with |(a,c)=>if c=true then some a else chk (a.length+1<=1073741824) <|some (a++[d])) e 0 ([],false)
def ZcQ(e f:List Za):Option (List Int):=
 forL (σ:=(List Int)) (fun (g:Nat) (c:Za) a=>(Xs e c).bind fun b=>if (decide (0<=b))=true then (ZiL a b).bind fun d=>some (.inl d) else some (.inl a)) (fun a=>some a) f 0 []
def ZaB(c:Zf)(e:Int)(b:Zw)(h:List Za):Option Zh:=
 (atI c.thn e).bind fun f=>(Xr f.pattern b.binding).bind fun g=>forL (σ:=(List Za)) (fun (m:Nat) (d:Zu) a=>if (d.kind==2)=true then (Xr d.pattern b.binding).bind fun i=>chk (a.length+1<=1073741824) <|some (.inl (a++[i.1])) else some (.inl a)) (fun a=>(Xs h g.1).bind fun j=>(ZcQ h b.facts).bind fun k=>(ZcQ h a).bind fun l=>some ({ for_:=j,inn:=k,outs:=l }:Zh)) c.cond 0 []
def Zch(e a:List Int):Option Bool:=
 if ((e.length:Int) != (a.length:Int))=true then some false else forL (σ:=Unit) (fun (b:Nat) (c:Int) _=>(atI a (b:Int)).bind fun d=>if (c != d)=true then some (.inr false) else some (.inl ())) (fun _=>some true) e 0 ()
def Zel(e:List Zh)(d:Zh):Option Int:=
 forL (σ:=Unit) (fun (f:Nat) (a:Zh) _=>if (a.for_==d.for_)=true then (Zch a.inn d.inn).bind fun b=>if b=true then (Zch a.outs d.outs).bind fun c=>if c=true then some (.inr (f:Int)) else some (.inl ()) else some (.inl ()) else some (.inl ())) (fun _=>some (-1)) e 0 ()
def QZ(n:List Zf)(r:List Za):Option ((List Za)×Zl×(List Yc)×Bool):=
 (Yw n r).bind fun h=>if h.2=true then forL (σ:=(List Zh)×(List Yc)) (fun (w:Nat) (m:Za) s=>match s with |(c,d)=>(Xs h.1 m).bind fun o=>chk (c.length+1<=1073741824) <|chk (d.length+1<=1073741824) <|some (.inl ((c++[({ for_:=o,inn:=[],outs:=[] }:Zh)]),(d++[({ rule:=(⟨#[]⟩),token:=({ facts:=[],binding:=[] }:Zw) }:Yc)])))) (fun s=>match s with |(c,d)=>forL (σ:=(List Zh)×(List Yc)) (fun (x:Nat) (e:Zf) s=>match s with |(f,g)=>(XG e).bind fun p=>(QY p h.1).bind fun q=>forL (σ:=(List Zh)×(List Yc)) (fun (y:Nat) (k:Zw) s=>match s with |(i,j)=>forL (σ:=(List Zh)×(List Yc)) (fun (v:Nat) (u:Zy) s=>match s with |(a,b)=>(ZaB e (v:Int) k h.1).bind fun l=>(Zel a l).bind fun t=>if (decide (0<=t))=true then some (.inl (a,b)) else if (decide (60<=(a.length:Int)))=true then some (.inr (.inr (.inr ([],({ nodes:=0,reasons:=[] }:Zl),[],false)))) else chk (a.length+1<=1073741824) <|chk (b.length+1<=1073741824) <|some (.inl ((a++[l]),(b++[({ rule:=e.name,token:=k }:Yc)])))) (fun s=>match s with |(a,b)=>some (.inl (a,b))) e.thn 0 (i,j)) (fun s=>match s with |(i,j)=>some (.inl (i,j))) q 0 (f,g)) (fun s=>match s with |(f,g)=>some (h.1,({ nodes:=(h.1.length:Int),reasons:=f }:Zl),g,true)) n 0 (c,d)) r 0 ([],[]) else some ([],({ nodes:=0,reasons:=[] }:Zl),[],false)
def XI(n:List Zf)(r:List Za):Option ((List Za)×Zl×(List Yc)×Bool):=
 (Yw n r).bind fun h=>if h.2=true then forL (σ:=(List Zh)×(List Yc)) (fun (w:Nat) (m:Za) s=>match s with |(c,d)=>(Xs h.1 m).bind fun o=>chk (c.length+1<=1073741824) <|chk (d.length+1<=1073741824) <|some (.inl ((c++[({ for_:=o,inn:=[],outs:=[] }:Zh)]),(d++[({ rule:=(⟨#[]⟩),token:=({ facts:=[],binding:=[] }:Zw) }:Yc)])))) (fun s=>match s with |(c,d)=>forL (σ:=(List Zh)×(List Yc)) (fun (x:Nat) (e:Zf) s=>match s with |(f,g)=>(XG e).bind fun p=>(QY p h.1).bind fun q=>forL (σ:=(List Zh)×(List Yc)) (fun (y:Nat) (k:Zw) s=>match s with |(i,j)=>forL (σ:=(List Zh)×(List Yc)) (fun (v:Nat) (u:Zy) s=>match s with |(a,b)=>(ZaB e (v:Int) k h.1).bind fun l=>(Zel a l).bind fun t=>if (decide (0<=t))=true then some (.inl (a,b)) else if (decide (60<=(a.length:Int)))=true then some (.inr (.inr (.inr ([],({ nodes:=0,reasons:=[] }:Zl),[],false)))) else chk (a.length+1<=1073741824) <|chk (b.length+1<=1073741824) <|some (.inl ((a++[l]),(b++[({ rule:=e.name,token:=k }:Yc)])))) (fun s=>match s with |(a,b)=>some (.inl (a,b))) e.thn 0 (i,j)) (fun s=>match s with |(i,j)=>some (.inl (i,j))) q 0 (f,g)) (fun s=>match s with |(f,g)=>some (h.1,({ nodes:=(h.1.length:Int),reasons:=f }:Zl),g,true)) n 0 (c,d)) r 0 ([],[]) else some ([],({ nodes:=0,reasons:=[] }:Zl),[],false)
def Zaj(b:List Zf)(c:List Za):Option ((List Za)×Zl×Bool):=
 (XI b c).bind fun a=>if a.2.2.2=true then some (a.1,a.2.1,true) else some ([],({ nodes:=0,reasons:=[] }:Zl),false)
def Zc6(a:List Int)(f:Int):Option Bool:=
 forL (σ:=Unit) (fun (b:Nat) (c:Int) _=>(XV c 0 (i64.wrap (f - 1))).bind fun d=>if d=true then if (decide (0<(b:Int)))=true then (atI a (i64.wrap ((b:Int) - 1))).bind fun e=>if (decide (c<=e))=true then some (.inr false) else some (.inl ()) else some (.inl ()) else some (.inr false)) (fun _=>some true) a 0 ()
def ZdK(f:Zl):Option Bool:=
 forL (σ:=Unit) (fun (g:Nat) (a:Zh) _=>(XV a.for_ 0 (i64.wrap (f.nodes - 1))).bind fun b=>if b=true then (Zc6 a.inn f.nodes).bind fun c=>if c=true then (Zc6 a.outs f.nodes).bind fun d=>if d=true then some (.inl ()) else some (.inr false) else some (.inr false) else some (.inr false)) (fun _=>(XV f.nodes 0 24).bind fun e=>if e=true then some (decide ((f.reasons.length:Int)<=60)) else some false) f.reasons 0 ()
def ZhJ(a:List Int):Option (List Int):=
 chk (a.length<=1073741824) <|some a
def Zfi(g:Zl)(o:Int):Option (List Bool):=
 chk (0<=g.nodes/\g.nodes<=1073741824) <|iter (σ:=(List Bool)×(List Int)×Int) (fun s=>match s with |(l,m,d)=>if (decide (d<(m.length:Int)))=true then forL (σ:=(List Bool)×(List Int)) (fun (h:Nat) (a:Zh) s=>match s with |(i,b)=>chk (0<=d/\d<(b.length:Int)) <|(b[(A9 d)]?).bind fun p=>if (a.for_ != p)=true then some (.inl (i,b)) else (ZhJ a.inn).bind fun j=>chk (j.length+a.outs.length<=1073741824) <|iter (σ:=(List Bool)×(List Int)×Int) (fun s=>match s with |(e,k,c)=>if (decide (c<((j.length+a.outs.length:Nat):Int)))=true then chk (0<=c/\c<((j.length+a.outs.length:Nat):Int)) <|((j++a.outs)[(A9 c)]?).bind fun f=>chk (0<=f/\f<(e.length:Int)) <|(e[(A9 f)]?).bind fun q=>if q=true then some (.inl (e,k,(i64.wrap (c+1)))) else chk (k.length+1<=1073741824) <|some (.inl ((AC e (A9 f) true),(k++[f]),(i64.wrap (c+1)))) else some (.inr (.inl (e,k)))) (i,b,0)) (fun s=>match s with |(i,b)=>some (.inl (i,b,(i64.wrap (d+1))))) g.reasons 0 (l,m) else some (.inr l)) ((AJ (A9 g.nodes) false),[o],0)
def QO(e:Zl):Option Bool:=
 (ZdK e).bind fun f=>if f=true then forL (σ:=Unit) (fun (g:Nat) (a:Zh) _=>forL (σ:=Unit) (fun (h:Nat) (b:Int) _=>if (b==a.for_)=true then some (.inr (.inr false)) else (Zfi e b).bind fun c=>chk (0<=a.for_/\a.for_<(c.length:Int)) <|(c[(A9 a.for_)]?).bind fun d=>if d=true then some (.inr (.inr false)) else some (.inl ())) (fun _=>some (.inl ())) a.outs 0 ()) (fun _=>some true) e.reasons 0 () else some false
def Zff(d:Zl):Option (List Int):=
 (QO d).bind fun h=>if h=true then chk (0<=d.nodes/\d.nodes<=1073741824) <|iter (σ:=(List Int)×Int) (fun s=>match s with |(i,j)=>if (decide (j<=d.nodes))=true then forL (σ:=(List Int)) (fun (n:Nat) (a:Zh) e=>forL (σ:=(List Int)) (fun (p:Nat) (f:Int) b=>chk (0<=a.for_/\a.for_<(b.length:Int)) <|(b[(A9 a.for_)]?).bind fun k=>chk (0<=f/\f<(b.length:Int)) <|(b[(A9 f)]?).bind fun l=>some (.inl (AC b (A9 a.for_) (if k<l then l else k)))) (fun b=>forL (σ:=(List Int)) (fun (q:Nat) (g:Int) c=>chk (0<=a.for_/\a.for_<(c.length:Int)) <|(c[(A9 a.for_)]?).bind fun m=>chk (0<=g/\g<(c.length:Int)) <|(c[(A9 g)]?).bind fun o=>some (.inl (AC c (A9 a.for_) (if m<(i64.wrap (o+1)) then (i64.wrap (o+1)) else m)))) (fun c=>some (.inl c)) a.outs 0 b) a.inn 0 e) (fun e=>some (.inl (e,(i64.wrap (j+1))))) d.reasons 0 i else some (.inr i)) ((AJ (A9 d.nodes) 0),0) else some []
def Qm(d b:List Int)(e:Int):Option Bool:=
 forL (σ:=Unit) (fun (f:Nat) (c:Int) _=>(atI b c).bind fun a=>if (decide (a<0))=true then some (.inr false) else if (decide (e<=a))=true then some (.inr false) else some (.inl ())) (fun _=>some true) d 0 ()
def Zbf(d a:List Int):Option Bool:=
 forL (σ:=Unit) (fun (e:Nat) (b:Int) _=>(atI a b).bind fun c=>if (decide (0<=c))=true then some (.inr false) else some (.inl ())) (fun _=>some true) d 0 ()
def ZcU(h:Zl)(e:List Int)(k:Int)(c:List Int)(l:Int):Option (List Int):=
 iter (σ:=(List Int)×Int) (fun s=>match s with |(b,a)=>if (decide (a<h.nodes))=true then (atI e a).bind fun f=>if (f != k)=true then some (.inl (b,(i64.wrap (a+1)))) else (atI c a).bind fun g=>if (decide (0<=g))=true then some (.inl (b,(i64.wrap (a+1)))) else forL (σ:=Unit) (fun (m:Nat) (d:Zh) _=>if (d.for_==a)=true then (Qm d.inn c l).bind fun i=>if i=true then (Zbf d.outs c).bind fun j=>if j=true then chk (b.length+1<=1073741824) <|some (.inr (.inl ((b++[a]),(i64.wrap (a+1))))) else some (.inl ()) else some (.inl ()) else some (.inl ())) (fun _=>some (.inl (b,(i64.wrap (a+1))))) h.reasons 0 () else some (.inr b)) ([],0)
def ZbQ(h:Zl):Option (List Int):=
 (QO h).bind fun n=>if n=true then (Zff h).bind fun g=>iter (σ:=(List Int)×Int) (fun s=>match s with |(e,i)=>if (decide (i<h.nodes))=true then chk (e.length+1<=1073741824) <|some (.inl ((e++[(-1)]),(i64.wrap (i+1)))) else iter (σ:=(List Int)×Int×Int) (fun s=>match s with |(f,j,b)=>if (decide (b<h.nodes))=true then (ZcU h g b f j).bind fun m=>iter (σ:=(List Int)×(List Int)×Int) (fun s=>match s with |(k,l,c)=>if (decide (0<(l.length:Int)))=true then forL (σ:=(List Int)) (fun (q:Nat) (d:Int) a=>chk (0<=d/\d<(a.length:Int)) <|(a[(A9 d)]?).bind fun p=>some (.inl (AC a (A9 d) c))) (fun a=>(ZcU h g b a (i64.wrap (c+1))).bind fun o=>some (.inl (a,o,(i64.wrap (c+1))))) l 0 k else some (.inr (.inl (k,c,(i64.wrap (b+1)))))) (f,m,j) else some (.inr (.inr f))) (e,0,0)) ([],0) else some []
def ZeD(c:Zl):Option (List Bool):=
 (ZbQ c).bind fun d=>forL (σ:=(List Bool)) (fun (e:Nat) (b:Int) a=>chk (a.length+1<=1073741824) <|some (.inl (a++[(decide (0<=b))]))) (fun a=>some a) d 0 []
def Zlh(g:List Za)(h:Zl):Option (List Za):=
 (ZeD h).bind fun f=>forL (σ:=(List Za)) (fun (e:Nat) (b:Za) a=>if (decide ((e:Int)<(f.length:Int)))=true then chk (0<=(e:Int)/\(e:Int)<(f.length:Int)) <|(f[e]?).bind fun c=>if c=true then (Xc b).bind fun d=>chk (a.length+1<=1073741824) <|some (.inl (a++[d])) else some (.inl a) else some (.inr a)) (fun a=>some a) g 0 []
def QK(c:List Zf)(d:List Za):Option ((List Za)×Bool):=
 (Zaj c d).bind fun b=>if b.2.2=true then (Zlh b.1 b.2.1).bind fun a=>some (a,true) else some ([],false)
def ZdL(a:Zi):Option (Int×Zi):=
 if (decide (a.i<(a.b.length:Int)))=true then (atI a.b a.i).bind fun c=>some ((ZoB .i64 (i64.wrap ((ZoB .i64 (ZCs .i64 (Zzc .i64 (i64.wrap ((i64.wrap (a.h*6364136223846793005))+1442695040888963407)) 35) (Zzc .i64 (i64.wrap ((i64.wrap (a.h*6364136223846793005))+1442695040888963407)) 45)) 255)+i64.wrap c)) 255),({ b:=a.b,i:=(i64.wrap (a.i+1)),h:=(i64.wrap ((i64.wrap (a.h*6364136223846793005))+1442695040888963407)) }:Zi)) else some ((ZoB .i64 (ZCs .i64 (Zzc .i64 (i64.wrap ((i64.wrap (a.h*6364136223846793005))+1442695040888963407)) 35) (Zzc .i64 (i64.wrap ((i64.wrap (a.h*6364136223846793005))+1442695040888963407)) 45)) 255),({ b:=a.b,i:=a.i,h:=(i64.wrap ((i64.wrap (a.h*6364136223846793005))+1442695040888963407)) }:Zi))
def ZL(e:Zi)(d:Int):Option (Int×Zi):=
 if (decide (d<=0))=true then some (0,e) else if (decide (d<=256))=true then (ZdL e).bind fun f=>chk (¬d=0) <|some ((Int.tmod f.1 d),f.2) else (ZdL e).bind fun a=>(ZdL a.2).bind fun b=>(ZdL b.2).bind fun c=>chk (¬d=0) <|some ((Int.tmod (i64.wrap ((i64.wrap ((i64.wrap (a.1*65536))+(i64.wrap (b.1*256))))+c.1)) d),c.2)
def ZaI(b:Zi)(c:Int):Option (Bool×Zi):=
 (ZL b c).bind fun a=>some ((a.1==0),a.2)
def Zi5(d:Zi):Option (BYT×Int×Zi):=
 (ZL d 6).bind fun c=>chk (0<=c.1/\c.1<((6:Nat):Int)) <|(([(⟨#[111,110]⟩),(⟨#[111,110]⟩),(⟨#[97,116]⟩),(⟨#[112]⟩),(⟨#[113]⟩),(⟨#[122]⟩)])[(A9 c.1)]?).bind fun a=>([2,2,2,1,1,0][(A9 c.1)]?).bind fun b=>some (a,b,c.2)
def QD(d:Zi)(a:List BYT):Option (BYT×Zi):=
 (ZL d (a.length:Int)).bind fun c=>(atI a c.1).bind fun b=>some (b,c.2)
def Zcw(b:Zi):Option (BYT×Zi):=
 (QD b ([(⟨#[97]⟩),(⟨#[98]⟩),(⟨#[99]⟩),(⟨#[49]⟩),(⟨#[50]⟩)])).bind fun a=>some (a.1,a.2)
def ZeL(k:Zi):Option (Za×Zi):=
 (Zi5 k).bind fun j=>iter (σ:=(List Int)×Int×Int×(List BYT)×Int) (fun s=>match s with |(d,e,f,c,g)=>if (decide (g<j.2.1))=true then (Zcw ({ b:=d,i:=e,h:=f }:Zi)).bind fun a=>chk (c.length+1<=1073741824) <|some (.inl (a.2.b,a.2.i,a.2.h,(c++[a.1]),(i64.wrap (g+1)))) else some (.inr (({ rel:=j.1,args:=c }:Za),({ b:=d,i:=e,h:=f }:Zi)))) (j.2.2.b,j.2.2.i,j.2.2.h,[],0)
def ZbB(b:Zi):Option (BYT×Zi):=
 (QD b ([(⟨#[97]⟩),(⟨#[98]⟩),(⟨#[111,110]⟩),(⟨#[55]⟩),(⟨#[49,48]⟩),(⟨#[57,57,57,57]⟩),(⟨#[49,48,48,48,48]⟩),(⟨#[48,48,55]⟩),(⟨#[48]⟩),(⟨#[]⟩),(⟨#[65]⟩),(⟨#[63,120]⟩),(⟨#[63,63]⟩),(⟨#[63]⟩),(⟨#[97,98,99,100,101,102,103,104]⟩),(⟨#[97,98,99,100,101,102,103,104,105]⟩),(⟨#[63,97,98,99,100,101,102,103,104]⟩),(⟨#[97,45,98]⟩),(⟨#[120,49]⟩),(⟨#[49,120]⟩),(⟨#[45,51]⟩)])).bind fun a=>some (a.1,a.2)
def Zd7(f:Zi):Option (Za×Zi):=
 (ZeL f).bind fun e=>(ZL e.2 10).bind fun a=>if (a.1==0)=true then (ZbB a.2).bind fun c=>some (({ rel:=c.1,args:=e.1.args }:Za),c.2) else if (a.1==1)=true then (ZbB a.2).bind fun d=>chk (e.1.args.length+1<=1073741824) <|some (({ rel:=e.1.rel,args:=(e.1.args++[d.1]) }:Za),d.2) else if (a.1==2)=true then (ZL a.2 5).bind fun b=>chk (0<=b.1/\b.1<=((4:Nat):Int)) <|some (({ rel:=e.1.rel,args:=(AH 0 (AP (A9 b.1) [(⟨#[97]⟩),(⟨#[98]⟩),(⟨#[99]⟩),(⟨#[97]⟩)])) }:Za),b.2) else some (e.1,a.2)
def Qd(b c:BYT):Option (List BYT):=
 if (sEq c ⟨#[]⟩)=true then some [b] else iter (σ:=(List BYT)×Int×Int) (fun s=>match s with |(e,d,a)=>if (decide ((i64.wrap (a+(c.size:Int)))<=(b.size:Int)))=true then chk (0<=(i64.wrap (a+(c.size:Int)))/\(i64.wrap (a+(c.size:Int)))<=(b.size:Int)/\0<=a/\a<=(((A9 (i64.wrap (a+(c.size:Int)))):Nat):Int)) <|if (sEq (b.extract (A9 a) (A9 (i64.wrap (a+(c.size:Int))))) c)=true then chk (a<=(b.size:Int)/\0<=d/\d<=(((A9 a):Nat):Int)) <|chk (e.length+1<=1073741824) <|some (.inl ((e++[(b.extract (A9 d) (A9 a))]),(i64.wrap (a+(c.size:Int))),(i64.wrap (a+(c.size:Int))))) else some (.inl (e,d,(i64.wrap (a+1)))) else chk (0<=d/\d<=(b.size:Int)) <|chk (e.length+1<=1073741824) <|some (.inr (e++[(b.extract (A9 d) b.size)]))) ([],0,0)
def Zge(a:Int):Option BYT:=
 if (a==3)=true then some (⟨#[32,61,32]⟩) else if (a==4)=true then some (⟨#[32,33,61,32]⟩) else some (⟨#[32,60,32]⟩)
def ZcN(g:BYT):Option (BYT×(List BYT)×Bool):=
 (Qd g (⟨#[40]⟩)).bind fun f=>if ((f.length:Int) != 2)=true then some ((⟨#[]⟩),[],false) else chk (0<=1/\1<(f.length:Int)) <|(f[(A9 1)]?).bind fun a=>if ((a.size:Int)==0)=true then some ((⟨#[]⟩),[],false) else (sAt a (i64.wrap ((a.size:Int) - 1))).bind fun b=>if ((b.toNat:Int) != 41)=true then some ((⟨#[]⟩),[],false) else chk (0<=(i64.wrap ((a.size:Int) - 1))/\(i64.wrap ((a.size:Int) - 1))<=(a.size:Int)) <|if (sEq (a.extract 0 (A9 (i64.wrap ((a.size:Int) - 1)))) ⟨#[]⟩)=true then chk (0<=0/\0<(f.length:Int)) <|(f[(A9 0)]?).bind fun c=>some (c,[],true) else chk (0<=0/\0<(f.length:Int)) <|(f[(A9 0)]?).bind fun d=>(Qd (a.extract 0 (A9 (i64.wrap ((a.size:Int) - 1)))) (⟨#[44]⟩)).bind fun e=>some (d,e,true)
def Yx(c:BYT):Option (Zo×Bool):=
 (ZcN c).bind fun b=>if b.2.2=true then (Y5 ({ rel:=b.1,args:=b.2.1 }:Zo)).bind fun a=>if a=true then some (({ rel:=b.1,args:=b.2.1 }:Zo),true) else some (({ rel:=(⟨#[]⟩),args:=[] }:Zo),false) else some (({ rel:=(⟨#[]⟩),args:=[] }:Zo),false)
def QS(a:BYT):Option (Zu×Bool):=
 iter (σ:=Int) (fun b=>if (decide (b<=5))=true then (Zge b).bind fun j=>(Qd a j).bind fun c=>if ((c.length:Int)==2)=true then chk (0<=0/\0<(c.length:Int)) <|(c[(A9 0)]?).bind fun d=>chk (0<=1/\1<(c.length:Int)) <|(c[(A9 1)]?).bind fun e=>(Zcg ({ kind:=b,pattern:=({ rel:=(⟨#[]⟩),args:=[] }:Zo),left:=d,right:=e }:Zu)).bind fun k=>if k=true then some (.inr (({ kind:=b,pattern:=({ rel:=(⟨#[]⟩),args:=[] }:Zo),left:=d,right:=e }:Zu),true)) else some (.inl (i64.wrap (b+1))) else some (.inl (i64.wrap (b+1))) else if (decide (4<(a.size:Int)))=true then chk (0<=4/\4<=(a.size:Int)) <|if (sEq (a.extract 0 (A9 4)) ⟨#[110,111,116,32]⟩)=true then (Yx (a.extract (A9 4) a.size)).bind fun f=>if f.2=true then some (.inr (({ kind:=2,pattern:=f.1,left:=(⟨#[]⟩),right:=(⟨#[]⟩) }:Zu),true)) else some (.inr (({ kind:=0,pattern:=({ rel:=(⟨#[]⟩),args:=[] }:Zo),left:=(⟨#[]⟩),right:=(⟨#[]⟩) }:Zu),false)) else (Yx a).bind fun g=>if g.2=true then some (.inr (({ kind:=1,pattern:=g.1,left:=(⟨#[]⟩),right:=(⟨#[]⟩) }:Zu),true)) else some (.inr (({ kind:=0,pattern:=({ rel:=(⟨#[]⟩),args:=[] }:Zo),left:=(⟨#[]⟩),right:=(⟨#[]⟩) }:Zu),false)) else (Yx a).bind fun i=>if i.2=true then some (.inr (({ kind:=1,pattern:=i.1,left:=(⟨#[]⟩),right:=(⟨#[]⟩) }:Zu),true)) else some (.inr (({ kind:=0,pattern:=({ rel:=(⟨#[]⟩),args:=[] }:Zo),left:=(⟨#[]⟩),right:=(⟨#[]⟩) }:Zu),false))) 3
def Q5(g:BYT):Option (Zy×Bool):=
 if (sEq g ⟨#[115,116,111,112]⟩)=true then some (({ kind:=3,pattern:=({ rel:=(⟨#[]⟩),args:=[] }:Zo) }:Zy),true) else (Qd g (⟨#[32]⟩)).bind fun f=>if ((f.length:Int) != 2)=true then some (({ kind:=0,pattern:=({ rel:=(⟨#[]⟩),args:=[] }:Zo) }:Zy),false) else chk (0<=0/\0<(f.length:Int)) <|(f[(A9 0)]?).bind fun a=>if (sEq a ⟨#[97,100,100]⟩)=true then chk (0<=1/\1<(f.length:Int)) <|(f[(A9 1)]?).bind fun d=>(Yx d).bind fun b=>some (({ kind:=1,pattern:=b.1 }:Zy),b.2) else if (sEq a ⟨#[100,114,111,112]⟩)=true then chk (0<=1/\1<(f.length:Int)) <|(f[(A9 1)]?).bind fun e=>(Yx e).bind fun c=>some (({ kind:=2,pattern:=c.1 }:Zy),c.2) else some (({ kind:=0,pattern:=({ rel:=(⟨#[]⟩),args:=[] }:Zo) }:Zy),false)
def ZcT(h:Zf)(j k:BYT):Option (Zf×Bool):=
 (Qd j (⟨#[32,38,32]⟩)).bind fun l=>forL (σ:=(List Zu)) (fun (m:Nat) (e:BYT) a=>(QS e).bind fun c=>if c.2=true then chk (a.length+1<=1073741824) <|some (.inl (a++[c.1])) else some (.inr (({ name:=h.name,priority:=h.priority,cond:=a,thn:=[] }:Zf),false))) (fun a=>(Qd k (⟨#[32,38,32]⟩)).bind fun f=>forL (σ:=(List Zy)) (fun (n:Nat) (g:BYT) b=>(Q5 g).bind fun d=>if d.2=true then chk (b.length+1<=1073741824) <|some (.inl (b++[d.1])) else some (.inr (({ name:=h.name,priority:=h.priority,cond:=a,thn:=b }:Zf),false))) (fun b=>(XU ({ name:=h.name,priority:=h.priority,cond:=a,thn:=b }:Zf)).bind fun i=>some (({ name:=h.name,priority:=h.priority,cond:=a,thn:=b }:Zf),i)) f 0 []) l 0 []
def Y3(l:BYT):Option (Zf×Bool):=
 (Qd l (⟨#[58,32]⟩)).bind fun h=>if ((h.length:Int) != 2)=true then some (({ name:=(⟨#[]⟩),priority:=0,cond:=[],thn:=[] }:Zf),false) else chk (0<=0/\0<(h.length:Int)) <|(h[(A9 0)]?).bind fun e=>(Qd e (⟨#[32]⟩)).bind fun a=>chk (0<=1/\1<(h.length:Int)) <|(h[(A9 1)]?).bind fun f=>(Qd f (⟨#[32,45,62,32]⟩)).bind fun b=>if ((a.length:Int) != 2)=true then some (({ name:=(⟨#[]⟩),priority:=0,cond:=[],thn:=[] }:Zf),false) else if ((b.length:Int) != 2)=true then some (({ name:=(⟨#[]⟩),priority:=0,cond:=[],thn:=[] }:Zf),false) else chk (1<(a.length:Int)) <|(a[(A9 1)]?).bind fun g=>(Qw g).bind fun c=>if c.2=true then chk (0<(a.length:Int)) <|(a[(A9 0)]?).bind fun i=>chk (0<(b.length:Int)) <|(b[(A9 0)]?).bind fun j=>chk (1<(b.length:Int)) <|(b[(A9 1)]?).bind fun k=>(ZcT ({ name:=i,priority:=c.1,cond:=[],thn:=[] }:Zf) j k).bind fun d=>if d.2=true then some (d.1,true) else some (({ name:=(⟨#[]⟩),priority:=0,cond:=[],thn:=[] }:Zf),false) else some (({ name:=(⟨#[]⟩),priority:=0,cond:=[],thn:=[] }:Zf),false)
def ZcW(g:Zi)(h:Bool):Option (Zf×Zi):=
 if h=true then (ZL g 11).bind fun f=>chk (0<=f.1/\f.1<((11:Nat):Int)) <|(([(⟨#[114,32,49,58,32,111,110,40,63,120,44,63,121,41,32,38,32,111,110,40,63,121,44,63,122,41,32,45,62,32,97,100,100,32,111,110,40,63,120,44,63,122,41]⟩),(⟨#[114,32,50,58,32,111,110,40,63,120,44,63,121,41,32,38,32,112,40,63,121,41,32,45,62,32,97,100,100,32,112,40,63,120,41]⟩),(⟨#[114,32,48,58,32,112,40,63,120,41,32,38,32,111,110,40,63,120,44,63,121,41,32,38,32,63,120,32,33,61,32,63,121,32,45,62,32,97,100,100,32,113,40,63,121,41]⟩),(⟨#[114,32,51,58,32,112,40,63,120,41,32,38,32,112,40,63,121,41,32,38,32,63,120,32,60,32,63,121,32,45,62,32,97,100,100,32,122,40,41]⟩),(⟨#[114,32,52,58,32,111,110,40,63,120,44,97,41,32,45,62,32,97,100,100,32,113,40,63,120,41,32,38,32,97,100,100,32,112,40,97,41]⟩),(⟨#[114,32,49,58,32,113,40,63,120,41,32,38,32,112,40,63,120,41,32,45,62,32,97,100,100,32,98,97,100,40,41]⟩),(⟨#[114,32,49,58,32,97,116,40,63,120,44,63,121,41,32,45,62,32,97,100,100,32,111,110,40,63,120,44,63,121,41]⟩),(⟨#[114,32,50,58,32,112,40,63,120,41,32,38,32,110,111,116,32,113,40,63,120,41,32,45,62,32,97,100,100,32,115,40,63,120,41]⟩),(⟨#[114,32,53,58,32,111,110,40,63,120,44,63,121,41,32,38,32,110,111,116,32,112,40,63,121,41,32,45,62,32,97,100,100,32,115,40,63,121,41]⟩),(⟨#[114,32,48,58,32,115,40,63,120,41,32,38,32,110,111,116,32,122,40,41,32,38,32,110,111,116,32,112,40,63,120,41,32,45,62,32,97,100,100,32,98,97,100,40,41]⟩),(⟨#[114,32,49,58,32,113,40,63,120,41,32,38,32,111,110,40,63,120,44,63,121,41,32,38,32,110,111,116,32,113,40,63,121,41,32,45,62,32,97,100,100,32,115,40,63,120,41]⟩)])[(A9 f.1)]?).bind fun b=>(Y3 b).bind fun c=>some (c.1,f.2) else (ZL g 7).bind fun a=>chk (0<=a.1/\a.1<((11:Nat):Int)) <|(([(⟨#[114,32,49,58,32,111,110,40,63,120,44,63,121,41,32,38,32,111,110,40,63,121,44,63,122,41,32,45,62,32,97,100,100,32,111,110,40,63,120,44,63,122,41]⟩),(⟨#[114,32,50,58,32,111,110,40,63,120,44,63,121,41,32,38,32,112,40,63,121,41,32,45,62,32,97,100,100,32,112,40,63,120,41]⟩),(⟨#[114,32,48,58,32,112,40,63,120,41,32,38,32,111,110,40,63,120,44,63,121,41,32,38,32,63,120,32,33,61,32,63,121,32,45,62,32,97,100,100,32,113,40,63,121,41]⟩),(⟨#[114,32,51,58,32,112,40,63,120,41,32,38,32,112,40,63,121,41,32,38,32,63,120,32,60,32,63,121,32,45,62,32,97,100,100,32,122,40,41]⟩),(⟨#[114,32,52,58,32,111,110,40,63,120,44,97,41,32,45,62,32,97,100,100,32,113,40,63,120,41,32,38,32,97,100,100,32,112,40,97,41]⟩),(⟨#[114,32,49,58,32,113,40,63,120,41,32,38,32,112,40,63,120,41,32,45,62,32,97,100,100,32,98,97,100,40,41]⟩),(⟨#[114,32,49,58,32,97,116,40,63,120,44,63,121,41,32,45,62,32,97,100,100,32,111,110,40,63,120,44,63,121,41]⟩),(⟨#[114,32,50,58,32,112,40,63,120,41,32,38,32,110,111,116,32,113,40,63,120,41,32,45,62,32,97,100,100,32,115,40,63,120,41]⟩),(⟨#[114,32,53,58,32,111,110,40,63,120,44,63,121,41,32,38,32,110,111,116,32,112,40,63,121,41,32,45,62,32,97,100,100,32,115,40,63,121,41]⟩),(⟨#[114,32,48,58,32,115,40,63,120,41,32,38,32,110,111,116,32,122,40,41,32,38,32,110,111,116,32,112,40,63,120,41,32,45,62,32,97,100,100,32,98,97,100,40,41]⟩),(⟨#[114,32,49,58,32,113,40,63,120,41,32,38,32,111,110,40,63,120,44,63,121,41,32,38,32,110,111,116,32,113,40,63,121,41,32,45,62,32,97,100,100,32,115,40,63,120,41]⟩)])[(A9 a.1)]?).bind fun d=>(Y3 d).bind fun e=>some (e.1,a.2)
def Zem(l:Zi)(m:Bool):Option ((List Zf)×Zi):=
 (ZL l 4).bind fun k=>iter (σ:=(List Int)×Int×Int×(List Zf)×Int) (fun s=>match s with |(e,f,g,c,d)=>if (decide (0<d))=true then (ZcW ({ b:=e,i:=f,h:=g }:Zi) m).bind fun a=>(YJ d).bind fun j=>chk ((⟨#[114]⟩:BYT).size+j.size<=9223372036854775807) <|chk (c.length+1<=1073741824) <|some (.inl (a.2.b,a.2.i,a.2.h,(c++[({ name:=((⟨#[114]⟩:BYT)++j),priority:=a.1.priority,cond:=a.1.cond,thn:=a.1.thn }:Zf)]),(i64.wrap (d - 1)))) else some (.inr (c,({ b:=e,i:=f,h:=g }:Zi)))) (k.2.b,k.2.i,k.2.h,[],k.1)
def Zgd(q:Zi)(r:Int):Option ((List Za)×Zi):=
 (ZL q (i64.wrap (r+1))).bind fun n=>iter (σ:=(List Int)×Int×Int×(List Za)×Int) (fun s=>match s with |(g,j,k,c,d)=>if (decide (0<d))=true then (QD ({ b:=g,i:=j,h:=k }:Zi) ([(⟨#[97]⟩),(⟨#[98]⟩),(⟨#[49]⟩),(⟨#[50]⟩)])).bind fun e=>(QD e.2 ([(⟨#[97]⟩),(⟨#[98]⟩),(⟨#[49]⟩)])).bind fun f=>(ZL f.2 5).bind fun a=>if (a.1==0)=true then (YS c ({ rel:=(⟨#[112]⟩),args:=[e.1] }:Za)).bind fun l=>some (.inl (a.2.b,a.2.i,a.2.h,l,(i64.wrap (d - 1)))) else if (a.1==1)=true then (YS c ({ rel:=(⟨#[97,116]⟩),args:=[e.1,f.1] }:Za)).bind fun m=>some (.inl (a.2.b,a.2.i,a.2.h,m,(i64.wrap (d - 1)))) else if (a.1==2)=true then (YS c ({ rel:=(⟨#[113]⟩),args:=[e.1] }:Za)).bind fun o=>some (.inl (a.2.b,a.2.i,a.2.h,o,(i64.wrap (d - 1)))) else (YS c ({ rel:=(⟨#[111,110]⟩),args:=[e.1,f.1] }:Za)).bind fun p=>some (.inl (a.2.b,a.2.i,a.2.h,p,(i64.wrap (d - 1)))) else some (.inr (c,({ b:=g,i:=j,h:=k }:Zi)))) (n.2.b,n.2.i,n.2.h,[],n.1)
def QE(d:Zi)(a:List Int):Option (Int×Zi):=
 (ZL d (a.length:Int)).bind fun c=>(atI a c.1).bind fun b=>some (b,c.2)
def Qa(e:Zi)(d:Int):Option (Zf×Zi):=
 (ZL e (if 13<d then 13 else d)).bind fun c=>chk (0<=c.1/\c.1<((13:Nat):Int)) <|(([(⟨#[114,32,49,58,32,111,110,40,63,120,44,63,121,41,32,38,32,111,110,40,63,121,44,63,122,41,32,45,62,32,97,100,100,32,111,110,40,63,120,44,63,122,41]⟩),(⟨#[114,32,50,58,32,111,110,40,63,120,44,63,121,41,32,38,32,112,40,63,121,41,32,45,62,32,97,100,100,32,112,40,63,120,41]⟩),(⟨#[114,32,48,58,32,112,40,63,120,41,32,38,32,111,110,40,63,120,44,63,121,41,32,38,32,63,120,32,33,61,32,63,121,32,45,62,32,97,100,100,32,97,116,40,63,121,44,63,120,41]⟩),(⟨#[114,32,51,58,32,97,116,40,63,120,44,63,121,41,32,38,32,112,40,63,120,41,32,38,32,112,40,63,121,41,32,38,32,63,120,32,60,32,63,121,32,45,62,32,97,100,100,32,122,40,41]⟩),(⟨#[114,32,52,58,32,111,110,40,63,120,44,97,41,32,45,62,32,97,100,100,32,113,40,63,120,41,32,38,32,97,100,100,32,112,40,97,41]⟩),(⟨#[114,32,49,58,32,97,116,40,63,120,44,63,120,41,32,38,32,113,40,49,41,32,45,62,32,97,100,100,32,111,110,40,63,120,44,49,41]⟩),(⟨#[114,32,49,58,32,112,40,63,120,41,32,38,32,110,111,116,32,113,40,63,120,41,32,45,62,32,97,100,100,32,97,116,40,63,120,44,98,41]⟩),(⟨#[114,32,50,58,32,111,110,40,63,120,44,63,121,41,32,38,32,110,111,116,32,97,116,40,63,121,44,63,122,41,32,45,62,32,97,100,100,32,113,40,63,121,41]⟩),(⟨#[114,32,53,58,32,97,116,40,63,120,44,63,121,41,32,38,32,110,111,116,32,112,40,63,121,41,32,38,32,63,120,32,33,61,32,63,121,32,45,62,32,97,100,100,32,122,40,41]⟩),(⟨#[114,32,57,58,32,113,40,63,120,41,32,38,32,112,40,63,120,41,32,45,62,32,100,114,111,112,32,112,40,63,120,41]⟩),(⟨#[114,32,48,58,32,97,116,40,63,120,44,49,41,32,38,32,97,116,40,63,121,44,50,41,32,38,32,63,120,32,61,32,63,121,32,45,62,32,100,114,111,112,32,97,116,40,63,120,44,49,41,32,38,32,115,116,111,112]⟩),(⟨#[114,32,49,58,32,111,110,40,63,120,44,63,120,41,32,45,62,32,115,116,111,112]⟩),(⟨#[114,32,55,58,32,122,40,41,32,38,32,111,110,40,63,120,44,63,121,41,32,45,62,32,100,114,111,112,32,122,40,41,32,38,32,97,100,100,32,111,110,40,63,121,44,63,120,41]⟩)])[(A9 c.1)]?).bind fun a=>(Y3 a).bind fun b=>some (b.1,c.2)
def ZdF(d:Zi):Option (BYT×Zi):=
 (ZaI d 4).bind fun c=>if c.1=true then (Zcw c.2).bind fun a=>some (a.1,a.2) else (QD c.2 ([(⟨#[63,120]⟩),(⟨#[63,121]⟩),(⟨#[63,122]⟩)])).bind fun b=>some (b.1,b.2)
def Za2(k:Zi):Option (Zo×Zi):=
 (Zi5 k).bind fun j=>iter (σ:=(List Int)×Int×Int×(List BYT)×Int) (fun s=>match s with |(d,e,f,c,g)=>if (decide (g<j.2.1))=true then (ZdF ({ b:=d,i:=e,h:=f }:Zi)).bind fun a=>chk (c.length+1<=1073741824) <|some (.inl (a.2.b,a.2.i,a.2.h,(c++[a.1]),(i64.wrap (g+1)))) else some (.inr (({ rel:=j.1,args:=c }:Zo),({ b:=d,i:=e,h:=f }:Zi)))) (j.2.2.b,j.2.2.i,j.2.2.h,[],0)
def ZkL(b:Zi)(c d:BYT):Option (Zu×Zi):=
 (QE b [3,4,4,5]).bind fun a=>some (({ kind:=a.1,pattern:=({ rel:=(⟨#[]⟩),args:=[] }:Zo),left:=c,right:=d }:Zu),a.2)
def Zgk(h:Zi):Option (Zu×Zi):=
 (ZL h 5).bind fun g=>if (g.1==0)=true then (Za2 g.2).bind fun a=>some (({ kind:=1,pattern:=a.1,left:=(⟨#[]⟩),right:=(⟨#[]⟩) }:Zu),a.2) else if (g.1==1)=true then (Za2 g.2).bind fun b=>some (({ kind:=1,pattern:=b.1,left:=(⟨#[]⟩),right:=(⟨#[]⟩) }:Zu),b.2) else if (g.1==2)=true then (Za2 g.2).bind fun c=>some (({ kind:=2,pattern:=c.1,left:=(⟨#[]⟩),right:=(⟨#[]⟩) }:Zu),c.2) else (ZdF g.2).bind fun d=>(ZdF d.2).bind fun e=>(ZkL e.2 d.1 e.1).bind fun f=>some (f.1,f.2)
def Zew(r:Zi):Option (Zf×Zi):=
 (ZL r 4).bind fun n=>(Za2 n.2).bind fun q=>(ZL q.2 3).bind fun j=>iter (σ:=(List Int)×Int×Int×(List Zu)×Int) (fun s=>match s with |(t,u,v,c,w)=>if (decide (0<w))=true then (Zgk ({ b:=t,i:=u,h:=v }:Zi)).bind fun k=>chk (c.length+1<=1073741824) <|some (.inl (k.2.b,k.2.i,k.2.h,(c++[k.1]),(i64.wrap (w - 1)))) else (Qh ({ name:=(⟨#[114]⟩),priority:=n.1,cond:=c,thn:=[] }:Zf) (c.length:Int)).bind fun A=>(Za2 ({ b:=t,i:=u,h:=v }:Zi)).bind fun d=>iter (σ:=(List Int)×Int×Int×(List BYT)×Int) (fun s=>match s with |(l,m,o,a,e)=>if (decide (e<(a.length:Int)))=true then chk (0<=e/\e<(a.length:Int)) <|(a[(A9 e)]?).bind fun x=>(Zas x).bind fun B=>if B=true then (Z4 A x).bind fun C=>if C=true then some (.inl (l,m,o,a,(i64.wrap (e+1)))) else (Zcw ({ b:=l,i:=m,h:=o }:Zi)).bind fun p=>some (.inl (p.2.b,p.2.i,p.2.h,(AC a (A9 e) p.1),(i64.wrap (e+1)))) else some (.inl (l,m,o,a,(i64.wrap (e+1)))) else (QE ({ b:=l,i:=m,h:=o }:Zi) [1,1,2]).bind fun f=>(ZaI f.2 6).bind fun g=>if g.1=true then (XU ({ name:=(⟨#[114]⟩),priority:=n.1,cond:=c,thn:=[({ kind:=f.1,pattern:=({ rel:=d.1.rel,args:=a }:Zo) }:Zy),({ kind:=3,pattern:=({ rel:=(⟨#[]⟩),args:=[] }:Zo) }:Zy)] }:Zf)).bind fun D=>if D=true then some (.inr (.inr (({ name:=(⟨#[114]⟩),priority:=n.1,cond:=c,thn:=[({ kind:=f.1,pattern:=({ rel:=d.1.rel,args:=a }:Zo) }:Zy),({ kind:=3,pattern:=({ rel:=(⟨#[]⟩),args:=[] }:Zo) }:Zy)] }:Zf),g.2))) else (Qa g.2 99).bind fun y=>some (.inr (.inr (y.1,y.2))) else (XU ({ name:=(⟨#[114]⟩),priority:=n.1,cond:=c,thn:=[({ kind:=f.1,pattern:=({ rel:=d.1.rel,args:=a }:Zo) }:Zy)] }:Zf)).bind fun E=>if E=true then some (.inr (.inr (({ name:=(⟨#[114]⟩),priority:=n.1,cond:=c,thn:=[({ kind:=f.1,pattern:=({ rel:=d.1.rel,args:=a }:Zo) }:Zy)] }:Zf),g.2))) else (Qa g.2 99).bind fun z=>some (.inr (.inr (z.1,z.2)))) (d.2.b,d.2.i,d.2.h,d.1.args,0)) (j.2.b,j.2.i,j.2.h,[({ kind:=1,pattern:=q.1,left:=(⟨#[]⟩),right:=(⟨#[]⟩) }:Zu)],j.1)
def ZeX(d:Zi):Option (Zf×Zi):=
 (ZaI d 3).bind fun c=>if c.1=true then (Zew c.2).bind fun a=>some (a.1,a.2) else (Qa c.2 99).bind fun b=>some (b.1,b.2)
def ZkG(l:Zi)(m:Int):Option ((List Zf)×Zi):=
 (ZL l (i64.wrap (m+1))).bind fun k=>iter (σ:=(List Int)×Int×Int×(List Zf)×Int) (fun s=>match s with |(e,f,g,c,d)=>if (decide (0<d))=true then (ZeX ({ b:=e,i:=f,h:=g }:Zi)).bind fun a=>(YJ d).bind fun j=>chk ((⟨#[114]⟩:BYT).size+j.size<=9223372036854775807) <|chk (c.length+1<=1073741824) <|some (.inl (a.2.b,a.2.i,a.2.h,(c++[({ name:=((⟨#[114]⟩:BYT)++j),priority:=a.1.priority,cond:=a.1.cond,thn:=a.1.thn }:Zf)]),(i64.wrap (d - 1)))) else some (.inr (c,({ b:=e,i:=f,h:=g }:Zi)))) (k.2.b,k.2.i,k.2.h,[],k.1)
def ZiT(f:Zi):Option (Zo×Zi):=
 (Za2 f).bind fun e=>(ZL e.2 10).bind fun a=>if (a.1==0)=true then (ZbB a.2).bind fun c=>some (({ rel:=c.1,args:=e.1.args }:Zo),c.2) else if (a.1==1)=true then (ZbB a.2).bind fun d=>chk (e.1.args.length+1<=1073741824) <|some (({ rel:=e.1.rel,args:=(e.1.args++[d.1]) }:Zo),d.2) else if (a.1==2)=true then (ZL a.2 5).bind fun b=>chk (0<=b.1/\b.1<=((4:Nat):Int)) <|some (({ rel:=e.1.rel,args:=(AH 0 (AP (A9 b.1) [(⟨#[63,120]⟩),(⟨#[63,120]⟩),(⟨#[63,121]⟩),(⟨#[63,120]⟩)])) }:Zo),b.2) else some (e.1,a.2)
def Zlj(f:Zi):Option (Zu×Zi):=
 (Zgk f).bind fun e=>(ZL e.2 12).bind fun a=>if (a.1==0)=true then (QE a.2 [0,1,3,5,6,(-1)]).bind fun b=>some (({ kind:=b.1,pattern:=e.1.pattern,left:=e.1.left,right:=e.1.right }:Zu),b.2) else if (a.1==1)=true then (ZbB a.2).bind fun c=>some (({ kind:=e.1.kind,pattern:=e.1.pattern,left:=c.1,right:=e.1.right }:Zu),c.2) else if (a.1==2)=true then (ZiT a.2).bind fun d=>some (({ kind:=e.1.kind,pattern:=d.1,left:=e.1.left,right:=e.1.right }:Zu),d.2) else some (e.1,a.2)
def ZkU(k:Zi):Option (Zf×Zi):=
 (ZeX k).bind fun h=>(ZL h.2 14).bind fun a=>if (a.1==0)=true then (ZbB a.2).bind fun b=>some (({ name:=b.1,priority:=h.1.priority,cond:=h.1.cond,thn:=h.1.thn }:Zf),b.2) else if (a.1==1)=true then (QE a.2 [(-1),0,9,10]).bind fun c=>some (({ name:=h.1.name,priority:=c.1,cond:=h.1.cond,thn:=h.1.thn }:Zf),c.2) else if (a.1==2)=true then (Zlj a.2).bind fun d=>chk (h.1.cond.length+1<=1073741824) <|some (({ name:=h.1.name,priority:=h.1.priority,cond:=(h.1.cond++[d.1]),thn:=h.1.thn }:Zf),d.2) else if (a.1==3)=true then (QE a.2 [0,1,2,3,4]).bind fun e=>(ZiT e.2).bind fun f=>chk (h.1.thn.length+1<=1073741824) <|some (({ name:=h.1.name,priority:=h.1.priority,cond:=h.1.cond,thn:=(h.1.thn++[({ kind:=e.1,pattern:=f.1 }:Zy)]) }:Zf),f.2) else if (a.1==4)=true then chk (0<=1/\1<=(h.1.cond.length:Int)) <|some (({ name:=h.1.name,priority:=h.1.priority,cond:=(AH (A9 1) h.1.cond),thn:=h.1.thn }:Zf),a.2) else if (a.1==5)=true then chk (0<=1/\1<=(h.1.thn.length:Int)) <|some (({ name:=h.1.name,priority:=h.1.priority,cond:=h.1.cond,thn:=(AH (A9 1) h.1.thn) }:Zf),a.2) else if (a.1==6)=true then (QD a.2 ([(⟨#[63,102]⟩),(⟨#[63,97]⟩),(⟨#[63,103]⟩)])).bind fun g=>(QE g.2 [1,2]).bind fun i=>(QD i.2 ([(⟨#[63,102]⟩),(⟨#[63,120]⟩)])).bind fun j=>some (({ name:=h.1.name,priority:=h.1.priority,cond:=[({ kind:=1,pattern:=({ rel:=(⟨#[116]⟩),args:=[(⟨#[63,97]⟩),(⟨#[63,98]⟩),(⟨#[63,99]⟩)] }:Zo),left:=(⟨#[]⟩),right:=(⟨#[]⟩) }:Zu),({ kind:=1,pattern:=({ rel:=(⟨#[116]⟩),args:=[(⟨#[63,100]⟩),(⟨#[63,101]⟩),g.1] }:Zo),left:=(⟨#[]⟩),right:=(⟨#[]⟩) }:Zu),({ kind:=i.1,pattern:=({ rel:=(⟨#[117]⟩),args:=[j.1] }:Zo),left:=(⟨#[]⟩),right:=(⟨#[]⟩) }:Zu)],thn:=[({ kind:=3,pattern:=({ rel:=(⟨#[]⟩),args:=[] }:Zo) }:Zy)] }:Zf),j.2) else some (h.1,a.2)
def Zir(o:Zi):Option ((List Zf)×Zi):=
 (ZkG o 3).bind fun n=>(ZL n.2 10).bind fun c=>if (c.1==0)=true then (ZkU c.2).bind fun f=>chk (n.1.length+1<=1073741824) <|some ((n.1++[f.1]),f.2) else if (c.1==1)=true then (QE c.2 [6,7]).bind fun d=>iter (σ:=(List Int)×Int×Int×(List Zf)×Int) (fun s=>match s with |(g,j,k,e,l)=>if (decide ((e.length:Int)<d.1))=true then (Qa ({ b:=g,i:=j,h:=k }:Zi) 6).bind fun a=>(YJ l).bind fun m=>chk ((⟨#[107]⟩:BYT).size+m.size<=9223372036854775807) <|chk (e.length+1<=1073741824) <|some (.inl (a.2.b,a.2.i,a.2.h,(e++[({ name:=((⟨#[107]⟩:BYT)++m),priority:=a.1.priority,cond:=a.1.cond,thn:=a.1.thn }:Zf)]),(i64.wrap (l+1)))) else some (.inr (e,({ b:=g,i:=j,h:=k }:Zi)))) (d.2.b,d.2.i,d.2.h,n.1,0) else some (n.1,c.2)
def ZkA(l:Zi)(m:Int):Option ((List Za)×Zi):=
 (ZL l (i64.wrap (m+1))).bind fun k=>iter (σ:=(List Int)×Int×Int×(List Za)×Int) (fun s=>match s with |(c,d,e,f,g)=>if (decide (0<g))=true then (ZeL ({ b:=c,i:=d,h:=e }:Zi)).bind fun a=>(YS f a.1).bind fun j=>some (.inl (a.2.b,a.2.i,a.2.h,j,(i64.wrap (g - 1)))) else some (.inr (f,({ b:=c,i:=d,h:=e }:Zi)))) (k.2.b,k.2.i,k.2.h,[],k.1)
def Zip(i:Zi):Option ((List Za)×Zi):=
 (ZkA i 6).bind fun h=>(ZL h.2 8).bind fun a=>if (a.1==0)=true then (Zd7 a.2).bind fun e=>chk (h.1.length+1<=1073741824) <|some ((h.1++[e.1]),e.2) else if (a.1==1)=true then iter (σ:=(List Za)×Int) (fun s=>match s with |(c,d)=>if (decide (d<25))=true then (YJ d).bind fun f=>(YS c ({ rel:=(⟨#[110]⟩),args:=[f] }:Za)).bind fun g=>some (.inl (g,(i64.wrap (d+1)))) else (QE a.2 [23,24,25]).bind fun b=>chk (0<=b.1/\b.1<=(c.length:Int)) <|some (.inr ((AH 0 (AP (A9 b.1) c)),b.2))) (h.1,0) else some (h.1,a.2)
def ZgA(f:Zi):Option ((List Zf)×(List Za)×Zi):=
 (Zem f true).bind fun e=>(Zgd e.2 5).bind fun b=>(ZL b.2 12).bind fun a=>if (a.1==0)=true then (Zir a.2).bind fun c=>some (c.1,b.1,c.2) else if (a.1==1)=true then (Zip a.2).bind fun d=>some (e.1,d.1,d.2) else some (e.1,b.1,a.2)
def Zei(h:Zi):Option ((List Zf)×(List Za)×Za×Zi):=
 (ZgA h).bind fun g=>(Yw g.1 g.2.1).bind fun a=>if (decide (0<(a.1.length:Int)))=true then (ZaI g.2.2 4).bind fun c=>if c.1=true then (Zd7 c.2).bind fun d=>some (g.1,g.2.1,d.1,d.2) else (ZL c.2 (a.1.length:Int)).bind fun b=>chk (0<=b.1/\b.1<(a.1.length:Int)) <|(a.1[(A9 b.1)]?).bind fun f=>some (g.1,g.2.1,f,b.2) else (Zd7 g.2.2).bind fun e=>some (g.1,g.2.1,e.1,e.2)
def XE(h:Zl)(a:Int):Option Int:=
 (ZbQ h).bind fun g=>(XV a 0 (i64.wrap ((g.length:Int) - 1))).bind fun d=>if d=true then chk (0<=a/\a<(g.length:Int)) <|(g[(A9 a)]?).bind fun c=>if (decide (c<0))=true then some (-1) else forL (σ:=Unit) (fun (i:Nat) (b:Zh) _=>if (b.for_==a)=true then (Qm b.inn g c).bind fun e=>if e=true then (Zbf b.outs g).bind fun f=>if f=true then some (.inr (i:Int)) else some (.inl ()) else some (.inl ()) else some (.inl ())) (fun _=>some (-1)) h.reasons 0 () else some (-1)
def Zd4(b:List Int)(c:Int):Option Bool:=
 forL (σ:=Unit) (fun (d:Nat) (a:Int) _=>if (a==c)=true then some (.inr true) else some (.inl ())) (fun _=>some false) b 0 ()
def XW(b:Zl)(a:Int):Option (List Int):=
 (ZbQ b).bind fun rd=>ZfU (XE b) Zd4 b (((rd[a.toNat]?).getD 0).toNat+1) a []
def ZaZ(c:List Zz)(d:Za):Option Int:=
 forL (σ:=Unit) (fun (e:Nat) (a:Zz) _=>(Zfa a.fact d).bind fun b=>if b=true then some (.inr (e:Int)) else some (.inl ())) (fun _=>some (-1)) c 0 ()
def Zgt(e:List Zz):Option (List Zz):=
 forL (σ:=(List Zz)) (fun (f:Nat) (b:Zz) a=>(Xc b.fact).bind fun c=>(ZhJ b.uses).bind fun d=>chk (a.length+1<=1073741824) <|some (.inl (a++[({ fact:=c,rule:=b.rule,uses:=d }:Zz)]))) (fun a=>some a) e 0 []
def ZkX{α β:Type}(f:List α->β->Option α):List β->List α->Option (List α)
 | [],out=>some out
 |k::l,out=>(f out k).bind fun s=>ZkX f l (out++[s])
def ZnQ{α β:Type}(g:α->Option β):List α->Option (List β)
 | []=>some []
 |y::l=>(g y).bind fun z=>(ZnQ g l).bind fun zs=>some (z::zs)
def Zmj(F:List Za)(Q:List Zh)(O:List Yc)(out:List Zz)(k:Int):Option Zz:=
 if 0<=k then (Q[k.toNat]?).bind fun c=>if 0<=c.for_ then (F[c.for_.toNat]?).bind fun g=>(Xc g).bind fun a=>(O[k.toNat]?).bind fun o=>if o.token.facts.length<=1024 then (ZnQ (ZaZ out) o.token.facts).bind fun us=>some { fact:=a,rule:=o.rule,uses:=us } else none else none else none
def ZdC(R:List Zf)(base:List Za)(f:Za):Option (List Zz):=
 (QZ R base).bind fun g=>if g.2.2.2=true then (Xs g.1 f).bind fun x=>(XW g.2.1 x).bind fun l=>if l.length<=1024 then ZkX (Zmj g.1 g.2.1.reasons g.2.2.1) l [] else none else some []
def Zve(M:List Za)(f:Za)(c:Zi):Option (Za×Zi):=
 if 0<M.length then (ZaI c 4).bind fun o=>if o.1=true then some (f,o.2) else (ZL o.2 (M.length:Int)).bind fun k=>if 0<=k.1 then (M[k.1.toNat]?).bind fun g=>some (g,k.2) else none else some (f,c)
def ZtQ(S:List Zz)(n:Nat)(st:Zz)(d:Int)(c:Zi):Option (List Zz×Zi):=
 if d=0 then (Zd7 c).bind fun g=>some (S.set n { st with fact:=g.1 },g.2) else if d=1 then (QD c [(⟨#[]⟩:BYT),⟨#[114,49]⟩,⟨#[114,50]⟩,⟨#[120]⟩]).bind fun g=>some (S.set n { st with rule:=g.1 },g.2) else if d=2 then (ZL c (((S.length+1:Nat)):Int)).bind fun g=>if 0<=g.1/\g.1<=1048576/\st.uses.length<=1024 then some (S.set n { st with uses:=st.uses++[g.1 - 1] },g.2) else none else if d=3 then some (S.drop 1,c) else if d=4 then (Zgt (S.take 1)).bind fun y=>(y[0]?).bind fun a=>(QE c [59,60,61]).bind fun g=>if 0<=g.1/\g.1.toNat<=S.length+60 then some ((S++AJ 60 a).take g.1.toNat,g.2) else none else some (S,c)
def Zee(e:Zi):Option ((List Zf)×(List Za)×(List Zz)×Zi):=
 (Zei e).bind fun c=>(QK c.1 c.2.1).bind fun b=>(Zve b.1 c.2.2.1 c.2.2.2).bind fun a=>(ZdC c.1 c.2.1 a.1).bind fun S=>if S.length=0 then some (c.1,c.2.1,[],a.2) else (ZL a.2 (S.length:Int)).bind fun k=>if 0<=k.1/\S.length<=1024 then (S[k.1.toNat]?).bind fun st=>(ZL k.2 10).bind fun d=>(ZtQ S k.1.toNat st d.1 d.2).bind fun t=>some (c.1,c.2.1,t.1,t.2) else none
def Zln(d:List Int):Option Zi:=
 forL (σ:=Int) (fun (e:Nat) (c:Int) a=>if (decide ((e:Int)<4000))=true then some (.inl (ZoB .i64 (i64.wrap ((i64.wrap ((i64.wrap (a*167))+i64.wrap c))+29)) 1073741823)) else some (.inr ({ b:=d,i:=0,h:=a }:Zi))) (fun a=>some ({ b:=d,i:=0,h:=a }:Zi)) d 0 (i64.wrap (851207+(i64.wrap (3*(d.length:Int)))))
def Zbr(b:List Int):Option ((List Zf)×(List Za)×(List Zz)):=
 (Zln b).bind fun c=>(Zee c).bind fun a=>some (a.1,a.2.1,a.2.2.1)
def ZdH(e a:List BYT):Option Bool:=
 if ((e.length:Int) != (a.length:Int))=true then some false else forL (σ:=Unit) (fun (b:Nat) (c:BYT) _=>(atI a (b:Int)).bind fun d=>if (sEq c d)=true then some (.inl ()) else some (.inr false)) (fun _=>some true) e 0 ()
def Zad(a b:Za):Option Bool:=
 if (sEq a.rel b.rel)=true then (ZdH a.args b.args).bind fun c=>some c else some false
def Yl(c:List Za)(d:Za):Option Int:=
 forL (σ:=Unit) (fun (e:Nat) (a:Za) _=>(Zad a d).bind fun b=>if b=true then some (.inr (e:Int)) else some (.inl ())) (fun _=>some (-1)) c 0 ()
def Zak(b:BYT):Option Bool:=
 if (decide ((b.size:Int)<1))=true then some false else if (decide (8<(b.size:Int)))=true then some false else forL (σ:=Unit) (fun (c:Nat) (a:UInt8) _=>if (decide ((a.toNat:Int)<97))=true then if (decide ((a.toNat:Int)<48))=true then some (.inr false) else if (decide (57<(a.toNat:Int)))=true then some (.inr false) else some (.inl ()) else if (decide (122<(a.toNat:Int)))=true then if (decide ((a.toNat:Int)<48))=true then some (.inr false) else if (decide (57<(a.toNat:Int)))=true then some (.inr false) else some (.inl ()) else some (.inl ())) (fun _=>some true) b.data.toList 0 ()
def ZeQ(b:BYT):Option Bool:=
 (Zak b).bind fun c=>if c=true then (sAt b 0).bind fun a=>some (decide (97<=(a.toNat:Int))) else some false
def Zd5(a:BYT):Option Bool:=
 if (decide (1<(a.size:Int)))=true then (sAt a 0).bind fun b=>if ((b.toNat:Int)==63)=true then chk (0<=1/\1<=(a.size:Int)) <|(Zak (a.extract (A9 1) a.size)).bind fun c=>some c else some false else some false
def ZaT(b:BYT):Option Bool:=
 (Zak b).bind fun c=>if c=true then some true else (Zd5 b).bind fun a=>some a
def XH(c:Zo):Option Bool:=
 (ZeQ c.rel).bind fun d=>if d=true then if (decide (3<(c.args.length:Int)))=true then some false else forL (σ:=Unit) (fun (e:Nat) (a:BYT) _=>(ZaT a).bind fun b=>if b=true then some (.inl ()) else some (.inr false)) (fun _=>some true) c.args 0 () else some false
def Qb(a:List Zx):Option Bool:=
 if (decide (6<(a.length:Int)))=true then some false else forL (σ:=Unit) (fun (c:Nat) (b:Zx) _=>(Zd5 b.var).bind fun d=>if d=true then (Zak b.value).bind fun e=>if e=true then if (decide (0<(c:Int)))=true then (atI a (i64.wrap ((c:Int) - 1))).bind fun f=>if (sLt f.var b.var)=true then some (.inl ()) else some (.inr false) else some (.inl ()) else some (.inr false) else some (.inr false)) (fun _=>some true) a 0 ()
def Zb0(d:List Zx)(c:BYT):Option (BYT×Bool):=
 (Zak c).bind fun e=>if e=true then some (c,true) else (Zd5 c).bind fun b=>if b=true then forL (σ:=Unit) (fun (f:Nat) (a:Zx) _=>if (sEq a.var c)=true then some (.inr (a.value,true)) else some (.inl ())) (fun _=>some ((⟨#[]⟩),false)) d 0 () else some ((⟨#[]⟩),false)
def Xu(e:Zo)(f:List Zx):Option (Za×Bool):=
 (XH e).bind fun g=>if g=true then (Qb f).bind fun c=>if c=true then forL (σ:=(List BYT)) (fun (h:Nat) (d:BYT) a=>(Zb0 f d).bind fun b=>if b.2=true then chk (a.length+1<=1073741824) <|some (.inl (a++[b.1])) else some (.inr (({ rel:=(⟨#[]⟩),args:=[] }:Za),false))) (fun a=>some (({ rel:=e.rel,args:=a }:Za),true)) e.args 0 [] else some (({ rel:=(⟨#[]⟩),args:=[] }:Za),false) else some (({ rel:=(⟨#[]⟩),args:=[] }:Za),false)
def Zb1(a:List BYT):Option (List BYT):=
 chk (a.length<=1073741824) <|some a
def YZ(a:Za):Option Za:=
 (Zb1 a.args).bind fun b=>some ({ rel:=a.rel,args:=b }:Za)
def Qy(a b:Int):Option Int:=
 if (decide (a<b))=true then some (-1) else if (decide (b<a))=true then some 1 else some 0
def Zb8(a:Int):Option BYT:=
 (Zsl a).bind fun b=>some b
def ZaR(c:BYT):Option (Int×Bool):=
 if (decide ((c.size:Int)<1))=true then some (0,false) else if (decide (4<(c.size:Int)))=true then some (0,false) else (Zpd c).bind fun b=>if b.2=true then if (decide (b.1<0))=true then some (0,false) else if (decide (9999<b.1))=true then some (0,false) else (Zb8 b.1).bind fun a=>if (sEq a c)=true then some (b.1,true) else some (0,false) else some (0,false)
def Zax(d e:BYT):Option Int:=
 (ZaR d).bind fun f=>(ZaR e).bind fun a=>if f.2=true then if a.2=true then (Qy f.1 a.1).bind fun b=>some b else some (-1) else if a.2=true then some 1 else (Zgf d e).bind fun c=>some c
def QH(h a:Za):Option Int:=
 (Zgf h.rel a.rel).bind fun i=>if (i != 0)=true then some i else forL (σ:=Unit) (fun (b:Nat) (d:BYT) _=>if (decide ((b:Int)<(a.args.length:Int)))=true then (atI a.args (b:Int)).bind fun e=>(Zax d e).bind fun c=>if (c != 0)=true then some (.inr c) else some (.inl ()) else (Qy (h.args.length:Int) (a.args.length:Int)).bind fun f=>some (.inr f)) (fun _=>(Qy (h.args.length:Int) (a.args.length:Int)).bind fun g=>some g) h.args 0 ()
def X8(k:List Za)(h:Za):Option (List Za):=
 forL (σ:=(List Za)×Bool) (fun (l:Nat) (b:Za) s=>match s with |(a,c)=>if c=true then (YZ b).bind fun d=>chk (a.length+1<=1073741824) <|some (.inl ((a++[d]),true)) else (QH b h).bind fun e=>if (decide (0<e))=true then (YZ h).bind fun f=>chk (a.length+1<=1073741824) <|(YZ b).bind fun g=>chk (a.length+1+1<=1073741824) <|some (.inl (((a++[f])++[g]),true)) else (YZ b).bind fun i=>chk (a.length+1<=1073741824) <|some (.inl ((a++[i]),false))) (fun s=>match s with |(a,c)=>if c=true then some a else (YZ h).bind fun j=>chk (a.length+1<=1073741824) <|some (a++[j])) k 0 ([],false)
def Zb7(d:List Za):Option (List Za):=
 forL (σ:=(List Za)) (fun (e:Nat) (b:Za) a=>(YZ b).bind fun c=>chk (a.length+1<=1073741824) <|some (.inl (a++[c]))) (fun a=>some a) d 0 []
def XF(a:Zo):Option Bool:=
 if (sEq a.rel ⟨#[]⟩)=true then some ((a.args.length:Int)==0) else some false
def ZeB(h:Zu):Option Bool:=
 if (h.kind==1)=true then (XH h.pattern).bind fun l=>if l=true then if (sEq h.left ⟨#[]⟩)=true then some (sEq h.right ⟨#[]⟩) else some false else some false else if (h.kind==2)=true then (XH h.pattern).bind fun a=>if a=true then if (sEq h.left ⟨#[]⟩)=true then some (sEq h.right ⟨#[]⟩) else some false else some false else if (h.kind==3)=true then (ZaT h.left).bind fun b=>if b=true then (ZaT h.right).bind fun c=>if c=true then (XF h.pattern).bind fun d=>some d else some false else some false else if (h.kind==4)=true then (ZaT h.left).bind fun e=>if e=true then (ZaT h.right).bind fun f=>if f=true then (XF h.pattern).bind fun g=>some g else some false else some false else if (h.kind==5)=true then (ZaT h.left).bind fun i=>if i=true then (ZaT h.right).bind fun j=>if j=true then (XF h.pattern).bind fun k=>some k else some false else some false else some false
def Zf0(c:Za):Option Bool:=
 (ZeQ c.rel).bind fun d=>if d=true then if (decide (3<(c.args.length:Int)))=true then some false else forL (σ:=Unit) (fun (e:Nat) (a:BYT) _=>(Zak a).bind fun b=>if b=true then some (.inl ()) else some (.inr false)) (fun _=>some true) c.args 0 () else some false
def ZbZ(a:List Zx):Option (List Zx):=
 chk (a.length<=1073741824) <|some a
def ZhR(h:List Zx)(b j:BYT):Option ((List Zx)×Bool):=
 (Qb h).bind fun k=>if k=true then (Zd5 b).bind fun f=>if f=true then (Zak j).bind fun g=>if g=true then (Zb0 h b).bind fun e=>if e.2=true then if (sEq e.1 j)=true then (ZbZ h).bind fun i=>some (i,true) else some ([],false) else if (decide (6<=(h.length:Int)))=true then some ([],false) else forL (σ:=(List Zx)×Bool) (fun (l:Nat) (c:Zx) s=>match s with |(a,d)=>if d=true then chk (a.length+1<=1073741824) <|some (.inl ((a++[c]),true)) else if (sLt c.var b||sEq c.var b)=true then chk (a.length+1<=1073741824) <|some (.inl ((a++[c]),false)) else chk (a.length+1<=1073741824) <|chk (a.length+1+1<=1073741824) <|some (.inl (((a++[({ var:=b,value:=j }:Zx)])++[c]),true))) (fun s=>match s with |(a,d)=>if d=true then some (a,true) else chk (a.length+1<=1073741824) <|some ((a++[({ var:=b,value:=j }:Zx)]),true)) h 0 ([],false) else some ([],false) else some ([],false) else some ([],false)
def Zb3(h:Zo)(a:Za)(m:List Zx):Option ((List Zx)×Bool):=
 (XH h).bind fun n=>if n=true then (Zf0 a).bind fun f=>if f=true then (Qb m).bind fun g=>if g=true then if (sEq h.rel a.rel)=true then if ((h.args.length:Int) != (a.args.length:Int))=true then some ([],false) else (ZbZ m).bind fun i=>forL (σ:=(List Zx)) (fun (d:Nat) (c:BYT) b=>(Zak c).bind fun j=>if j=true then (atI a.args (d:Int)).bind fun k=>if (sEq c k)=true then some (.inl b) else some (.inr ([],false)) else (atI a.args (d:Int)).bind fun l=>(ZhR b c l).bind fun e=>if e.2=true then some (.inl e.1) else some (.inr ([],false))) (fun b=>some (b,true)) h.args 0 i else some ([],false) else some ([],false) else some ([],false) else some ([],false)
def X9(e:Zo)(f:List Zx)(g:List Za):Option (List Za):=
 forL (σ:=(List Za)) (fun (h:Nat) (b:Za) a=>(Zb3 e b f).bind fun c=>if c.2=true then (YZ b).bind fun d=>chk (a.length+1<=1073741824) <|some (.inl (a++[d])) else some (.inl a)) (fun a=>some a) g 0 []
def Zks(a:Zu):Option Bool:=
 (ZeB a).bind fun b=>if b=true then some (decide (3<=a.kind)) else some false
def ZdB(f:Zu)(g:List Zx):Option Bool:=
 (Zks f).bind fun h=>if h=true then (Qb g).bind fun e=>if e=true then (Zb0 g f.left).bind fun a=>(Zb0 g f.right).bind fun b=>if a.2=true then if b.2=true then if (f.kind==3)=true then some (sEq a.1 b.1) else if (f.kind==4)=true then some (!(sEq a.1 b.1)) else (ZaR a.1).bind fun c=>(ZaR b.1).bind fun d=>if c.2=true then if d.2=true then some (decide (c.1<d.1)) else some false else some false else some false else some false else some false else some false
def Zdz(g:Zu)(a:List Zx)(b:List Za):Option Bool:=
 (ZeB g).bind fun h=>if h=true then (Qb a).bind fun c=>if c=true then if (g.kind==1)=true then (X9 g.pattern a b).bind fun d=>some (decide (0<(d.length:Int))) else if (g.kind==2)=true then (X9 g.pattern a b).bind fun e=>some ((e.length:Int)==0) else (ZdB g a).bind fun f=>some f else some false else some false
def Q3(l:List Zu)(h:List Za):Option (List Zw):=
 forL (σ:=(List Zw)) (fun (m:Nat) (d:Zu) e=>forL (σ:=(List Zw)) (fun (n:Nat) (c:Zw) a=>if (d.kind != 1)=true then (Zdz d c.binding h).bind fun j=>if j=true then chk (a.length+1<=1073741824) <|some (.inl (a++[c])) else some (.inl a) else forL (σ:=(List Zw)) (fun (o:Nat) (f:Za) b=>(Zb3 d.pattern f c.binding).bind fun g=>if g.2=true then (Zb7 c.facts).bind fun i=>(YZ f).bind fun k=>chk (i.length+1<=1073741824) <|chk (b.length+1<=1073741824) <|some (.inl (b++[({ facts:=(i++[k]),binding:=g.1 }:Zw)])) else some (.inl b)) (fun b=>some (.inl b)) h 0 a) (fun a=>some (.inl a)) e 0 []) (fun e=>some e) l 0 ([({ facts:=[],binding:=[] }:Zw)])
def YX(c:Zf):Option (List Zu):=
 forL (σ:=(List Zu)) (fun (d:Nat) (b:Zu) a=>if (b.kind != 2)=true then chk (a.length+1<=1073741824) <|some (.inl (a++[b])) else some (.inl a)) (fun a=>some a) c.cond 0 []
def Zc3(a:List Za):Option Bool:=
 if (decide (24<(a.length:Int)))=true then some false else forL (σ:=Unit) (fun (b:Nat) (c:Za) _=>(Zf0 c).bind fun d=>if d=true then if (decide (0<(b:Int)))=true then (atI a (i64.wrap ((b:Int) - 1))).bind fun e=>(QH e c).bind fun f=>if (decide (0<=f))=true then some (.inr false) else some (.inl ()) else some (.inl ()) else some (.inr false)) (fun _=>some true) a 0 ()
def Qz(b:List Zf)(c:BYT):Option Int:=
 forL (σ:=Unit) (fun (d:Nat) (a:Zf) _=>if (sEq a.name c)=true then some (.inr (d:Int)) else some (.inl ())) (fun _=>some (-1)) b 0 ()
def Zaz(d:List BYT):Option (List BYT):=
 forL (σ:=(List BYT)) (fun (e:Nat) (b:BYT) a=>(Zd5 b).bind fun c=>if c=true then chk (a.length+1<=1073741824) <|some (.inl (a++[b])) else some (.inl a)) (fun a=>some a) d 0 []
def YM(f:List BYT):Option (List BYT):=
 chk (f.length<=1073741824) <|(Zdn f).bind fun e=>forL (σ:=(List BYT)) (fun (b:Nat) (c:BYT) a=>if ((b:Int)==0)=true then chk (a.length+1<=1073741824) <|some (.inl (a++[c])) else chk (0<=(i64.wrap ((b:Int) - 1))/\(i64.wrap ((b:Int) - 1))<(e.length:Int)) <|(e[(A9 (i64.wrap ((b:Int) - 1)))]?).bind fun d=>if (sEq d c)=true then some (.inl a) else chk (a.length+1<=1073741824) <|some (.inl (a++[c]))) (fun a=>some a) e 0 []
def ZaP(e:Zf)(f:Int):Option (List BYT):=
 forL (σ:=(List BYT)) (fun (g:Nat) (b:Zu) a=>if (decide ((g:Int)<f))=true then if (b.kind==1)=true then (Zaz b.pattern.args).bind fun c=>chk (a.length+c.length<=1073741824) <|some (.inl (a++c)) else some (.inl a) else some (.inl a)) (fun a=>(YM a).bind fun d=>some d) e.cond 0 []
def XL(b:List BYT)(c:BYT):Option Bool:=
 forL (σ:=Unit) (fun (d:Nat) (a:BYT) _=>if (sEq a c)=true then some (.inr true) else some (.inl ())) (fun _=>some false) b 0 ()
def Zja(a:Zu):Option (List BYT):=
 (Zb1 a.pattern.args).bind fun b=>chk (b.length+2<=1073741824) <|some (b++[a.left,a.right])
def Zab(c:Zu):Option (List BYT):=
 (Zja c).bind fun d=>(Zaz d).bind fun a=>(YM a).bind fun b=>some b
def Qg(g:Zf)(h:Int)(a:BYT):Option Bool:=
 forL (σ:=Unit) (fun (i:Nat) (b:Zu) _=>if ((i:Int) != h)=true then (Zab b).bind fun c=>(XL c a).bind fun d=>if d=true then some (.inr true) else some (.inl ()) else some (.inl ())) (fun _=>forL (σ:=Unit) (fun (j:Nat) (e:Zy) _=>(XL e.pattern.args a).bind fun f=>if f=true then some (.inr true) else some (.inl ())) (fun _=>some false) g.thn 0 ()) g.cond 0 ()
def Zc0(a:Zf)(b:Int):Option Bool:=
 (atI a.cond b).bind fun c=>(ZaP a b).bind fun e=>(Zab c).bind fun f=>forL (σ:=Unit) (fun (h:Nat) (d:BYT) _=>if (c.kind==1)=true then some (.inl ()) else (XL e d).bind fun g=>if g=true then some (.inl ()) else if (c.kind != 2)=true then some (.inr false) else (Qg a b d).bind fun i=>if i=true then some (.inr false) else some (.inl ())) (fun _=>some true) f 0 ()
def Zes(c:Zy):Option Bool:=
 if (c.kind==1)=true then (XH c.pattern).bind fun d=>some d else if (c.kind==2)=true then (XH c.pattern).bind fun a=>some a else if (c.kind==3)=true then (XF c.pattern).bind fun b=>some b else some false
def Zct(d:List Zu):Option (List BYT):=
 forL (σ:=(List BYT)) (fun (e:Nat) (c:Zu) a=>(Zab c).bind fun b=>chk (a.length+b.length<=1073741824) <|some (.inl (a++b))) (fun a=>some a) d 0 []
def ZeW(h:Zf):Option Bool:=
 (ZeQ h.name).bind fun o=>if o=true then if (decide (h.priority<0))=true then some false else if (decide (9<h.priority))=true then some false else if (decide ((h.cond.length:Int)<1))=true then some false else if (decide (4<(h.cond.length:Int)))=true then some false else if (decide ((h.thn.length:Int)<1))=true then some false else if (decide (2<(h.thn.length:Int)))=true then some false else forL (σ:=Unit) (fun (n:Nat) (a:Zu) _=>(ZeB a).bind fun c=>if c=true then if ((n:Int)==0)=true then if (a.kind != 1)=true then some (.inr false) else (Zc0 h (n:Int)).bind fun d=>if d=true then some (.inl ()) else some (.inr false) else (Zc0 h (n:Int)).bind fun e=>if e=true then some (.inl ()) else some (.inr false) else some (.inr false)) (fun _=>(ZaP h (h.cond.length:Int)).bind fun f=>forL (σ:=Unit) (fun (p:Nat) (b:Zy) _=>(Zes b).bind fun g=>if g=true then (Zaz b.pattern.args).bind fun i=>forL (σ:=Unit) (fun (q:Nat) (j:BYT) _=>(XL f j).bind fun k=>if k=true then some (.inl ()) else some (.inr (.inr false))) (fun _=>some (.inl ())) i 0 () else some (.inr false)) (fun _=>(Zct h.cond).bind fun l=>(YM l).bind fun m=>some (decide ((m.length:Int)<=6))) h.thn 0 ()) h.cond 0 () else some false
def ZeK(d:List Zf):Option Bool:=
 if (decide (6<(d.length:Int)))=true then some false else forL (σ:=Unit) (fun (e:Nat) (a:Zf) _=>(ZeW a).bind fun b=>if b=true then (Qz d a.name).bind fun c=>if (c != (e:Int))=true then some (.inr false) else some (.inl ()) else some (.inr false)) (fun _=>some true) d 0 ()
def Zex(b:Zf):Option Bool:=
 forL (σ:=Unit) (fun (c:Nat) (a:Zy) _=>if (a.kind != 1)=true then some (.inr false) else some (.inl ())) (fun _=>some true) b.thn 0 ()
def ZdJ(g:Zf):Option Bool:=
 (ZeW g).bind fun h=>if h=true then (Zex g).bind fun b=>if b=true then forL (σ:=Unit) (fun (i:Nat) (a:Zu) _=>if (a.kind != 2)=true then some (.inl ()) else (ZaP g (i:Int)).bind fun c=>(Zab a).bind fun d=>forL (σ:=Unit) (fun (j:Nat) (e:BYT) _=>(XL c e).bind fun f=>if f=true then some (.inl ()) else some (.inr (.inr false))) (fun _=>some (.inl ())) d 0 ()) (fun _=>some true) g.cond 0 () else some false else some false
def Q7(d:Zf):Option (List BYT):=
 forL (σ:=(List BYT)) (fun (e:Nat) (b:Zy) a=>if (b.kind==1)=true then chk (a.length+1<=1073741824) <|some (.inl (a++[b.pattern.rel])) else if (b.kind==2)=true then chk (a.length+1<=1073741824) <|some (.inl (a++[b.pattern.rel])) else some (.inl a)) (fun a=>(YM a).bind fun c=>some c) d.thn 0 []
def ZcR(d:Zf):Option (List BYT):=
 forL (σ:=(List BYT)) (fun (e:Nat) (b:Zu) a=>if (b.kind==1)=true then chk (a.length+1<=1073741824) <|some (.inl (a++[b.pattern.rel])) else if (b.kind==2)=true then chk (a.length+1<=1073741824) <|some (.inl (a++[b.pattern.rel])) else some (.inl a)) (fun a=>(YM a).bind fun c=>some c) d.cond 0 []
def ZeO(h:List Zf)(n:BYT):Option (List (BYT×Bool)):=
 iter (σ:=(List (BYT×Bool))×(List BYT)) (fun s=>match s with |(g,a)=>if (decide (0<(a.length:Int)))=true then chk (0<=0/\0<(a.length:Int)) <|(a[(A9 0)]?).bind fun j=>chk (0<=1/\1<=(a.length:Int)) <|forL (σ:=(List (BYT×Bool))×(List BYT)) (fun (o:Nat) (i:Zf) s=>match s with |(d,e)=>(Q7 i).bind fun k=>(XL k j).bind fun l=>if l=true then (ZcR i).bind fun m=>forL (σ:=(List (BYT×Bool))×(List BYT)) (fun (p:Nat) (f:BYT) s=>match s with |(b,c)=>if (Zbi b f false)=true then some (.inl (b,c)) else chk (c.length+1<=1073741824) <|some (.inl ((ZgQ b f true),(c++[f])))) (fun s=>match s with |(b,c)=>some (.inl (b,c))) m 0 (d,e) else some (.inl (d,e))) (fun s=>match s with |(d,e)=>some (.inl (d,e))) h 0 (g,(AH (A9 1) a)) else some (.inr g)) ([],[n])
def Zcn(g:List Zf):Option Bool:=
 (ZeK g).bind fun h=>if h=true then forL (σ:=Unit) (fun (i:Nat) (a:Zf) _=>(ZdJ a).bind fun d=>if d=true then forL (σ:=Unit) (fun (j:Nat) (b:Zu) _=>if (b.kind != 2)=true then some (.inl ()) else (ZeO g b.pattern.rel).bind fun e=>(Q7 a).bind fun f=>forL (σ:=Unit) (fun (k:Nat) (c:BYT) _=>if (sEq c b.pattern.rel)=true then some (.inr (.inr (.inr false))) else if (Zbi e c false)=true then some (.inr (.inr (.inr false))) else some (.inl ())) (fun _=>some (.inl ())) f 0 ()) (fun _=>some (.inl ())) a.cond 0 () else some (.inr false)) (fun _=>some true) g 0 () else some false
def YB(h:List Zf)(n:List Za):Option ((List Za)×Bool):=
 (Zcn h).bind fun r=>if r=true then (Zc3 n).bind fun k=>if k=true then (Zb7 n).bind fun l=>iter (σ:=(List Za)×Bool) (fun s=>match s with |(g,m)=>if m=true then forL (σ:=(List Za)×Bool) (fun (w:Nat) (i:Zf) s=>match s with |(b,c)=>(YX i).bind fun o=>(Q3 o b).bind fun p=>forL (σ:=(List Za)×Bool) (fun (x:Nat) (q:Zw) s=>match s with |(d,e)=>forL (σ:=(List Za)×Bool) (fun (y:Nat) (t:Zy) s=>match s with |(a,f)=>(Xu t.pattern q.binding).bind fun j=>(Yl a j.1).bind fun u=>if (decide (0<=u))=true then some (.inl (a,f)) else if (decide (24<=(a.length:Int)))=true then some (.inr (.inr (.inr (.inr ([],false))))) else (X8 a j.1).bind fun v=>some (.inl (v,true))) (fun s=>match s with |(a,f)=>some (.inl (a,f))) i.thn 0 (d,e)) (fun s=>match s with |(d,e)=>some (.inl (d,e))) p 0 (b,c)) (fun s=>match s with |(b,c)=>some (.inl (b,c))) h 0 (g,false) else some (.inr (g,true))) (l,true) else some ([],false) else some ([],false)
def ZhO(b:List Int)(c:Int):Option Bool:=
 forL (σ:=Unit) (fun (d:Nat) (a:Int) _=>if (a==c)=true then some (.inr true) else some (.inl ())) (fun _=>some false) b 0 ()
def Zcc(f g:List Za):Option (List Int):=
 forL (σ:=(List Int)) (fun (h:Nat) (c:Za) a=>(Yl f c).bind fun b=>if (decide (0<=b))=true then (ZhO a b).bind fun d=>if d=true then some (.inl a) else chk (a.length+1<=1073741824) <|some (.inl (a++[b])) else some (.inl a)) (fun a=>(ZgH a).bind fun e=>some e) g 0 []
def Zc4(e a:List Int):Option Bool:=
 if ((e.length:Int) != (a.length:Int))=true then some false else forL (σ:=Unit) (fun (b:Nat) (c:Int) _=>(atI a (b:Int)).bind fun d=>if (c != d)=true then some (.inr false) else some (.inl ())) (fun _=>some true) e 0 ()
def Zcj(b c:Zh):Option Bool:=
 if (b.for_==c.for_)=true then (Zc4 b.inn c.inn).bind fun d=>if d=true then (Zc4 b.outs c.outs).bind fun a=>some a else some false else some false
def ZaH(c:List Zh)(d:Zh):Option Bool:=
 forL (σ:=Unit) (fun (e:Nat) (a:Zh) _=>(Zcj a d).bind fun b=>if b=true then some (.inr true) else some (.inl ())) (fun _=>some false) c 0 ()
def ZyY(n:List Zf)(r:List Za):Option ((List Za)×Zl×(List Yz)×Bool):=
 (YB n r).bind fun h=>if h.2=true then forL (σ:=(List Zh)×(List Yz)) (fun (aa:Nat) (t:Za) s=>match s with |(d,e)=>(Yl h.1 t).bind fun u=>chk (d.length+1<=1073741824) <|chk (e.length+1<=1073741824) <|some (.inl ((d++[({ for_:=u,inn:=[],outs:=[] }:Zh)]),(e++[({ rule:=(⟨#[]⟩),facts:=[] }:Yz)])))) (fun s=>match s with |(d,e)=>forL (σ:=(List Zh)×(List Yz)) (fun (ab:Nat) (f:Zf) s=>match s with |(g,j)=>(YX f).bind fun v=>(Q3 v h.1).bind fun w=>forL (σ:=(List Zh)×(List Yz)) (fun (ac:Nat) (i:Zw) s=>match s with |(k,l)=>forL (σ:=(List Za)) (fun (ad:Nat) (m:Zu) b=>if (m.kind==2)=true then (Xu m.pattern i.binding).bind fun x=>chk (b.length+1<=1073741824) <|some (.inl (b++[x.1])) else some (.inl b)) (fun b=>forL (σ:=(List Zh)×(List Yz)) (fun (ae:Nat) (y:Zy) s=>match s with |(a,c)=>(Xu y.pattern i.binding).bind fun z=>(Yl h.1 z.1).bind fun o=>(Zcc h.1 i.facts).bind fun p=>(Zcc h.1 b).bind fun q=>(ZaH a ({ for_:=o,inn:=p,outs:=q }:Zh)).bind fun A=>if A=true then some (.inl (a,c)) else chk (a.length+1<=1073741824) <|chk (c.length+1<=1073741824) <|some (.inl ((a++[({ for_:=o,inn:=p,outs:=q }:Zh)]),(c++[({ rule:=f.name,facts:=i.facts }:Yz)])))) (fun s=>match s with |(a,c)=>some (.inl (a,c))) f.thn 0 (k,l)) f.cond 0 []) (fun s=>match s with |(k,l)=>some (.inl (k,l))) w 0 (g,j)) (fun s=>match s with |(g,j)=>if (decide (60<(g.length:Int)))=true then some ([],({ nodes:=0,reasons:=[] }:Zl),[],false) else some (h.1,({ nodes:=(h.1.length:Int),reasons:=g }:Zl),j,true)) n 0 (d,e)) r 0 ([],[]) else some ([],({ nodes:=0,reasons:=[] }:Zl),[],false)
def Zbv(n:List Zf)(r:List Za):Option ((List Za)×Zl×(List Yz)×Bool):=
 (YB n r).bind fun h=>if h.2=true then forL (σ:=(List Zh)×(List Yz)) (fun (aa:Nat) (t:Za) s=>match s with |(d,e)=>(Yl h.1 t).bind fun u=>chk (d.length+1<=1073741824) <|chk (e.length+1<=1073741824) <|some (.inl ((d++[({ for_:=u,inn:=[],outs:=[] }:Zh)]),(e++[({ rule:=(⟨#[]⟩),facts:=[] }:Yz)])))) (fun s=>match s with |(d,e)=>forL (σ:=(List Zh)×(List Yz)) (fun (ab:Nat) (f:Zf) s=>match s with |(g,j)=>(YX f).bind fun v=>(Q3 v h.1).bind fun w=>forL (σ:=(List Zh)×(List Yz)) (fun (ac:Nat) (i:Zw) s=>match s with |(k,l)=>forL (σ:=(List Za)) (fun (ad:Nat) (m:Zu) b=>if (m.kind==2)=true then (Xu m.pattern i.binding).bind fun x=>chk (b.length+1<=1073741824) <|some (.inl (b++[x.1])) else some (.inl b)) (fun b=>forL (σ:=(List Zh)×(List Yz)) (fun (ae:Nat) (y:Zy) s=>match s with |(a,c)=>(Xu y.pattern i.binding).bind fun z=>(Yl h.1 z.1).bind fun o=>(Zcc h.1 i.facts).bind fun p=>(Zcc h.1 b).bind fun q=>(ZaH a ({ for_:=o,inn:=p,outs:=q }:Zh)).bind fun A=>if A=true then some (.inl (a,c)) else chk (a.length+1<=1073741824) <|chk (c.length+1<=1073741824) <|some (.inl ((a++[({ for_:=o,inn:=p,outs:=q }:Zh)]),(c++[({ rule:=f.name,facts:=i.facts }:Yz)])))) (fun s=>match s with |(a,c)=>some (.inl (a,c))) f.thn 0 (k,l)) f.cond 0 []) (fun s=>match s with |(k,l)=>some (.inl (k,l))) w 0 (g,j)) (fun s=>match s with |(g,j)=>if (decide (60<(g.length:Int)))=true then some ([],({ nodes:=0,reasons:=[] }:Zl),[],false) else some (h.1,({ nodes:=(h.1.length:Int),reasons:=g }:Zl),j,true)) n 0 (d,e)) r 0 ([],[]) else some ([],({ nodes:=0,reasons:=[] }:Zl),[],false)
def Zai(b:List Zf)(c:List Za):Option ((List Za)×Zl×Bool):=
 (Zbv b c).bind fun a=>some (a.1,a.2.1,a.2.2.2)
def ZiK(d:Zl):Option (List Int):=
 chk (0<=d.nodes/\d.nodes<=1073741824) <|iter (σ:=(List Int)×Bool) (fun s=>match s with |(j,o)=>if o=true then forL (σ:=(List Int)×Bool) (fun (h:Nat) (b:Zh) s=>match s with |(a,f)=>chk (0<=b.for_/\b.for_<(a.length:Int)) <|(a[(A9 b.for_)]?).bind fun k=>forL (σ:=Int) (fun (n:Nat) (g:Int) e=>chk (0<=g/\g<(a.length:Int)) <|(a[(A9 g)]?).bind fun l=>some (.inl (if e<l then l else e))) (fun e=>forL (σ:=Int) (fun (p:Nat) (i:Int) c=>chk (0<=i/\i<(a.length:Int)) <|(a[(A9 i)]?).bind fun m=>some (.inl (if c<(i64.wrap (m+1)) then (i64.wrap (m+1)) else c))) (fun c=>if (decide (k<c))=true then some (.inl ((AC a (A9 b.for_) c),true)) else some (.inl (a,f))) b.outs 0 e) b.inn 0 k) (fun s=>match s with |(a,f)=>some (.inl (a,f))) d.reasons 0 (j,false) else some (.inr j)) ((AJ (A9 d.nodes) 0),true)
def ZbS(f:Zh)(a:List Int)(g:Int):Option Bool:=
 forL (σ:=Unit) (fun (h:Nat) (c:Int) _=>(atI a c).bind fun b=>if (decide (b<0))=true then some (.inr false) else if (decide (g<=b))=true then some (.inr false) else some (.inl ())) (fun _=>forL (σ:=Unit) (fun (i:Nat) (d:Int) _=>(atI a d).bind fun e=>if (decide (0<=e))=true then some (.inr false) else some (.inl ())) (fun _=>some true) f.outs 0 ()) f.inn 0 ()
def Zif(d:Zl):Option (List Int):=
 (ZiK d).bind fun h=>chk (0<=d.nodes/\d.nodes<=1073741824) <|iter (σ:=(List Int)×Int×Int) (fun s=>match s with |(g,a,l)=>if (decide (a<((A9 d.nodes:Nat):Int)))=true then chk (0<=a/\a<(g.length:Int)) <|(g[(A9 a)]?).bind fun t=>chk (a<(h.length:Int)) <|(h[(A9 a)]?).bind fun m=>some (.inl ((AC g (A9 a) (-1)),(i64.wrap (a+1)),(if l<m then m else l))) else iter (σ:=(List Int)×Int×Int) (fun s=>match s with |(e,i,j)=>if (decide (j<=l))=true then forL (σ:=(List Int)) (fun (n:Nat) (c:Zh) b=>chk (0<=c.for_/\c.for_<(h.length:Int)) <|(h[(A9 c.for_)]?).bind fun o=>if (o==j)=true then chk (c.for_<(e.length:Int)) <|(e[(A9 c.for_)]?).bind fun p=>if (decide (p<0))=true then (ZbS c e i).bind fun q=>if q=true then chk (b.length+1<=1073741824) <|some (.inl (b++[c.for_])) else some (.inl b) else some (.inl b) else some (.inl b)) (fun b=>if ((b.length:Int)==0)=true then some (.inl (e,i,(i64.wrap (j+1)))) else forL (σ:=(List Int)) (fun (r:Nat) (k:Int) f=>chk (0<=k/\k<(f.length:Int)) <|(f[(A9 k)]?).bind fun u=>some (.inl (AC f (A9 k) i))) (fun f=>some (.inl (f,(i64.wrap (i+1)),j))) b 0 e) d.reasons 0 [] else some (.inr (.inr e))) (g,0,0)) ((AJ (A9 d.nodes) 0),0,0)
def Zij(c:Zl):Option (List Bool):=
 (Zif c).bind fun d=>forL (σ:=(List Bool)) (fun (e:Nat) (b:Int) a=>chk (a.length+1<=1073741824) <|some (.inl (a++[(decide (0<=b))]))) (fun a=>some a) d 0 []
def Ze0(b:List Za)(g:Zl):Option (List Za):=
 (Zij g).bind fun h=>forL (σ:=(List Za)) (fun (c:Nat) (d:Bool) a=>if d=true then (atI b (c:Int)).bind fun e=>(YZ e).bind fun f=>chk (a.length+1<=1073741824) <|some (.inl (a++[f])) else some (.inl a)) (fun a=>some a) h 0 []
def Za9(c:List Zf)(d:List Za):Option ((List Za)×Bool):=
 (Zai c d).bind fun b=>if b.2.2=true then (Ze0 b.1 b.2.1).bind fun a=>some (a,true) else some ([],false)
def ZeA(b:Zf)(a:Int)(c:List Za):Option (List Zw):=
 (ZeW b).bind fun f=>if f=true then (Zc3 c).bind fun d=>if d=true then if (decide (a<0))=true then some [] else if (decide ((b.cond.length:Int)<a))=true then some [] else chk (0<=a/\a<=(b.cond.length:Int)) <|(Q3 (AH 0 (AP (A9 a) b.cond)) c).bind fun e=>some e else some [] else some []
def ZdR(f a:List Za):Option Bool:=
 if ((f.length:Int) != (a.length:Int))=true then some false else forL (σ:=Unit) (fun (b:Nat) (c:Za) _=>(atI a (b:Int)).bind fun d=>(Zad c d).bind fun e=>if e=true then some (.inl ()) else some (.inr false)) (fun _=>some true) f 0 ()
def Qf(c:Zf)(d e:List Za):Option (Zw×Bool):=
 (ZeA c (c.cond.length:Int) d).bind fun f=>forL (σ:=Unit) (fun (g:Nat) (a:Zw) _=>(ZdR a.facts e).bind fun b=>if b=true then some (.inr (a,true)) else some (.inl ())) (fun _=>some (({ facts:=[],binding:=[] }:Zw),false)) f 0 ()
def ZbN(c:List Zf)(m n:List Za)(d:List Zz)(h:Zz):Option Bool:=
 if (sEq h.rule ⟨#[]⟩)=true then if ((h.uses.length:Int)==0)=true then (Yl m h.fact).bind fun o=>some (decide (0<=o)) else some false else (Qz c h.rule).bind fun e=>if (decide (e<0))=true then some false else forL (σ:=(List Za)) (fun (p:Nat) (b:Int) a=>if (decide (b<0))=true then some (.inr false) else if (decide ((d.length:Int)<=b))=true then some (.inr false) else (atI d b).bind fun j=>chk (a.length+1<=1073741824) <|some (.inl (a++[j.fact]))) (fun a=>(atI c e).bind fun f=>(Qf f n a).bind fun g=>if g.2=true then forL (σ:=Unit) (fun (q:Nat) (k:Zy) _=>(Xu k.pattern g.1.binding).bind fun i=>if i.2=true then (Zad i.1 h.fact).bind fun l=>if l=true then some (.inr true) else some (.inl ()) else some (.inl ())) (fun _=>some false) f.thn 0 () else some false) h.uses 0 []
def QR(e:List Zf)(f:List Za)(c:List Zz):Option Bool:=
 (Za9 e f).bind fun g=>if g.2=true then if (decide (60<(c.length:Int)))=true then some false else forL (σ:=Unit) (fun (d:Nat) (a:Zz) _=>chk (0<=(d:Int)/\(d:Int)<=(c.length:Int)) <|(ZbN e f g.1 (AH 0 (AP d c)) a).bind fun b=>if b=true then some (.inl ()) else some (.inr false)) (fun _=>some true) c 0 () else some false
def ZeP(a:Zf)(b:Int)(c:List Za):Option (List Zw):=
 (XU a).bind fun g=>if g=true then (ZcZ c).bind fun d=>if d=true then (XV b 0 (a.cond.length:Int)).bind fun e=>if e=true then chk (0<=b/\b<=(a.cond.length:Int)) <|(QY (AH 0 (AP (A9 b) a.cond)) c).bind fun f=>some f else some [] else some [] else some []
def Zfz(f a:List Za):Option Bool:=
 if ((f.length:Int) != (a.length:Int))=true then some false else forL (σ:=Unit) (fun (b:Nat) (c:Za) _=>(atI a (b:Int)).bind fun d=>(Zfa c d).bind fun e=>if e=true then some (.inl ()) else some (.inr false)) (fun _=>some true) f 0 ()
def ZeE(c:Zf)(d e:List Za):Option (Zw×Bool):=
 (ZeP c (c.cond.length:Int) d).bind fun f=>forL (σ:=Unit) (fun (g:Nat) (a:Zw) _=>(Zfz a.facts e).bind fun b=>if b=true then some (.inr (a,true)) else some (.inl ())) (fun _=>some (({ facts:=[],binding:=[] }:Zw),false)) f 0 ()
def Zf1(b:List Zf)(n p:List Za)(c:List Zz)(h:Zz):Option Bool:=
 if (sEq h.rule ⟨#[]⟩)=true then if ((h.uses.length:Int)==0)=true then (Xs n h.fact).bind fun q=>some (decide (0<=q)) else some false else (Ze3 b h.rule).bind fun d=>forL (σ:=(List Za)) (fun (r:Nat) (e:Int) a=>(XV e 0 (i64.wrap ((c.length:Int) - 1))).bind fun k=>if k=true then (atI c e).bind fun l=>chk (a.length+1<=1073741824) <|some (.inl (a++[l.fact])) else some (.inr false)) (fun a=>if (decide (d<0))=true then some false else (atI b d).bind fun f=>(ZeE f p a).bind fun g=>forL (σ:=Bool) (fun (s:Nat) (m:Zy) i=>if i=true then (Xr m.pattern g.1.binding).bind fun j=>if j.2=true then (Zfa j.1 h.fact).bind fun o=>if o=true then some (.inr true) else some (.inl true) else some (.inl true) else some (.inr false)) (fun i=>some false) f.thn 0 g.2) h.uses 0 []
def Zgl(e:List Zf)(f:List Za)(c:List Zz):Option Bool:=
 (QK e f).bind fun g=>if g.2=true then if (decide (60<(c.length:Int)))=true then some false else forL (σ:=Unit) (fun (d:Nat) (a:Zz) _=>chk (0<=(d:Int)/\(d:Int)<=(c.length:Int)) <|(Zf1 e f g.1 (AH 0 (AP d c)) a).bind fun b=>if b=true then some (.inl ()) else some (.inr false)) (fun _=>some true) c 0 () else some false
def ZK5(a:List Int)(b:Int):Option Int:=
 if (decide ((a.length:Int)<=b))=true then some 0 else (atI a b).bind fun c=>some (i64.wrap c)
def ZJP(b:List Zz)(d:Int):Option (List Zz):=
 if (decide (d<0))=true then some [] else if (decide ((b.length:Int)<=d))=true then some [] else chk (0<=(b.length:Int)/\(b.length:Int)<=1073741824) <|chk (0<=d/\d<(b.length:Int)) <|((AJ b.length false)[(A9 d)]?).bind fun u=>iter (σ:=(List Bool)×Int) (fun s=>match s with |(k,i)=>if (decide (0<=i))=true then (atI b i).bind fun m=>forL (σ:=(List Bool)) (fun (n:Nat) (j:Int) a=>chk (i<(a.length:Int)) <|(a[(A9 i)]?).bind fun o=>if o=true then if (decide (0<=j))=true then if (decide (j<i))=true then chk (0<=j/\j<(a.length:Int)) <|(a[(A9 j)]?).bind fun v=>some (.inl (AC a (A9 j) true)) else some (.inl a) else some (.inl a) else some (.inl a)) (fun a=>some (.inl (a,(i64.wrap (i - 1))))) m.uses 0 k else forL (σ:=(List Int)×(List Zz)) (fun (h:Nat) (l:Zz) s=>match s with |(e,f)=>chk (0<=(h:Int)/\(h:Int)<(k.length:Int)) <|(k[h]?).bind fun p=>if p=true then chk ((h:Int)<(e.length:Int)) <|(e[h]?).bind fun w=>(YZ l.fact).bind fun q=>forL (σ:=(List Int)) (fun (r:Nat) (g:Int) c=>if (decide (0<=g))=true then if (decide (g<(h:Int)))=true then chk (0<=g/\g<(e.length:Int)) <|((AC e h (f.length:Int))[(A9 g)]?).bind fun t=>chk (c.length+1<=1073741824) <|some (.inl (c++[t])) else chk (c.length+1<=1073741824) <|some (.inl (c++[g])) else chk (c.length+1<=1073741824) <|some (.inl (c++[g]))) (fun c=>chk (f.length+1<=1073741824) <|some (.inl ((AC e h (f.length:Int)),(f++[({ fact:=q,rule:=l.rule,uses:=c }:Zz)])))) l.uses 0 [] else some (.inl (e,f))) (fun s=>match s with |(e,f)=>some (.inr f)) b 0 ((AJ b.length 0),[])) ((AC (AJ b.length false) (A9 d) true),d)
def ZKr(a:List BYT)(b:BYT):Option BYT:=
 (ZKD a b).bind fun c=>some c
def ZJR(b:Za):Option BYT:=
 (Zf0 b).bind fun c=>if c=true then chk (b.rel.size+(⟨#[40]⟩:BYT).size<=9223372036854775807) <|(ZKr b.args (⟨#[44]⟩)).bind fun a=>chk ((b.rel++(⟨#[40]⟩:BYT)).size+a.size<=9223372036854775807) <|chk (((b.rel++(⟨#[40]⟩:BYT))++a).size+(⟨#[41]⟩:BYT).size<=9223372036854775807) <|some (((b.rel++(⟨#[40]⟩:BYT))++a)++(⟨#[41]⟩:BYT)) else some (⟨#[]⟩)
def ZJT(e:Zz):Option BYT:=
 (Zf0 e.fact).bind fun f=>if f=true then (ZJR e.fact).bind fun a=>if (sEq e.rule ⟨#[]⟩)=true then chk (a.size+(⟨#[32,103,105,118,101,110]⟩:BYT).size<=9223372036854775807) <|some (a++(⟨#[32,103,105,118,101,110]⟩:BYT)) else chk ((⟨#[32,98,121,32]⟩:BYT).size+e.rule.size<=9223372036854775807) <|chk (((⟨#[32,98,121,32]⟩:BYT)++e.rule).size+(⟨#[32,102,114,111,109]⟩:BYT).size<=9223372036854775807) <|chk (a.size+(((⟨#[32,98,121,32]⟩:BYT)++e.rule)++(⟨#[32,102,114,111,109]⟩:BYT)).size<=9223372036854775807) <|forL (σ:=BYT) (fun (g:Nat) (d:Int) b=>(Zb8 d).bind fun c=>chk ((⟨#[32]⟩:BYT).size+c.size<=9223372036854775807) <|chk (b.size+((⟨#[32]⟩:BYT)++c).size<=9223372036854775807) <|some (.inl (b++((⟨#[32]⟩:BYT)++c)))) (fun b=>some b) e.uses 0 (a++(((⟨#[32,98,121,32]⟩:BYT)++e.rule)++(⟨#[32,102,114,111,109]⟩:BYT))) else some (⟨#[]⟩)
def ZJX(h:List Int):Option Bool:=
 (Zxa h).bind fun r=>if r=true then some true else (Zbr h).bind fun a=>(QR a.1 a.2.1 a.2.2).bind fun e=>(Zgl a.1 a.2.1 a.2.2).bind fun f=>if (e==f)=true then if ((a.2.2.length:Int)==0)=true then some true else (QR a.1 a.2.1 a.2.2).bind fun g=>if g=true then (ZK5 h 0).bind fun c=>chk (¬(a.2.2.length:Int)=0) <|(ZJP a.2.2 (Int.tmod c (a.2.2.length:Int))).bind fun b=>(ZJP b (i64.wrap ((b.length:Int) - 1))).bind fun d=>if ((b.length:Int)==0)=true then some false else if (decide ((i64.wrap ((Int.tmod c (a.2.2.length:Int))+1))<(b.length:Int)))=true then some false else if ((d.length:Int) != (b.length:Int))=true then some false else (QR a.1 a.2.1 b).bind fun i=>if i=true then chk (0<=(i64.wrap ((b.length:Int) - 1))/\(i64.wrap ((b.length:Int) - 1))<(b.length:Int)) <|(b[(A9 (i64.wrap ((b.length:Int) - 1)))]?).bind fun j=>(atI a.2.2 (Int.tmod c (a.2.2.length:Int))).bind fun k=>(XQ j.fact k.fact).bind fun l=>if (l != 0)=true then some false else forL (σ:=Unit) (fun (n:Nat) (m:Zz) _=>(ZJT m).bind fun o=>chk (0<=(n:Int)/\(n:Int)<(d.length:Int)) <|(d[n]?).bind fun p=>(ZJT p).bind fun q=>if (sEq o q)=true then some (.inl ()) else some (.inr false)) (fun _=>some true) b 0 () else some false else some true else some false
end
theorem Ze5(a b:BYT):toL (a++b)=toL a++toL b:=by simp [toL]
theorem ZwF(a b:List UInt8):ofL (a++b)=ofL a++ofL b:=Zg1 (by rw [Ze5,Zdj,Zdj,Zdj])
theorem ZiG(a:List UInt8):(ofL a).size=a.length:=by rw [<-Zd8,Zdj]
theorem ZA3(a b c:BYT):(a++b)++c=a++(b++c):=Zg1 (by simp only[Ze5,List.append_assoc])
theorem ZCK(a b:BYT):(a++b).size=a.size+b.size:=by rw [<-Zd8,<-Zd8,<-Zd8,Ze5,AQ]
theorem ZfB{n:Int}(B:-9223372036854775808<=n)(A:n<=9223372036854775807):i64.wrap n=n:=by rw [IntKind.wrap_i64];omega
theorem Zz9(u:Nat)(B:u<9223372036854775808):Xz [IntKind.u8.wrap (i64.wrap (48+Int.tmod (u:Int) 10))]=ofL [Ab (48+u % 10)]:=by
 have A:Int.tmod (u:Int) 10=((u % 10:Nat):Int):=by rw [Int.tmod_eq_emod_of_nonneg yE];omega
 rw [A,ZfB yE yE,IntKind.wrap_u8,show (48+((u % 10:Nat):Int)) % 256=((48+u % 10:Nat):Int) by omega];apply Zg1;rw [Zdj];simp only[Xz,AX,Ac,toL,AK]
theorem ZCQ(u:Nat)(A:u<9223372036854775808):i64.wrap (Int.tdiv (u:Int) 10)=((u / 10:Nat):Int):=by
 rw [Int.tdiv_eq_ediv_of_nonneg yE,ZfB yE yE];omega
theorem ZzR {body:Int×BYT->Option ((Int×BYT) ⊕ BYT)}(C:∀n t,body (n,t)=chk ((Xz [IntKind.u8.wrap (i64.wrap (48+Int.tmod n 10))]).size+t.size<=9223372036854775807)
   (if (i64.wrap (Int.tdiv n 10)==0)=true then some (.inr (Xz [IntKind.u8.wrap (i64.wrap (48+Int.tmod n 10))]++t)) else some (.inl (i64.wrap (Int.tdiv n 10),Xz [IntKind.u8.wrap (i64.wrap (48+Int.tmod n 10))]++t)))):
  ∀(u:Nat) (t:BYT),u<9223372036854775808->t.size+Lib.nDigits u<=1000->iter body ((u:Int),t)=some (ofL (Lib.decDigits u)++t):=by
 intro u;induction u using Nat.strongRecOn with
 |ind u ih=>
  intro t B D;rw [ZkI,C,Zz9 u B,ZCQ u B];have hp:=Lib.nDigits_pos u;rw [Zj _ (by rw [ZiG];simp;omega)];by_cases h:u<10
  .have A:u / 10=0:=by omega
   rw [A,Lib.decDigits_one h,show u % 10=u by omega];rfl
  .have A:¬(((u / 10:Nat):Int)==0)=true:=by simp;omega
   rw [yn A];have hd:=Lib.nDigits_big h;show iter body (((u / 10:Nat):Int),ofL [Ab (48+u % 10)]++t)=_
   rw [ih (u / 10) yE _ yE (by rw [ZCK,ZiG];simp;omega),<-ZA3,<-ZwF];congr 2
   rw [show Lib.decDigits u=Lib.decDigits (u / 10)++[Ab (48+u % 10)] by rw [Lib.decDigits,dif_neg h]]
theorem ZGD(t:BYT):t++(⟨#[]⟩:BYT)=t:=Zg1 (by rw [Ze5];simp [toL])
theorem ZrH {body:Int×BYT->Option ((Int×BYT) ⊕ BYT)}(A:∀n t,body (n,t)=chk ((Xz [IntKind.u8.wrap (i64.wrap (48+Int.tmod n 10))]).size+t.size<=9223372036854775807)
   (if (i64.wrap (Int.tdiv n 10)==0)=true then some (.inr (Xz [IntKind.u8.wrap (i64.wrap (48+Int.tmod n 10))]++t)) else some (.inl (i64.wrap (Int.tdiv n 10),Xz [IntKind.u8.wrap (i64.wrap (48+Int.tmod n 10))]++t))))
  {n:Int} (C:0<=n) (B:n<=9223372036854775807):iter body (n,⟨#[]⟩)=some (ofL (Lib.itoa n)):=by
 obtain ⟨u,rfl⟩:∃u:Nat,n=(u:Int):=⟨n.toNat,yE⟩
 have:=Lib.nDigits_le20 u yE;rw [ZzR A u _ yE (by show 0+_<=_;omega),ZGD,Lib.itoa_nonneg]
theorem Zv6:ofL (Lib.itoa (-9223372036854775808))=(⟨#[45,57,50,50,51,51,55,50,48,51,54,56,53,52,55,55,53,56,48,56]⟩:BYT):=by
 rw [show (-9223372036854775808:Int)=-((9223372036854775808:Nat):Int) by rfl,Lib.itoa_neg _ yE,Lib.decDigits_eq,Lib.nDigits_unique 18 _ yF yF];decide +kernel
theorem Zmb{n:Int}(B:0<=n)(A:n<=9223372036854775807):Zbq n=some (ofL (Lib.itoa n)):=by
 unfold Zbq;rw [yn (by simp;omega),yn (by simp;omega)];exact ZrH (fun _ _=>rfl) B A
theorem Za3{n:Int}(h:ZqJ n):YJ n=some (ofL (Lib.itoa n)):=by
 unfold YJ;by_cases B:n=-9223372036854775808
 .subst B;rw [yp yF,Zv6]
 .rw [yn (by simpa using B)];by_cases A:n<0
  .have C:ZqJ n:=h;unfold ZqJ at C;rw [yp (by simpa using A),ZfB yE yE,Zmb yE yE,A0];obtain ⟨u,rfl⟩:∃u:Nat,n=-(u:Int):=⟨n.natAbs,yE⟩
   rw [show (0 - -(u:Int))=(u:Int) by omega,Lib.itoa_nonneg,Lib.itoa_neg u yE];have:=Lib.nDigits_le20 u yE;rw [Zj _ (by rw [ZiG,Lib.decDigits_length];show 1+_<=_;omega)];exact congrArg some (Zg1 (by rw [Ze5,Zdj,Zdj];rfl))
  .rw [yn (by simpa using A)];exact ZrH (fun _ _=>rfl) yE h.2
theorem Zer{n:Int}(h:ZqJ n):Zb8 n=some (ofL (Lib.itoa n)):=by
 have A:-9223372036854775808<=n/\n<=9223372036854775807:=h;unfold Zb8 Zsl;rw [Zj _ A];rfl
theorem Zl3{n:Int}(h:ZqJ n):(ofL (Lib.itoa n)).size<=21:=by
 rw [ZiG];exact Lib.itoa_length_le n h.1 h.2
def ZcH(b:UInt8):Bool:=(decide (97<=b.toNat)&&decide (b.toNat<=122))||(decide (48<=b.toNat)&&decide (b.toNat<=57))
def Z2(s:BYT):Bool:=decide (1<=s.size)&&decide (s.size<=8)&&(toL s).all ZcH
theorem Zej(x a b:Int):XV x a b=some (decide (a<=x)&&decide (x<=b)):=by
 unfold XV;by_cases h:a<=x<;>simp [h]
theorem ZqI(b:UInt8):i64.wrap (b.toNat:Int)=(b.toNat:Int):=Yo yE (by have:=b.toNat_lt;omega)
theorem Za5{b:UInt8}:ZcH b=true↔(97<=b.toNat/\b.toNat<=122)\/(48<=b.toNat/\b.toNat<=57):=by
 simp only[ZcH,Aw,AL,decide_eq_true_eq]
theorem QW(s:BYT):Zaf s=some (Z2 s):=by
 unfold Zaf Z2;rw [show s.data.toList=toL s from rfl,Yb (p:=ZcH) (r:=false)]
 .simp only[Zej,A0];cases (toL s).all ZcH with
  |true=>
   simp only[if_true,Bool.and_true];congr 1
   rw [AD];simp only[AL,decide_eq_true_eq];omega
  |false=>simp
 .intro i x _;simp only[Zej,A0,ZqI,AL,decide_eq_true_eq];cases hp:ZcH x with
  |true=>
   have:=Za5.1 hp
   repeat' split
   all_goals first|rfl|(exfalso;omega)|(exfalso;simp_all;done)
  |false=>
   have:=mt (Za5 (b:=x)).2 (by simp [hp])
   repeat' split
   all_goals first|rfl|(exfalso;omega)|(exfalso;simp_all;done)
theorem QX(s:BYT):Zak s=some (Z2 s):=by
 unfold Zak Z2;simp only[decide_eq_true_eq];rw [show s.data.toList=toL s from rfl,Yb (p:=ZcH) (r:=false)]
 .repeat' split
  .rw [decide_eq_false (show ¬1<=s.size by omega)];rfl
  .rw [decide_eq_false (show ¬s.size<=8 by omega)];simp
  .rename_i h;rw [h,decide_eq_true (show 1<=s.size by omega),decide_eq_true (show s.size<=8 by omega)];rfl
  .rename_i h;rw [eq_false_of_ne_true h];simp
 .intro i x _;cases hp:ZcH x with
  |true=>
   have:=Za5.1 hp
   repeat' split
   all_goals first|rfl|(exfalso;omega)|(exfalso;simp_all;done)
  |false=>
   have:=mt (Za5 (b:=x)).2 (by simp [hp])
   repeat' split
   all_goals first|rfl|(exfalso;omega)|(exfalso;simp_all;done)
def ZjG(s:BYT):UInt8:=(toL s).headD 0
theorem Zk4{s:BYT}(h:1<=s.size):sAt s 0=some (ZjG s):=by
 unfold sAt ZjG;have A:0<(toL s).length:=by rw [Zd8];omega
 have:(toL s)[0]?=some ((toL s).headD 0):=by
  cases hh:toL s with
  |nil=>rw [hh]at A;simp at A
  |cons a r=>simp
 rw [yp yE];exact ZrS this
def X0(s:BYT):Bool:=Z2 s&&decide (97<=(ZjG s).toNat)
theorem Qe{s:BYT}(h:Z2 s=true):1<=s.size/\s.size<=8:=by
 simp only[Z2,AL,decide_eq_true_eq]at h;exact h.1
theorem Zk7{s:BYT}(h:Z2 s=true):ZcH (ZjG s)=true:=by
 have hs:=Qe h;simp only[Z2,AL]at h;have A:0<(toL s).length:=by rw [Zd8];omega
 refine AS.1 h.2 _ ?_;unfold ZjG;cases hh:toL s with
 |nil=>rw [hh]at A;simp at A
 |cons a r=>simp
theorem ZiB(s:BYT):Zfe s=some (X0 s):=by
 unfold Zfe X0;rw [QW,A0];cases h:Z2 s with
 |false=>simp
 |true=>
  simp only[if_true,Zk4 (Qe h).1,A0,Zej,ZqI,AA];have hb:=Za5.1 (Zk7 h);congr 1
  rw [AD];simp only[AL,decide_eq_true_eq];omega
theorem ZhX(s:BYT):ZeQ s=some (X0 s):=by
 unfold ZeQ X0;rw [QX,A0];cases h:Z2 s with
 |false=>simp
 |true=>
  simp only[if_true,Zk4 (Qe h).1,A0,AA];congr 1
  rw [AD];simp only[decide_eq_true_eq];omega
def ZAG(s:BYT):BYT:=s.extract 1 s.size
def Yu(s:BYT):Bool:=decide (1<s.size)&&decide ((ZjG s).toNat=63)&&Z2 (ZAG s)
theorem XO(s:BYT):Zas s=some (Yu s):=by
 unfold Zas Yu ZAG;by_cases h:1<s.size
 .have A:(1:Int)<(s.size:Int):=by omega
  simp only[A,h,decide_true,if_true,Zk4 (show 1<=s.size by omega),A0,AA];rw [Zj _ ⟨yE,yE⟩,show A9 1=1 from rfl,QW,A0];by_cases B:(ZjG s).toNat=63
  .simp [B]
  .have:¬((ZjG s).toNat:Int)=63:=by omega
   simp [B,this]
 .have A:¬(1:Int)<(s.size:Int):=by omega
  simp [A,h]
theorem Zfb(s:BYT):Zd5 s=some (Yu s):=by
 unfold Zd5 Yu ZAG;by_cases h:1<s.size
 .have A:(1:Int)<(s.size:Int):=by omega
  simp only[A,h,decide_true,if_true,Zk4 (show 1<=s.size by omega),A0,AA];rw [Zj _ ⟨yE,yE⟩,show A9 1=1 from rfl,QX,A0];by_cases B:(ZjG s).toNat=63
  .simp [B]
  .have:¬((ZjG s).toNat:Int)=63:=by omega
   simp [B,this]
 .have A:¬(1:Int)<(s.size:Int):=by omega
  simp [A,h]
def YI(s:BYT):Bool:=Z2 s||Yu s
theorem ZmD(s:BYT):Za4 s=some (YI s):=by
 unfold Za4 YI;rw [QW,XO];cases Z2 s<;>simp
theorem ZmN(s:BYT):ZaT s=some (YI s):=by
 unfold ZaT YI;rw [QX,Zfb];cases Z2 s<;>simp
theorem YL(l:List BYT)(s:BYT):Z4 l s=some (YT l s):=by
 unfold Z4 YT;rw [ZaJ (p:=fun x=>sEq x s) (r:=true)]
 .cases l.any fun x=>sEq x s<;>simp
 .intro i x _;cases sEq x s<;>simp
theorem Zbc(l:List BYT)(s:BYT):XL l s=some (YT l s):=by
 unfold XL YT;rw [ZaJ (p:=fun x=>sEq x s) (r:=true)]
 .cases l.any fun x=>sEq x s<;>simp
 .intro i x _;cases sEq x s<;>simp
theorem Zac(l:List BYT)(s:BYT)(h:l.length+1<=1073741824):QF l s=some (Zae l s):=by
 unfold QF;refine (Zbt (fun l _ (st:List BYT×Bool)=>some (if st.2=true then st.1++l else st.1++Zae l s)) (fun l _ (st:List BYT×Bool)=>st.1.length+l.length+(if st.2=true then 0 else 1)<=1073741824) ?_ ?_ l 0 ([],false) (by simpa using h)).trans yG
 .rintro i ⟨row,d⟩ A;cases d with
  |true=>simp
  |false=>simp only[AB,if_false,Zae];simp at A;rw [Zj _ yE]
 .rintro x l i ⟨row,d⟩ A;left
  cases d with
  |true=>
   simp at A;exact ⟨(row++[x],true),by simp only[if_true];rw [Zj _ yE],by simp;omega,yG⟩
  |false=>
   simp at A;cases h1:sLt x s with
   |true=>exact ⟨(row++[x],false),by simp only[AB,if_false,if_true];rw [Zj _ yE],by simp;omega,by simp [Zae,h1]⟩
   |false=>
    cases h2:sEq x s with
    |true=>exact ⟨(row++[x],true),by simp only[AB,if_false,if_true];rw [Zj _ yE],by simp;omega,by simp [Zae,h1,h2]⟩
    |false=>exact ⟨(row++[s]++[x],true),by simp only[AB,if_false];rw [Zj _ yE,Zj _ yE],by simp;omega,by simp [Zae,h1,h2]⟩
def XS:BYT->List BYT->List BYT
 |_,[]=>[]
 |y,x::r=>if sEq y x=true then XS x r else x::XS x r
def Znx:List BYT->List BYT
 | []=>[]
 |x::r=>x::XS x r
theorem Zhb{z:BYT}:∀{l:List BYT}{y:BYT},z∈XS y l->z∈l
 | [],_,h=>by simp [XS]at h
 |x::r,y,h=>by
  simp only[XS]at h;split at h
  .exact Ad _ (Zhb h)
  .rcases AE.1 h with rfl|h
   .simp
   .exact Ad _ (Zhb h)
theorem Zk1{z:BYT}:∀{l:List BYT}{y:BYT},z∈l->z=y\/z∈XS y l
 | [],_,h=>by simp at h
 |x::r,y,h=>by
  simp only[XS];rcases AE.1 h with rfl|h
  .split
   .rename_i e;exact .inl (ZV.1 e).symm
   .simp
  .rcases Zk1 (y:=x) h with rfl|A
   .split
    .rename_i e;exact .inl (ZV.1 e).symm
    .simp
   .split
    .exact .inr A
    .exact .inr (Ad _ A)
theorem Zkj:∀{l:List BYT}{y:BYT},(y::l).Pairwise (fun a b=>sLt b a=false)->Asc (y::XS y l)
 | [],_,_=>by simp [XS,Asc]
 |x::r,y,h=>by
  rw [AM]at h;have ih:=Zkj h.2;simp only[XS];split
  .rename_i e;have e':=ZV.1 e;subst e';exact ih
  .rename_i e;have c:sLt y x=true:=Zgp (h.1 x yG) (fun h=>e (ZV.2 h.symm));refine AM.2 ⟨fun z A=>?_,ih⟩;rcases AE.1 A with rfl|A
   .exact c
   .exact Zf4 c ((AM.1 ih).1 z A)
theorem ZrL(l:List BYT):Znx (Zf5 l)=Z9 l:=by
 have hs:=ZAJ l;refine Zhf ?_ fun x=>?_
 .cases h:Zf5 l with
  |nil=>simp [Znx,Asc]
  |cons y r=>rw [h]at hs;exact Zkj hs
 .rw [<-Zyi (l:=l)];cases h:Zf5 l with
  |nil=>simp [Znx]
  |cons y r=>
   simp only[Znx,AE];constructor
   .rintro (rfl|h)
    .exact .inl rfl
    .exact .inr (Zhb h)
   .rintro (rfl|h)
    .exact .inl rfl
    .exact Zk1 h
theorem QP(l:List BYT)(h:l.length<=1073741824):YM l=some (Z9 l):=by
 unfold YM;rw [Zj _ h,Zdn,Zj _ yE,A0];have hl:=Zyj l;rw [<-ZrL];generalize Zf5 l=v at hl
 refine (Zbt (fun r i (row:List BYT)=>some (row++match i with|0=>Znx r|i+1=>(match v[i]? with|some y=>XS y r|none=>[]))) (fun r i row=>v.drop i=r/\row.length<=i/\i<=v.length) ?_ ?_ v 0 [] ⟨yG,yG,yG⟩).trans yG
 .rintro i row ⟨C,B,F⟩;cases i with
  |zero=>simp [Znx]
  |succ i=>cases hv:v[i]?<;>simp [XS,hv]
 .rintro x r i row ⟨C,B,F⟩;left
  have hi:v[i]?=some x:=by have:=congrArg (fun l=>l[0]?) C;simpa using this
  have E:i<v.length:=(AT.1 hi).1;have A:v.drop (i+1)=r:=by have:=congrArg Ae C;simpa using this
  cases i with
  |zero=>
   refine ⟨row++[x],?_,⟨A,by simp at B ⊢;simp [B],yE⟩,?_⟩
   .simp only[Int.natCast_zero,beq_self_eq_true,if_true];rw [Zj _ yE]
   .simp [Znx,hi]
  |succ i=>
   have D:i64.wrap (((i+1:Nat):Int) - 1)=(i:Int):=by rw [Yo yE yE];omega
   have a:((((i+1:Nat):Int))==0)=false:=by rw [beq_eq_false_iff_ne];omega
   obtain ⟨y,hy⟩:∃y,v[i]?=some y:=⟨v[i],yG⟩
   simp only[a,AB,if_false,D,AK,hy,A0];cases he:sEq y x with
   |true=>
    refine ⟨row,?_,⟨A,yE,yE⟩,?_⟩
    .rw [Zj _ ⟨yE,yE⟩];rfl
    .simp [XS,he,hi]
   |false=>
    refine ⟨row++[x],?_,⟨A,by simp;omega,yE⟩,?_⟩
    .rw [Zj _ ⟨yE,yE⟩];simp only[AB,if_false];rw [Zj _ yE]
    .simp [XS,he,hi]
theorem Zim(l:List BYT)(h:l.length<=1073741824):Zb1 l=some l:=by
 unfold Zb1;rw [Zj _ h]
theorem Zs1(l:List BYT)(h:l.length<=1073741824):Zgx l=some l:=by
 unfold Zgx;rw [Zj _ h]
theorem Zoe{ρ:Type}{fin:List BYT->Option ρ}{body:Nat->BYT->List BYT->Option (List BYT ⊕ ρ)}(A:∀j x s,body j x s=(QF s x).bind fun v=>some (.inl v)){l acc:List BYT}(h:acc.length+l.length<=1073741824):forL body fin l 0 acc=fin (l.foldl Zae acc):=by
 refine Xf (f:=Zae) (fun j s=>s.length<=acc.length+j) yE fun j x s B D C E=>?_;have hp:=Ze7 x s;exact ⟨by rw [A,Zac _ _ yE];rfl,yE⟩
theorem Zbg{α σ ρ:Type}{body:Nat->α->σ->Option (σ ⊕ ρ)}{fin:σ->Option ρ}(st:List α->σ)(l:List α)(h:∀p x q,l=p++x::q->body p.length x (st p)=some (.inl (st (p++[x])))):forL body fin l 0 (st [])=fin (st l):=by
 have key:∀(q p:List α),l=p++q->forL body fin q p.length (st p)=fin (st l):=by
  intro q;induction q with
  |nil=>intro p e;rw [Zlm,e,List.append_nil]
  |cons x q ih=>
   intro p e;rw [ZO (h p x q e)];have:=ih (p++[x]) (by rw [e];simp);simpa using this
 exact key l [] rfl
def ZKb(l:List BYT)(sep:BYT):BYT:=ofL (Lib.join (l.map toL) (toL sep))
def ZJ3(l:List BYT)(sep:BYT):Nat:=(l.map Ax).sum+l.length*sep.size
theorem ZK3(p:List (List UInt8))(A:p≠[])(x sep:List UInt8):Lib.join (p++[x]) sep=(Lib.join p sep++sep)++x:=by
 cases p with
 |nil=>exact absurd rfl A
 |cons y r=>rw [List.cons_append,Lib.join_cons,Lib.join_cons];simp [Lib.joinTail]
theorem ZKQ{p:List BYT}(A:p≠[])(x sep:BYT):ZKb (p++[x]) sep=(ZKb p sep++sep)++x:=by
 unfold ZKb;rw [Ay,AX,Ac,ZK3 _ (by simpa using A)];exact Zg1 (by simp only[Ze5,Zdj])
theorem ZKY(x sep:BYT):ZKb [x] sep=x:=by
 unfold ZKb;rw [AX,Ac,Lib.join_one,Zku]
theorem ZKF(p q:List BYT)(sep:BYT):ZJ3 (p++q) sep=ZJ3 p sep+ZJ3 q sep:=by
 unfold ZJ3;rw [Ay,List.sum_append,AQ,Nat.add_mul];omega
theorem ZKN(x:BYT)(q:List BYT)(sep:BYT):ZJ3 (x::q) sep=x.size+sep.size+ZJ3 q sep:=by
 unfold ZJ3;rw [AX,List.sum_cons,AI,Nat.add_mul];omega
theorem ZKh(sep:BYT)(l:List BYT):(ZKb l sep).size<=ZJ3 l sep:=by
 have:∀n (l:List BYT),l.length=n->(ZKb l sep).size<=ZJ3 l sep:=by
  intro n;induction n with
  |zero=>intro l h;rw [Az h];exact AU _
  |succ n ih=>
   intro l h;obtain ⟨p,x,rfl⟩:∃p x,l=p++[x]:=⟨l.dropLast,l.getLast (by intro e;simp [e]at h),(B3 _).symm⟩
   rw [ZKF,ZKN];by_cases A:p=[]
   .subst A;rw [List.nil_append,ZKY];omega
   .have:=ih p (by simpa using h);rw [ZKQ A,ZCK,ZCK];omega
 exact this _ l rfl
theorem ZKT(l:List BYT)(sep:BYT)(h:ZJ3 l sep<=1099511627776)(A:l.length<=1099511627776):ZKr l sep=some (ZKb l sep):=by
 unfold ZKr ZKD;have h1:=ZKh sep l;unfold ZKb at h1;rw [ZiG]at h1;rw [Zj _ ⟨yE,yE⟩];rfl
theorem ZKq{l:List BYT}{sep:BYT}(h:Zkn l<=1048576)(hs:sep.size<=16):ZJ3 l sep<=20000000/\l.length<=1048576:=by
 unfold Zkn at h;unfold ZJ3;have:l.length*sep.size<=1048576*16:=Nat.mul_le_mul yE hs;omega
def Yt(f:Za):Bool:=X0 f.rel&&decide (f.args.length<=3)&&f.args.all Z2
theorem ZmO(f:Za):Zgq f=some (Yt f):=by
 unfold Zgq Yt;rw [Yb (p:=Z2) (r:=false)]
 .rw [ZiB,A0];cases X0 f.rel<;>cases h:f.args.all Z2<;>simp<;>omega
 .intro i x _;rw [QW,A0];cases Z2 x<;>rfl
theorem ZmM(f:Za):Zf0 f=some (Yt f):=by
 unfold Zf0 Yt;rw [ZhX,A0];cases X0 f.rel with
 |false=>rfl
 |true=>
  rw [yp rfl];by_cases h:f.args.length<=3
  .rw [yn (by simp;omega),Yb (p:=Z2) (r:=false)]
   .cases h2:f.args.all Z2<;>simp [h]
   .intro i x _;rw [QX,A0];cases Z2 x<;>rfl
  .rw [yp (by simp;omega)];simp [h]
def ZKl(f:Za):BYT:=if Yt f=true then ((f.rel++(⟨#[40]⟩:BYT))++ZKb f.args ⟨#[44]⟩)++(⟨#[41]⟩:BYT) else ⟨#[]⟩
theorem ZKM{f:Za}(h:ZaK f<=1048576):(ZKl f).size<=30000000:=by
 unfold ZaK at h;have h1:=ZKq (l:=f.args) (sep:=⟨#[44]⟩) yE yF;have h2:=ZKh ⟨#[44]⟩ f.args;have B:(⟨#[40]⟩:BYT).size=1:=rfl;have A:(⟨#[41]⟩:BYT).size=1:=rfl;unfold ZKl;split
 .rw [ZCK,ZCK,ZCK];omega
 .exact AU _
theorem ZKo{f:Za}(h:ZaK f<=1048576):ZJR f=some (ZKl f):=by
 unfold ZaK at h;have h1:=ZKq (l:=f.args) (sep:=⟨#[44]⟩) yE yF;have h2:=ZKh ⟨#[44]⟩ f.args;have B:(⟨#[40]⟩:BYT).size=1:=rfl;have A:(⟨#[41]⟩:BYT).size=1:=rfl;unfold ZJR ZKl;rw [ZmM,A0];split
 .rw [Zj _ yE,ZKT _ _ yE yE,A0,Zj _ (by rw [ZCK];omega),Zj _ (by rw [ZCK,ZCK];omega)]
 .rfl
def ZJ4(l:List Int):BYT:=l.foldl (fun s u=>(s++(⟨#[32]⟩:BYT))++ofL (Lib.itoa u)) ⟨#[]⟩
theorem ZKx(p:List Int)(x:Int):ZJ4 (p++[x])=(ZJ4 p++(⟨#[32]⟩:BYT))++ofL (Lib.itoa x):=by
 unfold ZJ4;rw [AY];rfl
theorem ZKi:∀n (l:List Int),l.length=n->(∀u∈l,ZqJ u)->(ZJ4 l).size<=22*n
 |0,l,h,_=>by rw [Az h];exact AU _
 |n+1,l,h,hw=>by
  obtain ⟨p,x,rfl⟩:∃p x,l=p++[x]:=⟨l.dropLast,l.getLast (by intro e;simp [e]at h),(B3 _).symm⟩
  have h1:=ZKi n p (by simpa using h) fun u A=>hw u (by simp [A]);have h2:=Zl3 (hw x yG);have B:(⟨#[32]⟩:BYT).size=1:=rfl;rw [ZKx,ZCK,ZCK];omega
def ZK9(s : Zz) : ByteArray :=
 if Yt s.fact = true then (if sEq s.rule ⟨#[]⟩ = true then ZKl s.fact ++ (⟨#[32, 103, 105, 118, 101, 110]⟩ : ByteArray) else (((ZKl s.fact ++ (⟨#[32, 98, 121, 32]⟩ : ByteArray)) ++ s.rule) ++ (⟨#[32, 102, 114, 111, 109]⟩ : ByteArray)) ++ ZJ4 s.uses) else ⟨#[]⟩
theorem ZKf{s:Zz}(h:Xv s<=1048576)(C:ZAO s):ZJT s=some (ZK9 s):=by
 unfold Xv at h;have A:∀u∈s.uses,ZqJ u:=C.2.2;have h1:=ZKM (f:=s.fact) yE;have h2:=ZKi s.uses.length s.uses rfl A;have L:(⟨#[32,103,105,118,101,110]⟩:BYT).size=6:=rfl;have K:(⟨#[32,98,121,32]⟩:BYT).size=4:=rfl;have J:(⟨#[32,102,114,111,109]⟩:BYT).size=5:=rfl;have I:(⟨#[32]⟩:BYT).size=1:=rfl;unfold ZJT ZK9;rw [ZmM,A0];split
 .rw [ZKo yE,A0];split
  .rw [Zj _ yE]
  .rw [Zj _ yE,Zj _ (by rw [ZCK];omega),Zj _ (by simp only[ZCK];omega)];have hs:ZKl s.fact++(((⟨#[32,98,121,32]⟩:BYT)++s.rule)++(⟨#[32,102,114,111,109]⟩:BYT))=(((ZKl s.fact++(⟨#[32,98,121,32]⟩:BYT))++s.rule)++(⟨#[32,102,114,111,109]⟩:BYT)):=by simp only[ZA3]
   rw [hs];generalize F:(((ZKl s.fact++(⟨#[32,98,121,32]⟩:BYT))++s.rule)++(⟨#[32,102,114,111,109]⟩:BYT))=base
   have E:base.size<=40000000:=by rw [<-F];simp only[ZCK];omega
   have G:base=(fun p=>base++ZJ4 p) []:=(ZGD base).symm;rw [G,Zbg (fun p=>base++ZJ4 p) s.uses]
   .show some (base++ZJ4 s.uses)=some ((base++ZJ4 [])++ZJ4 s.uses)
    rw [show ZJ4 []=(⟨#[]⟩:BYT) from rfl,ZGD]
   .intro p x q e;have B:ZqJ x:=A x (by rw [e];simp);have h3:=ZKi p.length p rfl fun u D=>A u (by rw [e];simp [D]);have h4:=Zl3 B;have H:p.length+(q.length+1)=s.uses.length:=by rw [e,AQ,AI]
    rw [Zer B,A0,Zj _ yE,Zj _ (by simp only[ZCK];omega),ZKx];simp only[ZA3]
 .rfl
structure ZqX {α:Type}(c:α->α->Int):Prop where
 eq:∀a b,c a b=0↔a=b
 anti:∀a b,c b a=- c a b
 tr:∀a b d,c a b<0->c b d<0->c a d<0
def ZjP(a b:BYT):Int:=Lib.compareBytes (toL a) (toL b)
theorem Zju:∀(x y:List UInt8),Lib.compareBytes x y=if Op.bytesLess x y=true then -1 else if x=y then 0 else 1
 | [],[]=>by simp [Lib.compareBytes,Op.bytesLess]
 | [],_::_=>by simp [Lib.compareBytes,Op.bytesLess]
 |_::_,[]=>by simp [Lib.compareBytes,Op.bytesLess]
 |a::x,b::y=>by
  have ih:=Zju x y;unfold Lib.compareBytes Op.bytesLess;by_cases B:a<b
  .simp [B]
  .rw [yn B];by_cases A:b<a
   .have C:¬a=b:=fun e=>by rw [e]at A;exact absurd A (UInt8.lt_irrefl _)
    rw [yp A];simp [B,C]
   .have C:a=b:=by
     apply UInt8.toNat_inj.1;rw [UInt8.lt_iff_toNat_lt]at B A;omega
    subst C;rw [yn A,ih];simp [B]
theorem ZiR(a b:BYT):ZjP a b=if sLt a b=true then -1 else if a=b then 0 else 1:=by
 unfold ZjP;rw [Zju];have A:Op.bytesLess (toL a) (toL b)=sLt a b:=by unfold sLt toL;rw [B4,B4]
 rw [A];by_cases h:a=b
 .subst h;simp
 .rw [yn h,yn (fun e=>h (Zg1 e))]
theorem Zcm:ZqX ZjP where
 eq:=fun a b=>by
  rw [ZiR];by_cases h:sLt a b=true
  .simp [h,Zsx h]
  .rw [yn h];by_cases h2:a=b<;>simp [h2]
 anti:=fun a b=>by
  rw [ZiR,ZiR];by_cases h:sLt a b=true
  .have h2:=ZlH h;have h3:=Zsx h;rw [yp h,yn (by simp [h2]),yn (fun e=>h3 e.symm)];rfl
  .rw [yn h];by_cases h2:a=b
   .subst h2;rw [yn h];simp
   .rw [yp (Zgp (by simpa using h) h2),yn h2]
 tr:=fun a b d B h2=>by
  have key:∀x y,ZjP x y<0->sLt x y=true:=fun x y h=>by
   rw [ZiR]at h;by_cases A:sLt x y=true
   .exact A
   .rw [yn A]at h;split at h<;>omega
  rw [ZiR,yp (Zf4 (key _ _ B) (key _ _ h2))];omega
theorem Zo9(a b:BYT):ZiY a b=some (ZjP a b):=by
 unfold ZiY;rw [ZiR];by_cases h:sLt a b=true
 .rw [yp h,yp h]
 .rw [yn h,yn h];by_cases B:a=b
  .subst B;rw [yp (by rw [Zzt];simp),yp rfl]
  .rw [yn (by simp only[Aw,ZV];rintro (A|A);exact h A;exact B A),yn B]
theorem ZkW(a b:BYT):Zgf a b=some (ZjP a b):=rfl
theorem ZpQ{u:Nat}{b:UInt8}(h:b∈Lib.decDigits u):48<=b.toNat/\b.toNat<=57:=by
 rw [Lib.decDigits_eq,List.mem_map]at h;obtain ⟨t,_,rfl⟩:=h;unfold Lib.dg;have:u / 10 ^ (Lib.nDigits u - 1 - t) % 10<10:=Nat.mod_lt _ yE;rw [UInt8.toNat_ofNat'];omega
def Zaw(s:BYT):Option Nat:=
 if 1<=s.size/\s.size<=4 then (match Lib.decNat (toL s) with|some n=>if ofL (Lib.decDigits n)=s then some n else none|none=>none) else none
def Zd1(s:BYT):Int×Bool:=match Zaw s with|some n=>((n:Int),true)|none=>(0,false)
theorem ZlK{s:BYT}{n:Nat}(h:Zaw s=some n):s=ofL (Lib.decDigits n)/\n<=9999:=by
 unfold Zaw at h;split at h
 .rename_i hs;split at h
  .split at h
   .rename_i m _ A;obtain rfl:=Ah h;refine ⟨A.symm,?_⟩;have B:Lib.nDigits m<=4:=by
     have:=congrArg Ax A;rw [ZiG,Lib.decDigits_length]at this;omega
    have:=Lib.lt_pow_nDigits m;have C:10 ^ Lib.nDigits m<=10 ^ 4:=B5 yE B;omega
   .simp at h
  .simp at h
 .simp at h
theorem ZAC{a b:BYT}{n:Nat}(B:Zaw a=some n)(A:Zaw b=some n):a=b:=(ZlK B).1.trans (ZlK A).1.symm
theorem Zs9{body:Nat->UInt8->Int->Option (Int ⊕ (Int×Bool))}{fin:Int->Option (Int×Bool)}
  (A:∀i (x:UInt8) n,body i x n=if (decide ((x.toNat:Int)<48))=true then some (.inr (0,false)) else if (decide (57<(x.toNat:Int)))=true then some (.inr (0,false)) else some (.inl (i64.wrap ((i64.wrap (10*n))+i64.wrap (IntKind.u8.wrap ((x.toNat:Int) - 48)))))):
  ∀(l:List UInt8) (i acc:Nat),(acc+1)*10 ^ l.length<=100000->forL body fin l i (acc:Int)=match Lib.decFrom acc l with|some n=>fin (n:Int)|none=>some (0,false)
 | [],i,acc,_=>rfl
 |x::l,i,acc,h=>by
  unfold Lib.decFrom Lib.digitVal;by_cases B:48<=x.toNat/\x.toNat<=57
  .have e:body i x (acc:Int)=some (.inl ((acc*10+(x.toNat - 48):Nat):Int)):=by
    have C:1<=10 ^ (x::l).length:=Nat.one_le_pow _ _ yE;have D:acc+1<=100000:=Aj (Nat.le_mul_of_pos_right _ C) h;rw [A,yn (by simp;omega),yn (by simp;omega),ZfB (n:=10*(acc:Int)) yE yE,IntKind.wrap_u8,ZfB (n:=((x.toNat:Int) - 48) % 256) yE yE,ZfB yE yE];congr 2
    omega
   rw [ZO e,yp B];refine Zs9 A l (i+1) _ ?_;rw [AI,Nat.pow_succ]at h;refine Aj ?_ h;rw [show (acc+1)*(10 ^ l.length*10)=((acc+1)*10)*10 ^ l.length by rw [Nat.mul_assoc,Nat.mul_comm 10]];exact Nat.mul_le_mul_right _ yE
  .have e:body i x (acc:Int)=some (.inr (0,false)):=by
    rw [A];by_cases D:x.toNat<48
    .rw [yp (by simp;omega)]
    .rw [yn (by simp;omega),yp (by simp;omega)]
   rw [Z5 e,yn B]
theorem Zvf(n a b:Int):XV n a b=some (decide (a<=n)&&decide (n<=b)):=by
 unfold XV;by_cases h:a<=n<;>simp [h]
theorem Zam(s:BYT):Qw s=some (Zd1 s):=by
 unfold Qw Zd1 Zaw;rw [Zvf,A0];by_cases hs:1<=s.size/\s.size<=4
 .rw [yp (by simp;omega),yp hs];have B:s.data.toList.length=s.size:=Zd8 s;refine (Zs9 (fun _ _ _=>rfl) s.data.toList 0 0 (by
   rw [B,AZ,Nat.one_mul];exact Aj (B5 yE hs.2) yE)).trans ?_
  have C:Lib.decNat (toL s)=Lib.decFrom 0 s.data.toList:=by
   unfold Lib.decNat;rw [yn]
   .rfl
   .intro e;have:=Zd8 s;rw [List.isEmpty_iff.1 e]at this;simp at this;omega
  rw [C];cases hv:Lib.decFrom 0 s.data.toList with
  |none=>rfl
  |some n=>
   have D:n<1000000000000000000:=Lib.decFrom_lt18 hv yE;show (YJ (n:Int)).bind _=_
   rw [Za3 ⟨yE,yE⟩,A0,Lib.itoa_nonneg];by_cases A:ofL (Lib.decDigits n)=s
   .rw [yp (ZV.2 A)];simp only[A,if_true]
   .rw [yn (by rw [ZV];exact A)];simp only[A,if_false]
 .rw [yn (by simp;omega),yn hs]
theorem ZBz{b:UInt8}{r:List UInt8}(h:b=45\/b=43):Lib.decNat (b::r)=none:=by
 rcases h with rfl|rfl<;>simp [Lib.decNat,Lib.decFrom,Lib.digitVal]
theorem Zro{s:BYT}(h:Lib.decNat (toL s)=none):Zaw s=none:=by
 unfold Zaw;rw [h];split<;>rfl
theorem Zdg(s:BYT):ZaR s=some (Zd1 s):=by
 unfold ZaR;by_cases F:s.size<1
 .rw [yp (by simp;omega)];unfold Zd1 Zaw;rw [yn yE]
 by_cases E:4<s.size
 .rw [yn (by simp;omega),yp (by simp;omega)];unfold Zd1 Zaw;rw [yn yE]
 rw [yn (by simp;omega),yn (by simp;omega)];have hl:=Zd8 s;have D:Zpd s=some (match Lib.atoi (toL s) with|some n=>(n,true)|none=>(0,false)):=by
  unfold Zpd;exact Zj _ yE
 rw [D,A0];cases hL:toL s with
 |nil=>rw [hL]at hl;simp at hl;omega
 |cons b r=>
  have d:b=45\/b=43->Zd1 s=(0,false):=fun h=>by
   unfold Zd1;rw [Zro (by rw [hL];exact ZBz h)]
  have f:∀m,(b=45\/b=43)->¬ofL (Lib.decDigits m)=s:=fun m h e=>by
   have A:b∈Lib.decDigits m:=by
    have:toL s=Lib.decDigits m:=by rw [<-e,Zdj]
    rw [<-this,hL];simp
   have:=ZpQ A;rcases h with rfl|rfl<;>simp at this
  by_cases a:b=45
  .rw [d (.inl a)];cases hd:Lib.decNat r with
   |none=>simp [Lib.atoi,a,hd]
   |some m=>
    have e:Lib.atoi (b::r)=some (-(m:Int)):=by simp [Lib.atoi,a,hd]
    rw [e];simp only[if_true];by_cases A:m=0
    .subst A;rw [yn yG,yn yG];show (Zb8 ((0:Nat):Int)).bind _=_
     rw [Zer ⟨yE,yE⟩,A0,Lib.itoa_nonneg,yn (by rw [ZV];exact f 0 (.inl a))]
    .rw [yp (by simp;omega)]
  .by_cases c:b=43
   .rw [d (.inr c)];cases hd:Lib.decNat r with
    |none=>simp [Lib.atoi,c,hd]
    |some m=>
     have e:Lib.atoi (b::r)=some (m:Int):=by simp [Lib.atoi,c,hd]
     rw [e];simp only[if_true];rw [yn yG];by_cases A:9999<m
     .rw [yp (by simp;omega)]
     .rw [yn (by simp;omega),Zer ⟨yE,yE⟩,A0,Lib.itoa_nonneg,yn (by rw [ZV];exact f m (.inr c))]
   .have e:Lib.atoi (b::r)=(Lib.decNat (b::r)).map fun (m:Nat)=>(m:Int):=by simp [Lib.atoi,a,c]
    rw [e];cases hd:Lib.decNat (b::r) with
    |none=>
     unfold Zd1;rw [Zro (by rw [hL];exact hd)];rfl
    |some m=>
     simp only[Option.map_some,if_true];rw [yn yG];have C:Zaw s=if ofL (Lib.decDigits m)=s then some m else none:=by
      unfold Zaw;rw [yp yE,hL,hd]
     by_cases A:9999<m
     .rw [yp (by simp;omega)];have:Zaw s=none:=by
       cases hq:Zaw s with
       |none=>rfl
       |some n=>
        have h3:=(ZlK hq).2;rw [C]at hq;split at hq
        .obtain rfl:=Ah hq;omega
        .simp at hq
      unfold Zd1;rw [this]
     .rw [yn (by simp;omega),Zer ⟨yE,yE⟩,A0,Lib.itoa_nonneg];unfold Zd1;rw [C];by_cases B:ofL (Lib.decDigits m)=s
      .rw [yp (ZV.2 B),yp B]
      .rw [yn (by rw [ZV];exact B),yn B]
def Zm2(x y:Nat):Int:=if x<y then -1 else if y<x then 1 else 0
theorem Zsr:ZqX Zm2 where
 eq:=fun a b=>by unfold Zm2;split<;>(try split)<;>omega
 anti:=fun a b=>by unfold Zm2;split<;>(try split)<;>(try split)<;>omega
 tr:=fun a b d B A=>by
  unfold Zm2 at *;split at B
  .split at A
   .rw [yp yE];omega
   .split at A<;>omega
  .split at B<;>omega
def Zhw(a b:BYT):Int:=
 match Zaw a,Zaw b with
 |some x,some y=>Zm2 x y
 |some _,none=>-1
 |none,some _=>1
 |none,none=>ZjP a b
theorem ZsC:ZqX Zhw where
 eq:=fun a b=>by
  unfold Zhw;cases ha:Zaw a with
  |none=>
   cases hb:Zaw b with
   |none=>exact Zcm.eq a b
   |some y=>simp only;exact ⟨fun h=>by omega,fun h=>by rw [h,hb]at ha;simp at ha⟩
  |some x=>
   cases hb:Zaw b with
   |none=>simp only;exact ⟨fun h=>by omega,fun h=>by rw [h,hb]at ha;simp at ha⟩
   |some y=>
    simp only;rw [Zsr.eq];exact ⟨fun h=>ZAC ha (h ▸ hb),fun h=>by rw [h,hb]at ha;exact (Ah ha).symm⟩
 anti:=fun a b=>by
  unfold Zhw;cases Zaw a<;>cases Zaw b<;>simp only
  .exact Zcm.anti a b
  .rfl
  .exact Zsr.anti _ _
 tr:=fun a b d B A=>by
  unfold Zhw at *;cases ha:Zaw a<;>cases hb:Zaw b<;>cases hd:Zaw d<;>simp only[ha,hb,hd]at B A ⊢<;>first|omega|exact Zcm.tr a b d B A|exact Zsr.tr _ _ _ B A
theorem Zda(x y:Nat):Qy (x:Int) (y:Int)=some (Zm2 x y):=by
 unfold Qy Zm2;by_cases B:x<y
 .rw [yp (by simpa using B),yp B]
 .rw [yn (by simpa using B),yn B];by_cases A:y<x
  .rw [yp (by simpa using A),yp A]
  .rw [yn (by simpa using A),yn A]
theorem ZfF(a b:BYT):XZ a b=some (Zhw a b):=by
 unfold XZ Zhw;rw [Zam,A0,Zam,A0];unfold Zd1;cases Zaw a with
 |none=>
  cases Zaw b with
  |none=>simp only[AB,if_false];rw [Zo9];rfl
  |some y=>rfl
 |some x=>
  cases Zaw b with
  |none=>rfl
  |some y=>
   simp only[if_true];unfold Zm2;by_cases B:x<y
   .rw [yp (by simpa using B),yp B]
   .rw [yn (by simpa using B),yn B];by_cases A:y<x
    .rw [yp (by simpa using A),yp A]
    .rw [yn (by simpa using A),yn A]
theorem Zlc(a b:BYT):Zax a b=some (Zhw a b):=by
 unfold Zax Zhw;rw [Zdg,A0,Zdg,A0];unfold Zd1;cases Zaw a with
 |none=>
  cases Zaw b with
  |none=>simp only[AB,if_false];rw [ZkW];rfl
  |some y=>rfl
 |some x=>
  cases Zaw b with
  |none=>rfl
  |some y=>simp only[if_true];rw [Zda];rfl
def ZiD{α:Type}(c:α->α->Int):List α->List α->Int
 | [],[]=>0
 | [],_::_=>-1
 |_::_,[]=>1
 |x::l,y::r=>if c x y=0 then ZiD c l r else c x y
theorem Zr0{α:Type}{c:α->α->Int}(h:ZqX c):ZqX (ZiD c) where
 eq:=fun a=>by
  induction a with
  |nil=>intro b;cases b<;>simp [ZiD]
  |cons x l ih=>
   intro b;cases b with
   |nil=>simp [ZiD]
   |cons y r=>
    simp only[ZiD];by_cases A:c x y=0
    .rw [yp A,ih,(h.eq x y).1 A];simp
    .rw [yn A];exact ⟨fun e=>absurd e A,fun e=>absurd ((h.eq x y).2 (by simp at e;exact e.1)) A⟩
 anti:=fun a=>by
  induction a with
  |nil=>intro b;cases b<;>simp [ZiD]
  |cons x l ih=>
   intro b;cases b with
   |nil=>simp [ZiD]
   |cons y r=>
    simp only[ZiD];have hy:=h.anti x y;by_cases A:c x y=0
    .rw [yp A,yp yE,ih]
    .rw [yn A,yn yE,hy]
 tr:=fun a=>by
  induction a with
  |nil=>
   intro b d C B;cases b with
   |nil=>simp [ZiD]at C
   |cons y r=>cases d with
    |nil=>simp [ZiD]at B
    |cons z q=>simp [ZiD]
  |cons x l ih=>
   intro b d C B;cases b with
   |nil=>simp [ZiD]at C
   |cons y r=>cases d with
    |nil=>simp [ZiD]at B
    |cons z q=>
     simp only[ZiD]at C B ⊢;by_cases A:c x y=0
     .rw [yp A]at C;obtain rfl:=(h.eq x y).1 A;by_cases D:c x z=0
      .rw [yp D]at B ⊢;exact ih r q C B
      .rw [yn D]at B ⊢;exact B
     .rw [yn A]at C;by_cases D:c y z=0
      .obtain rfl:=(h.eq y z).1 D;rw [yn A];exact C
      .rw [yn D]at B;have:=h.tr x y z C B;rw [yn yE];exact this
def Zfk(a b:Za):Int:=if ZjP a.rel b.rel=0 then ZiD Zhw a.args b.args else ZjP a.rel b.rel
theorem ZtH{a b:Za}(B:a.rel=b.rel)(A:a.args=b.args):a=b:=by cases a;cases b;simp_all
theorem Zdl:ZqX Zfk where
 eq:=fun a b=>by
  unfold Zfk;by_cases h:ZjP a.rel b.rel=0
  .rw [yp h,(Zr0 ZsC).eq];exact ⟨fun e=>ZtH ((Zcm.eq _ _).1 h) e,fun e=>by rw [e]⟩
  .rw [yn h];exact ⟨fun e=>absurd e h,fun e=>absurd ((Zcm.eq _ _).2 (by rw [e])) h⟩
 anti:=fun a b=>by
  unfold Zfk;have hy:=Zcm.anti a.rel b.rel;by_cases h:ZjP a.rel b.rel=0
  .rw [yp h,yp yE,(Zr0 ZsC).anti]
  .rw [yn h,yn yE,hy]
 tr:=fun a b d C A=>by
  unfold Zfk at *;by_cases D:ZjP a.rel b.rel=0
  .rw [yp D]at C;have e:=(Zcm.eq _ _).1 D;rw [e];by_cases B:ZjP b.rel d.rel=0
   .rw [yp B]at A ⊢;exact (Zr0 ZsC).tr _ _ _ C A
   .rw [yn B]at A ⊢;exact A
  .rw [yn D]at C;by_cases B:ZjP b.rel d.rel=0
   .rw [<-(Zcm.eq _ _).1 B,yn D];exact C
   .rw [yn B]at A;have:=Zcm.tr _ _ _ C A;rw [yn yE];exact this
theorem Zar{α:Type}(l:List α)(i:Nat):atI l (i:Int)=l[i]?:=by unfold atI;rw [yp yE,AK]
theorem ZlP{A B:List BYT}{body:Nat->BYT->Unit->Option (Unit ⊕ Int)}{fin:Unit->Option Int}
  (b:∀i x y,B[i]?=some y->body i x ()=if Zhw x y=0 then some (.inl ()) else some (.inr (Zhw x y))) (c:∀x,B.length<A.length->body B.length x ()=some (.inr 1)) (a:A.length<=B.length->fin ()=some (if A.length<B.length then -1 else 0)):
  ∀(l:List BYT) (i:Nat),i+l.length=A.length->i<=B.length->forL body fin l i ()=some (ZiD Zhw l (B.drop i))
 | [],i,h,hi=>by
  simp at h;rw [Zlm,a yE];by_cases C:A.length<B.length
  .rw [yp C];cases hd:B.drop i with
   |nil=>have:=congrArg List.length hd;simp at this;omega
   |cons y r=>rfl
  .rw [yn C,Ak yE];rfl
 |x::l,i,h,hi=>by
  simp only[AI]at h;by_cases C:i<B.length
  .have E:B[i]?=some B[i]:=Am C;rw [B9 C];simp only[ZiD];by_cases D:Zhw x B[i]=0
   .rw [ZO (by rw [b i x _ E,yp D]),yp D];exact ZlP b c a l (i+1) yE yE
   .rw [Z5 (by rw [b i x _ E,yn D]),yn D]
  .obtain rfl:i=B.length:=by omega
   rw [Z5 (c x yE),Ak (Nat.le_refl _)];rfl
theorem Zfm(a b:Za):XQ a b=some (Zfk a b):=by
 unfold XQ Zfk;by_cases h:a.rel=b.rel
 .rw [yp (ZV.2 h),yp ((Zcm.eq _ _).2 h)];refine ZlP (A:=a.args) (B:=b.args) (fun i x y E=>?_) (fun x F=>?_) (fun F=>?_) a.args 0 yG (AU _)
  .have hi:=(AT.1 E).1;rw [yp (by simpa using hi),Zar,E,A0,ZfF,A0];by_cases D:Zhw x y=0
   .rw [D];rfl
   .rw [yp (by simpa using D),yn D]
  .rw [yn yG,yn (by simp;omega),yp (by simpa using F)]
  .by_cases C:a.args.length<b.args.length
   .rw [yp (by simpa using C),yp C]
   .rw [yn (by simpa using C),yn (by simp;omega),yn C]
 .rw [yn (by rw [ZV];exact h),yn (fun e=>h ((Zcm.eq _ _).1 e)),Zo9];rfl
theorem Zfx(a b:Za):QH a b=some (Zfk a b):=by
 unfold QH Zfk;rw [ZkW,A0];by_cases h:ZjP a.rel b.rel=0
 .rw [yn (by simpa using h),yp h];refine ZlP (A:=a.args) (B:=b.args) (fun i x y E=>?_) (fun x F=>?_) (fun F=>?_) a.args 0 yG (AU _)
  .have hi:=(AT.1 E).1;rw [yp (by simpa using hi),Zar,E,A0,Zlc,A0];by_cases D:Zhw x y=0
   .rw [D];rfl
   .rw [yp (by simpa using D),yn D]
  .rw [yn yG,Zda];unfold Zm2;rw [yn yE,yp F];rfl
  .rw [Zda];unfold Zm2;by_cases C:a.args.length<b.args.length
   .rw [yp C,yp C];rfl
   .rw [yn C,yn yE,yn C];rfl
 .rw [yp (by simpa using h),yn h]
section
theorem Y6(f:Za)(h:f.args.length<=1048576):Xc f=some f:=by
 unfold Xc;rw [Zs1 _ yE];rfl
theorem Xl(f:Za)(h:f.args.length<=1048576):YZ f=some f:=by
 unfold YZ;rw [Zim _ yE];rfl
theorem Zpa{B:List BYT}{body:Nat->BYT->Unit->Option (Unit ⊕ Bool)}(C:∀i x y,B[i]?=some y->body i x ()=if x=y then some (.inl ()) else some (.inr false)):
  ∀(l:List BYT) (i:Nat),i+l.length=B.length->forL body (fun _=>some true) l i ()=some (decide (l=B.drop i))
 | [],i,h=>by
  simp at h;rw [Zlm,Ak yE];simp
 |x::l,i,h=>by
  simp only[AI]at h;have hi:i<B.length:=by omega
  have D:(x::l=B.drop i)↔(x=B[i]/\l=B.drop (i+1)):=by rw [B9 hi,List.cons.injEq]
  rw [AD.2 (show decide (x::l=B.drop i)=true↔decide (x=B[i]/\l=B.drop (i+1))=true by rw [decide_eq_true_iff,decide_eq_true_iff];exact D)];by_cases A:x=B[i]
  .rw [ZO (by rw [C i x _ (Am hi),yp A]),Zpa C l (i+1) yE];simp [A]
  .rw [Z5 (by rw [C i x _ (Am hi),yn A])];simp [A]
theorem Zoo(a b:List BYT):ZdH a b=some (decide (a=b)):=by
 unfold ZdH;by_cases h:a.length=b.length
 .rw [yn (by simp;omega)];have:=Zpa (B:=b) (body:=fun E D _=>(atI b (E:Int)).bind fun C=>if (sEq D C)=true then some (.inl ()) else some (.inr false)) (fun i x y F=>by
   show (atI b (i:Int)).bind _=_
   rw [Zar,F,A0];by_cases A:x=y
   .rw [yp (ZV.2 A),yp A]
   .rw [yn (by rw [ZV];exact A),yn A]) a 0 yE
  simpa using this
 .rw [yp (by simp;omega),decide_eq_false (fun e=>h (by rw [e]))]
open Classical
theorem Xj(a b:Za):Zad a b=some (decide (a=b)):=by
 unfold Zad;by_cases h:a.rel=b.rel
 .rw [yp (ZV.2 h),Zoo,A0];congr 1
  rw [AD,decide_eq_true_iff,decide_eq_true_iff];exact ⟨fun e=>ZtH h e,fun e=>by rw [e]⟩
 .rw [yn (by rw [ZV];exact h),decide_eq_false (fun e=>h (by rw [e]))]
theorem ZfP(l:List Za)(f:Za):∃z,Yl l f=some z/\(z<0↔f∉l):=by
 unfold Yl;have key:∀(l:List Za) (i:Nat),∃z,forL (σ:=Unit) (fun (E:Nat) (C:Za) _=>(Zad C f).bind fun D=>if D=true then some (.inr (E:Int)) else some (.inl ())) (fun _=>some (-1)) l i ()=some z/\(z<0↔f∉l):=by
  intro l;induction l with
  |nil=>intro i;exact ⟨-1,rfl,yG⟩
  |cons x l ih=>
   intro i;by_cases B:x=f
   .refine ⟨(i:Int),Z5 (by rw [Xj,A0,yp (decide_eq_true B)]),by simp [B]⟩
   .obtain ⟨z,e,F⟩:=ih (i+1);refine ⟨z,(ZO (by rw [Xj,A0,yn (by simpa using B)])).trans e,?_⟩;rw [F,AE];exact ⟨fun h=>by rintro (A|A);exact B A.symm;exact h A,fun h A=>h (.inr A)⟩
 exact key l 0
def Zbe:List Za->Za->List Za
 | [],f=>[f]
 |x::l,f=>if Zfk x f<0 then x::Zbe l f else if Zfk x f=0 then x::l else f::x::l
def ZfX(l:List Za):Prop:=l.Pairwise fun x y=>Zfk x y<0
theorem XR{y f:Za}:∀{l:List Za},y∈Zbe l f↔y=f\/y∈l
 | []=>by simp [Zbe]
 |x::l=>by
  simp only[Zbe];split
  .rw [AE,XR,AE];exact ⟨fun h=>by rcases h with h|h|h<;>simp [h],fun h=>by rcases h with h|h|h<;>simp [h]⟩
  .split
   .rename_i h;have e:=(Zdl.eq _ _).1 h;rw [AE,e];exact ⟨fun h=>by rcases h with h|h<;>simp [h],fun h=>by rcases h with h|h|h<;>simp [h]⟩
   .rw [AE]
theorem Zkv(f:Za):∀l:List Za,(Zbe l f).length<=l.length+1
 | []=>by simp [Zbe]
 |x::l=>by
  have:=Zkv f l;simp only[Zbe];split
  .simp;omega
  .split<;>simp
theorem Zpv{f:Za}:∀{l:List Za},ZfX l->ZfX (Zbe l f)
 | [],_=>by simp [Zbe,ZfX]
 |x::l,h=>by
  unfold ZfX at *;rw [AM]at h;simp only[Zbe];split
  .rename_i B;rw [AM];refine ⟨fun y A=>?_,Zpv h.2⟩;rcases XR.1 A with rfl|A
   .exact B
   .exact h.1 y A
  .rename_i B;split
   .rw [AM];exact h
   .rename_i C;have a:Zfk f x<0:=by rw [Zdl.anti x f];omega
    rw [AM,AM];refine ⟨fun y A=>?_,h⟩;rcases AE.1 A with rfl|A
    .exact a
    .exact Zdl.tr _ _ _ a (h.1 y A)
theorem Zg7(l:List Za)(f:Za)(F:l.length<=1048576)(ha:∀x∈l,x.args.length<=1048576)(D:f.args.length<=1048576):YS l f=some (Zbe l f):=by
 unfold YS;rw [Zbt (fun l _ s=>some (s.1++(if s.2=true then l else Zbe l f))) (fun l _ s=>s.1.length+2*l.length+1<=4000000/\∀x∈l,x.args.length<=1048576) ?_ ?_ l 0 ([],false) ⟨by simp;omega,ha⟩]
 .simp
 .rintro i ⟨row,a⟩ ⟨C,_⟩;cases a with
  |true=>simp
  |false=>
   simp only[AB,if_false];simp only[An]at C;rw [Y6 f D,A0,Zj _ yE];rfl
 .rintro x l i ⟨row,a⟩ ⟨C,B⟩;simp only[AI]at C;have hx:=B x yG;left
  cases a with
  |true=>
   simp only[if_true];rw [Y6 x hx,A0,Zj _ yE];exact ⟨_,rfl,⟨by simp;omega,fun y A=>B y (by simp [A])⟩,yG⟩
  |false=>
   simp only[AB,if_false];rw [Zfm,A0];by_cases b:Zfk x f<0
   .rw [yn (by simp;omega),Y6 x hx,A0,Zj _ yE];exact ⟨_,rfl,⟨by simp;omega,fun y A=>B y (by simp [A])⟩,by simp [Zbe,b]⟩
   .rw [yp (by simp;omega),A0];by_cases E:Zfk x f=0
    .rw [yn (by simp;omega),Y6 x hx,A0,Zj _ yE];exact ⟨_,rfl,⟨by simp;omega,fun y A=>B y (by simp [A])⟩,by simp [Zbe,E]⟩
    .rw [yp (by simp;omega),Y6 f D,A0,Zj _ yE,Y6 x hx,A0,Zj _ yE];exact ⟨_,rfl,⟨by simp;omega,fun y A=>B y (by simp [A])⟩,by simp [Zbe,E,b]⟩
theorem ZkK(l:List Za)(f:Za)(F:f∉l)(H:l.length<=1048576)(ha:∀x∈l,x.args.length<=1048576)(D:f.args.length<=1048576):X8 l f=some (Zbe l f):=by
 unfold X8;rw [Zbt (fun l _ s=>some (s.1++(if s.2=true then l else Zbe l f))) (fun l _ s=>s.1.length+2*l.length+1<=4000000/\f∉l/\∀x∈l,x.args.length<=1048576) ?_ ?_ l 0 ([],false) ⟨by simp;omega,F,ha⟩]
 .simp
 .rintro i ⟨row,a⟩ ⟨C,_⟩;cases a with
  |true=>simp
  |false=>
   simp only[AB,if_false];simp only[An]at C;rw [Xl f D,A0,Zj _ yE];rfl
 .rintro x l i ⟨row,a⟩ ⟨C,E,B⟩;simp only[AI]at C;have hx:=B x yG;have b:f∉l:=fun m=>E (by simp [m]);left
  cases a with
  |true=>
   simp only[if_true];rw [Xl x hx,A0,Zj _ yE];exact ⟨_,rfl,⟨by simp;omega,b,fun y A=>B y (by simp [A])⟩,yG⟩
  |false=>
   simp only[AB,if_false];rw [Zfx,A0];have G:¬Zfk x f=0:=fun e=>E (by rw [(Zdl.eq _ _).1 e];simp);by_cases c:Zfk x f<0
   .rw [yn (by simp;omega),Xl x hx,A0,Zj _ yE];exact ⟨_,rfl,⟨by simp;omega,b,fun y A=>B y (by simp [A])⟩,by simp [Zbe,c]⟩
   .rw [yp (by simp;omega),Xl f D,A0,Zj _ yE,Xl x hx,A0,Zj _ yE];exact ⟨_,rfl,⟨by simp;omega,b,fun y A=>B y (by simp [A])⟩,by simp [Zbe,G,c]⟩
def Qv(l:List Zz):List Za:=l.foldl (fun acc s=>if sEq s.rule ⟨#[]⟩=true then Zbe acc s.fact else acc) []
theorem ZhQ(p:List Zz)(x:Zz):Qv (p++[x])=if sEq x.rule ⟨#[]⟩=true then Zbe (Qv p) x.fact else Qv p:=by
 unfold Qv;rw [AY];rfl
end
def Z0(p:Zo):Bool:=X0 p.rel&&decide (p.args.length<=3)&&p.args.all YI
theorem QJ(p:Zo):Y5 p=some (Z0 p):=by
 unfold Y5 Z0;rw [Yb (p:=YI) (r:=false)]
 .simp only[ZiB,A0];have:decide ((p.args.length:Int)<=3)=decide (p.args.length<=3):=by rw [AD];simp only[decide_eq_true_eq];omega
  rw [this];cases p.args.all YI<;>cases X0 p.rel<;>simp
 .intro i x _;rw [ZmD];cases YI x<;>simp
theorem ZcB(p:Zo):XH p=some (Z0 p):=by
 unfold XH Z0;rw [ZhX,Yb (p:=YI) (r:=false)]
 .by_cases h:p.args.length<=3
  .have A:¬(3:Int)<(p.args.length:Int):=by omega
   cases p.args.all YI<;>cases X0 p.rel<;>simp [h,A]
  .have A:(3:Int)<(p.args.length:Int):=by omega
   cases X0 p.rel<;>simp [h,A]
 .intro i x _;rw [ZmN];cases YI x<;>simp
def Xy(p:Zo):Bool:=sEq p.rel ⟨#[]⟩&&decide (p.args.length=0)
theorem Zym{α:Type}(l:List α):(((l.length:Int))==0)=decide (l.length=0):=by
 rw [AD,beq_iff_eq,decide_eq_true_eq];omega
theorem Zf8(p:Zo):XF p=some (Xy p):=by
 unfold XF Xy;rw [Zym];cases sEq p.rel ⟨#[]⟩<;>simp
def YC(x:Zu):Bool:=
 if x.kind=1\/x.kind=2 then Z0 x.pattern&&sEq x.left ⟨#[]⟩&&sEq x.right ⟨#[]⟩ else if x.kind=3\/x.kind=4\/x.kind=5 then Xy x.pattern&&YI x.left&&YI x.right else false
theorem ZbW(x:Zu):Zcg x=some (YC x):=by
 unfold Zcg YC;simp only[QJ,ZmD,A0,Xy,Zym,beq_iff_eq];by_cases E:x.kind=1
 .simp only[E,if_true,true_or];cases Z0 x.pattern<;>cases sEq x.left ⟨#[]⟩<;>simp
 by_cases D:x.kind=2
 .simp only[D,if_true,or_true];cases Z0 x.pattern<;>cases sEq x.left ⟨#[]⟩<;>simp
 simp only[E,D,if_false,or_self];by_cases C:x.kind=3
 .simp only[C,if_true,true_or];cases sEq x.pattern.rel ⟨#[]⟩<;>cases decide (x.pattern.args.length=0)<;>cases YI x.left<;>simp
 by_cases B:x.kind=4
 .simp only[B,if_true,true_or,or_true];cases sEq x.pattern.rel ⟨#[]⟩<;>cases decide (x.pattern.args.length=0)<;>cases YI x.left<;>simp
 by_cases A:x.kind=5
 .simp only[A,if_true,or_true];cases sEq x.pattern.rel ⟨#[]⟩<;>cases decide (x.pattern.args.length=0)<;>cases YI x.left<;>simp
 simp [C,B,A]
theorem ZiF(x:Zu):ZeB x=some (YC x):=by
 unfold ZeB YC;simp only[ZcB,ZmN,Zf8,A0,beq_iff_eq];by_cases E:x.kind=1
 .simp only[E,if_true,true_or];cases Z0 x.pattern<;>cases sEq x.left ⟨#[]⟩<;>simp
 by_cases D:x.kind=2
 .simp only[D,if_true,or_true];cases Z0 x.pattern<;>cases sEq x.left ⟨#[]⟩<;>simp
 simp only[E,D,if_false,or_self];by_cases C:x.kind=3
 .simp only[C,if_true,true_or];cases Xy x.pattern<;>cases YI x.left<;>cases YI x.right<;>simp
 by_cases B:x.kind=4
 .simp only[B,if_true,true_or,or_true];cases Xy x.pattern<;>cases YI x.left<;>cases YI x.right<;>simp
 by_cases A:x.kind=5
 .simp only[A,if_true,or_true];cases Xy x.pattern<;>cases YI x.left<;>cases YI x.right<;>simp
 simp [C,B,A]
theorem Zr1{x:Zu}(h:YC x=true):x.kind=1\/x.kind=2\/x.kind=3\/x.kind=4\/x.kind=5:=by
 unfold YC at h;split at h
 .rename_i A;omega
 .split at h
  .rename_i A;omega
  .simp at h
theorem Zvo(x:Zu):Zcr x=some (YC x&&decide (3<=x.kind)):=by
 unfold Zcr;rw [ZbW];cases YC x<;>simp
def X7(a:Zy):Bool:=
 if a.kind=1\/a.kind=2 then Z0 a.pattern else if a.kind=3 then Xy a.pattern else false
theorem Zp2(a:Zy):ZeS a=some (X7 a):=by
 unfold ZeS X7;simp only[QJ,A0,Xy,Zym,beq_iff_eq];by_cases C:a.kind=1
 .simp [C]
 by_cases B:a.kind=2
 .simp [B]
 by_cases A:a.kind=3
 .simp only[A,if_true];cases sEq a.pattern.rel ⟨#[]⟩<;>simp
 simp [C,B,A]
theorem Zp3(a:Zy):Zes a=some (X7 a):=by
 unfold Zes X7;simp only[ZcB,Zf8,A0,beq_iff_eq];by_cases C:a.kind=1
 .simp [C]
 by_cases B:a.kind=2
 .simp [B]
 by_cases A:a.kind=3
 .simp [A]
 simp [C,B,A]
def Xw(l:List BYT):List BYT:=l.filter Yu
theorem Zed(l:List BYT):(Xw l).length<=l.length:=List.length_filter_le _ _
theorem Zc1{x:BYT}{l:List BYT}:x∈Xw l↔x∈l/\Yu x=true:=by simp [Xw]
theorem ZeV(l:List BYT)(h:l.length<=1073741824):Zaz l=some (Xw l):=by
 unfold Zaz;rw [ZfE (p:=Yu)]
 .simp [Xw]
 .intro j x s _ hs;rw [Zfb,A0];split
  .rw [Zj _ (by simp at hs;omega)]
  .rfl
theorem Zmv{p:BYT->Bool}:∀(l acc:List BYT),l.foldl (fun s x=>if p x=true then Zae s x else s) acc=(l.filter p).foldl Zae acc
 | [],_=>rfl
 |x::l,acc=>by
  rw [Ap,Zmv l];by_cases h:p x=true<;>simp [h]
theorem Zdx(p:Zo)(h:p.args.length<=1073741823):Zco p=some (Z9 (Xw p.args)):=by
 unfold Zco;rw [Xf (f:=fun s x=>if Yu x=true then Zae s x else s) (fun j s=>s.length<=j) yG]
 .rw [Zmv];rfl
 .intro j x s _ _ A B;simp at A;have:=Ze7 x s;rw [XO,A0];split
  .rw [Zac _ _ yE];exact ⟨rfl,yE⟩
  .exact ⟨rfl,yE⟩
def ZgT(x:Zu):List BYT:=x.pattern.args++[x.left,x.right]
def Y1(x:Zu):List BYT:=Z9 (Xw (ZgT x))
theorem Zdh(x:Zu)(h:x.pattern.args.length<=1073741822):Zab x=some (Y1 x):=by
 unfold Zab Zja;rw [Zim _ yE,A0,Zj _ yE,A0,ZeV _ (by simp;omega),A0];have:=Zed (x.pattern.args++[x.left,x.right]);simp at this;rw [QP _ yE];rfl
theorem Zdi(x:Zu)(h:x.pattern.args.length<=1073741820):Qr x=some (Y1 x):=by
 unfold Qr;have h1:=Zft (Xw x.pattern.args);have h2:=Zed x.pattern.args;have h3:=Ze7 x.left (Z9 (Xw x.pattern.args));have key:∀l:List BYT,(∀y,y∈l↔y∈Xw (ZgT x))->Asc l->l=Y1 x:=fun l A ha=>Zhf ha A;rw [Zdx _ yE,A0,XO,A0,XO];simp only[A0];rw [Zac _ _ yE,A0,Zac (Zae _ _) _ yE,A0,Zac _ x.right yE,A0];cases hl:Yu x.left<;>cases hr:Yu x.right<;>simp only[if_true,AB,if_false]<;>congr 1<;>apply key<;>(try intro y)<;>(try simp only[Zlt,Z3,Zc1,ZgT,Aq,AE,BA,or_false])
 all_goals first
  |exact ZdE _
  |exact ZhY (ZdE _)
  |exact ZhY (ZhY (ZdE _))
  |skip
 .constructor
  .rintro ⟨a,b⟩;exact ⟨.inl a,b⟩
  .rintro ⟨a|rfl|rfl,b⟩
   .exact ⟨a,b⟩
   .rw [hl]at b;simp at b
   .rw [hr]at b;simp at b
 .constructor
  .rintro (rfl|⟨a,b⟩)
   .exact ⟨yG,hr⟩
   .exact ⟨.inl a,b⟩
  .rintro ⟨a|rfl|rfl,b⟩
   .exact .inr ⟨a,b⟩
   .rw [hl]at b;simp at b
   .exact .inl rfl
 .constructor
  .rintro (rfl|⟨a,b⟩)
   .exact ⟨yG,hl⟩
   .exact ⟨.inl a,b⟩
  .rintro ⟨a|rfl|rfl,b⟩
   .exact .inr ⟨a,b⟩
   .exact .inl rfl
   .rw [hr]at b;simp at b
 .constructor
  .rintro (rfl|rfl|⟨a,b⟩)
   .exact ⟨yG,hr⟩
   .exact ⟨yG,hl⟩
   .exact ⟨.inl a,b⟩
  .rintro ⟨a|rfl|rfl,b⟩
   .exact .inr (.inr ⟨a,b⟩)
   .exact .inr (.inl rfl)
   .exact .inl rfl
theorem Zi1(x:Zu):(Y1 x).length<=x.pattern.args.length+2:=by
 have h1:=Zft (Xw (ZgT x));have h2:=Zed (ZgT x);have A:(ZgT x).length=x.pattern.args.length+2:=by simp [ZgT]
 unfold Y1;omega
theorem ZyZ{x:Zu}{v:BYT}(h:v∈Y1 x):Yu v=true:=(Zc1.1 (Z3.1 h)).2
structure Q6 (r:Zf):Prop where
 cl:r.cond.length<=1048576
 tl:r.thn.length<=1048576
 ca:∀x∈r.cond,x.pattern.args.length<=1048576
 ta:∀a∈r.thn,a.pattern.args.length<=1048576
def YR(l:List Zu):List BYT:=l.flatMap fun x=>if x.kind=1 then Xw x.pattern.args else []
def YU(r:Zf)(n:Nat):List BYT:=Z9 (YR (r.cond.take n))
theorem Ze9(r:Zf)(n:Int)(h:Q6 r)(I:r.cond.length<=4):ZaP r n=some (YU r n.toNat):=by
 unfold ZaP YU;refine (Zbt (fun l i (row:List BYT)=>some (Z9 (row++YR (l.take (n.toNat - i))))) (fun l i row=>r.cond.drop i=l/\row.length<=1048576*i/\i<=r.cond.length) ?_ ?_ r.cond 0 [] ⟨yG,yG,yG⟩).trans yG
 .rintro i row ⟨D,G,F⟩;rw [QP _ yE];simp [YR]
 .rintro x l i row ⟨D,G,F⟩;left
  have hi:r.cond[i]?=some x:=by have:=congrArg (fun l=>l[0]?) D;simpa using this
  have E:i<r.cond.length:=(AT.1 hi).1;have B:r.cond.drop (i+1)=l:=by have:=congrArg Ae D;simpa using this
  have hx:=h.ca x (AW hi);have hv:=Zed x.pattern.args;by_cases C:(i:Int)<n
  .have e:n.toNat - i=(n.toNat - (i+1))+1:=by omega
   by_cases A:x.kind=1
   .refine ⟨row++Xw x.pattern.args,?_,⟨B,by simp;omega,yE⟩,?_⟩
    .simp only[C,A,decide_true,beq_self_eq_true,if_true];rw [ZeV _ yE,A0,Zj _ yE]
    .rw [e];simp [YR,A]
   .refine ⟨row,?_,⟨B,yE,yE⟩,?_⟩
    .simp [C,A]
    .rw [e];simp [YR,A]
  .have e:n.toNat - i=0:=by omega
   have H:n.toNat - (i+1)=0:=by omega
   refine ⟨row,?_,⟨B,yE,yE⟩,?_⟩
   .simp [C]
   .rw [e,H];simp
theorem ZcC(r:Zf)(n:Int)(h:Q6 r)(M:r.cond.length<=4):Qh r n=some (YU r n.toNat):=by
 unfold Qh YU;refine (Zbt (fun l i (row:List BYT)=>some ((YR (l.take (n.toNat - i))).foldl Zae row)) (fun l i row=>r.cond.drop i=l/\row.length<=1048576*i/\i<=r.cond.length/\Asc row) ?_ ?_ r.cond 0 [] ⟨yG,yG,yG,AN⟩).trans (by simp [Z9])
 .rintro i row ⟨D,I,H,B⟩;simp [YR]
 .rintro x l i row ⟨D,I,H,B⟩;have hi:r.cond[i]?=some x:=by have:=congrArg (fun l=>l[0]?) D;simpa using this
  have G:i<r.cond.length:=(AT.1 hi).1;have E:r.cond.drop (i+1)=l:=by have:=congrArg Ae D;simpa using this
  have hx:=h.ca x (AW hi);have hv:=Zed x.pattern.args;have hs:=Zft (Xw x.pattern.args);by_cases C:(i:Int)<n
  .left
   have e:n.toNat - i=(n.toNat - (i+1))+1:=by omega
   by_cases A:x.kind=1
   .obtain ⟨F,L,N⟩:=QG (Z9 (Xw x.pattern.args)) row B;refine ⟨(Z9 (Xw x.pattern.args)).foldl Zae row,?_,⟨E,yE,yE,F⟩,?_⟩
    .simp only[C,A,decide_true,beq_self_eq_true,if_true];rw [Zdx _ yE,A0,Zoe (fun _ _ _=>rfl) yE]
    .rw [e];simp only[YR,List.take_succ_cons,Aa,A,if_true,AY];congr 2
     obtain ⟨K,J,_⟩:=QG (Xw x.pattern.args) row B;exact Zst K F fun y=>by rw [J,L,Z3]
   .refine ⟨row,?_,⟨E,yE,yE,B⟩,?_⟩
    .simp [C,A]
    .rw [e];simp [YR,A]
  .right
   have e:n.toNat - i=0:=by omega
   refine ⟨row,by simp [C],by rw [e];simp [YR]⟩
def Zn0(r:Zf)(i:Int)(v:BYT):Bool:=!(Zav (fun k x=>!(decide ((k:Int)≠i)&&YT (Y1 x) v)) r.cond 0&&r.thn.all fun a=>!YT a.pattern.args v)
theorem ZhH{r:Zf}{i:Int}{v:BYT}{f:Zu->Option (List BYT)}{g:List BYT->BYT->Option Bool}(C:∀x∈r.cond,f x=some (Y1 x))(B:∀l,g l v=some (YT l v)){fin:Unit->Option Bool}(c:fin ()=some (!(r.thn.all fun a=>!YT a.pattern.args v))):
  forL (σ:=Unit) (fun (k:Nat) (x:Zu) _=>if ((k:Int) != i)=true then (f x).bind fun l=>(g l v).bind fun b=>if b=true then some (.inr true) else some (.inl ()) else some (.inl ())) fin r.cond 0 ()=some (Zn0 r i v):=by
 rw [XM (p:=fun k x=>!(decide ((k:Int)≠i)&&YT (Y1 x) v)) (r:=true)]
 .unfold Zn0;cases Zav (fun k x=>!(decide ((k:Int)≠i)&&YT (Y1 x) v)) r.cond 0 with
  |true=>simp only[if_true,c,AA]
  |false=>simp
 .intro j x A;rw [C x (AW A),A0,B,A0,AZ];by_cases h:(j:Int)=i
  .simp [h]
  .have:((j:Int) != i)=true:=by simpa using h
   simp only[this,if_true];cases YT (Y1 x) v<;>simp [h]
theorem ZiC(r:Zf)(i:Int)(v:BYT)(h:Q6 r):Qg r i v=some (Zn0 r i v):=by
 unfold Qg;refine ZhH (f:=Zab) (g:=XL) (fun x A=>Zdh x (by have:=h.ca x A;omega)) (fun l=>Zbc l v) ?_;rw [ZaJ (p:=fun a=>YT a.pattern.args v) (r:=true)]
 .simp only[<-BB,BC];cases r.thn.any fun a=>YT a.pattern.args v<;>rfl
 .intro j a _;rw [Zbc];cases YT a.pattern.args v<;>simp
theorem ZlY(r:Zf)(i:Int)(v:BYT)(h:Q6 r)(C:Yu v=true):Qt r i v=some (Zn0 r i v):=by
 unfold Qt;refine ZhH (f:=Qr) (g:=Z4) (fun x A=>Zdi x (by have:=h.ca x A;omega)) (fun l=>YL l v) ?_;rw [ZaJ (p:=fun a=>YT a.pattern.args v) (r:=true)]
 .simp only[<-BB,BC];cases r.thn.any fun a=>YT a.pattern.args v<;>rfl
 .intro j a B;rw [Zdx _ (by have:=h.ta a B;omega),A0,YL,A0];have:YT (Z9 (Xw a.pattern.args)) v=YT a.pattern.args v:=by
   rw [AD,Qi,Qi,Z3,Zc1];simp [C]
  rw [this];cases YT a.pattern.args v<;>simp
def ZoX(r:Zf)(i:Nat)(x:Zu)(v:BYT):Bool:=decide (x.kind=1)||YT (YU r i) v||(decide (x.kind=2)&&!Zn0 r i v)
def Zh6(r:Zf)(i:Nat)(x:Zu):Bool:=(Y1 x).all (ZoX r i x)
theorem Zp0(r:Zf)(i:Nat)(x:Zu)(h:Q6 r)(D:r.cond.length<=4)(A:r.cond[i]?=some x):Zc0 r i=some (Zh6 r i x):=by
 unfold Zc0 Zh6;have ha:atI r.cond (i:Int)=some x:=by unfold atI;rw [yp yE,AK];exact A
 rw [ha,A0,Ze9 r _ h D,A0,Zdh x (by have:=h.ca x (AW A);omega),A0,AK];rw [Yb (p:=ZoX r i x) (r:=false)]
 .cases (Y1 x).all (ZoX r i x)<;>rfl
 .intro j v E;rw [Zbc,ZiC r _ v h];simp only[A0,ZoX,beq_iff_eq,bne_iff_ne,ne_eq];by_cases C:x.kind=1
  .simp [C]
  .simp only[C,if_false,decide_false,BD];cases YT (YU r i) v with
   |true=>simp
   |false=>
    by_cases B:x.kind=2
    .simp only[B,not_true_eq_false,if_false,AB,decide_true,AA,BD];cases Zn0 r i v<;>simp
    .simp [B]
def YA(r:Zf):Bool:=
 X0 r.name&&decide (0<=r.priority)&&decide (r.priority<=9)&&decide (1<=r.cond.length)&&decide (r.cond.length<=4)&&decide (1<=r.thn.length)&&decide (r.thn.length<=2) && Zav (fun i x=>YC x&&(decide (i≠0)||decide (x.kind=1))&&Zh6 r i x) r.cond 0 && r.thn.all (fun a=>X7 a&&(Xw a.pattern.args).all (YT (YU r r.cond.length))) && decide ((Z9 (r.cond.flatMap Y1)).length<=6)
theorem Zm7(l:List Zu)(h:∀x∈l,x.pattern.args.length<=1048576)(D:l.length<=4):Zct l=some (l.flatMap Y1):=by
 unfold Zct;rw [Xf (f:=fun s x=>s++Y1 x) (fun j s=>s.length<=1048578*j) yG]
 .congr 1
  have:∀(l:List Zu) (acc:List BYT),l.foldl (fun s x=>s++Y1 x) acc=acc++l.flatMap Y1:=by
   intro l;induction l with
   |nil=>simp
   |cons x l ih=>intro acc;rw [Ap,ih];simp
  simpa using this l []
 .intro j x s A _ B C;have:=h x A;have:=Zi1 x;rw [Zdh x yE,A0,Zj _ yE];exact ⟨rfl,by simp;omega⟩
theorem Zh2(r:Zf)(h:Q6 r):ZeW r=some (YA r):=by
 unfold ZeW YA;rw [ZhX,A0];cases X0 r.name with
 |false=>simp
 |true=>
 simp only[if_true,decide_eq_true_eq,AA];split
 .rw [decide_eq_false (show ¬0<=r.priority by omega)];simp
 split
 .rw [decide_eq_false (show ¬r.priority<=9 by omega)];simp
 split
 .rw [decide_eq_false (show ¬1<=r.cond.length by omega)];simp
 split
 .rw [decide_eq_false (show ¬r.cond.length<=4 by omega)];simp
 split
 .rw [decide_eq_false (show ¬1<=r.thn.length by omega)];simp
 split
 .rw [decide_eq_false (show ¬r.thn.length<=2 by omega)];simp
 rw [decide_eq_true (show 0<=r.priority by omega),decide_eq_true (show r.priority<=9 by omega),decide_eq_true (show 1<=r.cond.length by omega),decide_eq_true (show r.cond.length<=4 by omega),decide_eq_true (show 1<=r.thn.length by omega),decide_eq_true (show r.thn.length<=2 by omega)];simp only[AA];have B:r.cond.length<=4:=by omega
 rw [XM (p:=fun i x=>YC x&&(decide (i≠0)||decide (x.kind=1))&&Zh6 r i x) (r:=false)]
 .cases Zav (fun i x=>YC x&&(decide (i≠0)||decide (x.kind=1))&&Zh6 r i x) r.cond 0 with
  |false=>simp
  |true=>
   simp only[if_true,AA];rw [Ze9 r _ h B,A0,AK,Yb (p:=fun a=>X7 a&&(Xw a.pattern.args).all (YT (YU r r.cond.length))) (r:=false)]
   .cases r.thn.all fun a=>X7 a&&(Xw a.pattern.args).all (YT (YU r r.cond.length)) with
    |false=>simp
    |true=>
     have A:(r.cond.flatMap Y1).length<=1048578*r.cond.length:=by
      have:∀l:List Zu,(∀x∈l,x.pattern.args.length<=1048576)->(l.flatMap Y1).length<=1048578*l.length:=by
       intro l;induction l with
       |nil=>simp
       |cons x l ih=>
        intro A;have h1:=ih fun y E=>A y (by simp [E]);have h2:=A x yG;have h3:=Zi1 x;simp only[Aa,AQ,AI];omega
      exact this r.cond h.ca
     simp only[if_true,AA];rw [Zm7 _ h.ca B,A0,QP _ yE,A0];congr 1
     rw [AD];simp only[decide_eq_true_eq];omega
   .intro j a F;rw [Zp3,A0];cases X7 a with
    |false=>simp
    |true=>
     simp only[if_true,AA];rw [ZeV _ (by have:=h.ta a F;omega),A0,Yb (p:=YT (YU r r.cond.length)) (r:=.inr false)]
     .cases (Xw a.pattern.args).all (YT (YU r r.cond.length))<;>rfl
     .intro k v _;rw [Zbc,A0];cases YT (YU r r.cond.length) v<;>simp
 .intro j x G;rw [AZ,ZiF,A0,Zp0 r j x h B G];simp only[A0];cases YC x with
  |false=>simp
  |true=>
   by_cases D:j=0
   .subst D;by_cases C:x.kind=1
    .simp only[C];cases Zh6 r 0 x<;>simp
    .simp [C]
   .have:((j:Int)==0)=false:=by rw [beq_eq_false_iff_ne];omega
    simp only[this];cases Zh6 r j x<;>simp [D]
theorem Zhh{α:Type}(f:α->List BYT):∀(l:List α) (acc:List BYT),Asc acc->l.foldl (fun s x=>(f x).foldl Zae s) acc=(l.flatMap f).foldl Zae acc
 | [],_,_=>rfl
 |x::l,acc,h=>by rw [Ap,Zhh f l _ (QG (f x) acc h).1,Aa,AY]
def Zod(r:Zf):List BYT:=Z9 (r.cond.flatMap Y1++r.thn.flatMap fun a=>Xw a.pattern.args)
theorem ZpA(r:Zf)(h:Q6 r)(K:r.cond.length<=4)(h2:r.thn.length<=2):Zfc r=some (Zod r):=by
 unfold Zfc Zod;rw [Xf (f:=fun s x=>(Y1 x).foldl Zae s) (fun j s=>s.length<=1048578*j/\Asc s) ⟨yG,AN⟩]
 .have hA:=Zhh Y1 r.cond [] AN;have D:Asc (r.cond.foldl (fun s x=>(Y1 x).foldl Zae s) []):=by rw [hA];exact (QG _ [] AN).1
  have A:(r.cond.foldl (fun s x=>(Y1 x).foldl Zae s) []).length<=1048578*4:=by
   rw [hA];have:=(QG (r.cond.flatMap Y1) [] AN).2.2;have h3:(r.cond.flatMap Y1).length<=1048578*r.cond.length:=by
    have:∀l:List Zu,(∀x∈l,x.pattern.args.length<=1048576)->(l.flatMap Y1).length<=1048578*l.length:=by
     intro l;induction l with
     |nil=>simp
     |cons x l ih=>
      intro A;have h1:=ih fun y E=>A y (by simp [E]);have h2:=A x yG;have h3:=Zi1 x;simp only[Aa,AQ,AI];omega
    exact this r.cond h.ca
   simp only[An,Nat.add_zero]at this;omega
  rw [Xf (f:=fun s a=>(Z9 (Xw a.pattern.args)).foldl Zae s) (fun j s=>s.length<=1048578*4+1048576*j/\Asc s) ⟨yE,D⟩]
  .congr 1
   rw [Zhh (fun a:Zy=>Z9 (Xw a.pattern.args)) r.thn _ D,hA];refine Zhf (QG _ _ (QG _ [] AN).1).1 fun y=>?_;rw [(QG _ _ (QG _ [] AN).1).2.1 y,(QG _ [] AN).2.1 y];simp only[Aq,As,Z3,BA,or_false];exact Or.comm
  .intro j a s G _ H B;have h5:=h.ta a G;have h6:=Zed a.pattern.args;have h7:=Zft (Xw a.pattern.args);obtain ⟨C,J,I⟩:=QG (Z9 (Xw a.pattern.args)) s B.2;rw [Zdx _ yE,A0,Zoe (fun _ _ _=>rfl) yE];exact ⟨rfl,yE,C⟩
 .intro j x s F _ H B;have h5:=h.ca x F;have h6:=Zi1 x;obtain ⟨C,J,I⟩:=QG (Y1 x) s B.2;rw [Zdi _ yE,A0,Zoe (fun _ _ _=>rfl) yE];exact ⟨rfl,yE,C⟩
theorem Zt4{l:List Zu}{y:BYT}(h:y∈YR l):y∈l.flatMap Y1:=by
 simp only[YR,As]at h ⊢;obtain ⟨x,B,A⟩:=h;refine ⟨x,B,?_⟩;split at A
 .rw [Y1,Z3,Zc1];rw [Zc1]at A;exact ⟨by simp [ZgT,A.1],A.2⟩
 .simp at A
theorem Zb9(r:Zf)(h:Q6 r):XU r=some (YA r):=by
 unfold XU YA;rw [ZiB,A0];cases X0 r.name with
 |false=>simp
 |true=>
 simp only[if_true,Zej,A0,AA,AL,decide_eq_true_eq];split
 rotate_left
 .rename_i F;have:(decide (0<=r.priority)&&decide (r.priority<=9))=false:=by simp;omega
  rw [this];simp
 rename_i E;rw [decide_eq_true E.1,decide_eq_true E.2];split
 rotate_left
 .rename_i F;have:(decide (1<=r.cond.length)&&decide (r.cond.length<=4))=false:=by simp;omega
  simp only[AA,this,BE]
 rename_i K;rw [decide_eq_true (show 1<=r.cond.length by omega),decide_eq_true (show r.cond.length<=4 by omega)];split
 rotate_left
 .rename_i F;have:(decide (1<=r.thn.length)&&decide (r.thn.length<=2))=false:=by simp;omega
  simp only[AA,this,BE]
 rename_i J;rw [decide_eq_true (show 1<=r.thn.length by omega),decide_eq_true (show r.thn.length<=2 by omega)];simp only[AA];have D:r.cond.length<=4:=by omega
 rw [ZcC r _ h D,A0,AK];rw [XM (p:=fun i x=>YC x&&(decide (i≠0)||decide (x.kind=1))&&Zh6 r i x) (r:=false)]
 .cases Zav (fun i x=>YC x&&(decide (i≠0)||decide (x.kind=1))&&Zh6 r i x) r.cond 0 with
  |false=>simp
  |true=>
   simp only[if_true,AA];rw [Yb (p:=fun a=>X7 a&&(Xw a.pattern.args).all (YT (YU r r.cond.length))) (r:=false)]
   .cases ha:r.thn.all fun a=>X7 a&&(Xw a.pattern.args).all (YT (YU r r.cond.length)) with
    |false=>simp
    |true=>
     simp only[if_true,AA];rw [ZpA r h D yE,A0];have e:Zod r=Z9 (r.cond.flatMap Y1):=ZpK fun y=>by
      simp only[Aq];refine ⟨fun B=>?_,.inl⟩;rcases B with B|B
      .exact B
      .obtain ⟨a,C,B⟩:=As.1 B;have:=AS.1 ha a C;simp only[AL]at this;have:=AS.1 this.2 y B;rw [Qi,YU,Z3,List.take_length]at this;exact Zt4 this
     rw [e];congr 1
     rw [AD];simp only[decide_eq_true_eq];omega
   .intro j a C;rw [Zp2,A0];cases X7 a with
    |false=>simp
    |true=>
     simp only[if_true,AA];rw [Zdx _ (by have:=h.ta a C;omega),A0,Yb (p:=YT (YU r r.cond.length)) (r:=.inr false)]
     .have:(Z9 (Xw a.pattern.args)).all (YT (YU r r.cond.length))=(Xw a.pattern.args).all (YT (YU r r.cond.length)):=by
       rw [AD,AS,AS];simp only[Z3]
      rw [this];cases (Xw a.pattern.args).all (YT (YU r r.cond.length))<;>rfl
     .intro k v _;rw [YL,A0];cases YT (YU r r.cond.length) v<;>simp
 .intro j x I;have hxa:=h.ca x (AW I);rw [AZ,ZbW,A0,ZcC r _ h D,Zdi x yE,AK];simp only[A0];cases hic:YC x with
  |false=>simp
  |true=>
   have c:∀{fin:Unit->Option (Unit ⊕ Bool)} (d:fin ()=some (.inl ())),forL (σ:=Unit) (ρ:=Unit ⊕ Bool) (fun (_:Nat) (v:BYT) _=>(Z4 (YU r j) v).bind fun b=>(Zcr x).bind fun t=>if t=true then (if b=true then (if (x.kind==2)=true then some (.inl ()) else some (.inl ())) else some (.inr (.inr false))) else (if (x.kind==2)=true then (if b=true then some (.inl ()) else (Qt r (j:Int) v).bind fun e=>if e=true then some (.inr (.inr false)) else some (.inl ())) else some (.inl ()))) fin (Y1 x) 0 ()=some (bif Zh6 r j x then .inl () else .inr false):=fun {fin} d=>by
    rw [Yb (p:=ZoX r j x) (r:=.inr false)]
    .unfold Zh6;cases (Y1 x).all (ZoX r j x)<;>simp [d]
    .intro k v H;rw [YL,Zvo,ZlY r _ v h (ZyZ H),hic];simp only[A0,AA,decide_eq_true_eq,beq_iff_eq,ZoX];rcases Zr1 hic with A|A|A|A|A<;>rw [A]<;>cases YT (YU r j) v<;>cases Zn0 r j v<;>simp
   by_cases G:j=0
   .subst G;by_cases A:x.kind=1
    .have f:(x.kind != 1)=false:=by simp [A]
     simp only[if_true,f,show (((0:Nat):Int)==0)=true from rfl,AB,if_false];rw [c rfl];simp [A]
    .have f:(x.kind != 1)=true:=by simpa using A
     simp [f,A]
   .have:((j:Int)==0)=false:=by rw [beq_eq_false_iff_ne];omega
    simp only[if_true,this,AB,if_false];rw [c rfl];simp [G]
end
end Go.Proofs.YtnacpkmpdlodoaaGreatDoor
