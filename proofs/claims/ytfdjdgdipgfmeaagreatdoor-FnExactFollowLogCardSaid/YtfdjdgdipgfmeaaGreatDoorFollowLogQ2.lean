/- Texts of this proof, joined: Df, PL, E1, P1, E2, E3, E15, P5, F3, F4, P14, R14, S14, F6. What each holds is said at its theorems. -/
import Derived.Test.YtfdjdgdipgfmeaaGreatDoorFollowLogQ1
import Derived.Lib.ItoaLen
import Derived.Laws.BitsLemmas
import Derived.Lib.Bytealg
open Bool renaming and_eq_true→A6,true_and→AB,eq_iff_iff→AC,false_eq_true→AD,or_eq_true→Aa,false_and→Aj,and_true→Am,not_not→As,false_or→At
open ByteArray renaming size→Ak
open Go.ByteArray renaming toList_eq→AU
open Int renaming toNat→A9,toNat_natCast→AG
open List renaming mem_cons→AA,length_cons→AE,pairwise_cons→AI,getElem?_eq_some_iff→AJ,getElem?_eq_getElem→AK,mem_of_getElem?→AL,set→AM,foldl_cons→AN,length_append→AO,all_eq_true→AR,mem_append→AS,flatMap_cons→AT,length_nil→AX,mem_flatMap→AY,mem_cons_of_mem→Ac,tail→Ad,drop_eq_nil_of_le→Ag,drop_eq_getElem_cons→Ah,foldl_append→Ai,mem_map→Al,append_nil→An,not_mem_nil→Aq,not_any_eq_all_not→Ar
open List.Pairwise renaming nil→AF
open Nat renaming zero_add→AH,le_trans→AQ,le_refl→AW,pow_le_pow_right→Ae,mul_assoc→Ao
open Option renaming bind_some→A0,isSome_some→Au
open Option.some renaming inj→AP
open UInt8 renaming ofNat→AZ
set_option linter.unusedSimpArgs false
set_option linter.unusedVariables false
set_option maxRecDepth 1000000
set_option maxHeartbeats 4000000
namespace Go.Proofs.YtfdjdgdipgfmeaaGreatDoor
open Go.IntKind
noncomputable section
section
def Ze1 (a:List BYT):Option (List BYT):=
 chk (a.length<=1073741824) <|some a
def Qe (b:Zm):Option Zm:=
 (Ze1 b.args).bind fun a=>some ({ rel:=b.rel,args:=a }:Zm)
def ZbI (b:BYT) (c:List Zj):Option BYT:=
 Zx (σ:=Unit) (fun (d:Nat) (a:Zj) _=>if (sEq a.var b)=true then some (.inr a.value) else some (.inl ())) (fun _=>some b) c 0 ()
def Qn (f:Zh) (g:List Zj):Option Zh:=
 (ZbI f.left g).bind fun b=>(ZbI f.right g).bind fun c=>Zx (σ:=(List BYT)) (fun (h:Nat) (d:BYT) a=>(ZbI d g).bind fun e=>chk (a.length+1<=1073741824) <|some (.inl (a++[e]))) (fun a=>some ({ kind:=f.kind,pattern:=({ rel:=f.pattern.rel,args:=a }:Zm),left:=b,right:=c }:Zh)) f.pattern.args 0 []
def ZbM (b:Zh):Option Zh:=
 (Qn b []).bind fun a=>some a
def ZiR (g:Zq):Option Zq:=
 Zx (σ:=(List Zh)) (fun (h:Nat) (d:Zh) a=>(ZbM d).bind fun e=>chk (a.length+1<=1073741824) <|some (.inl (a++[e]))) (fun a=>Zx (σ:=(List ZV)) (fun (i:Nat) (c:ZV) b=>(Qe c.pattern).bind fun f=>chk (b.length+1<=1073741824) <|some (.inl (b++[({ kind:=c.kind,pattern:=f }:ZV)]))) (fun b=>some ({ name:=g.name,priority:=g.priority,cond:=a,thn:=b }:Zq)) g.thn 0 []) g.cond 0 []
def ZdA (d:List Zq):Option (List Zq):=
 Zx (σ:=(List Zq)) (fun (e:Nat) (b:Zq) a=>(ZiR b).bind fun c=>chk (a.length+1<=1073741824) <|some (.inl (a++[c]))) (fun a=>some a) d 0 []
def Zlz (a:List Int):Option (List Int):=
 chk (a.length<=1073741824) <|some a
def Q9 (b:Zf):Option Zf:=
 (Ze1 b.args).bind fun a=>some ({ rel:=b.rel,args:=a }:Zf)
def Y4 (d:List Zf):Option (List Zf):=
 Zx (σ:=(List Zf)) (fun (e:Nat) (b:Zf) a=>(Q9 b).bind fun c=>chk (a.length+1<=1073741824) <|some (.inl (a++[c]))) (fun a=>some a) d 0 []
def ZcN (a:List Zj):Option (List Zj):=
 chk (a.length<=1073741824) <|some a
def Zfc (c:Zi):Option Zi:=
 (Y4 c.facts).bind fun a=>(ZcN c.binding).bind fun b=>some ({ facts:=a,binding:=b }:Zi)
def Zbb (d:List Zi):Option (List Zi):=
 Zx (σ:=(List Zi)) (fun (e:Nat) (b:Zi) a=>(Zfc b).bind fun c=>chk (a.length+1<=1073741824) <|some (.inl (a++[c]))) (fun a=>some a) d 0 []
def QW (h:Zc):Option Zc:=
 (ZdA h.rules).bind fun e=>(Zlz h.ends).bind fun f=>(Y4 h.facts).bind fun g=>Zx (σ:=(List ZO)) (fun (m:Nat) (d:ZO) a=>(Qe d.shape).bind fun i=>(Y4 d.facts).bind fun j=>chk (a.length+1<=1073741824) <|some (.inl (a++[({ shape:=i,facts:=j }:ZO)]))) (fun a=>Zx (σ:=(List ZA)) (fun (n:Nat) (b:ZA) c=>(ZbM b.cond).bind fun k=>(Zbb b.tokens).bind fun l=>chk (c.length+1<=1073741824) <|some (.inl (c++[({ parent:=b.parent,cond:=k,alpha:=b.alpha,tokens:=l }:ZA)]))) (fun c=>some ({ rules:=e,ends:=f,alphas:=a,nodes:=c,facts:=g,tries:=h.tries }:Zc)) h.nodes 0 []) h.alphas 0 []
def ZaL (a:Int) (b:Int) (c:Int):Option Bool:=
 if (decide (b<=a))=true then some (decide (a<=c)) else some false
def ZaM (e:BYT):Option Bool:=
 Zx (σ:=Unit) (fun (f:Nat) (a:UInt8) _=>(ZaL (i64.wrap (a.toNat:Int)) 97 122).bind fun b=>if b=true then some (.inl ()) else (ZaL (i64.wrap (a.toNat:Int)) 48 57).bind fun c=>if c=true then some (.inl ()) else some (.inr false)) (fun _=>(ZaL (e.size:Int) 1 8).bind fun d=>some d) e.data.toList 0 ()
def Zfr (d:BYT):Option Bool:=
 (ZaM d).bind fun a=>if a=true then (sAt d 0).bind fun b=>(ZaL (i64.wrap (b.toNat:Int)) 97 122).bind fun c=>some c else some false
def Zfu (d:Zf):Option Bool:=
 Zx (σ:=Unit) (fun (e:Nat) (a:BYT) _=>(ZaM a).bind fun b=>if b=true then some (.inl ()) else some (.inr false)) (fun _=>(Zfr d.rel).bind fun c=>if c=true then some (decide ((d.args.length:Int)<=3)) else some false) d.args 0 ()
def ZjJ (a:BYT) (b:BYT):Option Int:=
 if (sLt a b)=true then some (-1) else if (sLt a b||sEq a b)=true then some 0 else some 1
def Zcc (c:Int):Option BYT:=
 if (c==(-9223372036854775808))=true then some (⟨#[45,57,50,50,51,51,55,50,48,51,54,56,53,52,55,55,53,56,48,56]⟩) else if (decide (c<0))=true then none else Zb2 (σ:=Int×BYT) (fun s=>match s with |(a,b)=>chk ((Ql [(IntKind.u8.wrap (i64.wrap (48+(Int.tmod a 10))))]).size+b.size<=9223372036854775807) <|if ((i64.wrap (Int.tdiv a 10))==0)=true then some (.inr ((Ql [(IntKind.u8.wrap (i64.wrap (48+(Int.tmod a 10))))])++b)) else some (.inl ((i64.wrap (Int.tdiv a 10)),((Ql [(IntKind.u8.wrap (i64.wrap (48+(Int.tmod a 10))))])++b)))) (c,⟨#[]⟩)
def Zbd (d:Int):Option BYT:=
 if (d==(-9223372036854775808))=true then some (⟨#[45,57,50,50,51,51,55,50,48,51,54,56,53,52,55,55,53,56,48,56]⟩) else if (decide (d<0))=true then (Zcc (i64.wrap (0 - d))).bind fun c=>chk ((⟨#[45]⟩:BYT).size+c.size<=9223372036854775807) <|some ((⟨#[45]⟩:BYT)++c) else Zb2 (σ:=Int×BYT) (fun s=>match s with |(a,b)=>chk ((Ql [(IntKind.u8.wrap (i64.wrap (48+(Int.tmod a 10))))]).size+b.size<=9223372036854775807) <|if ((i64.wrap (Int.tdiv a 10))==0)=true then some (.inr ((Ql [(IntKind.u8.wrap (i64.wrap (48+(Int.tmod a 10))))])++b)) else some (.inl ((i64.wrap (Int.tdiv a 10)),((Ql [(IntKind.u8.wrap (i64.wrap (48+(Int.tmod a 10))))])++b)))) (d,⟨#[]⟩)
def Zbl (e:BYT):Option (Int×Bool):=
 (ZaL (e.size:Int) 1 4).bind fun c=>if c=true then Zx (σ:=Int) (fun (f:Nat) (b:UInt8) a=>if (decide ((b.toNat:Int)<48))=true then some (.inr (0,false)) else if (decide (57<(b.toNat:Int)))=true then some (.inr (0,false)) else some (.inl (i64.wrap ((i64.wrap (10*a))+i64.wrap (IntKind.u8.wrap ((b.toNat:Int) - 48)))))) (fun a=>(Zbd a).bind fun d=>if (sEq d e)=true then some (a,true) else some (0,false)) e.data.toList 0 0 else some (0,false)
def QE (d:BYT) (e:BYT):Option Int:=
 (Zbl d).bind fun b=>(Zbl e).bind fun a=>if b.2=true then if a.2=true then if (decide (b.1<a.1))=true then some (-1) else if (decide (a.1<b.1))=true then some 1 else some 0 else some (-1) else if a.2=true then some 1 else (ZjJ d e).bind fun c=>some c
def X0 (g:Zf) (a:Zf):Option Int:=
 if (sEq g.rel a.rel)=true then Zx (σ:=Unit) (fun (b:Nat) (d:BYT) _=>if (decide ((b:Int)<(a.args.length:Int)))=true then (atI a.args (b:Int)).bind fun e=>(QE d e).bind fun c=>if (c != 0)=true then some (.inr c) else some (.inl ()) else if (decide ((g.args.length:Int)<(a.args.length:Int)))=true then some (.inr (-1)) else if (decide ((a.args.length:Int)<(g.args.length:Int)))=true then some (.inr 1) else some (.inr 0)) (fun _=>if (decide ((g.args.length:Int)<(a.args.length:Int)))=true then some (-1) else if (decide ((a.args.length:Int)<(g.args.length:Int)))=true then some 1 else some 0) g.args 0 () else (ZjJ g.rel a.rel).bind fun f=>some f
def Zch (a:List Zf):Option Bool:=
 Zx (σ:=Unit) (fun (b:Nat) (c:Zf) _=>(Zfu c).bind fun d=>if d=true then if (decide (0<(b:Int)))=true then (atI a (i64.wrap ((b:Int) - 1))).bind fun e=>(X0 e c).bind fun f=>if (decide (0<=f))=true then some (.inr false) else some (.inl ()) else some (.inl ()) else some (.inr false)) (fun _=>some (decide ((a.length:Int)<=24))) a 0 ()
def ZdW (e:List BYT) (a:List BYT):Option Bool:=
 if ((e.length:Int) != (a.length:Int))=true then some false else Zx (σ:=Unit) (fun (b:Nat) (c:BYT) _=>(atI a (b:Int)).bind fun d=>if (sEq c d)=true then some (.inl ()) else some (.inr false)) (fun _=>some true) e 0 ()
def ZgY (b:Zf) (c:Zf):Option Bool:=
 if (sEq b.rel c.rel)=true then (ZdW b.args c.args).bind fun a=>some a else some false
def Zfb (c:List Zf) (d:Zf):Option Int:=
 Zx (σ:=Unit) (fun (e:Nat) (a:Zf) _=>(ZgY a d).bind fun b=>if b=true then some (.inr (e:Int)) else some (.inl ())) (fun _=>some (-1)) c 0 ()
def Zlw (m:List Zf) (h:Zf):Option (List Zf):=
 Zx (σ:=(List Zf)×Bool) (fun (n:Nat) (b:Zf) s=>match s with |(a,c)=>if c=true then (Q9 b).bind fun d=>chk (a.length+1<=1073741824) <|some (.inl ((a++[d]),true)) else (X0 b h).bind fun e=>if (decide (0<=e))=true then (X0 b h).bind fun f=>if (decide (0<f))=true then (Q9 h).bind fun g=>chk (a.length+1<=1073741824) <|(Q9 b).bind fun i=>chk (a.length+1+1<=1073741824) <|some (.inl (((a++[g])++[i]),true)) else (Q9 b).bind fun j=>chk (a.length+1<=1073741824) <|some (.inl ((a++[j]),true)) else (Q9 b).bind fun k=>chk (a.length+1<=1073741824) <|some (.inl ((a++[k]),false))) (fun s=>match s with |(a,c)=>if c=true then some a else (Q9 h).bind fun l=>chk (a.length+1<=1073741824) <|some (a++[l])) m 0 ([],false)
def ZgQ (h:List Zf) (j:Zf):Option ((List Zf)×Bool):=
 (Zch h).bind fun a=>if a=true then (Zfu j).bind fun b=>if b=true then (Zfb h j).bind fun c=>if (decide (0<=c))=true then (Y4 h).bind fun d=>some (d,false) else if ((h.length:Int)==24)=true then (Y4 h).bind fun e=>some (e,false) else (Zlw h j).bind fun f=>some (f,true) else (Y4 h).bind fun g=>some (g,false) else (Y4 h).bind fun i=>some (i,false)
def ZbZ (a:BYT):Option Bool:=
 if (decide (1<(a.size:Int)))=true then (sAt a 0).bind fun b=>if ((b.toNat:Int)==63)=true then chk (0<=1/\1<=(a.size:Int)) <|(ZaM (a.extract (A9 1) a.size)).bind fun c=>some c else some false else some false
def ZbH (c:BYT):Option Bool:=
 (ZaM c).bind fun a=>if a=true then some true else (ZbZ c).bind fun b=>some b
def Zac (d:Zm):Option Bool:=
 Zx (σ:=Unit) (fun (e:Nat) (a:BYT) _=>(ZbH a).bind fun b=>if b=true then some (.inl ()) else some (.inr false)) (fun _=>(Zfr d.rel).bind fun c=>if c=true then some (decide ((d.args.length:Int)<=3)) else some false) d.args 0 ()
def Zft (h:Zh):Option Bool:=
 if (h.kind==1)=true then (Zac h.pattern).bind fun a=>if a=true then if (sEq h.left ⟨#[]⟩)=true then some (sEq h.right ⟨#[]⟩) else some false else some false else if (h.kind==2)=true then (Zac h.pattern).bind fun b=>if b=true then if (sEq h.left ⟨#[]⟩)=true then some (sEq h.right ⟨#[]⟩) else some false else some false else if (h.kind==3)=true then if (sEq h.pattern.rel ⟨#[]⟩)=true then if ((h.pattern.args.length:Int)==0)=true then (ZbH h.left).bind fun c=>if c=true then (ZbH h.right).bind fun d=>some d else some false else some false else some false else if (h.kind==4)=true then if (sEq h.pattern.rel ⟨#[]⟩)=true then if ((h.pattern.args.length:Int)==0)=true then (ZbH h.left).bind fun e=>if e=true then (ZbH h.right).bind fun f=>some f else some false else some false else some false else if (h.kind==5)=true then if (sEq h.pattern.rel ⟨#[]⟩)=true then if ((h.pattern.args.length:Int)==0)=true then (ZbH h.left).bind fun g=>if g=true then (ZbH h.right).bind fun i=>some i else some false else some false else some false else some false
def Zcd (e:List BYT) (d:BYT):Option (List BYT):=
 Zx (σ:=(List BYT)×Bool) (fun (f:Nat) (b:BYT) s=>match s with |(a,c)=>if c=true then chk (a.length+1<=1073741824) <|some (.inl ((a++[b]),true)) else if (sLt b d)=true then chk (a.length+1<=1073741824) <|some (.inl ((a++[b]),false)) else if (sEq b d)=true then chk (a.length+1<=1073741824) <|some (.inl ((a++[b]),true)) else chk (a.length+1<=1073741824) <|chk (a.length+1+1<=1073741824) <|some (.inl (((a++[d])++[b]),true))) (fun s=>match s with |(a,c)=>if c=true then some a else chk (a.length+1<=1073741824) <|some (a++[d])) e 0 ([],false)
def Zdo (e:Zm):Option (List BYT):=
 Zx (σ:=(List BYT)) (fun (f:Nat) (b:BYT) a=>(ZbZ b).bind fun c=>if c=true then (Zcd a b).bind fun d=>some (.inl d) else some (.inl a)) (fun a=>some a) e.args 0 []
def Zbg (g:Zq) (h:Int):Option (List BYT):=
 Zx (σ:=(List BYT)) (fun (i:Nat) (c:Zh) a=>if (decide ((i:Int)<h))=true then if (c.kind==1)=true then (Zdo c.pattern).bind fun d=>Zx (σ:=(List BYT)) (fun (j:Nat) (e:BYT) b=>(Zcd b e).bind fun f=>some (.inl f)) (fun b=>some (.inl b)) d 0 a else some (.inl a) else some (.inr a)) (fun a=>some a) g.cond 0 []
def ZaG (h:Zh):Option (List BYT):=
 (Zdo h.pattern).bind fun a=>(ZbZ h.left).bind fun c=>if c=true then (Zcd a h.left).bind fun b=>(ZbZ h.right).bind fun d=>if d=true then (Zcd b h.right).bind fun e=>some e else some b else (ZbZ h.right).bind fun f=>if f=true then (Zcd a h.right).bind fun g=>some g else some a
def X2 (b:List BYT) (c:BYT):Option Bool:=
 Zx (σ:=Unit) (fun (d:Nat) (a:BYT) _=>if (sEq a c)=true then some (.inr true) else some (.inl ())) (fun _=>some false) b 0 ()
def ZcK (b:Zh):Option Bool:=
 (Zft b).bind fun a=>if a=true then some (decide (3<=b.kind)) else some false
def Zad (g:Zq) (i:Int) (h:BYT):Option Bool:=
 Zx (σ:=Unit) (fun (j:Nat) (a:Zh) _=>if ((j:Int) != i)=true then (ZaG a).bind fun b=>(X2 b h).bind fun c=>if c=true then some (.inr true) else some (.inl ()) else some (.inl ())) (fun _=>Zx (σ:=Unit) (fun (k:Nat) (d:ZV) _=>(Zdo d.pattern).bind fun e=>(X2 e h).bind fun f=>if f=true then some (.inr true) else some (.inl ())) (fun _=>some false) g.thn 0 ()) g.cond 0 ()
def Zfs (c:ZV):Option Bool:=
 if (c.kind==1)=true then (Zac c.pattern).bind fun a=>some a else if (c.kind==2)=true then (Zac c.pattern).bind fun b=>some b else if (c.kind==3)=true then if (sEq c.pattern.rel ⟨#[]⟩)=true then some ((c.pattern.args.length:Int)==0) else some false else some false
def Zfh (h:Zq):Option (List BYT):=
 Zx (σ:=(List BYT)) (fun (n:Nat) (e:Zh) a=>(ZaG e).bind fun f=>Zx (σ:=(List BYT)) (fun (o:Nat) (g:BYT) b=>(Zcd b g).bind fun i=>some (.inl i)) (fun b=>some (.inl b)) f 0 a) (fun a=>Zx (σ:=(List BYT)) (fun (p:Nat) (j:ZV) c=>(Zdo j.pattern).bind fun k=>Zx (σ:=(List BYT)) (fun (q:Nat) (l:BYT) d=>(Zcd d l).bind fun m=>some (.inl m)) (fun d=>some (.inl d)) k 0 c) (fun c=>some c) h.thn 0 a) h.cond 0 []
def Zjb (h:Zq):Option Bool:=
 (Zfr h.name).bind fun g=>if g=true then (ZaL h.priority 0 9).bind fun i=>if i=true then (ZaL (h.cond.length:Int) 1 4).bind fun j=>if j=true then (ZaL (h.thn.length:Int) 1 2).bind fun k=>if k=true then (Zbg h (h.cond.length:Int)).bind fun l=>Zx (σ:=Unit) (fun (n:Nat) (a:Zh) _=>(Zft a).bind fun m=>if m=true then if ((n:Int)==0)=true then if (a.kind != 1)=true then some (.inr false) else (Zbg h (n:Int)).bind fun o=>(ZaG a).bind fun p=>Zx (σ:=Unit) (fun (r:Nat) (b:BYT) _=>(X2 o b).bind fun c=>(ZcK a).bind fun q=>if q=true then if c=true then if (a.kind==2)=true then some (.inl ()) else some (.inl ()) else some (.inr (.inr false)) else if (a.kind==2)=true then if c=true then some (.inl ()) else (Zad h (n:Int) b).bind fun t=>if t=true then some (.inr (.inr false)) else some (.inl ()) else some (.inl ())) (fun _=>some (.inl ())) p 0 () else (Zbg h (n:Int)).bind fun u=>(ZaG a).bind fun v=>Zx (σ:=Unit) (fun (s:Nat) (d:BYT) _=>(X2 u d).bind fun e=>(ZcK a).bind fun w=>if w=true then if e=true then if (a.kind==2)=true then some (.inl ()) else some (.inl ()) else some (.inr (.inr false)) else if (a.kind==2)=true then if e=true then some (.inl ()) else (Zad h (n:Int) d).bind fun x=>if x=true then some (.inr (.inr false)) else some (.inl ()) else some (.inl ())) (fun _=>some (.inl ())) v 0 () else some (.inr false)) (fun _=>Zx (σ:=Unit) (fun (aa:Nat) (f:ZV) _=>(Zfs f).bind fun y=>if y=true then (Zdo f.pattern).bind fun z=>Zx (σ:=Unit) (fun (ab:Nat) (A:BYT) _=>(X2 l A).bind fun B=>if B=true then some (.inl ()) else some (.inr (.inr false))) (fun _=>some (.inl ())) z 0 () else some (.inr false)) (fun _=>(Zfh h).bind fun C=>some (decide ((C.length:Int)<=6))) h.thn 0 ()) h.cond 0 () else some false else some false else some false else some false
def ZhW (b:List Zq) (c:BYT):Option Int:=
 Zx (σ:=Unit) (fun (d:Nat) (a:Zq) _=>if (sEq a.name c)=true then some (.inr (d:Int)) else some (.inl ())) (fun _=>some (-1)) b 0 ()
def Zfv (d:List Zq):Option Bool:=
 Zx (σ:=Unit) (fun (e:Nat) (a:Zq) _=>(Zjb a).bind fun b=>if b=true then (ZhW d a.name).bind fun c=>if (c != (e:Int))=true then some (.inr false) else some (.inl ()) else some (.inr false)) (fun _=>some (decide ((d.length:Int)<=6))) d 0 ()
def ZaP (d:List Zj) (e:BYT):Option (List Zj):=
 (ZbZ e).bind fun b=>if b=true then Zx (σ:=Unit) (fun (f:Nat) (c:Zj) _=>if (sEq c.var e)=true then some (.inr d) else some (.inl ())) (fun _=>(Zbd (i64.wrap ((d.length:Int)+1))).bind fun a=>chk ((⟨#[63]⟩:BYT).size+a.size<=9223372036854775807) <|chk (d.length+1<=1073741824) <|some (d++[({ var:=e,value:=((⟨#[63]⟩:BYT)++a) }:Zj)])) d 0 () else some d
def ZcV (h:Zq):Option (List Zj):=
 Zx (σ:=(List Zj)) (fun (i:Nat) (a:Zh) b=>Zx (σ:=(List Zj)) (fun (j:Nat) (d:BYT) c=>(ZaP c d).bind fun e=>some (.inl e)) (fun c=>(ZaP c a.left).bind fun f=>(ZaP f a.right).bind fun g=>some (.inl g)) a.pattern.args 0 b) (fun b=>some b) h.cond 0 []
def ZcY (e:Zq):Option (List Zh):=
 (ZcV e).bind fun b=>Zx (σ:=(List Zh)) (fun (f:Nat) (c:Zh) a=>(Qn c b).bind fun d=>chk (a.length+1<=1073741824) <|some (.inl (a++[d]))) (fun a=>some a) e.cond 0 []
def ZaW (b:Zm) (c:Zm):Option Bool:=
 if (sEq b.rel c.rel)=true then (ZdW b.args c.args).bind fun a=>some a else some false
def Zdv (c:Zh) (a:Zh):Option Bool:=
 if (c.kind==a.kind)=true then (ZaW c.pattern a.pattern).bind fun b=>if b=true then if (sEq c.left a.left)=true then some (sEq c.right a.right) else some false else some false else some false
def Ze4 (c:Zc) (d:Zm):Option (Int×Zc):=
 Zx (σ:=Unit) (fun (e:Nat) (a:ZO) _=>(ZaW a.shape d).bind fun b=>if b=true then some (.inr ((e:Int),c)) else some (.inl ())) (fun _=>chk (c.alphas.length+1<=1073741824) <|some ((i64.wrap (((c.alphas.length+1:Nat):Int) - 1)),({ rules:=c.rules,ends:=c.ends,alphas:=(c.alphas++[({ shape:=d,facts:=[] }:ZO)]),nodes:=c.nodes,facts:=c.facts,tries:=c.tries }:Zc))) c.alphas 0 ()
def Ze3 (e:Zm):Option Zm:=
 Zx (σ:=(List Zj)) (fun (f:Nat) (b:BYT) a=>(ZaP a b).bind fun c=>some (.inl c)) (fun a=>(Qn ({ kind:=0,pattern:=e,left:=(⟨#[]⟩),right:=(⟨#[]⟩) }:Zh) a).bind fun d=>some d.pattern) e.args 0 []
def ZgN (h:Zc) (k:Int) (j:Zh):Option (Int×Zc):=
 Zb2 (σ:=Int) (fun c=>if (decide (c<(h.nodes.length:Int)))=true then chk (0<=c/\c<(h.nodes.length:Int)) <|(h.nodes[(A9 c)]?).bind fun e=>if (e.parent==k)=true then (Zdv e.cond j).bind fun f=>if f=true then some (.inr (c,h)) else some (.inl (i64.wrap (c+1))) else some (.inl (i64.wrap (c+1))) else (ZbM j).bind fun d=>if (j.kind==1)=true then (Ze3 j.pattern).bind fun g=>(Ze4 h g).bind fun a=>chk (a.2.nodes.length+1<=1073741824) <|some (.inr ((i64.wrap (((a.2.nodes.length+1:Nat):Int) - 1)),({ rules:=a.2.rules,ends:=a.2.ends,alphas:=a.2.alphas,nodes:=(a.2.nodes++[({ parent:=k,cond:=d,alpha:=a.1,tokens:=[] }:ZA)]),facts:=a.2.facts,tries:=a.2.tries }:Zc))) else if (j.kind==2)=true then (Ze3 j.pattern).bind fun i=>(Ze4 h i).bind fun b=>chk (b.2.nodes.length+1<=1073741824) <|some (.inr ((i64.wrap (((b.2.nodes.length+1:Nat):Int) - 1)),({ rules:=b.2.rules,ends:=b.2.ends,alphas:=b.2.alphas,nodes:=(b.2.nodes++[({ parent:=k,cond:=d,alpha:=b.1,tokens:=[] }:ZA)]),facts:=b.2.facts,tries:=b.2.tries }:Zc))) else chk (h.nodes.length+1<=1073741824) <|some (.inr ((i64.wrap (((h.nodes.length+1:Nat):Int) - 1)),({ rules:=h.rules,ends:=h.ends,alphas:=h.alphas,nodes:=(h.nodes++[({ parent:=k,cond:=d,alpha:=(-1),tokens:=[] }:ZA)]),facts:=h.facts,tries:=h.tries }:Zc)))) 1
def Zbc (h:List Zq):Option (Zc×Bool):=
 (Zfv h).bind fun q=>if q=true then (ZdA h).bind fun t=>Zx (σ:=Int×(List Zq)×(List Int)×(List ZO)×(List ZA)×(List Zf)) (fun (n:Nat) (u:Zq) s=>match s with |(c,d,e,f,g,i)=>(ZcY u).bind fun v=>Zx (σ:=Int×(List Zq)×(List Int)×(List ZO)×(List ZA)×(List Zf)×Int) (fun (r:Nat) (w:Zh) s=>match s with |(j,k,b,l,m,o,p)=>(ZgN ({ rules:=k,ends:=b,alphas:=l,nodes:=m,facts:=o,tries:=j }:Zc) p w).bind fun a=>some (.inl (a.2.tries,a.2.rules,a.2.ends,a.2.alphas,a.2.nodes,a.2.facts,a.1))) (fun s=>match s with |(j,k,b,l,m,o,p)=>chk (b.length+1<=1073741824) <|some (.inl (j,k,(b++[p]),l,m,o))) v 0 (c,d,e,f,g,i,0)) (fun s=>match s with |(c,d,e,f,g,i)=>some (({ rules:=d,ends:=e,alphas:=f,nodes:=g,facts:=i,tries:=c }:Zc),true)) h 0 (0,t,[],[],[({ parent:=(-1),cond:=({ kind:=0,pattern:=({ rel:=(⟨#[]⟩),args:=[] }:Zm),left:=(⟨#[]⟩),right:=(⟨#[]⟩) }:Zh),alpha:=(-1),tokens:=[({ facts:=[],binding:=[] }:Zi)] }:ZA)],[]) else some (({ rules:=[],ends:=[],alphas:=[],nodes:=[],facts:=[],tries:=0 }:Zc),false)
def ZcJ (h:Zc) (a:Zc):Option Bool:=
 if ((h.alphas.length:Int) != (a.alphas.length:Int))=true then some false else if ((h.nodes.length:Int) != (a.nodes.length:Int))=true then some false else if ((h.ends.length:Int) != (a.ends.length:Int))=true then some false else Zx (σ:=Unit) (fun (d:Nat) (e:ZO) _=>(atI a.alphas (d:Int)).bind fun f=>(ZaW e.shape f.shape).bind fun g=>if g=true then some (.inl ()) else some (.inr false)) (fun _=>Zx (σ:=Unit) (fun (i:Nat) (b:ZA) _=>(atI a.nodes (i:Int)).bind fun c=>if (b.parent != c.parent)=true then some (.inr false) else if (b.alpha != c.alpha)=true then some (.inr false) else (Zdv b.cond c.cond).bind fun j=>if j=true then some (.inl ()) else some (.inr false)) (fun _=>Zx (σ:=Unit) (fun (k:Nat) (l:Int) _=>(atI a.ends (k:Int)).bind fun m=>if (l != m)=true then some (.inr false) else some (.inl ())) (fun _=>some true) h.ends 0 ()) h.nodes 0 ()) h.alphas 0 ()
def Zej (f:List Zf) (a:List Zf):Option Bool:=
 if ((f.length:Int) != (a.length:Int))=true then some false else Zx (σ:=Unit) (fun (b:Nat) (c:Zf) _=>(atI a (b:Int)).bind fun d=>(ZgY c d).bind fun e=>if e=true then some (.inl ()) else some (.inr false)) (fun _=>some true) f 0 ()
def Zas (a:List Zj):Option Bool:=
 Zx (σ:=Unit) (fun (c:Nat) (b:Zj) _=>(ZbZ b.var).bind fun d=>if d=true then (ZaM b.value).bind fun e=>if e=true then if (decide (0<(c:Int)))=true then (atI a (i64.wrap ((c:Int) - 1))).bind fun f=>if (sLt f.var b.var)=true then some (.inl ()) else some (.inr false) else some (.inl ()) else some (.inr false) else some (.inr false)) (fun _=>some (decide ((a.length:Int)<=6))) a 0 ()
def Zdz (e:List Zj) (d:BYT):Option (BYT×Bool):=
 (ZaM d).bind fun b=>if b=true then some (d,true) else Zx (σ:=Unit) (fun (f:Nat) (a:Zj) _=>if (sEq a.var d)=true then (ZbZ d).bind fun c=>if c=true then some (.inr (a.value,true)) else some (.inl ()) else some (.inl ())) (fun _=>some ((⟨#[]⟩),false)) e 0 ()
def Zl9 (f:List Zj) (c:BYT) (e:BYT):Option (List Zj):=
 Zx (σ:=(List Zj)×Bool) (fun (g:Nat) (b:Zj) s=>match s with |(a,d)=>if d=true then chk (a.length+1<=1073741824) <|some (.inl ((a++[b]),true)) else if (sLt b.var c||sEq b.var c)=true then chk (a.length+1<=1073741824) <|some (.inl ((a++[b]),false)) else chk (a.length+1<=1073741824) <|chk (a.length+1+1<=1073741824) <|some (.inl (((a++[({ var:=c,value:=e }:Zj)])++[b]),true))) (fun s=>match s with |(a,d)=>if d=true then some a else chk (a.length+1<=1073741824) <|some (a++[({ var:=c,value:=e }:Zj)])) f 0 ([],false)
def Ziy (g:List Zj) (h:BYT) (i:BYT):Option ((List Zj)×Bool):=
 (Zas g).bind fun b=>if b=true then (ZbZ h).bind fun c=>if c=true then (ZaM i).bind fun d=>if d=true then (Zdz g h).bind fun a=>if a.2=true then if (sEq a.1 i)=true then (ZcN g).bind fun e=>some (e,true) else some ([],false) else if ((g.length:Int)==6)=true then some ([],false) else (Zl9 g h i).bind fun f=>some (f,true) else some ([],false) else some ([],false) else some ([],false)
def ZbB (h:Zm) (a:Zf) (n:List Zj):Option ((List Zj)×Bool):=
 (Zac h).bind fun f=>if f=true then (Zfu a).bind fun g=>if g=true then (Zas n).bind fun i=>if i=true then if (sEq h.rel a.rel)=true then if ((h.args.length:Int) != (a.args.length:Int))=true then some ([],false) else (ZcN n).bind fun j=>Zx (σ:=(List Zj)) (fun (d:Nat) (c:BYT) b=>(ZaM c).bind fun k=>if k=true then (atI a.args (d:Int)).bind fun l=>if (sEq c l)=true then some (.inl b) else some (.inr ([],false)) else (atI a.args (d:Int)).bind fun m=>(Ziy b c m).bind fun e=>if e.2=true then some (.inl e.1) else some (.inr ([],false))) (fun b=>some (b,true)) h.args 0 j else some ([],false) else some ([],false) else some ([],false) else some ([],false)
def XD (e:Zm) (f:List Zj) (g:List Zf):Option (List Zf):=
 Zx (σ:=(List Zf)) (fun (h:Nat) (b:Zf) a=>(ZbB e b f).bind fun c=>if c.2=true then (Q9 b).bind fun d=>chk (a.length+1<=1073741824) <|some (.inl (a++[d])) else some (.inl a)) (fun a=>some a) g 0 []
def ZeF (e:List Zj) (a:List Zj):Option Bool:=
 if ((e.length:Int) != (a.length:Int))=true then some false else Zx (σ:=Unit) (fun (d:Nat) (b:Zj) _=>(atI a (d:Int)).bind fun c=>if (sEq b.var c.var&&sEq b.value c.value)=true then some (.inl ()) else some (.inr false)) (fun _=>some true) e 0 ()
def Zc9 (g:List Zi) (a:List Zi):Option Bool:=
 if ((g.length:Int) != (a.length:Int))=true then some false else Zx (σ:=Unit) (fun (d:Nat) (b:Zi) _=>(atI a (d:Int)).bind fun c=>(Zej b.facts c.facts).bind fun e=>if e=true then (ZeF b.binding c.binding).bind fun f=>if f=true then some (.inl ()) else some (.inr false) else some (.inr false)) (fun _=>some true) g 0 ()
def ZfQ (b:BYT):Option Bool:=
 (Zbl b).bind fun a=>some a.2
def Zec (h:Zh) (i:List Zj):Option Bool:=
 (ZcK h).bind fun c=>if c=true then (Zas i).bind fun d=>if d=true then (Zdz i h.left).bind fun a=>(Zdz i h.right).bind fun b=>if a.2=true then if b.2=true then if (h.kind==3)=true then some (sEq a.1 b.1) else if (h.kind==4)=true then some (!(sEq a.1 b.1)) else (ZfQ a.1).bind fun e=>if e=true then (ZfQ b.1).bind fun f=>if f=true then (QE a.1 b.1).bind fun g=>some (decide (g<0)) else some false else some false else some false else some false else some false else some false
def Zeu (h:Zh) (a:List Zj) (b:List Zf):Option Bool:=
 (Zft h).bind fun c=>if c=true then (Zas a).bind fun d=>if d=true then if (h.kind==1)=true then (XD h.pattern a b).bind fun e=>some (decide (0<(e.length:Int))) else if (h.kind==2)=true then (XD h.pattern a b).bind fun f=>some ((f.length:Int)==0) else (Zec h a).bind fun g=>some g else some false else some false
def ZfI (l:List Zi) (h:Zh) (k:List Zf):Option (List Zi):=
 Zx (σ:=(List Zi)) (fun (m:Nat) (c:Zi) a=>if (h.kind != 1)=true then (Zeu h c.binding k).bind fun g=>if g=true then (Zfc c).bind fun i=>chk (a.length+1<=1073741824) <|some (.inl (a++[i])) else some (.inl a) else Zx (σ:=(List Zi)) (fun (n:Nat) (d:Zf) b=>(ZbB h.pattern d c.binding).bind fun e=>if e.2=true then (Y4 c.facts).bind fun f=>(Q9 d).bind fun j=>chk (f.length+1<=1073741824) <|chk (b.length+1<=1073741824) <|some (.inl (b++[({ facts:=(f++[j]),binding:=e.1 }:Zi)])) else some (.inl b)) (fun b=>some (.inl b)) k 0 a) (fun a=>some a) l 0 []
def Zff (d:List Zh) (e:List Zf):Option (List Zi):=
 Zx (σ:=(List Zi)) (fun (f:Nat) (b:Zh) a=>(ZfI a b e).bind fun c=>some (.inl c)) (fun a=>some a) d 0 ([({ facts:=[],binding:=[] }:Zi)])
def Zit (d:Zc) (g:Int):Option (List Zh):=
 Zb2 (σ:=(List Zh)×Int) (fun s=>match s with |(a,b)=>(ZaL b 1 (i64.wrap ((d.nodes.length:Int) - 1))).bind fun f=>if f=true then (atI d.nodes b).bind fun c=>(ZbM c.cond).bind fun e=>chk (1+a.length<=1073741824) <|if (decide (b<=c.parent))=true then some (.inr ([e]++a)) else some (.inl (([e]++a),c.parent)) else some (.inr a)) ([],g)
def ZcE (h:Zc):Option Bool:=
 (Zbc h.rules).bind fun a=>if a.2=true then (Zch h.facts).bind fun c=>if c=true then (ZcJ h a.1).bind fun d=>if d=true then if (decide (h.tries<0))=true then some false else Zx (σ:=Unit) (fun (m:Nat) (b:ZO) _=>(XD b.shape [] h.facts).bind fun e=>(Zej b.facts e).bind fun f=>if f=true then some (.inl ()) else some (.inr false)) (fun _=>Zx (σ:=Unit) (fun (l:Nat) (g:ZA) _=>(Zit h (l:Int)).bind fun i=>(Zff i h.facts).bind fun j=>(Zc9 g.tokens j).bind fun k=>if k=true then some (.inl ()) else some (.inr false)) (fun _=>some true) h.nodes 0 ()) h.alphas 0 () else some false else some false else some false
def Qg (f:Zi) (a:Zi):Option Int:=
 Zx (σ:=Unit) (fun (b:Nat) (d:Zf) _=>if (decide ((b:Int)<(a.facts.length:Int)))=true then (atI a.facts (b:Int)).bind fun e=>(X0 d e).bind fun c=>if (c != 0)=true then some (.inr c) else some (.inl ()) else if (decide ((f.facts.length:Int)<(a.facts.length:Int)))=true then some (.inr (-1)) else if (decide ((a.facts.length:Int)<(f.facts.length:Int)))=true then some (.inr 1) else some (.inr 0)) (fun _=>if (decide ((f.facts.length:Int)<(a.facts.length:Int)))=true then some (-1) else if (decide ((a.facts.length:Int)<(f.facts.length:Int)))=true then some 1 else some 0) f.facts 0 ()
def Zjf (f:List Zi) (g:List Zi):Option (Int×Int):=
 Zx (σ:=Int) (fun (h:Nat) (c:Zi) a=>Zx (σ:=Int) (fun (i:Nat) (d:Zi) b=>(Qg c d).bind fun e=>if (e==0)=true then some (.inl (i64.wrap (b+1))) else some (.inl b)) (fun b=>some (.inl b)) g 0 a) (fun a=>some (a,(i64.wrap ((f.length:Int) - a)))) f 0 0
def Zdu (o:Zc) (h:List Zf) (n:Zf):Option Zc:=
 (QW o).bind fun f=>(Y4 h).bind fun q=>Zb2 (σ:=(List ZO)×(List Bool)×Int) (fun s=>match s with |(d,g,e)=>if (decide (e<(d.length:Int)))=true then chk (0<=e/\e<(d.length:Int)) <|(d[(A9 e)]?).bind fun k=>(ZbB k.shape n []).bind fun t=>chk (g.length+1<=1073741824) <|(XD k.shape [] h).bind fun u=>some (.inl ((AM d (A9 e) ({ shape:=k.shape,facts:=u }:ZO)),(g++[t.2]),(i64.wrap (e+1)))) else Zb2 (σ:=Int×(List ZA)×Int) (fun s=>match s with |(i,c,b)=>if (decide (b<(c.length:Int)))=true then chk (0<=b/\b<(c.length:Int)) <|(c[(A9 b)]?).bind fun a=>chk (0<=a.parent/\a.parent<(c.length:Int)) <|(c[(A9 a.parent)]?).bind fun l=>(atI o.nodes a.parent).bind fun v=>(Zjf l.tokens v.tokens).bind fun j=>if (decide (a.alpha<0))=true then (ZfI l.tokens a.cond []).bind fun w=>some (.inl ((i64.wrap (i+j.2)),(AM c (A9 b) ({ parent:=a.parent,cond:=a.cond,alpha:=a.alpha,tokens:=w }:ZA)),(i64.wrap (b+1)))) else chk (0<=a.alpha/\a.alpha<(d.length:Int)) <|(d[(A9 a.alpha)]?).bind fun m=>(ZfI l.tokens a.cond m.facts).bind fun p=>chk (a.alpha<(g.length:Int)) <|(g[(A9 a.alpha)]?).bind fun x=>if x=true then some (.inl ((i64.wrap ((i64.wrap (i+(i64.wrap (j.2*(m.facts.length:Int)))))+j.1)),(AM c (A9 b) ({ parent:=a.parent,cond:=a.cond,alpha:=a.alpha,tokens:=p }:ZA)),(i64.wrap (b+1)))) else some (.inl ((i64.wrap (i+(i64.wrap (j.2*(m.facts.length:Int))))),(AM c (A9 b) ({ parent:=a.parent,cond:=a.cond,alpha:=a.alpha,tokens:=p }:ZA)),(i64.wrap (b+1)))) else some (.inr (.inr ({ rules:=f.rules,ends:=f.ends,alphas:=d,nodes:=c,facts:=q,tries:=i }:Zc)))) (f.tries,f.nodes,1)) (f.alphas,[],0)
def Zao (f:Zc) (g:Zf):Option (Zc×Bool):=
 (ZgQ f.facts g).bind fun a=>(ZcE f).bind fun b=>if b=true then if a.2=true then (Zdu f a.1 g).bind fun c=>some (c,true) else (QW f).bind fun d=>some (d,false) else (QW f).bind fun e=>some (e,false)
def Zga (e:List Zf) (f:Zf):Option (List Zf):=
 Zx (σ:=(List Zf)) (fun (g:Nat) (b:Zf) a=>(ZgY b f).bind fun c=>if c=true then some (.inl a) else (Q9 b).bind fun d=>chk (a.length+1<=1073741824) <|some (.inl (a++[d]))) (fun a=>some a) e 0 []
def ZcO (f:List Zf) (g:Zf):Option ((List Zf)×Bool):=
 (Zch f).bind fun a=>if a=true then (Zfb f g).bind fun b=>if (decide (b<0))=true then (Y4 f).bind fun c=>some (c,false) else (Zga f g).bind fun d=>some (d,true) else (Y4 f).bind fun e=>some (e,false)
def X7 (f:Zc) (g:Zf):Option (Zc×Bool):=
 (ZcO f.facts g).bind fun a=>(ZcE f).bind fun b=>if b=true then if a.2=true then (Zdu f a.1 g).bind fun c=>some (c,true) else (QW f).bind fun d=>some (d,false) else (QW f).bind fun e=>some (e,false)
def Zet (h:Zc) (n:List YB):Option (Zc×Bool):=
 (QW h).bind fun m=>Zx (σ:=Int×(List Zq)×(List Int)×(List ZO)×(List ZA)×(List Zf)) (fun (r:Nat) (a:YB) s=>match s with |(b,c,d,e,f,g)=>if (a.kind==1)=true then (Zao ({ rules:=c,ends:=d,alphas:=e,nodes:=f,facts:=g,tries:=b }:Zc) a.fact).bind fun i=>if i.2=true then some (.inl (i.1.tries,i.1.rules,i.1.ends,i.1.alphas,i.1.nodes,i.1.facts)) else (QW h).bind fun o=>some (.inr (o,false)) else if (a.kind==4)=true then (Zao ({ rules:=c,ends:=d,alphas:=e,nodes:=f,facts:=g,tries:=b }:Zc) a.fact).bind fun j=>if j.2=true then some (.inl (j.1.tries,j.1.rules,j.1.ends,j.1.alphas,j.1.nodes,j.1.facts)) else (QW h).bind fun p=>some (.inr (p,false)) else if (a.kind==2)=true then (X7 ({ rules:=c,ends:=d,alphas:=e,nodes:=f,facts:=g,tries:=b }:Zc) a.fact).bind fun k=>if k.2=true then some (.inl (k.1.tries,k.1.rules,k.1.ends,k.1.alphas,k.1.nodes,k.1.facts)) else (QW h).bind fun q=>some (.inr (q,false)) else if (a.kind==5)=true then (X7 ({ rules:=c,ends:=d,alphas:=e,nodes:=f,facts:=g,tries:=b }:Zc) a.fact).bind fun l=>if l.2=true then some (.inl (l.1.tries,l.1.rules,l.1.ends,l.1.alphas,l.1.nodes,l.1.facts)) else (QW h).bind fun t=>some (.inr (t,false)) else some (.inl (b,c,d,e,f,g))) (fun s=>match s with |(b,c,d,e,f,g)=>some (({ rules:=c,ends:=d,alphas:=e,nodes:=f,facts:=g,tries:=b }:Zc),true)) n 0 (m.tries,m.rules,m.ends,m.alphas,m.nodes,m.facts)
def ZbL (a:List BYT):Option (List BYT):=
 chk (a.length<=1073741824) <|some a
def Qu (b:Zm):Option Zm:=
 (ZbL b.args).bind fun a=>some ({ rel:=b.rel,args:=a }:Zm)
def Xv (b:Zh):Option Zh:=
 (Qu b.pattern).bind fun a=>some ({ kind:=b.kind,pattern:=a,left:=b.left,right:=b.right }:Zh)
def Zd4 (d:List Zh):Option (List Zh):=
 Zx (σ:=(List Zh)) (fun (e:Nat) (b:Zh) a=>(Xv b).bind fun c=>chk (a.length+1<=1073741824) <|some (.inl (a++[c]))) (fun a=>some a) d 0 []
def Zfi (e:Zq):Option Zq:=
 (Zd4 e.cond).bind fun c=>Zx (σ:=(List ZV)) (fun (f:Nat) (b:ZV) a=>(Qu b.pattern).bind fun d=>chk (a.length+1<=1073741824) <|some (.inl (a++[({ kind:=b.kind,pattern:=d }:ZV)]))) (fun a=>some ({ name:=e.name,priority:=e.priority,cond:=c,thn:=a }:Zq)) e.thn 0 []
def ZcG (d:List Zq):Option (List Zq):=
 Zx (σ:=(List Zq)) (fun (e:Nat) (b:Zq) a=>(Zfi b).bind fun c=>chk (a.length+1<=1073741824) <|some (.inl (a++[c]))) (fun a=>some a) d 0 []
def Zhs (a:List Int):Option (List Int):=
 chk (a.length<=1073741824) <|some a
def XR (b:Zf):Option Zf:=
 (ZbL b.args).bind fun a=>some ({ rel:=b.rel,args:=a }:Zf)
def Yl (d:List Zf):Option (List Zf):=
 Zx (σ:=(List Zf)) (fun (e:Nat) (b:Zf) a=>(XR b).bind fun c=>chk (a.length+1<=1073741824) <|some (.inl (a++[c]))) (fun a=>some a) d 0 []
def Zat (a:List Zj):Option (List Zj):=
 chk (a.length<=1073741824) <|some a
def Zdm (e:List Zi):Option (List Zi):=
 Zx (σ:=(List Zi)) (fun (f:Nat) (b:Zi) a=>(Yl b.facts).bind fun c=>(Zat b.binding).bind fun d=>chk (a.length+1<=1073741824) <|some (.inl (a++[({ facts:=c,binding:=d }:Zi)]))) (fun a=>some a) e 0 []
def Ym (h:Zc):Option Zc:=
 (ZcG h.rules).bind fun e=>(Zhs h.ends).bind fun f=>(Yl h.facts).bind fun g=>Zx (σ:=(List ZO)) (fun (m:Nat) (d:ZO) a=>(Qu d.shape).bind fun i=>(Yl d.facts).bind fun j=>chk (a.length+1<=1073741824) <|some (.inl (a++[({ shape:=i,facts:=j }:ZO)]))) (fun a=>Zx (σ:=(List ZA)) (fun (n:Nat) (b:ZA) c=>(Xv b.cond).bind fun k=>(Zdm b.tokens).bind fun l=>chk (c.length+1<=1073741824) <|some (.inl (c++[({ parent:=b.parent,cond:=k,alpha:=b.alpha,tokens:=l }:ZA)]))) (fun c=>some ({ rules:=e,ends:=f,alphas:=a,nodes:=c,facts:=g,tries:=h.tries }:Zc)) h.nodes 0 []) h.alphas 0 []
def ZaO (b:BYT):Option Bool:=
 if (decide ((b.size:Int)<1))=true then some false else if (decide (8<(b.size:Int)))=true then some false else Zx (σ:=Unit) (fun (c:Nat) (a:UInt8) _=>if (decide ((a.toNat:Int)<97))=true then if (decide ((a.toNat:Int)<48))=true then some (.inr false) else if (decide (57<(a.toNat:Int)))=true then some (.inr false) else some (.inl ()) else if (decide (122<(a.toNat:Int)))=true then if (decide ((a.toNat:Int)<48))=true then some (.inr false) else if (decide (57<(a.toNat:Int)))=true then some (.inr false) else some (.inl ()) else some (.inl ())) (fun _=>some true) b.data.toList 0 ()
def ZfC (c:BYT):Option Bool:=
 (ZaO c).bind fun a=>if a=true then (sAt c 0).bind fun b=>some (decide (97<=(b.toNat:Int))) else some false
def Zc6 (a:BYT):Option Bool:=
 if (decide (1<(a.size:Int)))=true then (sAt a 0).bind fun b=>if ((b.toNat:Int)==63)=true then chk (0<=1/\1<=(a.size:Int)) <|(ZaO (a.extract (A9 1) a.size)).bind fun c=>some c else some false else some false
def Zbo (c:BYT):Option Bool:=
 (ZaO c).bind fun a=>if a=true then some true else (Zc6 c).bind fun b=>some b
def Q8 (d:Zm):Option Bool:=
 (ZfC d.rel).bind fun a=>if a=true then if (decide (3<(d.args.length:Int)))=true then some false else Zx (σ:=Unit) (fun (e:Nat) (b:BYT) _=>(Zbo b).bind fun c=>if c=true then some (.inl ()) else some (.inr false)) (fun _=>some true) d.args 0 () else some false
def Qv (a:Zm):Option Bool:=
 if (sEq a.rel ⟨#[]⟩)=true then some ((a.args.length:Int)==0) else some false
def Zfl (h:Zh):Option Bool:=
 if (h.kind==1)=true then (Q8 h.pattern).bind fun a=>if a=true then if (sEq h.left ⟨#[]⟩)=true then some (sEq h.right ⟨#[]⟩) else some false else some false else if (h.kind==2)=true then (Q8 h.pattern).bind fun b=>if b=true then if (sEq h.left ⟨#[]⟩)=true then some (sEq h.right ⟨#[]⟩) else some false else some false else if (h.kind==3)=true then (Zbo h.left).bind fun c=>if c=true then (Zbo h.right).bind fun d=>if d=true then (Qv h.pattern).bind fun e=>some e else some false else some false else if (h.kind==4)=true then (Zbo h.left).bind fun f=>if f=true then (Zbo h.right).bind fun g=>if g=true then (Qv h.pattern).bind fun i=>some i else some false else some false else if (h.kind==5)=true then (Zbo h.left).bind fun j=>if j=true then (Zbo h.right).bind fun k=>if k=true then (Qv h.pattern).bind fun l=>some l else some false else some false else some false
def Za6 (d:List BYT):Option (List BYT):=
 Zx (σ:=(List BYT)) (fun (e:Nat) (b:BYT) a=>(Zc6 b).bind fun c=>if c=true then chk (a.length+1<=1073741824) <|some (.inl (a++[b])) else some (.inl a)) (fun a=>some a) d 0 []
def Zag (f:List BYT):Option (List BYT):=
 chk (f.length<=1073741824) <|(ZdX f).bind fun c=>Zx (σ:=(List BYT)) (fun (b:Nat) (d:BYT) a=>if ((b:Int)==0)=true then chk (a.length+1<=1073741824) <|some (.inl (a++[d])) else chk (0<=(i64.wrap ((b:Int) - 1))/\(i64.wrap ((b:Int) - 1))<(c.length:Int)) <|(c[(A9 (i64.wrap ((b:Int) - 1)))]?).bind fun e=>if (sEq e d)=true then some (.inl a) else chk (a.length+1<=1073741824) <|some (.inl (a++[d]))) (fun a=>some a) c 0 []
def ZcA (e:Zq) (f:Int):Option (List BYT):=
 Zx (σ:=(List BYT)) (fun (g:Nat) (b:Zh) a=>if (decide ((g:Int)<f))=true then if (b.kind==1)=true then (Za6 b.pattern.args).bind fun c=>chk (a.length+c.length<=1073741824) <|some (.inl (a++c)) else some (.inl a) else some (.inl a)) (fun a=>(Zag a).bind fun d=>some d) e.cond 0 []
def ZbX (b:List BYT) (c:BYT):Option Bool:=
 Zx (σ:=Unit) (fun (d:Nat) (a:BYT) _=>if (sEq a c)=true then some (.inr true) else some (.inl ())) (fun _=>some false) b 0 ()
def Zcv (b:Zh):Option (List BYT):=
 (ZbL b.pattern.args).bind fun a=>chk (a.length+2<=1073741824) <|some (a++[b.left,b.right])
def ZbJ (d:Zh):Option (List BYT):=
 (Zcv d).bind fun a=>(Za6 a).bind fun b=>(Zag b).bind fun c=>some c
def Zab (g:Zq) (h:Int) (a:BYT):Option Bool:=
 Zx (σ:=Unit) (fun (i:Nat) (b:Zh) _=>if ((i:Int) != h)=true then (ZbJ b).bind fun c=>(ZbX c a).bind fun d=>if d=true then some (.inr true) else some (.inl ()) else some (.inl ())) (fun _=>Zx (σ:=Unit) (fun (j:Nat) (e:ZV) _=>(ZbX e.pattern.args a).bind fun f=>if f=true then some (.inr true) else some (.inl ())) (fun _=>some false) g.thn 0 ()) g.cond 0 ()
def ZdL (a:Zq) (b:Int):Option Bool:=
 (atI a.cond b).bind fun c=>(ZcA a b).bind fun e=>(ZbJ c).bind fun f=>Zx (σ:=Unit) (fun (h:Nat) (d:BYT) _=>if (c.kind==1)=true then some (.inl ()) else (ZbX e d).bind fun g=>if g=true then some (.inl ()) else if (c.kind != 2)=true then some (.inr false) else (Zab a b d).bind fun i=>if i=true then some (.inr false) else some (.inl ())) (fun _=>some true) f 0 ()
def Zfw (d:ZV):Option Bool:=
 if (d.kind==1)=true then (Q8 d.pattern).bind fun a=>some a else if (d.kind==2)=true then (Q8 d.pattern).bind fun b=>some b else if (d.kind==3)=true then (Qv d.pattern).bind fun c=>some c else some false
def Zdq (d:List Zh):Option (List BYT):=
 Zx (σ:=(List BYT)) (fun (e:Nat) (c:Zh) a=>(ZbJ c).bind fun b=>chk (a.length+b.length<=1073741824) <|some (.inl (a++b))) (fun a=>some a) d 0 []
def Ziu (h:Zq):Option Bool:=
 (ZfC h.name).bind fun c=>if c=true then if (decide (h.priority<0))=true then some false else if (decide (9<h.priority))=true then some false else if (decide ((h.cond.length:Int)<1))=true then some false else if (decide (4<(h.cond.length:Int)))=true then some false else if (decide ((h.thn.length:Int)<1))=true then some false else if (decide (2<(h.thn.length:Int)))=true then some false else Zx (σ:=Unit) (fun (n:Nat) (a:Zh) _=>(Zfl a).bind fun d=>if d=true then if ((n:Int)==0)=true then if (a.kind != 1)=true then some (.inr false) else (ZdL h (n:Int)).bind fun e=>if e=true then some (.inl ()) else some (.inr false) else (ZdL h (n:Int)).bind fun f=>if f=true then some (.inl ()) else some (.inr false) else some (.inr false)) (fun _=>(ZcA h (h.cond.length:Int)).bind fun g=>Zx (σ:=Unit) (fun (p:Nat) (b:ZV) _=>(Zfw b).bind fun i=>if i=true then (Za6 b.pattern.args).bind fun j=>Zx (σ:=Unit) (fun (q:Nat) (k:BYT) _=>(ZbX g k).bind fun l=>if l=true then some (.inl ()) else some (.inr (.inr false))) (fun _=>some (.inl ())) j 0 () else some (.inr false)) (fun _=>(Zdq h.cond).bind fun m=>(Zag m).bind fun o=>some (decide ((o.length:Int)<=6))) h.thn 0 ()) h.cond 0 () else some false
def Zcm (b:List Zq) (c:BYT):Option Int:=
 Zx (σ:=Unit) (fun (d:Nat) (a:Zq) _=>if (sEq a.name c)=true then some (.inr (d:Int)) else some (.inl ())) (fun _=>some (-1)) b 0 ()
def ZfT (d:List Zq):Option Bool:=
 if (decide (6<(d.length:Int)))=true then some false else Zx (σ:=Unit) (fun (e:Nat) (a:Zq) _=>(Ziu a).bind fun b=>if b=true then (Zcm d a.name).bind fun c=>if (c != (e:Int))=true then some (.inr false) else some (.inl ()) else some (.inr false)) (fun _=>some true) d 0 ()
def Zfn (d:Zf):Option Bool:=
 (ZfC d.rel).bind fun a=>if a=true then if (decide (3<(d.args.length:Int)))=true then some false else Zx (σ:=Unit) (fun (e:Nat) (b:BYT) _=>(ZaO b).bind fun c=>if c=true then some (.inl ()) else some (.inr false)) (fun _=>some true) d.args 0 () else some false
def Xs (a:Int) (b:Int):Option Int:=
 if (decide (a<b))=true then some (-1) else if (decide (b<a))=true then some 1 else some 0
def ZaB (b:Int):Option BYT:=
 (Zst b).bind fun a=>some a
def Zbu (c:BYT):Option (Int×Bool):=
 if (decide ((c.size:Int)<1))=true then some (0,false) else if (decide (4<(c.size:Int)))=true then some (0,false) else (ZoV c).bind fun a=>if a.2=true then if (decide (a.1<0))=true then some (0,false) else if (decide (9999<a.1))=true then some (0,false) else (ZaB a.1).bind fun b=>if (sEq b c)=true then some (a.1,true) else some (0,false) else some (0,false)
def ZbA (e:BYT) (f:BYT):Option Int:=
 (Zbu e).bind fun b=>(Zbu f).bind fun a=>if b.2=true then if a.2=true then (Xs b.1 a.1).bind fun c=>some c else some (-1) else if a.2=true then some 1 else (ZgV e f).bind fun d=>some d
def QD (h:Zf) (a:Zf):Option Int:=
 (ZgV h.rel a.rel).bind fun b=>if (b != 0)=true then some b else Zx (σ:=Unit) (fun (c:Nat) (e:BYT) _=>if (decide ((c:Int)<(a.args.length:Int)))=true then (atI a.args (c:Int)).bind fun f=>(ZbA e f).bind fun d=>if (d != 0)=true then some (.inr d) else some (.inl ()) else (Xs (h.args.length:Int) (a.args.length:Int)).bind fun g=>some (.inr g)) (fun _=>(Xs (h.args.length:Int) (a.args.length:Int)).bind fun i=>some i) h.args 0 ()
def Zcn (a:List Zf):Option Bool:=
 if (decide (24<(a.length:Int)))=true then some false else Zx (σ:=Unit) (fun (b:Nat) (c:Zf) _=>(Zfn c).bind fun d=>if d=true then if (decide (0<(b:Int)))=true then (atI a (i64.wrap ((b:Int) - 1))).bind fun e=>(QD e c).bind fun f=>if (decide (0<=f))=true then some (.inr false) else some (.inl ()) else some (.inl ()) else some (.inr false)) (fun _=>some true) a 0 ()
def ZcC (e:List BYT) (a:List BYT):Option Bool:=
 if ((e.length:Int) != (a.length:Int))=true then some false else Zx (σ:=Unit) (fun (b:Nat) (c:BYT) _=>(atI a (b:Int)).bind fun d=>if (sEq c d)=true then some (.inl ()) else some (.inr false)) (fun _=>some true) e 0 ()
def Qx (b:Zm) (c:Zm):Option Bool:=
 if (sEq b.rel c.rel)=true then (ZcC b.args c.args).bind fun a=>some a else some false
def ZbK (c:Zh) (a:Zh):Option Bool:=
 if (c.kind==a.kind)=true then if (sEq c.left a.left)=true then if (sEq c.right a.right)=true then (Qx c.pattern a.pattern).bind fun b=>some b else some false else some false else some false
def Zfq (h:Zq) (a:Zq):Option Bool:=
 if (sEq h.name a.name)=true then if (h.priority != a.priority)=true then some false else if ((h.cond.length:Int) != (a.cond.length:Int))=true then some false else if ((h.thn.length:Int) != (a.thn.length:Int))=true then some false else Zx (σ:=Unit) (fun (d:Nat) (e:Zh) _=>(atI a.cond (d:Int)).bind fun f=>(ZbK e f).bind fun g=>if g=true then some (.inl ()) else some (.inr false)) (fun _=>Zx (σ:=Unit) (fun (i:Nat) (b:ZV) _=>(atI a.thn (i:Int)).bind fun c=>if (b.kind != c.kind)=true then some (.inr false) else (Qx b.pattern c.pattern).bind fun j=>if j=true then some (.inl ()) else some (.inr false)) (fun _=>some true) h.thn 0 ()) h.cond 0 () else some false
def Zd9 (f:List Zq) (a:List Zq):Option Bool:=
 if ((f.length:Int) != (a.length:Int))=true then some false else Zx (σ:=Unit) (fun (b:Nat) (c:Zq) _=>(atI a (b:Int)).bind fun d=>(Zfq c d).bind fun e=>if e=true then some (.inl ()) else some (.inr false)) (fun _=>some true) f 0 ()
def Zfo (e:List Int) (a:List Int):Option Bool:=
 if ((e.length:Int) != (a.length:Int))=true then some false else Zx (σ:=Unit) (fun (b:Nat) (c:Int) _=>(atI a (b:Int)).bind fun d=>if (c != d)=true then some (.inr false) else some (.inl ())) (fun _=>some true) e 0 ()
def Zcj (b:Zf) (c:Zf):Option Bool:=
 if (sEq b.rel c.rel)=true then (ZcC b.args c.args).bind fun a=>some a else some false
def Zbw (f:List Zf) (a:List Zf):Option Bool:=
 if ((f.length:Int) != (a.length:Int))=true then some false else Zx (σ:=Unit) (fun (b:Nat) (c:Zf) _=>(atI a (b:Int)).bind fun d=>(Zcj c d).bind fun e=>if e=true then some (.inl ()) else some (.inr false)) (fun _=>some true) f 0 ()
def Zer (e:List Zj) (a:List Zj):Option Bool:=
 if ((e.length:Int) != (a.length:Int))=true then some false else Zx (σ:=Unit) (fun (d:Nat) (b:Zj) _=>(atI a (d:Int)).bind fun c=>if (sEq b.var c.var&&sEq b.value c.value)=true then some (.inl ()) else some (.inr false)) (fun _=>some true) e 0 ()
def Zc2 (g:List Zi) (a:List Zi):Option Bool:=
 if ((g.length:Int) != (a.length:Int))=true then some false else Zx (σ:=Unit) (fun (d:Nat) (b:Zi) _=>(atI a (d:Int)).bind fun c=>(Zbw b.facts c.facts).bind fun e=>if e=true then (Zer b.binding c.binding).bind fun f=>if f=true then some (.inl ()) else some (.inr false) else some (.inr false)) (fun _=>some true) g 0 ()
def Za9 (h:Zc) (a:Zc):Option Bool:=
 (Zd9 h.rules a.rules).bind fun f=>if f=true then (Zfo h.ends a.ends).bind fun g=>if g=true then (Zbw h.facts a.facts).bind fun i=>if i=true then if ((h.alphas.length:Int) != (a.alphas.length:Int))=true then some false else if ((h.nodes.length:Int) != (a.nodes.length:Int))=true then some false else Zx (σ:=Unit) (fun (j:Nat) (d:ZO) _=>(atI a.alphas (j:Int)).bind fun e=>(Qx d.shape e.shape).bind fun k=>if k=true then (Zbw d.facts e.facts).bind fun l=>if l=true then some (.inl ()) else some (.inr false) else some (.inr false)) (fun _=>Zx (σ:=Unit) (fun (m:Nat) (b:ZA) _=>(atI a.nodes (m:Int)).bind fun c=>if (b.parent != c.parent)=true then some (.inr false) else if (b.alpha != c.alpha)=true then some (.inr false) else (ZbK b.cond c.cond).bind fun o=>if o=true then (Zc2 b.tokens c.tokens).bind fun p=>if p=true then some (.inl ()) else some (.inr false) else some (.inr false)) (fun _=>some true) h.nodes 0 ()) h.alphas 0 () else some false else some false else some false
def ZaH (f:List BYT):Option (List Zj):=
 Zx (σ:=(List (BYT×Bool))×(List Zj)) (fun (g:Nat) (c:BYT) s=>match s with |(b,a)=>(Zc6 c).bind fun e=>if e=true then if (ZgK b c false)=true then some (.inl (b,a)) else (ZaB (i64.wrap ((a.length:Int)+1))).bind fun d=>chk ((⟨#[63]⟩:BYT).size+d.size<=9223372036854775807) <|chk (a.length+1<=1073741824) <|some (.inl ((Zmz b c true),(a++[({ var:=c,value:=((⟨#[63]⟩:BYT)++d) }:Zj)]))) else some (.inl (b,a))) (fun s=>match s with |(b,a)=>some a) f 0 ([],[])
def Zdi (e:Zq):Option (List Zj):=
 Zx (σ:=(List BYT)) (fun (f:Nat) (c:Zh) a=>(Zcv c).bind fun b=>chk (a.length+b.length<=1073741824) <|some (.inl (a++b))) (fun a=>(ZaH a).bind fun d=>some d) e.cond 0 []
def ZaX (b:BYT) (c:List Zj):Option BYT:=
 Zx (σ:=Unit) (fun (d:Nat) (a:Zj) _=>if (sEq a.var b)=true then some (.inr a.value) else some (.inl ())) (fun _=>some b) c 0 ()
def ZbV (f:Zh) (g:List Zj):Option Zh:=
 (ZaX f.left g).bind fun b=>(ZaX f.right g).bind fun c=>Zx (σ:=(List BYT)) (fun (h:Nat) (d:BYT) a=>(ZaX d g).bind fun e=>chk (a.length+1<=1073741824) <|some (.inl (a++[e]))) (fun a=>some ({ kind:=f.kind,pattern:=({ rel:=f.pattern.rel,args:=a }:Zm),left:=b,right:=c }:Zh)) f.pattern.args 0 []
def ZcX (e:Zq):Option (List Zh):=
 (Zdi e).bind fun b=>Zx (σ:=(List Zh)) (fun (f:Nat) (c:Zh) a=>(ZbV c b).bind fun d=>chk (a.length+1<=1073741824) <|some (.inl (a++[d]))) (fun a=>some a) e.cond 0 []
def QT (c:Zc) (d:Zm):Option (Int×Zc):=
 Zx (σ:=Unit) (fun (e:Nat) (a:ZO) _=>(Qx a.shape d).bind fun b=>if b=true then some (.inr ((e:Int),c)) else some (.inl ())) (fun _=>chk (c.alphas.length+1<=1073741824) <|some ((i64.wrap (((c.alphas.length+1:Nat):Int) - 1)),({ rules:=c.rules,ends:=c.ends,alphas:=(c.alphas++[({ shape:=d,facts:=[] }:ZO)]),nodes:=c.nodes,facts:=c.facts,tries:=c.tries }:Zc))) c.alphas 0 ()
def ZeY (c:Zm):Option Zm:=
 (ZaH c.args).bind fun a=>(ZbV ({ kind:=0,pattern:=c,left:=(⟨#[]⟩),right:=(⟨#[]⟩) }:Zh) a).bind fun b=>some b.pattern
def ZaR (h:Zc) (l:Int) (k:Zh):Option (Int×Zc):=
 Zx (σ:=Unit) (fun (m:Nat) (c:ZA) _=>if (decide (0<(m:Int)))=true then if (c.parent==l)=true then (ZbK c.cond k).bind fun d=>if d=true then some (.inr ((m:Int),h)) else some (.inl ()) else some (.inl ()) else some (.inl ())) (fun _=>if (k.kind==1)=true then (ZeY k.pattern).bind fun e=>(QT h e).bind fun a=>(Xv k).bind fun f=>chk (a.2.nodes.length+1<=1073741824) <|some ((i64.wrap (((a.2.nodes.length+1:Nat):Int) - 1)),({ rules:=a.2.rules,ends:=a.2.ends,alphas:=a.2.alphas,nodes:=(a.2.nodes++[({ parent:=l,cond:=f,alpha:=a.1,tokens:=[] }:ZA)]),facts:=a.2.facts,tries:=a.2.tries }:Zc)) else if (k.kind==2)=true then (ZeY k.pattern).bind fun g=>(QT h g).bind fun b=>(Xv k).bind fun i=>chk (b.2.nodes.length+1<=1073741824) <|some ((i64.wrap (((b.2.nodes.length+1:Nat):Int) - 1)),({ rules:=b.2.rules,ends:=b.2.ends,alphas:=b.2.alphas,nodes:=(b.2.nodes++[({ parent:=l,cond:=i,alpha:=b.1,tokens:=[] }:ZA)]),facts:=b.2.facts,tries:=b.2.tries }:Zc)) else (Xv k).bind fun j=>chk (h.nodes.length+1<=1073741824) <|some ((i64.wrap (((h.nodes.length+1:Nat):Int) - 1)),({ rules:=h.rules,ends:=h.ends,alphas:=h.alphas,nodes:=(h.nodes++[({ parent:=l,cond:=j,alpha:=(-1),tokens:=[] }:ZA)]),facts:=h.facts,tries:=h.tries }:Zc))) h.nodes 0 ()
def Zes (h:List Zq):Option Zc:=
 (ZcG h).bind fun q=>Zx (σ:=Int×(List Zq)×(List Int)×(List ZO)×(List ZA)×(List Zf)) (fun (n:Nat) (t:Zq) s=>match s with |(c,d,e,f,g,i)=>(ZcX t).bind fun u=>Zx (σ:=Int×(List Zq)×(List Int)×(List ZO)×(List ZA)×(List Zf)×Int) (fun (r:Nat) (v:Zh) s=>match s with |(j,k,b,l,m,o,p)=>(ZaR ({ rules:=k,ends:=b,alphas:=l,nodes:=m,facts:=o,tries:=j }:Zc) p v).bind fun a=>some (.inl (a.2.tries,a.2.rules,a.2.ends,a.2.alphas,a.2.nodes,a.2.facts,a.1))) (fun s=>match s with |(j,k,b,l,m,o,p)=>chk (b.length+1<=1073741824) <|some (.inl (j,k,(b++[p]),l,m,o))) u 0 (c,d,e,f,g,i,0)) (fun s=>match s with |(c,d,e,f,g,i)=>some ({ rules:=d,ends:=e,alphas:=f,nodes:=g,facts:=i,tries:=c }:Zc)) h 0 (0,q,[],[],[({ parent:=(-1),cond:=({ kind:=0,pattern:=({ rel:=(⟨#[]⟩),args:=[] }:Zm),left:=(⟨#[]⟩),right:=(⟨#[]⟩) }:Zh),alpha:=(-1),tokens:=[] }:ZA)],[])
def Zax (a:List Zj):Option Bool:=
 if (decide (6<(a.length:Int)))=true then some false else Zx (σ:=Unit) (fun (c:Nat) (b:Zj) _=>(Zc6 b.var).bind fun d=>if d=true then (ZaO b.value).bind fun e=>if e=true then if (decide (0<(c:Int)))=true then (atI a (i64.wrap ((c:Int) - 1))).bind fun f=>if (sLt f.var b.var)=true then some (.inl ()) else some (.inr false) else some (.inl ()) else some (.inr false) else some (.inr false)) (fun _=>some true) a 0 ()
def ZdJ (e:List Zj) (d:BYT):Option (BYT×Bool):=
 (ZaO d).bind fun b=>if b=true then some (d,true) else (Zc6 d).bind fun c=>if c=true then Zx (σ:=Unit) (fun (f:Nat) (a:Zj) _=>if (sEq a.var d)=true then some (.inr (a.value,true)) else some (.inl ())) (fun _=>some ((⟨#[]⟩),false)) e 0 () else some ((⟨#[]⟩),false)
def Ziv (c:List Zj) (b:BYT) (h:BYT):Option ((List Zj)×Bool):=
 (Zax c).bind fun g=>if g=true then (Zc6 b).bind fun i=>if i=true then (ZaO h).bind fun j=>if j=true then (ZdJ c b).bind fun f=>if f.2=true then if (sEq f.1 h)=true then (Zat c).bind fun k=>some (k,true) else some ([],false) else if (decide (6<=(c.length:Int)))=true then some ([],false) else Zx (σ:=(List Zj)×Bool) (fun (l:Nat) (d:Zj) s=>match s with |(a,e)=>if e=true then chk (a.length+1<=1073741824) <|some (.inl ((a++[d]),true)) else if (sLt d.var b||sEq d.var b)=true then chk (a.length+1<=1073741824) <|some (.inl ((a++[d]),false)) else chk (a.length+1<=1073741824) <|chk (a.length+1+1<=1073741824) <|some (.inl (((a++[({ var:=b,value:=h }:Zj)])++[d]),true))) (fun s=>match s with |(a,e)=>if e=true then some (a,true) else chk (a.length+1<=1073741824) <|some ((a++[({ var:=b,value:=h }:Zj)]),true)) c 0 ([],false) else some ([],false) else some ([],false) else some ([],false)
def QX (h:Zm) (a:Zf) (d:List Zj):Option ((List Zj)×Bool):=
 (Q8 h).bind fun g=>if g=true then (Zfn a).bind fun i=>if i=true then (Zax d).bind fun j=>if j=true then if (sEq h.rel a.rel)=true then if ((h.args.length:Int) != (a.args.length:Int))=true then some ([],false) else (Zat d).bind fun k=>Zx (σ:=(List Zj)) (fun (e:Nat) (c:BYT) b=>(ZaO c).bind fun l=>if l=true then (atI a.args (e:Int)).bind fun m=>if (sEq c m)=true then some (.inl b) else some (.inr ([],false)) else (atI a.args (e:Int)).bind fun o=>(Ziv b c o).bind fun f=>if f.2=true then some (.inl f.1) else some (.inr ([],false))) (fun b=>some (b,true)) h.args 0 k else some ([],false) else some ([],false) else some ([],false) else some ([],false)
def Qh (e:Zm) (f:List Zj) (g:List Zf):Option (List Zf):=
 Zx (σ:=(List Zf)) (fun (h:Nat) (b:Zf) a=>(QX e b f).bind fun c=>if c.2=true then (XR b).bind fun d=>chk (a.length+1<=1073741824) <|some (.inl (a++[d])) else some (.inl a)) (fun a=>some a) g 0 []
def Zlf (b:Zh):Option Bool:=
 (Zfl b).bind fun a=>if a=true then some (decide (3<=b.kind)) else some false
def Zey (g:Zh) (h:List Zj):Option Bool:=
 (Zlf g).bind fun e=>if e=true then (Zax h).bind fun f=>if f=true then (ZdJ h g.left).bind fun a=>(ZdJ h g.right).bind fun b=>if a.2=true then if b.2=true then if (g.kind==3)=true then some (sEq a.1 b.1) else if (g.kind==4)=true then some (!(sEq a.1 b.1)) else (Zbu a.1).bind fun c=>(Zbu b.1).bind fun d=>if c.2=true then if d.2=true then some (decide (c.1<d.1)) else some false else some false else some false else some false else some false else some false
def Zev (h:Zh) (a:List Zj) (b:List Zf):Option Bool:=
 (Zfl h).bind fun c=>if c=true then (Zax a).bind fun d=>if d=true then if (h.kind==1)=true then (Qh h.pattern a b).bind fun e=>some (decide (0<(e.length:Int))) else if (h.kind==2)=true then (Qh h.pattern a b).bind fun f=>some ((f.length:Int)==0) else (Zey h a).bind fun g=>some g else some false else some false
def ZkK (l:List Zh) (h:List Zf):Option (List Zi):=
 Zx (σ:=(List Zi)) (fun (m:Nat) (d:Zh) e=>Zx (σ:=(List Zi)) (fun (n:Nat) (c:Zi) a=>if (d.kind != 1)=true then (Zev d c.binding h).bind fun j=>if j=true then chk (a.length+1<=1073741824) <|some (.inl (a++[c])) else some (.inl a) else Zx (σ:=(List Zi)) (fun (o:Nat) (f:Zf) b=>(QX d.pattern f c.binding).bind fun g=>if g.2=true then (Yl c.facts).bind fun i=>(XR f).bind fun k=>chk (i.length+1<=1073741824) <|chk (b.length+1<=1073741824) <|some (.inl (b++[({ facts:=(i++[k]),binding:=g.1 }:Zi)])) else some (.inl b)) (fun b=>some (.inl b)) h 0 a) (fun a=>some (.inl a)) e 0 []) (fun e=>some e) l 0 ([({ facts:=[],binding:=[] }:Zi)])
def Zge (b:List Zh) (a:List Zf):Option (List Zi):=if b.length<=4/\a.length<=24/\(∀f∈a,f.args.length<=3) then ZkK b a else none
def Zis (e:Zc) (h:Int):Option (List Zh):=
 if (decide (h<1))=true then some [] else if (decide ((e.nodes.length:Int)<=h))=true then some [] else Zb2 (σ:=(List Int)×Int) (fun s=>match s with |(a,b)=>chk (a.length+1<=1073741824) <|(atI e.nodes b).bind fun f=>if (decide (f.parent<1))=true then Zb2 (σ:=(List Zh)×Int) (fun s=>match s with |(g,c)=>if (decide (0<=c))=true then chk (0<=c/\c<((a.length+1:Nat):Int)) <|((a++[b])[(A9 c)]?).bind fun j=>(atI e.nodes j).bind fun k=>(Xv k.cond).bind fun l=>chk (g.length+1<=1073741824) <|some (.inl ((g++[l]),(i64.wrap (c - 1)))) else some (.inr (.inr g))) ([],(i64.wrap (((a.length+1:Nat):Int) - 1))) else if (decide (b<=f.parent))=true then Zb2 (σ:=(List Zh)×Int) (fun s=>match s with |(i,d)=>if (decide (0<=d))=true then chk (0<=d/\d<((a.length+1:Nat):Int)) <|((a++[b])[(A9 d)]?).bind fun m=>(atI e.nodes m).bind fun o=>(Xv o.cond).bind fun p=>chk (i.length+1<=1073741824) <|some (.inl ((i++[p]),(i64.wrap (d - 1)))) else some (.inr (.inr i))) ([],(i64.wrap (((a.length+1:Nat):Int) - 1))) else some (.inl ((a++[b]),f.parent))) ([],h)
def Zaq (h:Zc) (l:List Zf):Option Zc:=
 (Yl l).bind fun f=>Zb2 (σ:=(List ZO)×Int) (fun s=>match s with |(c,b)=>if (decide (b<(h.alphas.length:Int)))=true then chk (0<=b/\b<(c.length:Int)) <|(c[(A9 b)]?).bind fun g=>(Qh g.shape [] l).bind fun i=>some (.inl ((AM c (A9 b) ({ shape:=g.shape,facts:=i }:ZO)),(i64.wrap (b+1)))) else Zb2 (σ:=(List ZA)×Int) (fun s=>match s with |(d,a)=>if (decide (a<(h.nodes.length:Int)))=true then (Zis ({ rules:=h.rules,ends:=h.ends,alphas:=c,nodes:=d,facts:=f,tries:=h.tries }:Zc) a).bind fun j=>(Zge j l).bind fun k=>chk (0<=a/\a<(d.length:Int)) <|(d[(A9 a)]?).bind fun e=>some (.inl ((AM d (A9 a) ({ parent:=e.parent,cond:=e.cond,alpha:=e.alpha,tokens:=k }:ZA)),(i64.wrap (a+1)))) else some (.inr (.inr ({ rules:=h.rules,ends:=h.ends,alphas:=c,nodes:=d,facts:=f,tries:=h.tries }:Zc)))) (h.nodes,0)) (h.alphas,0)
def ZlY (c:List Zq) (d:List Zf) (e:Int):Option Zc:=
 (Zes c).bind fun b=>(Zaq b d).bind fun a=>some ({ rules:=a.rules,ends:=a.ends,alphas:=a.alphas,nodes:=a.nodes,facts:=a.facts,tries:=e }:Zc)
def Zcx (e:Zc):Option Bool:=
 (ZfT e.rules).bind fun a=>if a=true then (Zcn e.facts).bind fun b=>if b=true then if (decide (0<=e.tries))=true then (ZlY e.rules e.facts 0).bind fun c=>(Za9 e c).bind fun d=>some d else some false else some false else some false
def Zby (c:List Zf) (d:Zf):Option Int:=
 Zx (σ:=Unit) (fun (e:Nat) (a:Zf) _=>(Zcj a d).bind fun b=>if b=true then some (.inr (e:Int)) else some (.inl ())) (fun _=>some (-1)) c 0 ()
def ZgL (k:List Zf) (h:Zf):Option (List Zf):=
 Zx (σ:=(List Zf)×Bool) (fun (l:Nat) (b:Zf) s=>match s with |(a,c)=>if c=true then (XR b).bind fun d=>chk (a.length+1<=1073741824) <|some (.inl ((a++[d]),true)) else (QD b h).bind fun e=>if (decide (0<e))=true then (XR h).bind fun f=>chk (a.length+1<=1073741824) <|(XR b).bind fun g=>chk (a.length+1+1<=1073741824) <|some (.inl (((a++[f])++[g]),true)) else (XR b).bind fun i=>chk (a.length+1<=1073741824) <|some (.inl ((a++[i]),false))) (fun s=>match s with |(a,c)=>if c=true then some a else (XR h).bind fun j=>chk (a.length+1<=1073741824) <|some (a++[j])) k 0 ([],false)
def Zha (h:List Zf) (j:Zf):Option ((List Zf)×Bool):=
 (Zcn h).bind fun a=>if a=true then (Zfn j).bind fun b=>if b=true then (Zby h j).bind fun c=>if (decide (0<=c))=true then (Yl h).bind fun d=>some (d,false) else if (decide (24<=(h.length:Int)))=true then (Yl h).bind fun e=>some (e,false) else (ZgL h j).bind fun f=>some (f,true) else (Yl h).bind fun g=>some (g,false) else (Yl h).bind fun i=>some (i,false)
def ZaC (h:List Zf) (a:List Zf):Option Int:=
 Zx (σ:=Unit) (fun (b:Nat) (d:Zf) _=>if (decide ((b:Int)<(a.length:Int)))=true then (atI a (b:Int)).bind fun e=>(QD d e).bind fun c=>if (c != 0)=true then some (.inr c) else some (.inl ()) else (Xs (h.length:Int) (a.length:Int)).bind fun f=>some (.inr f)) (fun _=>(Xs (h.length:Int) (a.length:Int)).bind fun g=>some g) h 0 ()
def ZaS (b:Zi) (c:Zi):Option Int:=
 (ZaC b.facts c.facts).bind fun a=>some a
def ZfR (c:List Zi) (d:Zi):Option Bool:=
 Zx (σ:=Unit) (fun (e:Nat) (a:Zi) _=>(ZaS a d).bind fun b=>if (b==0)=true then some (.inr true) else some (.inl ())) (fun _=>some false) c 0 ()
def Ze6 (g:Zc) (h:List Zf) (n:Zf):Option Zc:=
 (Ym g).bind fun i=>(Zaq i h).bind fun a=>Zx (σ:=Int) (fun (p:Nat) (b:ZA) c=>if ((p:Int)==0)=true then some (.inl c) else chk (0<=b.parent/\b.parent<(a.nodes.length:Int)) <|(a.nodes[(A9 b.parent)]?).bind fun j=>Zx (σ:=Int×Int) (fun (q:Nat) (k:Zi) s=>match s with |(e,d)=>(atI g.nodes b.parent).bind fun l=>(ZfR l.tokens k).bind fun m=>if m=true then some (.inl ((i64.wrap (e+1)),d)) else some (.inl (e,(i64.wrap (d+1))))) (fun s=>match s with |(e,d)=>if (decide (b.alpha<0))=true then some (.inl (i64.wrap (c+d))) else chk (0<=b.alpha/\b.alpha<(a.alphas.length:Int)) <|(a.alphas[(A9 b.alpha)]?).bind fun f=>(QX f.shape n []).bind fun o=>if o.2=true then some (.inl (i64.wrap ((i64.wrap (c+(i64.wrap (d*(f.facts.length:Int)))))+e))) else some (.inl (i64.wrap (c+(i64.wrap (d*(f.facts.length:Int))))))) j.tokens 0 (0,0)) (fun c=>some ({ rules:=a.rules,ends:=a.ends,alphas:=a.alphas,nodes:=a.nodes,facts:=a.facts,tries:=c }:Zc)) a.nodes 0 a.tries
def ZwU (d:Zc) (e:Zf):Option (Zc×Bool):=
 (Zha d.facts e).bind fun a=>if a.2=true then (Ze6 d a.1 e).bind fun b=>some (b,true) else (Ym d).bind fun c=>some (c,false)
def XZ (d:Zc) (e:Zf):Option (Zc×Bool):=
 (Zcx d).bind fun b=>if b=true then (ZwU d e).bind fun a=>some (a.1,a.2) else (Ym d).bind fun c=>some (c,false)
def ZcM (a:List Zf) (h:Zf):Option ((List Zf)×Bool):=
 (Zby a h).bind fun b=>(Zcn a).bind fun e=>if e=true then if (decide (b<0))=true then (Yl a).bind fun f=>some (f,false) else chk (0<=b/\b<=(a.length:Int)) <|(Yl (List.drop 0 (List.take (A9 b) a))).bind fun c=>chk (0<=(i64.wrap (b+1))/\(i64.wrap (b+1))<=(a.length:Int)) <|(Yl (List.drop (A9 (i64.wrap (b+1))) (List.take a.length a))).bind fun d=>chk (c.length+d.length<=1073741824) <|some ((c++d),true) else (Yl a).bind fun g=>some (g,false)
def Zsi (d:Zc) (e:Zf):Option (Zc×Bool):=
 (ZcM d.facts e).bind fun a=>if a.2=true then (Ze6 d a.1 e).bind fun b=>some (b,true) else (Ym d).bind fun c=>some (c,false)
def Y7 (d:Zc) (e:Zf):Option (Zc×Bool):=
 (Zcx d).bind fun b=>if b=true then (Zsi d e).bind fun a=>some (a.1,a.2) else (Ym d).bind fun c=>some (c,false)
def Zd5 (h:Zc) (n:List YB):Option (Zc×Bool):=
 (Ym h).bind fun m=>Zx (σ:=Int×(List Zq)×(List Int)×(List ZO)×(List ZA)×(List Zf)) (fun (r:Nat) (a:YB) s=>match s with |(b,c,d,e,f,g)=>if (a.kind==1)=true then (XZ ({ rules:=c,ends:=d,alphas:=e,nodes:=f,facts:=g,tries:=b }:Zc) a.fact).bind fun i=>if i.2=true then some (.inl (i.1.tries,i.1.rules,i.1.ends,i.1.alphas,i.1.nodes,i.1.facts)) else (Ym h).bind fun o=>some (.inr (o,false)) else if (a.kind==4)=true then (XZ ({ rules:=c,ends:=d,alphas:=e,nodes:=f,facts:=g,tries:=b }:Zc) a.fact).bind fun j=>if j.2=true then some (.inl (j.1.tries,j.1.rules,j.1.ends,j.1.alphas,j.1.nodes,j.1.facts)) else (Ym h).bind fun p=>some (.inr (p,false)) else if (a.kind==2)=true then (Y7 ({ rules:=c,ends:=d,alphas:=e,nodes:=f,facts:=g,tries:=b }:Zc) a.fact).bind fun k=>if k.2=true then some (.inl (k.1.tries,k.1.rules,k.1.ends,k.1.alphas,k.1.nodes,k.1.facts)) else (Ym h).bind fun q=>some (.inr (q,false)) else if (a.kind==5)=true then (Y7 ({ rules:=c,ends:=d,alphas:=e,nodes:=f,facts:=g,tries:=b }:Zc) a.fact).bind fun l=>if l.2=true then some (.inl (l.1.tries,l.1.rules,l.1.ends,l.1.alphas,l.1.nodes,l.1.facts)) else (Ym h).bind fun t=>some (.inr (t,false)) else some (.inl (b,c,d,e,f,g))) (fun s=>match s with |(b,c,d,e,f,g)=>some (({ rules:=c,ends:=d,alphas:=e,nodes:=f,facts:=g,tries:=b }:Zc),true)) n 0 (m.tries,m.rules,m.ends,m.alphas,m.nodes,m.facts)
end
section
section
variable {α σ ρ:Type} {body:Nat->α->σ->Option (σ ⊕ ρ)} {fin:σ->Option ρ}
theorem ZoU (i:Nat) (s:σ):Zx body fin [] i s=fin s:=rfl
theorem ZP {x:α}{l:List α}{i:Nat}{s s':σ}(h:body i x s=some (.inl s')):Zx body fin (x::l) i s=Zx body fin l (i+1) s':=by simp only[Zx,h]
theorem Yp {x:α}{l:List α}{i:Nat}{s:σ}{r:ρ}(h:body i x s=some (.inr r)):Zx body fin (x::l) i s=some r:=by simp only[Zx,h]
theorem Zaa {p:α->Bool}{r:ρ}:∀{l:List α}{i:Nat}{s:σ},(∀i x,x∈l->body i x s=some (bif p x then .inl s else .inr r))->Zx body fin l i s=if l.all p=true then fin s else some r
 | [],_,_,_=>by simp [Zx]
 |x::l,i,s,h=>by
  have hx:=h i x yG;by_cases A:p x=true
  .rw [A,cond_true]at hx;rw [ZP hx,Zaa fun j y B=>h j y (by simp [B])];simp [A]
  .rw [eq_false_of_ne_true A,cond_false]at hx;rw [Yp hx];simp [A]
theorem Zg4 {p:α->Bool}{r:ρ}:∀{l:List α}{i:Nat}{s:σ},(∀i x,x∈l->body i x s=some (bif p x then .inr r else .inl s))->Zx body fin l i s=if l.any p=true then some r else fin s
 | [],_,_,_=>by simp [Zx]
 |x::l,i,s,h=>by
  have hx:=h i x yG;by_cases A:p x=true
  .rw [A,cond_true]at hx;rw [Yp hx];simp [A]
  .rw [eq_false_of_ne_true A,cond_false]at hx;rw [ZP hx,Zg4 fun j y B=>h j y (by simp [B])];simp [A]
theorem ZeZ {f:σ->α->σ}(I:Nat->σ->Prop):∀{l:List α}{i:Nat}{s:σ},I i s->(∀j x s,x∈l->i<=j->j<i+l.length->I j s->body j x s=some (.inl (f s x))/\I (j+1) (f s x))->Zx body fin l i s=fin (l.foldl f s)
 | [],_,_,_,_=>rfl
 |x::l,i,s,h0,h=>by
  obtain ⟨D,C⟩:=h i x s yG yE yG h0;rw [ZP D,ZeZ I C fun j y s A E B=>h j y s (by simp [A]) yE (by simp at B ⊢;omega)];rfl
theorem Zd3 (g:List α->Nat->σ->Option ρ) (I:List α->Nat->σ->Prop) (D:∀i s,I [] i s->fin s=g [] i s)
  (C:∀x l i s,I (x::l) i s->(∃s',body i x s=some (.inl s')/\I l (i+1) s'/\g (x::l) i s=g l (i+1) s')\/(∃r,body i x s=some (.inr r)/\g (x::l) i s=some r)):∀(l:List α) (i:Nat) (s:σ),I l i s->Zx body fin l i s=g l i s
 | [],i,s,h=>D i s h
 |x::l,i,s,h=>by
  rcases C x l i s h with ⟨s',B,A,E⟩|⟨r,B,A⟩
  .rw [ZP B,Zd3 g I D C l (i+1) s' A,E]
  .rw [Yp B,A]
end
def ZeN {α:Type}(p:Nat->α->Bool):List α->Nat->Bool
 | [],_=>true
 |x::l,i=>p i x&&ZeN p l (i+1)
theorem Zr8 {α:Type}{p:Nat->α->Bool}:∀{l:List α}{i:Nat},ZeN p l i=true->∀j x,l[j]?=some x->p (i+j) x=true
 | [],_,_,j,x,hx=>by simp at hx
 |y::l,i,h,0,x,hx=>by simp only[ZeN,A6]at h;simp at hx;subst hx;exact h.1
 |y::l,i,h,j+1,x,hx=>by
  simp only[ZeN,A6]at h;have:=Zr8 h.2 j x (by simpa using hx)
  rwa [show i+(j+1)=i+1+j by omega]
section
variable {α σ ρ:Type} {body:Nat->α->σ->Option (σ ⊕ ρ)} {fin:σ->Option ρ}
theorem ZbP {p:Nat->α->Bool}{r:ρ}:∀{l:List α}{i:Nat}{s:σ},(∀j x,l[j]?=some x->body (i+j) x s=some (bif p (i+j) x then .inl s else .inr r))->Zx body fin l i s=if ZeN p l i=true then fin s else some r
 | [],_,_,_=>by simp [Zx,ZeN]
 |x::l,i,s,h=>by
  have hx:=h 0 x yG;simp only[Nat.add_zero]at hx;by_cases A:p i x=true
  .rw [A,cond_true]at hx;rw [ZP hx,ZbP fun j y B=>by have:=h (j+1) y (by simpa using B);rwa [show i+(j+1)=i+1+j by omega]at this]
   simp [ZeN,A]
  .rw [eq_false_of_ne_true A,cond_false]at hx;rw [Yp hx];simp [ZeN,A]
theorem ZbD {β:Type}{g:α->Option β}{fin:List β->Option ρ}{body:Nat->α->List β->Option (List β ⊕ ρ)}:∀{l:List α}{i:Nat}{acc:List β},(∀j x s,x∈l->s.length+1<=acc.length+l.length->body j x s=some (.inl (s++(g x).toList)))->Zx body fin l i acc=fin (acc++l.filterMap g)
 | [],_,acc,_=>by simp [Zx]
 |x::l,i,acc,h=>by
  rw [ZP (h i x acc yG yG)];rw [ZbD fun j y s B hs=>h j y s (by simp [B]) (by cases A:g x<;>simp [A]at hs ⊢<;>omega)]
  congr 1
  cases A:g x<;>simp [A]
theorem Xw {β:Type}{g:α->β}{fin:List β->Option ρ}{body:Nat->α->List β->Option (List β ⊕ ρ)}{l:List α}{i:Nat}{acc:List β}(h:∀j x s,x∈l->s.length+1<=acc.length+l.length->body j x s=some (.inl (s++[g x]))):Zx body fin l i acc=fin (acc++l.map g):=by
 rw [ZbD (g:=fun x=>some (g x)) h,List.filterMap_eq_map']
theorem Zgn {p:α->Bool}{fin:List α->Option ρ}{body:Nat->α->List α->Option (List α ⊕ ρ)}{l:List α}{i:Nat}{acc:List α}(h:∀j x s,x∈l->s.length+1<=acc.length+l.length->body j x s=some (.inl (if p x=true then s++[x] else s))):Zx body fin l i acc=fin (acc++l.filter p):=by
 rw [ZbD (g:=fun x=>if p x=true then some x else none) fun j x s B hs=>by rw [h j x s B hs];split<;>simp]
 congr 2
 induction l with
 |nil=>rfl
 |cons x l ih=>
  have ih:=ih fun j y s A hs=>h j y s (by simp [A]) (by simp at hs ⊢;omega);by_cases C:p x=true<;>simp [C,ih]
end
/- texts -/
theorem ZJ {x y:BYT}:sEq x y=true↔x=y:=by simp [sEq]
theorem Zyx (x:BYT):sEq x x=true:=ZJ.2 rfl
theorem Zhq {x y:BYT}(h:toL x=toL y):x=y:=by rw [<-Zlp x,<-Zlp y,h]
theorem ZeT (x:BYT):(toL x).length=x.size:=by rw [toL,Ak,Array.length_toList]
theorem Zkg:∀(a b:List UInt8),Op.bytesLess a b=true↔a<b
 | [],[]=>by simp [Op.bytesLess]
 | [],_::_=>by simp [Op.bytesLess]
 |_::_,[]=>by simp [Op.bytesLess]
 |x::a,y::b=>by
  rw [List.cons_lt_cons_iff,<-Zkg a b];simp only[Op.bytesLess];by_cases h:x<y
  .simp [h]
  .by_cases A:x=y
   .subst A;simp [h]
   .simp [h,A]
theorem ZhP {x y:BYT}:sLt x y=true↔toL x<toL y:=by
 unfold sLt toL;rw [Zkg,AU,AU]
theorem ZkS (x:BYT):sLt x x=false:=by
 cases h:sLt x x with
 |false=>rfl
 |true=>exact absurd (ZhP.1 h) (List.lt_irrefl _)
theorem Zg3 {x y z:BYT}(B:sLt x y=true) (A:sLt y z=true):sLt x z=true:=ZhP.2 (List.lt_trans (ZhP.1 B) (ZhP.1 A))
theorem Zmp {x y:BYT}(A:sLt x y=true):sLt y x=false:=by
 cases h:sLt y x with
 |false=>rfl
 |true=>have:=Zg3 A h;rw [ZkS]at this;simp at this
theorem ZrI {x y:BYT}(h:sLt x y=true):¬x=y:=fun e=>by rw [e,ZkS]at h;simp at h
theorem Zg5 {x y:BYT}(A:sLt x y=false) (B:¬x=y):sLt y x=true:=by
 rcases Std.lt_trichotomy (toL x) (toL y) with h|h|h
 .rw [ZhP.2 h]at A;simp at A
 .exact absurd (Zhq h) B
 .exact ZhP.2 h
def Asc (l:List BYT):Prop:=l.Pairwise fun x y=>sLt x y=true
theorem ZrQ:∀{a b:List BYT},Asc a->Asc b->(∀x,x∈a↔x∈b)->a=b
 | [],[],_,_,_=>rfl
 | [],y::b,_,_,h=>by have:=(h y).2 yG;simp at this
 |x::a,[],_,_,h=>by have:=(h x).1 yG;simp at this
 |x::a,y::b,ha,hb,h=>by
  unfold Asc at ha hb;rw [AI]at ha hb;have c:x=y:=by
   have h1:=(h x).1 yG;have h2:=(h y).2 yG;rcases AA.1 h1 with h1|h1
   .exact h1
   .rcases AA.1 h2 with h2|h2
    .exact h2.symm
    .have:=Zmp (ha.1 y h2);rw [hb.1 x h1]at this;simp at this
  subst c;congr 1
  refine ZrQ ha.2 hb.2 fun z=>?_;have hz:=h z;simp only[AA]at hz;constructor
  .intro m;rcases hz.1 (.inr m) with e|A
   .exact absurd e.symm (ZrI (ha.1 z m))
   .exact A
  .intro m;rcases hz.2 (.inr m) with e|A
   .exact absurd e.symm (ZrI (hb.1 z m))
   .exact A
def Zbj:List BYT->BYT->List BYT
 | [],s=>[s]
 |x::r,s=>if sLt x s=true then x::Zbj r s else if sEq x s=true then x::r else s::x::r
theorem Zlh {y s:BYT}:∀{l:List BYT},y∈Zbj l s↔y=s\/y∈l
 | []=>by simp [Zbj]
 |x::r=>by
  simp only[Zbj];split
  .simp only[AA,Zlh (l:=r)];constructor<;>(intro h;rcases h with h|h|h<;>simp [h])
  .split
   .rename_i h;have:=ZJ.1 h;subst this;simp
   .simp
theorem ZiI {s:BYT}:∀{l:List BYT},Asc l->Asc (Zbj l s)
 | [],_=>by simp [Zbj,Asc]
 |x::r,h=>by
  have h':=h;unfold Asc at h';rw [AI]at h';simp only[Zbj];split
  .rename_i B;refine AI.2 ⟨fun y A=>?_,ZiI h'.2⟩;rcases Zlh.1 A with rfl|A
   .exact B
   .exact h'.1 y A
  .split
   .exact h
   .rename_i B b;have a:sLt s x=true:=Zg5 (by simpa using B) (fun e=>b (ZJ.2 e));refine AI.2 ⟨fun y A=>?_,h⟩;rcases AA.1 A with rfl|A
    .exact a
    .exact Zg3 a (h'.1 y A)
theorem ZjA (s:BYT):∀l:List BYT,(Zbj l s).length<=l.length+1
 | []=>by simp [Zbj]
 |x::r=>by
  have:=ZjA s r;simp only[Zbj];split
  .simp;omega
  .split<;>simp
def Xj (l:List BYT):List BYT:=l.foldl Zbj []
theorem Zaj:∀(l acc:List BYT),Asc acc->Asc (l.foldl Zbj acc)/\(∀x,x∈l.foldl Zbj acc↔x∈l\/x∈acc)/\(l.foldl Zbj acc).length<=l.length+acc.length
 | [],acc,h=>⟨h,fun x=>by simp,yG⟩
 |y::l,acc,h=>by
  obtain ⟨B,A,C⟩:=Zaj l (Zbj acc y) (ZiI h);refine ⟨B,fun x=>?_,?_⟩
  .rw [AN,A x,Zlh];rw [AA];constructor
   .rintro (h|h|h)<;>simp [h]
   .rintro ((h|h)|h)<;>simp [h]
  .have:=ZjA y acc;rw [AN];simp only[AE];omega
theorem Zee (l:List BYT):Asc (Xj l):=(Zaj l [] AF).1
theorem Qt {x:BYT}{l:List BYT}:x∈Xj l↔x∈l:=by have:=(Zaj l [] AF).2.1 x;rw [Xj,this];simp
theorem Zgi (l:List BYT):(Xj l).length<=l.length:=(Zaj l [] AF).2.2
theorem ZhM {a l:List BYT}(h:Asc a) (A:∀x,x∈a↔x∈l):a=Xj l:=ZrQ h (Zee l) fun x=>by rw [A,Qt]
theorem ZpT {a b:List BYT}(h:∀x,x∈a↔x∈b):Xj a=Xj b:=ZhM (Zee a) fun x=>by rw [Qt,h]
def ZaZ (l:List BYT) (s:BYT):Bool:=l.any fun x=>sEq x s
theorem Zn8 {l:List BYT}{s:BYT}:ZaZ l s=true↔s∈l:=by
 simp only[ZaZ,List.any_eq_true,ZJ];constructor
 .rintro ⟨x,h,rfl⟩;exact h
 .exact fun h=>⟨s,h,rfl⟩
/- sorting -/
theorem ZxU {x:BYT}{l:List BYT}:x∈ZgZ l↔x∈l:=by
 simp only[ZgZ,Al,List.mem_mergeSort];constructor
 .rintro ⟨y,⟨z,A,rfl⟩,rfl⟩;rw [Zlp];exact A
 .exact fun h=>⟨toL x,⟨x,h,rfl⟩,Zlp x⟩
theorem Zxa (l:List BYT):(ZgZ l).length=l.length:=by simp [ZgZ]
theorem ZyE (l:List BYT):(ZgZ l).Pairwise fun x y=>sLt y x=false:=by
 unfold ZgZ;rw [List.pairwise_map];have:=List.pairwise_mergeSort (le:=fun x y:List UInt8=>decide (x<=y)) (fun a b c h1 A=>by simp at h1 A ⊢;exact List.le_trans h1 A) (fun a b=>by simp;exact List.le_total a b) (l.map toL);refine this.imp fun {a b} h=>?_;cases hh:sLt (ofL b) (ofL a) with
 |false=>rfl
 |true=>
  have h1:=ZhP.1 hh;rw [ZdS,ZdS]at h1;have A:a<=b:=by simpa using h
  exact absurd h1 (List.not_lt.2 A)
end
theorem Zfj (a b:BYT):toL (a++b)=toL a++toL b:=by simp [toL]
theorem ZvE (a b:List UInt8):ofL (a++b)=ofL a++ofL b:=Zhq (by rw [Zfj,ZdS,ZdS,ZdS])
theorem Zje (a:List UInt8):(ofL a).size=a.length:=by rw [<-ZeT,ZdS]
theorem ZyF (a b c:BYT):(a++b)++c=a++(b++c):=Zhq (by simp only[Zfj,List.append_assoc])
theorem ZBJ (a b:BYT):(a++b).size=a.size+b.size:=by rw [<-ZeT,<-ZeT,<-ZeT,Zfj,AO]
theorem Zf7 {n:Int}(B:-9223372036854775808<=n) (A:n<=9223372036854775807):i64.wrap n=n:=by rw [IntKind.wrap_i64];omega
theorem ZAp (u:Nat) (B:u<9223372036854775808):Ql [IntKind.u8.wrap (i64.wrap (48+Int.tmod (u:Int) 10))]=ofL [AZ (48+u % 10)]:=by
 have A:Int.tmod (u:Int) 10=((u % 10:Nat):Int):=by rw [Int.tmod_eq_emod_of_nonneg yE];omega
 rw [A,Zf7 yE yE,IntKind.wrap_u8,show (48+((u % 10:Nat):Int)) % 256=((48+u % 10:Nat):Int) by omega];apply Zhq;rw [ZdS];simp only[Ql,List.map_cons,List.map_nil,toL,AG]
theorem ZBt (u:Nat) (A:u<9223372036854775808):i64.wrap (Int.tdiv (u:Int) 10)=((u / 10:Nat):Int):=by
 rw [Int.tdiv_eq_ediv_of_nonneg yE,Zf7 yE yE];omega
theorem ZzY {body:Int×BYT->Option ((Int×BYT) ⊕ BYT)}(C:∀n t,body (n,t)=chk ((Ql [IntKind.u8.wrap (i64.wrap (48+Int.tmod n 10))]).size+t.size<=9223372036854775807)
   (if (i64.wrap (Int.tdiv n 10)==0)=true then some (.inr (Ql [IntKind.u8.wrap (i64.wrap (48+Int.tmod n 10))]++t)) else some (.inl (i64.wrap (Int.tdiv n 10),Ql [IntKind.u8.wrap (i64.wrap (48+Int.tmod n 10))]++t)))):
  ∀(u:Nat) (t:BYT),u<9223372036854775808->t.size+Lib.nDigits u<=1000->Zb2 body ((u:Int),t)=some (ofL (Lib.decDigits u)++t):=by
 intro u;induction u using Nat.strongRecOn with
 |ind u ih=>
  intro t B D;rw [ZnP,C,ZAp u B,ZBt u B];have hp:=Lib.nDigits_pos u;rw [Zn _ (by rw [Zje];simp;omega)];by_cases h:u<10
  .have A:u / 10=0:=by omega
   rw [A,Lib.decDigits_one h,show u % 10=u by omega];rfl
  .have A:¬(((u / 10:Nat):Int)==0)=true:=by simp;omega
   rw [yn A];have hd:=Lib.nDigits_big h;show Zb2 body (((u / 10:Nat):Int),ofL [AZ (48+u % 10)]++t)=_
   rw [ih (u / 10) yE _ yE (by rw [ZBJ,Zje];simp;omega),<-ZyF,<-ZvE];congr 2
   rw [show Lib.decDigits u=Lib.decDigits (u / 10)++[AZ (48+u % 10)] by rw [Lib.decDigits,dif_neg h]]
theorem ZEd (t:BYT):t++(⟨#[]⟩:BYT)=t:=Zhq (by rw [Zfj];simp [toL])
theorem ZqQ {body:Int×BYT->Option ((Int×BYT) ⊕ BYT)}(A:∀n t,body (n,t)=chk ((Ql [IntKind.u8.wrap (i64.wrap (48+Int.tmod n 10))]).size+t.size<=9223372036854775807)
   (if (i64.wrap (Int.tdiv n 10)==0)=true then some (.inr (Ql [IntKind.u8.wrap (i64.wrap (48+Int.tmod n 10))]++t)) else some (.inl (i64.wrap (Int.tdiv n 10),Ql [IntKind.u8.wrap (i64.wrap (48+Int.tmod n 10))]++t))))
  {n:Int} (C:0<=n) (B:n<=9223372036854775807):Zb2 body (n,⟨#[]⟩)=some (ofL (Lib.itoa n)):=by
 obtain ⟨u,rfl⟩:∃u:Nat,n=(u:Int):=⟨n.toNat,yE⟩
 have:=Lib.nDigits_le20 u yE;rw [ZzY A u _ yE (by show 0+_<=_;omega),ZEd,Lib.itoa_nonneg]
theorem Zvb:ofL (Lib.itoa (-9223372036854775808))=(⟨#[45,57,50,50,51,51,55,50,48,51,54,56,53,52,55,55,53,56,48,56]⟩:BYT):=by
 rw [show (-9223372036854775808:Int)=-((9223372036854775808:Nat):Int) by rfl,Lib.itoa_neg _ yE,Lib.decDigits_eq,Lib.nDigits_unique 18 _ yF yF];decide +kernel
theorem ZmG {n:Int}(B:0<=n) (A:n<=9223372036854775807):Zcc n=some (ofL (Lib.itoa n)):=by
 unfold Zcc;rw [yn (by simp;omega),yn (by simp;omega)];exact ZqQ (fun _ _=>rfl) B A
theorem Ziw {n:Int}(h:Zem n):Zbd n=some (ofL (Lib.itoa n)):=by
 unfold Zbd;by_cases B:n=-9223372036854775808
 .subst B;rw [yp yF,Zvb]
 .rw [yn (by simpa using B)];by_cases A:n<0
  .have C:Zem n:=h;unfold Zem at C;rw [yp (by simpa using A),Zf7 yE yE,ZmG yE yE,A0];obtain ⟨u,rfl⟩:∃u:Nat,n=-(u:Int):=⟨n.natAbs,yE⟩
   rw [show (0 - -(u:Int))=(u:Int) by omega,Lib.itoa_nonneg,Lib.itoa_neg u yE];have:=Lib.nDigits_le20 u yE;rw [Zn _ (by rw [Zje,Lib.decDigits_length];show 1+_<=_;omega)];exact congrArg some (Zhq (by rw [Zfj,ZdS,ZdS];rfl))
  .rw [yn (by simpa using A)];exact ZqQ (fun _ _=>rfl) yE h.2
theorem Zc1 {n:Int}(h:Zem n):ZaB n=some (ofL (Lib.itoa n)):=by
 have A:-9223372036854775808<=n/\n<=9223372036854775807:=h;unfold ZaB Zst;rw [Zn _ A];rfl
theorem ZxI {n:Int}(h:Zem n):(ofL (Lib.itoa n)).size<=21:=by
 rw [Zje];exact Lib.itoa_length_le n h.1 h.2
def Zdd (b:UInt8):Bool:=(decide (97<=b.toNat)&&decide (b.toNat<=122))||(decide (48<=b.toNat)&&decide (b.toNat<=57))
def Z9 (s:BYT):Bool:=decide (1<=s.size)&&decide (s.size<=8)&&(toL s).all Zdd
theorem ZdF (x a b:Int):ZaL x a b=some (decide (a<=x)&&decide (x<=b)):=by
 unfold ZaL;by_cases h:a<=x<;>simp [h]
theorem ZqF (b:UInt8):i64.wrap (b.toNat:Int)=(b.toNat:Int):=Qj yE (by have:=b.toNat_lt;omega)
theorem ZbO {b:UInt8}:Zdd b=true↔(97<=b.toNat/\b.toNat<=122)\/(48<=b.toNat/\b.toNat<=57):=by
 simp only[Zdd,Aa,A6,decide_eq_true_eq]
theorem Zaz (s:BYT):ZaM s=some (Z9 s):=by
 unfold ZaM Z9;rw [show s.data.toList=toL s from rfl,Zaa (p:=Zdd) (r:=false)]
 .simp only[ZdF,A0];cases (toL s).all Zdd with
  |true=>
   simp only[if_true,Am];congr 1
   rw [AC];simp only[A6,decide_eq_true_eq];omega
  |false=>simp
 .intro i x _;simp only[ZdF,A0,ZqF,A6,decide_eq_true_eq];cases hp:Zdd x with
  |true=>
   have:=ZbO.1 hp
   repeat' split
   all_goals first|rfl|(exfalso;omega)|(exfalso;simp_all;done)
  |false=>
   have:=mt (ZbO (b:=x)).2 (by simp [hp])
   repeat' split
   all_goals first|rfl|(exfalso;omega)|(exfalso;simp_all;done)
theorem Zau (s:BYT):ZaO s=some (Z9 s):=by
 unfold ZaO Z9;simp only[decide_eq_true_eq];rw [show s.data.toList=toL s from rfl,Zaa (p:=Zdd) (r:=false)]
 .repeat' split
  .rw [decide_eq_false (show ¬1<=s.size by omega)];rfl
  .rw [decide_eq_false (show ¬s.size<=8 by omega)];simp
  .rename_i h;rw [h,decide_eq_true (show 1<=s.size by omega),decide_eq_true (show s.size<=8 by omega)];rfl
  .rename_i h;rw [eq_false_of_ne_true h];simp
 .intro i x _;cases hp:Zdd x with
  |true=>
   have:=ZbO.1 hp
   repeat' split
   all_goals first|rfl|(exfalso;omega)|(exfalso;simp_all;done)
  |false=>
   have:=mt (ZbO (b:=x)).2 (by simp [hp])
   repeat' split
   all_goals first|rfl|(exfalso;omega)|(exfalso;simp_all;done)
def Zkr (s:BYT):UInt8:=(toL s).headD 0
theorem ZlQ {s:BYT}(h:1<=s.size):sAt s 0=some (Zkr s):=by
 unfold sAt Zkr;have A:0<(toL s).length:=by rw [ZeT];omega
 have:(toL s)[0]?=some ((toL s).headD 0):=by
  cases hh:toL s with
  |nil=>rw [hh]at A;simp at A
  |cons a r=>simp
 rw [yp yE];exact Zr4 this
def ZaE (s:BYT):Bool:=Z9 s&&decide (97<=(Zkr s).toNat)
theorem ZaF {s:BYT}(h:Z9 s=true):1<=s.size/\s.size<=8:=by
 simp only[Z9,A6,decide_eq_true_eq]at h;exact h.1
theorem Zk8 {s:BYT}(h:Z9 s=true):Zdd (Zkr s)=true:=by
 have hs:=ZaF h;simp only[Z9,A6]at h;have A:0<(toL s).length:=by rw [ZeT];omega
 refine AR.1 h.2 _ ?_;unfold Zkr;cases hh:toL s with
 |nil=>rw [hh]at A;simp at A
 |cons a r=>simp
theorem Ziz (s:BYT):Zfr s=some (ZaE s):=by
 unfold Zfr ZaE;rw [Zaz,A0];cases h:Z9 s with
 |false=>simp
 |true=>
  simp only[if_true,ZlQ (ZaF h).1,A0,ZdF,ZqF,AB];have hb:=ZbO.1 (Zk8 h);congr 1
  rw [AC];simp only[A6,decide_eq_true_eq];omega
theorem ZiP (s:BYT):ZfC s=some (ZaE s):=by
 unfold ZfC ZaE;rw [Zau,A0];cases h:Z9 s with
 |false=>simp
 |true=>
  simp only[if_true,ZlQ (ZaF h).1,A0,AB];congr 1
  rw [AC];simp only[decide_eq_true_eq];omega
def ZwS (s:BYT):BYT:=s.extract 1 s.size
def Yv (s:BYT):Bool:=decide (1<s.size)&&decide ((Zkr s).toNat=63)&&Z9 (ZwS s)
theorem ZaJ (s:BYT):ZbZ s=some (Yv s):=by
 unfold ZbZ Yv ZwS;by_cases h:1<s.size
 .have A:(1:Int)<(s.size:Int):=by omega
  simp only[A,h,decide_true,if_true,ZlQ (show 1<=s.size by omega),A0,AB];rw [Zn _ ⟨yE,yE⟩,show A9 1=1 from rfl,Zaz,A0];by_cases B:(Zkr s).toNat=63
  .simp [B]
  .have:¬((Zkr s).toNat:Int)=63:=by omega
   simp [B,this]
 .have A:¬(1:Int)<(s.size:Int):=by omega
  simp [A,h]
theorem Zbi (s:BYT):Zc6 s=some (Yv s):=by
 unfold Zc6 Yv ZwS;by_cases h:1<s.size
 .have A:(1:Int)<(s.size:Int):=by omega
  simp only[A,h,decide_true,if_true,ZlQ (show 1<=s.size by omega),A0,AB];rw [Zn _ ⟨yE,yE⟩,show A9 1=1 from rfl,Zau,A0];by_cases B:(Zkr s).toNat=63
  .simp [B]
  .have:¬((Zkr s).toNat:Int)=63:=by omega
   simp [B,this]
 .have A:¬(1:Int)<(s.size:Int):=by omega
  simp [A,h]
def Xt (s:BYT):Bool:=Z9 s||Yv s
theorem ZmQ (s:BYT):ZbH s=some (Xt s):=by
 unfold ZbH Xt;rw [Zaz,ZaJ];cases Z9 s<;>simp
theorem ZmM (s:BYT):Zbo s=some (Xt s):=by
 unfold Zbo Xt;rw [Zau,Zbi];cases Z9 s<;>simp
theorem Zdc (l:List BYT) (s:BYT):X2 l s=some (ZaZ l s):=by
 unfold X2 ZaZ;rw [Zg4 (p:=fun x=>sEq x s) (r:=true)]
 .cases l.any fun x=>sEq x s<;>simp
 .intro i x _;cases sEq x s<;>simp
theorem ZeU (l:List BYT) (s:BYT):ZbX l s=some (ZaZ l s):=by
 unfold ZbX ZaZ;rw [Zg4 (p:=fun x=>sEq x s) (r:=true)]
 .cases l.any fun x=>sEq x s<;>simp
 .intro i x _;cases sEq x s<;>simp
theorem Zfm (l:List BYT) (s:BYT) (h:l.length+1<=1073741824):Zcd l s=some (Zbj l s):=by
 unfold Zcd;refine (Zd3 (fun l _ (st:List BYT×Bool)=>some (if st.2=true then st.1++l else st.1++Zbj l s)) (fun l _ (st:List BYT×Bool)=>st.1.length+l.length+(if st.2=true then 0 else 1)<=1073741824) ?_ ?_ l 0 ([],false) (by simpa using h)).trans yG
 .rintro i ⟨row,d⟩ A;cases d with
  |true=>simp
  |false=>simp only[AD,if_false,Zbj];simp at A;rw [Zn _ yE]
 .rintro x l i ⟨row,d⟩ A;left
  cases d with
  |true=>
   simp at A;exact ⟨(row++[x],true),by simp only[if_true];rw [Zn _ yE],by simp;omega,yG⟩
  |false=>
   simp at A;cases h1:sLt x s with
   |true=>exact ⟨(row++[x],false),by simp only[AD,if_false,if_true];rw [Zn _ yE],by simp;omega,by simp [Zbj,h1]⟩
   |false=>
    cases h2:sEq x s with
    |true=>exact ⟨(row++[x],true),by simp only[AD,if_false,if_true];rw [Zn _ yE],by simp;omega,by simp [Zbj,h1,h2]⟩
    |false=>exact ⟨(row++[s]++[x],true),by simp only[AD,if_false];rw [Zn _ yE,Zn _ yE],by simp;omega,by simp [Zbj,h1,h2]⟩
def QJ:BYT->List BYT->List BYT
 |_,[]=>[]
 |y,x::r=>if sEq y x=true then QJ x r else x::QJ x r
def Zpf:List BYT->List BYT
 | []=>[]
 |x::r=>x::QJ x r
theorem ZhL {z:BYT}:∀{l:List BYT}{y:BYT},z∈QJ y l->z∈l
 | [],_,h=>by simp [QJ]at h
 |x::r,y,h=>by
  simp only[QJ]at h;split at h
  .exact Ac _ (ZhL h)
  .rcases AA.1 h with rfl|h
   .simp
   .exact Ac _ (ZhL h)
theorem ZlB {z:BYT}:∀{l:List BYT}{y:BYT},z∈l->z=y\/z∈QJ y l
 | [],_,h=>by simp at h
 |x::r,y,h=>by
  simp only[QJ];rcases AA.1 h with rfl|h
  .split
   .rename_i e;exact .inl (ZJ.1 e).symm
   .simp
  .rcases ZlB (y:=x) h with rfl|A
   .split
    .rename_i e;exact .inl (ZJ.1 e).symm
    .simp
   .split
    .exact .inr A
    .exact .inr (Ac _ A)
theorem ZlN:∀{l:List BYT}{y:BYT},(y::l).Pairwise (fun a b=>sLt b a=false)->Asc (y::QJ y l)
 | [],_,_=>by simp [QJ,Asc]
 |x::r,y,h=>by
  rw [AI]at h;have ih:=ZlN h.2;simp only[QJ];split
  .rename_i e;have e':=ZJ.1 e;subst e';exact ih
  .rename_i e;have c:sLt y x=true:=Zg5 (h.1 x yG) (fun h=>e (ZJ.2 h.symm));refine AI.2 ⟨fun z A=>?_,ih⟩;rcases AA.1 A with rfl|A
   .exact c
   .exact Zg3 c ((AI.1 ih).1 z A)
theorem Zsb (l:List BYT):Zpf (ZgZ l)=Xj l:=by
 have hs:=ZyE l;refine ZhM ?_ fun x=>?_
 .cases h:ZgZ l with
  |nil=>simp [Zpf,Asc]
  |cons y r=>rw [h]at hs;exact ZlN hs
 .rw [<-ZxU (l:=l)];cases h:ZgZ l with
  |nil=>simp [Zpf]
  |cons y r=>
   simp only[Zpf,AA];constructor
   .rintro (rfl|h)
    .exact .inl rfl
    .exact .inr (ZhL h)
   .rintro (rfl|h)
    .exact .inl rfl
    .exact ZlB h
theorem ZdO (l:List BYT) (h:l.length<=1073741824):Zag l=some (Xj l):=by
 unfold Zag;rw [Zn _ h,ZdX,Zn _ yE,A0];have hl:=Zxa l;rw [<-Zsb];generalize ZgZ l=v at hl
 refine (Zd3 (fun r i (row:List BYT)=>some (row++match i with|0=>Zpf r|i+1=>(match v[i]? with|some y=>QJ y r|none=>[]))) (fun r i row=>v.drop i=r/\row.length<=i/\i<=v.length) ?_ ?_ v 0 [] ⟨yG,yG,yG⟩).trans yG
 .rintro i row ⟨C,B,F⟩;cases i with
  |zero=>simp [Zpf]
  |succ i=>cases hv:v[i]?<;>simp [QJ,hv]
 .rintro x r i row ⟨C,B,F⟩;left
  have hi:v[i]?=some x:=by have:=congrArg (fun l=>l[0]?) C;simpa using this
  have E:i<v.length:=(AJ.1 hi).1;have A:v.drop (i+1)=r:=by have:=congrArg Ad C;simpa using this
  cases i with
  |zero=>
   refine ⟨row++[x],?_,⟨A,by simp at B ⊢;simp [B],yE⟩,?_⟩
   .simp only[Int.natCast_zero,beq_self_eq_true,if_true];rw [Zn _ yE]
   .simp [Zpf,hi]
  |succ i=>
   have D:i64.wrap (((i+1:Nat):Int) - 1)=(i:Int):=by rw [Qj yE yE];omega
   have a:((((i+1:Nat):Int))==0)=false:=by rw [beq_eq_false_iff_ne];omega
   obtain ⟨y,hy⟩:∃y,v[i]?=some y:=⟨v[i],yG⟩
   simp only[a,AD,if_false,D,AG,hy,A0];cases he:sEq y x with
   |true=>
    refine ⟨row,?_,⟨A,yE,yE⟩,?_⟩
    .rw [Zn _ ⟨yE,yE⟩];rfl
    .simp [QJ,he,hi]
   |false=>
    refine ⟨row++[x],?_,⟨A,by simp;omega,yE⟩,?_⟩
    .rw [Zn _ ⟨yE,yE⟩];simp only[AD,if_false];rw [Zn _ yE]
    .simp [QJ,he,hi]
theorem Zbq (l:List BYT) (h:l.length<=1073741824):ZbL l=some l:=by
 unfold ZbL;rw [Zn _ h]
theorem ZhS (l:List BYT) (h:l.length<=1073741824):Ze1 l=some l:=by
 unfold Ze1;rw [Zn _ h]
theorem Zn5 {ρ:Type}{fin:List BYT->Option ρ}{body:Nat->BYT->List BYT->Option (List BYT ⊕ ρ)}(A:∀j x s,body j x s=(Zcd s x).bind fun v=>some (.inl v)) {l acc:List BYT}(h:acc.length+l.length<=1073741824):Zx body fin l 0 acc=fin (l.foldl Zbj acc):=by
 refine ZeZ (f:=Zbj) (fun j s=>s.length<=acc.length+j) yE fun j x s B D C E=>?_;have hp:=ZjA x s;exact ⟨by rw [A,Zfm _ _ yE];rfl,yE⟩
theorem Ze8 {α σ ρ:Type}{body:Nat->α->σ->Option (σ ⊕ ρ)}{fin:σ->Option ρ}(st:List α->σ) (l:List α) (h:∀p x q,l=p++x::q->body p.length x (st p)=some (.inl (st (p++[x])))):Zx body fin l 0 (st [])=fin (st l):=by
 have key:∀(q p:List α),l=p++q->Zx body fin q p.length (st p)=fin (st l):=by
  intro q;induction q with
  |nil=>intro p e;rw [ZoU,e,An]
  |cons x q ih=>
   intro p e;rw [ZP (h p x q e)];have:=ih (p++[x]) (by rw [e];simp);simpa using this
 exact key l [] rfl
def Xh (f:Zf):Bool:=ZaE f.rel&&decide (f.args.length<=3)&&f.args.all Z9
theorem ZiW (f:Zf):Zfu f=some (Xh f):=by
 unfold Zfu Xh;rw [Zaa (p:=Z9) (r:=false)]
 .rw [Ziz,A0];cases ZaE f.rel<;>cases h:f.args.all Z9<;>simp<;>omega
 .intro i x _;rw [Zaz,A0];cases Z9 x<;>rfl
theorem ZiK (f:Zf):Zfn f=some (Xh f):=by
 unfold Zfn Xh;rw [ZiP,A0];cases ZaE f.rel with
 |false=>rfl
 |true=>
  rw [yp rfl];by_cases h:f.args.length<=3
  .rw [yn (by simp;omega),Zaa (p:=Z9) (r:=false)]
   .cases h2:f.args.all Z9<;>simp [h]
   .intro i x _;rw [Zau,A0];cases Z9 x<;>rfl
  .rw [yp (by simp;omega)];simp [h]
structure ZqE {α:Type}(c:α->α->Int):Prop where
 eq:∀a b,c a b=0↔a=b
 anti:∀a b,c b a=- c a b
 tr:∀a b d,c a b<0->c b d<0->c a d<0
def ZkI (a b:BYT):Int:=Lib.compareBytes (toL a) (toL b)
theorem Zkq:∀(x y:List UInt8),Lib.compareBytes x y=if Op.bytesLess x y=true then -1 else if x=y then 0 else 1
 | [],[]=>by simp [Lib.compareBytes,Op.bytesLess]
 | [],_::_=>by simp [Lib.compareBytes,Op.bytesLess]
 |_::_,[]=>by simp [Lib.compareBytes,Op.bytesLess]
 |a::x,b::y=>by
  have ih:=Zkq x y;unfold Lib.compareBytes Op.bytesLess;by_cases B:a<b
  .simp [B]
  .rw [yn B];by_cases A:b<a
   .have C:¬a=b:=fun e=>by rw [e]at A;exact absurd A (UInt8.lt_irrefl _)
    rw [yp A];simp [B,C]
   .have C:a=b:=by
     apply UInt8.toNat_inj.1;rw [UInt8.lt_iff_toNat_lt]at B A;omega
    subst C;rw [yn A,ih];simp [B]
theorem ZjY (a b:BYT):ZkI a b=if sLt a b=true then -1 else if a=b then 0 else 1:=by
 unfold ZkI;rw [Zkq];have A:Op.bytesLess (toL a) (toL b)=sLt a b:=by unfold sLt toL;rw [AU,AU]
 rw [A];by_cases h:a=b
 .subst h;simp
 .rw [yn h,yn (fun e=>h (Zhq e))]
theorem ZcL:ZqE ZkI where
 eq:=fun a b=>by
  rw [ZjY];by_cases h:sLt a b=true
  .simp [h,ZrI h]
  .rw [yn h];by_cases h2:a=b<;>simp [h2]
 anti:=fun a b=>by
  rw [ZjY,ZjY];by_cases h:sLt a b=true
  .have h2:=Zmp h;have h3:=ZrI h;rw [yp h,yn (by simp [h2]),yn (fun e=>h3 e.symm)];rfl
  .rw [yn h];by_cases h2:a=b
   .subst h2;rw [yn h];simp
   .rw [yp (Zg5 (by simpa using h) h2),yn h2]
 tr:=fun a b d B h2=>by
  have key:∀x y,ZkI x y<0->sLt x y=true:=fun x y h=>by
   rw [ZjY]at h;by_cases A:sLt x y=true
   .exact A
   .rw [yn A]at h;split at h<;>omega
  rw [ZjY,yp (Zg3 (key _ _ B) (key _ _ h2))];omega
theorem Zoc (a b:BYT):ZjJ a b=some (ZkI a b):=by
 unfold ZjJ;rw [ZjY];by_cases h:sLt a b=true
 .rw [yp h,yp h]
 .rw [yn h,yn h];by_cases B:a=b
  .subst B;rw [yp (by rw [Zyx];simp),yp rfl]
  .rw [yn (by simp only[Aa,ZJ];rintro (A|A);exact h A;exact B A),yn B]
theorem ZlX (a b:BYT):ZgV a b=some (ZkI a b):=rfl
/- numbers -/
theorem ZpO {u:Nat}{b:UInt8}(h:b∈Lib.decDigits u):48<=b.toNat/\b.toNat<=57:=by
 rw [Lib.decDigits_eq,Al]at h;obtain ⟨t,_,rfl⟩:=h;unfold Lib.dg;have:u / 10 ^ (Lib.nDigits u - 1 - t) % 10<10:=Nat.mod_lt _ yE;rw [UInt8.toNat_ofNat'];omega
def Za5 (s:BYT):Option Nat:=
 if 1<=s.size/\s.size<=4 then (match Lib.decNat (toL s) with|some n=>if ofL (Lib.decDigits n)=s then some n else none|none=>none) else none
def ZfY (s:BYT):Int×Bool:=match Za5 s with|some n=>((n:Int),true)|none=>(0,false)
theorem Zmn {s:BYT}{n:Nat}(h:Za5 s=some n):s=ofL (Lib.decDigits n)/\n<=9999:=by
 unfold Za5 at h;split at h
 .rename_i hs;split at h
  .split at h
   .rename_i m _ A;obtain rfl:=AP h;refine ⟨A.symm,?_⟩;have B:Lib.nDigits m<=4:=by
     have:=congrArg Ak A;rw [Zje,Lib.decDigits_length]at this;omega
    have:=Lib.lt_pow_nDigits m;have C:10 ^ Lib.nDigits m<=10 ^ 4:=Ae yE B;omega
   .simp at h
  .simp at h
 .simp at h
theorem ZAk {a b:BYT}{n:Nat}(B:Za5 a=some n) (A:Za5 b=some n):a=b:=(Zmn B).1.trans (Zmn A).1.symm
theorem Ztq {body:Nat->UInt8->Int->Option (Int ⊕ (Int×Bool))}{fin:Int->Option (Int×Bool)}
  (A:∀i (x:UInt8) n,body i x n=if (decide ((x.toNat:Int)<48))=true then some (.inr (0,false)) else if (decide (57<(x.toNat:Int)))=true then some (.inr (0,false)) else some (.inl (i64.wrap ((i64.wrap (10*n))+i64.wrap (IntKind.u8.wrap ((x.toNat:Int) - 48)))))):
  ∀(l:List UInt8) (i acc:Nat),(acc+1)*10 ^ l.length<=100000->Zx body fin l i (acc:Int)=match Lib.decFrom acc l with|some n=>fin (n:Int)|none=>some (0,false)
 | [],i,acc,_=>rfl
 |x::l,i,acc,h=>by
  unfold Lib.decFrom Lib.digitVal;by_cases B:48<=x.toNat/\x.toNat<=57
  .have e:body i x (acc:Int)=some (.inl ((acc*10+(x.toNat - 48):Nat):Int)):=by
    have C:1<=10 ^ (x::l).length:=Nat.one_le_pow _ _ yE;have D:acc+1<=100000:=AQ (Nat.le_mul_of_pos_right _ C) h;rw [A,yn (by simp;omega),yn (by simp;omega),Zf7 (n:=10*(acc:Int)) yE yE,IntKind.wrap_u8,Zf7 (n:=((x.toNat:Int) - 48) % 256) yE yE,Zf7 yE yE];congr 2
    omega
   rw [ZP e,yp B];refine Ztq A l (i+1) _ ?_;rw [AE,Nat.pow_succ]at h;refine AQ ?_ h;rw [show (acc+1)*(10 ^ l.length*10)=((acc+1)*10)*10 ^ l.length by rw [Ao,Nat.mul_comm 10]];exact Nat.mul_le_mul_right _ yE
  .have e:body i x (acc:Int)=some (.inr (0,false)):=by
    rw [A];by_cases D:x.toNat<48
    .rw [yp (by simp;omega)]
    .rw [yn (by simp;omega),yp (by simp;omega)]
   rw [Yp e,yn B]
theorem Zy8 (n a b:Int):ZaL n a b=some (decide (a<=n)&&decide (n<=b)):=by
 unfold ZaL;by_cases h:a<=n<;>simp [h]
theorem ZdT (s:BYT):Zbl s=some (ZfY s):=by
 unfold Zbl ZfY Za5;rw [Zy8,A0];by_cases hs:1<=s.size/\s.size<=4
 .rw [yp (by simp;omega),yp hs];have B:s.data.toList.length=s.size:=ZeT s;refine (Ztq (fun _ _ _=>rfl) s.data.toList 0 0 (by
   rw [B,AH,Nat.one_mul];exact AQ (Ae yE hs.2) yE)).trans ?_
  have C:Lib.decNat (toL s)=Lib.decFrom 0 s.data.toList:=by
   unfold Lib.decNat;rw [yn]
   .rfl
   .intro e;have:=ZeT s;rw [List.isEmpty_iff.1 e]at this;simp at this;omega
  rw [C];cases hv:Lib.decFrom 0 s.data.toList with
  |none=>rfl
  |some n=>
   have D:n<1000000000000000000:=Lib.decFrom_lt18 hv yE;show (Zbd (n:Int)).bind _=_
   rw [Ziw ⟨yE,yE⟩,A0,Lib.itoa_nonneg];by_cases A:ofL (Lib.decDigits n)=s
   .rw [yp (ZJ.2 A)];simp only[A,if_true]
   .rw [yn (by rw [ZJ];exact A)];simp only[A,if_false]
 .rw [yn (by simp;omega),yn hs]
theorem Zzi {b:UInt8}{r:List UInt8}(h:b=45\/b=43):Lib.decNat (b::r)=none:=by
 rcases h with rfl|rfl<;>simp [Lib.decNat,Lib.decFrom,Lib.digitVal]
theorem ZqI {s:BYT}(h:Lib.decNat (toL s)=none):Za5 s=none:=by
 unfold Za5;rw [h];split<;>rfl
theorem ZdV (s:BYT):Zbu s=some (ZfY s):=by
 unfold Zbu;by_cases F:s.size<1
 .rw [yp (by simp;omega)];unfold ZfY Za5;rw [yn yE]
 by_cases E:4<s.size
 .rw [yn (by simp;omega),yp (by simp;omega)];unfold ZfY Za5;rw [yn yE]
 rw [yn (by simp;omega),yn (by simp;omega)];have hl:=ZeT s;have D:ZoV s=some (match Lib.atoi (toL s) with|some n=>(n,true)|none=>(0,false)):=by
  unfold ZoV;exact Zn _ yE
 rw [D,A0];cases hL:toL s with
 |nil=>rw [hL]at hl;simp at hl;omega
 |cons b r=>
  have d:b=45\/b=43->ZfY s=(0,false):=fun h=>by
   unfold ZfY;rw [ZqI (by rw [hL];exact Zzi h)]
  have f:∀m,(b=45\/b=43)->¬ofL (Lib.decDigits m)=s:=fun m h e=>by
   have A:b∈Lib.decDigits m:=by
    have:toL s=Lib.decDigits m:=by rw [<-e,ZdS]
    rw [<-this,hL];simp
   have:=ZpO A;rcases h with rfl|rfl<;>simp at this
  by_cases a:b=45
  .rw [d (.inl a)];cases hd:Lib.decNat r with
   |none=>simp [Lib.atoi,a,hd]
   |some m=>
    have e:Lib.atoi (b::r)=some (-(m:Int)):=by simp [Lib.atoi,a,hd]
    rw [e];simp only[if_true];by_cases A:m=0
    .subst A;rw [yn yG,yn yG];show (ZaB ((0:Nat):Int)).bind _=_
     rw [Zc1 ⟨yE,yE⟩,A0,Lib.itoa_nonneg,yn (by rw [ZJ];exact f 0 (.inl a))]
    .rw [yp (by simp;omega)]
  .by_cases c:b=43
   .rw [d (.inr c)];cases hd:Lib.decNat r with
    |none=>simp [Lib.atoi,c,hd]
    |some m=>
     have e:Lib.atoi (b::r)=some (m:Int):=by simp [Lib.atoi,c,hd]
     rw [e];simp only[if_true];rw [yn yG];by_cases A:9999<m
     .rw [yp (by simp;omega)]
     .rw [yn (by simp;omega),Zc1 ⟨yE,yE⟩,A0,Lib.itoa_nonneg,yn (by rw [ZJ];exact f m (.inr c))]
   .have e:Lib.atoi (b::r)=(Lib.decNat (b::r)).map fun (m:Nat)=>(m:Int):=by simp [Lib.atoi,a,c]
    rw [e];cases hd:Lib.decNat (b::r) with
    |none=>
     unfold ZfY;rw [ZqI (by rw [hL];exact hd)];rfl
    |some m=>
     simp only[Option.map_some,if_true];rw [yn yG];have C:Za5 s=if ofL (Lib.decDigits m)=s then some m else none:=by
      unfold Za5;rw [yp yE,hL,hd]
     by_cases A:9999<m
     .rw [yp (by simp;omega)];have:Za5 s=none:=by
       cases hq:Za5 s with
       |none=>rfl
       |some n=>
        have h3:=(Zmn hq).2;rw [C]at hq;split at hq
        .obtain rfl:=AP hq;omega
        .simp at hq
      unfold ZfY;rw [this]
     .rw [yn (by simp;omega),Zc1 ⟨yE,yE⟩,A0,Lib.itoa_nonneg];unfold ZfY;rw [C];by_cases B:ofL (Lib.decDigits m)=s
      .rw [yp (ZJ.2 B),yp B]
      .rw [yn (by rw [ZJ];exact B),yn B]
def Zna (x y:Nat):Int:=if x<y then -1 else if y<x then 1 else 0
theorem Zsr:ZqE Zna where
 eq:=fun a b=>by unfold Zna;split<;>(try split)<;>omega
 anti:=fun a b=>by unfold Zna;split<;>(try split)<;>(try split)<;>omega
 tr:=fun a b d B A=>by
  unfold Zna at *;split at B
  .split at A
   .rw [yp yE];omega
   .split at A<;>omega
  .split at B<;>omega
def Zif (a b:BYT):Int:=
 match Za5 a,Za5 b with
 |some x,some y=>Zna x y
 |some _,none=>-1
 |none,some _=>1
 |none,none=>ZkI a b
theorem ZrY:ZqE Zif where
 eq:=fun a b=>by
  unfold Zif;cases ha:Za5 a with
  |none=>
   cases hb:Za5 b with
   |none=>exact ZcL.eq a b
   |some y=>simp only;exact ⟨fun h=>by omega,fun h=>by rw [h,hb]at ha;simp at ha⟩
  |some x=>
   cases hb:Za5 b with
   |none=>simp only;exact ⟨fun h=>by omega,fun h=>by rw [h,hb]at ha;simp at ha⟩
   |some y=>
    simp only;rw [Zsr.eq];exact ⟨fun h=>ZAk ha (h ▸ hb),fun h=>by rw [h,hb]at ha;exact (AP ha).symm⟩
 anti:=fun a b=>by
  unfold Zif;cases Za5 a<;>cases Za5 b<;>simp only
  .exact ZcL.anti a b
  .rfl
  .exact Zsr.anti _ _
 tr:=fun a b d B A=>by
  unfold Zif at *;cases ha:Za5 a<;>cases hb:Za5 b<;>cases hd:Za5 d<;>simp only[ha,hb,hd]at B A ⊢<;>first|omega|exact ZcL.tr a b d B A|exact Zsr.tr _ _ _ B A
theorem ZdI (x y:Nat):Xs (x:Int) (y:Int)=some (Zna x y):=by
 unfold Xs Zna;by_cases B:x<y
 .rw [yp (by simpa using B),yp B]
 .rw [yn (by simpa using B),yn B];by_cases A:y<x
  .rw [yp (by simpa using A),yp A]
  .rw [yn (by simpa using A),yn A]
theorem Zgd (a b:BYT):QE a b=some (Zif a b):=by
 unfold QE Zif;rw [ZdT,A0,ZdT,A0];unfold ZfY;cases Za5 a with
 |none=>
  cases Za5 b with
  |none=>simp only[AD,if_false];rw [Zoc];rfl
  |some y=>rfl
 |some x=>
  cases Za5 b with
  |none=>rfl
  |some y=>
   simp only[if_true];unfold Zna;by_cases B:x<y
   .rw [yp (by simpa using B),yp B]
   .rw [yn (by simpa using B),yn B];by_cases A:y<x
    .rw [yp (by simpa using A),yp A]
    .rw [yn (by simpa using A),yn A]
theorem Zln (a b:BYT):ZbA a b=some (Zif a b):=by
 unfold ZbA Zif;rw [ZdV,A0,ZdV,A0];unfold ZfY;cases Za5 a with
 |none=>
  cases Za5 b with
  |none=>simp only[AD,if_false];rw [ZlX];rfl
  |some y=>rfl
 |some x=>
  cases Za5 b with
  |none=>rfl
  |some y=>simp only[if_true];rw [ZdI];rfl
def Zjc {α:Type}(c:α->α->Int):List α->List α->Int
 | [],[]=>0
 | [],_::_=>-1
 |_::_,[]=>1
 |x::l,y::r=>if c x y=0 then Zjc c l r else c x y
theorem ZrT {α:Type}{c:α->α->Int}(h:ZqE c):ZqE (Zjc c) where
 eq:=fun a=>by
  induction a with
  |nil=>intro b;cases b<;>simp [Zjc]
  |cons x l ih=>
   intro b;cases b with
   |nil=>simp [Zjc]
   |cons y r=>
    simp only[Zjc];by_cases A:c x y=0
    .rw [yp A,ih,(h.eq x y).1 A];simp
    .rw [yn A];exact ⟨fun e=>absurd e A,fun e=>absurd ((h.eq x y).2 (by simp at e;exact e.1)) A⟩
 anti:=fun a=>by
  induction a with
  |nil=>intro b;cases b<;>simp [Zjc]
  |cons x l ih=>
   intro b;cases b with
   |nil=>simp [Zjc]
   |cons y r=>
    simp only[Zjc];have hy:=h.anti x y;by_cases A:c x y=0
    .rw [yp A,yp yE,ih]
    .rw [yn A,yn yE,hy]
 tr:=fun a=>by
  induction a with
  |nil=>
   intro b d C B;cases b with
   |nil=>simp [Zjc]at C
   |cons y r=>cases d with
    |nil=>simp [Zjc]at B
    |cons z q=>simp [Zjc]
  |cons x l ih=>
   intro b d C B;cases b with
   |nil=>simp [Zjc]at C
   |cons y r=>cases d with
    |nil=>simp [Zjc]at B
    |cons z q=>
     simp only[Zjc]at C B ⊢;by_cases A:c x y=0
     .rw [yp A]at C;obtain rfl:=(h.eq x y).1 A;by_cases D:c x z=0
      .rw [yp D]at B ⊢;exact ih r q C B
      .rw [yn D]at B ⊢;exact B
     .rw [yn A]at C;by_cases D:c y z=0
      .obtain rfl:=(h.eq y z).1 D;rw [yn A];exact C
      .rw [yn D]at B;have:=h.tr x y z C B;rw [yn yE];exact this
def Zeb (a b:Zf):Int:=if ZkI a.rel b.rel=0 then Zjc Zif a.args b.args else ZkI a.rel b.rel
theorem Zs6 {a b:Zf}(B:a.rel=b.rel) (A:a.args=b.args):a=b:=by cases a;cases b;simp_all
theorem ZjV:ZqE Zeb where
 eq:=fun a b=>by
  unfold Zeb;by_cases h:ZkI a.rel b.rel=0
  .rw [yp h,(ZrT ZrY).eq];exact ⟨fun e=>Zs6 ((ZcL.eq _ _).1 h) e,fun e=>by rw [e]⟩
  .rw [yn h];exact ⟨fun e=>absurd e h,fun e=>absurd ((ZcL.eq _ _).2 (by rw [e])) h⟩
 anti:=fun a b=>by
  unfold Zeb;have hy:=ZcL.anti a.rel b.rel;by_cases h:ZkI a.rel b.rel=0
  .rw [yp h,yp yE,(ZrT ZrY).anti]
  .rw [yn h,yn yE,hy]
 tr:=fun a b d C A=>by
  unfold Zeb at *;by_cases D:ZkI a.rel b.rel=0
  .rw [yp D]at C;have e:=(ZcL.eq _ _).1 D;rw [e];by_cases B:ZkI b.rel d.rel=0
   .rw [yp B]at A ⊢;exact (ZrT ZrY).tr _ _ _ C A
   .rw [yn B]at A ⊢;exact A
  .rw [yn D]at C;by_cases B:ZkI b.rel d.rel=0
   .rw [<-(ZcL.eq _ _).1 B,yn D];exact C
   .rw [yn B]at A;have:=ZcL.tr _ _ _ C A;rw [yn yE];exact this
theorem Xi {α:Type}(l:List α) (i:Nat):atI l (i:Int)=l[i]?:=by unfold atI;rw [yp yE,AG]
theorem Zms {A B:List BYT}{body:Nat->BYT->Unit->Option (Unit ⊕ Int)}{fin:Unit->Option Int}
  (b:∀i x y,B[i]?=some y->body i x ()=if Zif x y=0 then some (.inl ()) else some (.inr (Zif x y))) (c:∀x,B.length<A.length->body B.length x ()=some (.inr 1)) (a:A.length<=B.length->fin ()=some (if A.length<B.length then -1 else 0)):
  ∀(l:List BYT) (i:Nat),i+l.length=A.length->i<=B.length->Zx body fin l i ()=some (Zjc Zif l (B.drop i))
 | [],i,h,hi=>by
  simp at h;rw [ZoU,a yE];by_cases C:A.length<B.length
  .rw [yp C];cases hd:B.drop i with
   |nil=>have:=congrArg List.length hd;simp at this;omega
   |cons y r=>rfl
  .rw [yn C,Ag yE];rfl
 |x::l,i,h,hi=>by
  simp only[AE]at h;by_cases C:i<B.length
  .have E:B[i]?=some B[i]:=AK C;rw [Ah C];simp only[Zjc];by_cases D:Zif x B[i]=0
   .rw [ZP (by rw [b i x _ E,yp D]),yp D];exact Zms b c a l (i+1) yE yE
   .rw [Yp (by rw [b i x _ E,yn D]),yn D]
  .obtain rfl:i=B.length:=by omega
   rw [Yp (c x yE),Ag (AW _)];rfl
theorem ZcR (a b:Zf):X0 a b=some (Zeb a b):=by
 unfold X0 Zeb;by_cases h:a.rel=b.rel
 .rw [yp (ZJ.2 h),yp ((ZcL.eq _ _).2 h)];refine Zms (A:=a.args) (B:=b.args) (fun i x y E=>?_) (fun x F=>?_) (fun F=>?_) a.args 0 yG (Nat.zero_le _)
  .have hi:=(AJ.1 E).1;rw [yp (by simpa using hi),Xi,E,A0,Zgd,A0];by_cases D:Zif x y=0
   .rw [D];rfl
   .rw [yp (by simpa using D),yn D]
  .rw [yn yG,yn (by simp;omega),yp (by simpa using F)]
  .by_cases C:a.args.length<b.args.length
   .rw [yp (by simpa using C),yp C]
   .rw [yn (by simpa using C),yn (by simp;omega),yn C]
 .rw [yn (by rw [ZJ];exact h),yn (fun e=>h ((ZcL.eq _ _).1 e)),Zoc];rfl
theorem ZcS (a b:Zf):QD a b=some (Zeb a b):=by
 unfold QD Zeb;rw [ZlX,A0];by_cases h:ZkI a.rel b.rel=0
 .rw [yn (by simpa using h),yp h];refine Zms (A:=a.args) (B:=b.args) (fun i x y E=>?_) (fun x F=>?_) (fun F=>?_) a.args 0 yG (Nat.zero_le _)
  .have hi:=(AJ.1 E).1;rw [yp (by simpa using hi),Xi,E,A0,Zln,A0];by_cases D:Zif x y=0
   .rw [D];rfl
   .rw [yp (by simpa using D),yn D]
  .rw [yn yG,ZdI];unfold Zna;rw [yn yE,yp F];rfl
  .rw [ZdI];unfold Zna;by_cases C:a.args.length<b.args.length
   .rw [yp C,yp C];rfl
   .rw [yn C,yn yE,yn C];rfl
 .rw [yp (by simpa using h),yn h]
section
theorem Qz (f:Zf) (h:f.args.length<=1048576):Q9 f=some f:=by
 unfold Q9;rw [ZhS _ yE];rfl
theorem XX (f:Zf) (h:f.args.length<=1048576):XR f=some f:=by
 unfold XR;rw [Zbq _ yE];rfl
theorem ZoH {B:List BYT}{body:Nat->BYT->Unit->Option (Unit ⊕ Bool)}(C:∀i x y,B[i]?=some y->body i x ()=if x=y then some (.inl ()) else some (.inr false)):
  ∀(l:List BYT) (i:Nat),i+l.length=B.length->Zx body (fun _=>some true) l i ()=some (decide (l=B.drop i))
 | [],i,h=>by
  simp at h;rw [ZoU,Ag yE];simp
 |x::l,i,h=>by
  simp only[AE]at h;have hi:i<B.length:=by omega
  have D:(x::l=B.drop i)↔(x=B[i]/\l=B.drop (i+1)):=by rw [Ah hi,List.cons.injEq]
  rw [AC.2 (show decide (x::l=B.drop i)=true↔decide (x=B[i]/\l=B.drop (i+1))=true by rw [decide_eq_true_iff,decide_eq_true_iff];exact D)];by_cases A:x=B[i]
  .rw [ZP (by rw [C i x _ (AK hi),yp A]),ZoH C l (i+1) yE];simp [A]
  .rw [Yp (by rw [C i x _ (AK hi),yn A])];simp [A]
theorem Zi1 (a b:List BYT):ZcC a b=some (decide (a=b)):=by
 unfold ZcC;by_cases h:a.length=b.length
 .rw [yn (by simp;omega)];have:=ZoH (B:=b) (body:=fun E D _=>(atI b (E:Int)).bind fun C=>if (sEq D C)=true then some (.inl ()) else some (.inr false)) (fun i x y F=>by
   show (atI b (i:Int)).bind _=_
   rw [Xi,F,A0];by_cases A:x=y
   .rw [yp (ZJ.2 A),yp A]
   .rw [yn (by rw [ZJ];exact A),yn A]) a 0 yE
  simpa using this
 .rw [yp (by simp;omega),decide_eq_false (fun e=>h (by rw [e]))]
open Classical
theorem ZaU (a b:Zf):Zcj a b=some (decide (a=b)):=by
 unfold Zcj;by_cases h:a.rel=b.rel
 .rw [yp (ZJ.2 h),Zi1,A0];congr 1
  rw [AC,decide_eq_true_iff,decide_eq_true_iff];exact ⟨fun e=>Zs6 h e,fun e=>by rw [e]⟩
 .rw [yn (by rw [ZJ];exact h),decide_eq_false (fun e=>h (by rw [e]))]
theorem Zku (l:List Zf) (f:Zf):∃z,Zby l f=some z/\(z<0↔f∉l):=by
 unfold Zby;have key:∀(l:List Zf) (i:Nat),∃z,Zx (σ:=Unit) (fun (E:Nat) (C:Zf) _=>(Zcj C f).bind fun D=>if D=true then some (.inr (E:Int)) else some (.inl ())) (fun _=>some (-1)) l i ()=some z/\(z<0↔f∉l):=by
  intro l;induction l with
  |nil=>intro i;exact ⟨-1,rfl,yG⟩
  |cons x l ih=>
   intro i;by_cases B:x=f
   .refine ⟨(i:Int),Yp (by rw [ZaU,A0,yp (decide_eq_true B)]),by simp [B]⟩
   .obtain ⟨z,e,F⟩:=ih (i+1);refine ⟨z,(ZP (by rw [ZaU,A0,yn (by simpa using B)])).trans e,?_⟩;rw [F,AA];exact ⟨fun h=>by rintro (A|A);exact B A.symm;exact h A,fun h A=>h (.inr A)⟩
 exact key l 0
def Zi3:List Zf->Zf->List Zf
 | [],f=>[f]
 |x::l,f=>if Zeb x f<0 then x::Zi3 l f else if Zeb x f=0 then x::l else f::x::l
def ZA2 (l:List Zf):Prop:=l.Pairwise fun x y=>Zeb x y<0
theorem ZuK {y f:Zf}:∀{l:List Zf},y∈Zi3 l f↔y=f\/y∈l
 | []=>by simp [Zi3]
 |x::l=>by
  simp only[Zi3];split
  .rw [AA,ZuK,AA];exact ⟨fun h=>by rcases h with h|h|h<;>simp [h],fun h=>by rcases h with h|h|h<;>simp [h]⟩
  .split
   .rename_i h;have e:=(ZjV.eq _ _).1 h;rw [AA,e];exact ⟨fun h=>by rcases h with h|h<;>simp [h],fun h=>by rcases h with h|h|h<;>simp [h]⟩
   .rw [AA]
theorem ZuO (f:Zf):∀l:List Zf,(Zi3 l f).length<=l.length+1
 | []=>by simp [Zi3]
 |x::l=>by
  have:=ZuO f l;simp only[Zi3];split
  .simp;omega
  .split<;>simp
theorem Zvo (l:List Zf) (f:Zf) (G:l.length<=1048576) (F:∀x∈l,x.args.length<=1048576) (D:f.args.length<=1048576):Zlw l f=some (Zi3 l f):=by
 unfold Zlw;rw [Zd3 (fun l _ s=>some (s.1++(if s.2=true then l else Zi3 l f))) (fun l _ s=>s.1.length+2*l.length+1<=4000000/\∀x∈l,x.args.length<=1048576) ?_ ?_ l 0 ([],false) ⟨by simp;omega,F⟩]
 .simp
 .rintro i ⟨row,a⟩ ⟨C,_⟩;cases a with
  |true=>simp
  |false=>
   simp only[AD,if_false];simp only[AX]at C;rw [Qz f D,A0,Zn _ yE];rfl
 .rintro x l i ⟨row,a⟩ ⟨C,B⟩;simp only[AE]at C;have hx:=B x yG;left
  cases a with
  |true=>
   simp only[if_true];rw [Qz x hx,A0,Zn _ yE];exact ⟨_,rfl,⟨by simp;omega,fun y A=>B y (by simp [A])⟩,yG⟩
  |false=>
   simp only[AD,if_false];rw [ZcR,A0];by_cases b:Zeb x f<0
   .rw [yn (by simp;omega),Qz x hx,A0,Zn _ yE];exact ⟨_,rfl,⟨by simp;omega,fun y A=>B y (by simp [A])⟩,by simp [Zi3,b]⟩
   .rw [yp (by simp;omega),A0];by_cases E:Zeb x f=0
    .rw [yn (by simp;omega),Qz x hx,A0,Zn _ yE];exact ⟨_,rfl,⟨by simp;omega,fun y A=>B y (by simp [A])⟩,by simp [Zi3,E]⟩
    .rw [yp (by simp;omega),Qz f D,A0,Zn _ yE,Qz x hx,A0,Zn _ yE];exact ⟨_,rfl,⟨by simp;omega,fun y A=>B y (by simp [A])⟩,by simp [Zi3,E,b]⟩
theorem ZrU (l:List Zf) (f:Zf) (F:f∉l) (I:l.length<=1048576) (G:∀x∈l,x.args.length<=1048576) (D:f.args.length<=1048576):ZgL l f=some (Zi3 l f):=by
 unfold ZgL;rw [Zd3 (fun l _ s=>some (s.1++(if s.2=true then l else Zi3 l f))) (fun l _ s=>s.1.length+2*l.length+1<=4000000/\f∉l/\∀x∈l,x.args.length<=1048576) ?_ ?_ l 0 ([],false) ⟨by simp;omega,F,G⟩]
 .simp
 .rintro i ⟨row,a⟩ ⟨C,_⟩;cases a with
  |true=>simp
  |false=>
   simp only[AD,if_false];simp only[AX]at C;rw [XX f D,A0,Zn _ yE];rfl
 .rintro x l i ⟨row,a⟩ ⟨C,E,B⟩;simp only[AE]at C;have hx:=B x yG;have b:f∉l:=fun m=>E (by simp [m]);left
  cases a with
  |true=>
   simp only[if_true];rw [XX x hx,A0,Zn _ yE];exact ⟨_,rfl,⟨by simp;omega,b,fun y A=>B y (by simp [A])⟩,yG⟩
  |false=>
   simp only[AD,if_false];rw [ZcS,A0];have H:¬Zeb x f=0:=fun e=>E (by rw [(ZjV.eq _ _).1 e];simp);by_cases c:Zeb x f<0
   .rw [yn (by simp;omega),XX x hx,A0,Zn _ yE];exact ⟨_,rfl,⟨by simp;omega,b,fun y A=>B y (by simp [A])⟩,by simp [Zi3,c]⟩
   .rw [yp (by simp;omega),XX f D,A0,Zn _ yE,XX x hx,A0,Zn _ yE];exact ⟨_,rfl,⟨by simp;omega,b,fun y A=>B y (by simp [A])⟩,by simp [Zi3,H,c]⟩
end
def Xm (p:Zm):Bool:=ZaE p.rel&&decide (p.args.length<=3)&&p.args.all Xt
theorem ZfU (p:Zm):Zac p=some (Xm p):=by
 unfold Zac Xm;rw [Zaa (p:=Xt) (r:=false)]
 .simp only[Ziz,A0];have:decide ((p.args.length:Int)<=3)=decide (p.args.length<=3):=by rw [AC];simp only[decide_eq_true_eq];omega
  rw [this];cases p.args.all Xt<;>cases ZaE p.rel<;>simp
 .intro i x _;rw [ZmQ];cases Xt x<;>simp
theorem ZfV (p:Zm):Q8 p=some (Xm p):=by
 unfold Q8 Xm;rw [ZiP,Zaa (p:=Xt) (r:=false)]
 .by_cases h:p.args.length<=3
  .have A:¬(3:Int)<(p.args.length:Int):=by omega
   cases p.args.all Xt<;>cases ZaE p.rel<;>simp [h,A]
  .have A:(3:Int)<(p.args.length:Int):=by omega
   cases ZaE p.rel<;>simp [h,A]
 .intro i x _;rw [ZmM];cases Xt x<;>simp
def Qp (p:Zm):Bool:=sEq p.rel ⟨#[]⟩&&decide (p.args.length=0)
theorem ZAc {α:Type}(l:List α):(((l.length:Int))==0)=decide (l.length=0):=by
 rw [AC,beq_iff_eq,decide_eq_true_eq];omega
theorem Zg6 (p:Zm):Qv p=some (Qp p):=by
 unfold Qv Qp;rw [ZAc];cases sEq p.rel ⟨#[]⟩<;>simp
def XW (x:Zh):Bool:=
 if x.kind=1\/x.kind=2 then Xm x.pattern&&sEq x.left ⟨#[]⟩&&sEq x.right ⟨#[]⟩ else if x.kind=3\/x.kind=4\/x.kind=5 then Qp x.pattern&&Xt x.left&&Xt x.right else false
theorem ZfZ (x:Zh):Zft x=some (XW x):=by
 unfold Zft XW;simp only[ZfU,ZmQ,A0,Qp,ZAc,beq_iff_eq];by_cases E:x.kind=1
 .simp only[E,if_true,true_or];cases Xm x.pattern<;>cases sEq x.left ⟨#[]⟩<;>simp
 by_cases D:x.kind=2
 .simp only[D,if_true,or_true];cases Xm x.pattern<;>cases sEq x.left ⟨#[]⟩<;>simp
 simp only[E,D,if_false,or_self];by_cases C:x.kind=3
 .simp only[C,if_true,true_or];cases sEq x.pattern.rel ⟨#[]⟩<;>cases decide (x.pattern.args.length=0)<;>cases Xt x.left<;>simp
 by_cases B:x.kind=4
 .simp only[B,if_true,true_or,or_true];cases sEq x.pattern.rel ⟨#[]⟩<;>cases decide (x.pattern.args.length=0)<;>cases Xt x.left<;>simp
 by_cases A:x.kind=5
 .simp only[A,if_true,or_true];cases sEq x.pattern.rel ⟨#[]⟩<;>cases decide (x.pattern.args.length=0)<;>cases Xt x.left<;>simp
 simp [C,B,A]
theorem Zjo (x:Zh):Zfl x=some (XW x):=by
 unfold Zfl XW;simp only[ZfV,ZmM,Zg6,A0,beq_iff_eq];by_cases E:x.kind=1
 .simp only[E,if_true,true_or];cases Xm x.pattern<;>cases sEq x.left ⟨#[]⟩<;>simp
 by_cases D:x.kind=2
 .simp only[D,if_true,or_true];cases Xm x.pattern<;>cases sEq x.left ⟨#[]⟩<;>simp
 simp only[E,D,if_false,or_self];by_cases C:x.kind=3
 .simp only[C,if_true,true_or];cases Qp x.pattern<;>cases Xt x.left<;>cases Xt x.right<;>simp
 by_cases B:x.kind=4
 .simp only[B,if_true,true_or,or_true];cases Qp x.pattern<;>cases Xt x.left<;>cases Xt x.right<;>simp
 by_cases A:x.kind=5
 .simp only[A,if_true,or_true];cases Qp x.pattern<;>cases Xt x.left<;>cases Xt x.right<;>simp
 simp [C,B,A]
theorem ZsJ {x:Zh}(h:XW x=true):x.kind=1\/x.kind=2\/x.kind=3\/x.kind=4\/x.kind=5:=by
 unfold XW at h;split at h
 .rename_i A;omega
 .split at h
  .rename_i A;omega
  .simp at h
theorem ZuM (x:Zh):ZcK x=some (XW x&&decide (3<=x.kind)):=by
 unfold ZcK;rw [ZfZ];cases XW x<;>simp
def Zar (a:ZV):Bool:=
 if a.kind=1\/a.kind=2 then Xm a.pattern else if a.kind=3 then Qp a.pattern else false
theorem Zp2 (a:ZV):Zfs a=some (Zar a):=by
 unfold Zfs Zar;simp only[ZfU,A0,Qp,ZAc,beq_iff_eq];by_cases C:a.kind=1
 .simp [C]
 by_cases B:a.kind=2
 .simp [B]
 by_cases A:a.kind=3
 .simp only[A,if_true];cases sEq a.pattern.rel ⟨#[]⟩<;>simp
 simp [C,B,A]
theorem ZpU (a:ZV):Zfw a=some (Zar a):=by
 unfold Zfw Zar;simp only[ZfV,Zg6,A0,beq_iff_eq];by_cases C:a.kind=1
 .simp [C]
 by_cases B:a.kind=2
 .simp [B]
 by_cases A:a.kind=3
 .simp [A]
 simp [C,B,A]
def Qi (l:List BYT):List BYT:=l.filter Yv
theorem Ze0 (l:List BYT):(Qi l).length<=l.length:=List.length_filter_le _ _
theorem Ze7 {x:BYT}{l:List BYT}:x∈Qi l↔x∈l/\Yv x=true:=by simp [Qi]
theorem ZfB (l:List BYT) (h:l.length<=1073741824):Za6 l=some (Qi l):=by
 unfold Za6;rw [Zgn (p:=Yv)]
 .simp [Qi]
 .intro j x s _ hs;rw [Zbi,A0];split
  .rw [Zn _ (by simp at hs;omega)]
  .rfl
theorem ZmY {p:BYT->Bool}:∀(l acc:List BYT),l.foldl (fun s x=>if p x=true then Zbj s x else s) acc=(l.filter p).foldl Zbj acc
 | [],_=>rfl
 |x::l,acc=>by
  rw [AN,ZmY l];by_cases h:p x=true<;>simp [h]
theorem Zed (p:Zm) (h:p.args.length<=1073741823):Zdo p=some (Xj (Qi p.args)):=by
 unfold Zdo;rw [ZeZ (f:=fun s x=>if Yv x=true then Zbj s x else s) (fun j s=>s.length<=j) yG]
 .rw [ZmY];rfl
 .intro j x s _ _ A B;simp at A;have:=ZjA x s;rw [ZaJ,A0];split
  .rw [Zfm _ _ yE];exact ⟨rfl,yE⟩
  .exact ⟨rfl,yE⟩
def ZaY (x:Zh):List BYT:=x.pattern.args++[x.left,x.right]
def Qc (x:Zh):List BYT:=Xj (Qi (ZaY x))
theorem Zgu (x:Zh) (h:x.pattern.args.length<=1073741822):ZbJ x=some (Qc x):=by
 unfold ZbJ Zcv;rw [Zbq _ yE,A0,Zn _ yE,A0,ZfB _ (by simp;omega),A0];have:=Ze0 (x.pattern.args++[x.left,x.right]);simp at this;rw [ZdO _ yE];rfl
theorem Zgp (x:Zh) (h:x.pattern.args.length<=1073741820):ZaG x=some (Qc x):=by
 unfold ZaG;have h1:=Zgi (Qi x.pattern.args);have h2:=Ze0 x.pattern.args;have h3:=ZjA x.left (Xj (Qi x.pattern.args));have key:∀l:List BYT,(∀y,y∈l↔y∈Qi (ZaY x))->Asc l->l=Qc x:=fun l A B=>ZhM B A;rw [Zed _ yE,A0,ZaJ,A0,ZaJ];simp only[A0];rw [Zfm _ _ yE,A0,Zfm (Zbj _ _) _ yE,A0,Zfm _ x.right yE,A0];cases hl:Yv x.left<;>cases hr:Yv x.right<;>simp only[if_true,AD,if_false]<;>congr 1<;>apply key<;>(try intro y)<;>(try simp only[Zlh,Qt,Ze7,ZaY,AS,AA,Aq,or_false])
 all_goals first
  |exact Zee _
  |exact ZiI (Zee _)
  |exact ZiI (ZiI (Zee _))
  |skip
 .constructor
  .rintro ⟨a,b⟩;exact ⟨.inl a,b⟩
  .rintro ⟨a|rfl|rfl,b⟩
   .exact ⟨a,b⟩
   .rw [hl]at b;simp at b
   .rw [hr]at b;simp at b
 .constructor
  .rintro (rfl|⟨a,b⟩)
   .exact ⟨yG,hr⟩
   .exact ⟨.inl a,b⟩
  .rintro ⟨a|rfl|rfl,b⟩
   .exact .inr ⟨a,b⟩
   .rw [hl]at b;simp at b
   .exact .inl rfl
 .constructor
  .rintro (rfl|⟨a,b⟩)
   .exact ⟨yG,hl⟩
   .exact ⟨.inl a,b⟩
  .rintro ⟨a|rfl|rfl,b⟩
   .exact .inr ⟨a,b⟩
   .exact .inl rfl
   .rw [hr]at b;simp at b
 .constructor
  .rintro (rfl|rfl|⟨a,b⟩)
   .exact ⟨yG,hr⟩
   .exact ⟨yG,hl⟩
   .exact ⟨.inl a,b⟩
  .rintro ⟨a|rfl|rfl,b⟩
   .exact .inr (.inr ⟨a,b⟩)
   .exact .inr (.inl rfl)
   .exact .inl rfl
theorem ZjQ (x:Zh):(Qc x).length<=x.pattern.args.length+2:=by
 have h1:=Zgi (Qi (ZaY x));have h2:=Ze0 (ZaY x);have A:(ZaY x).length=x.pattern.args.length+2:=by simp [ZaY]
 unfold Qc;omega
theorem Zw9 {x:Zh}{v:BYT}(h:v∈Qc x):Yv v=true:=(Ze7.1 (Qt.1 h)).2
structure Zaf (r:Zq):Prop where
 cl:r.cond.length<=1048576
 tl:r.thn.length<=1048576
 ca:∀x∈r.cond,x.pattern.args.length<=1048576
 ta:∀a∈r.thn,a.pattern.args.length<=1048576
def QZ (l:List Zh):List BYT:=l.flatMap fun x=>if x.kind=1 then Qi x.pattern.args else []
def QQ (r:Zq) (n:Nat):List BYT:=Xj (QZ (r.cond.take n))
theorem Zi7 (r:Zq) (n:Int) (h:Zaf r) (I:r.cond.length<=4):ZcA r n=some (QQ r n.toNat):=by
 unfold ZcA QQ;refine (Zd3 (fun l i (row:List BYT)=>some (Xj (row++QZ (l.take (n.toNat - i))))) (fun l i row=>r.cond.drop i=l/\row.length<=1048576*i/\i<=r.cond.length) ?_ ?_ r.cond 0 [] ⟨yG,yG,yG⟩).trans yG
 .rintro i row ⟨D,G,F⟩;rw [ZdO _ yE];simp [QZ]
 .rintro x l i row ⟨D,G,F⟩;left
  have hi:r.cond[i]?=some x:=by have:=congrArg (fun l=>l[0]?) D;simpa using this
  have E:i<r.cond.length:=(AJ.1 hi).1;have B:r.cond.drop (i+1)=l:=by have:=congrArg Ad D;simpa using this
  have hx:=h.ca x (AL hi);have hv:=Ze0 x.pattern.args;by_cases C:(i:Int)<n
  .have e:n.toNat - i=(n.toNat - (i+1))+1:=by omega
   by_cases A:x.kind=1
   .refine ⟨row++Qi x.pattern.args,?_,⟨B,by simp;omega,yE⟩,?_⟩
    .simp only[C,A,decide_true,beq_self_eq_true,if_true];rw [ZfB _ yE,A0,Zn _ yE]
    .rw [e];simp [QZ,A]
   .refine ⟨row,?_,⟨B,yE,yE⟩,?_⟩
    .simp [C,A]
    .rw [e];simp [QZ,A]
  .have e:n.toNat - i=0:=by omega
   have H:n.toNat - (i+1)=0:=by omega
   refine ⟨row,?_,⟨B,yE,yE⟩,?_⟩
   .simp [C]
   .rw [e,H];simp
theorem Ziq (r:Zq) (n:Int) (h:Zaf r) (L:r.cond.length<=4):Zbg r n=some (QQ r n.toNat):=by
 unfold Zbg QQ;refine (Zd3 (fun l i (row:List BYT)=>some ((QZ (l.take (n.toNat - i))).foldl Zbj row)) (fun l i row=>r.cond.drop i=l/\row.length<=1048576*i/\i<=r.cond.length/\Asc row) ?_ ?_ r.cond 0 [] ⟨yG,yG,yG,AF⟩).trans (by simp [Xj])
 .rintro i row ⟨D,I,H,B⟩;simp [QZ]
 .rintro x l i row ⟨D,I,H,B⟩;have hi:r.cond[i]?=some x:=by have:=congrArg (fun l=>l[0]?) D;simpa using this
  have G:i<r.cond.length:=(AJ.1 hi).1;have E:r.cond.drop (i+1)=l:=by have:=congrArg Ad D;simpa using this
  have hx:=h.ca x (AL hi);have hv:=Ze0 x.pattern.args;have hs:=Zgi (Qi x.pattern.args);by_cases C:(i:Int)<n
  .left
   have e:n.toNat - i=(n.toNat - (i+1))+1:=by omega
   by_cases A:x.kind=1
   .obtain ⟨F,K,M⟩:=Zaj (Xj (Qi x.pattern.args)) row B;refine ⟨(Xj (Qi x.pattern.args)).foldl Zbj row,?_,⟨E,yE,yE,F⟩,?_⟩
    .simp only[C,A,decide_true,beq_self_eq_true,if_true];rw [Zed _ yE,A0,Zn5 (fun _ _ _=>rfl) yE]
    .rw [e];simp only[QZ,List.take_succ_cons,AT,A,if_true,Ai];congr 2
     obtain ⟨J,g2,_⟩:=Zaj (Qi x.pattern.args) row B;exact ZrQ J F fun y=>by rw [g2,K,Qt]
   .refine ⟨row,?_,⟨E,yE,yE,B⟩,?_⟩
    .simp [C,A]
    .rw [e];simp [QZ,A]
  .right
   have e:n.toNat - i=0:=by omega
   refine ⟨row,by simp [C],by rw [e];simp [QZ]⟩
def ZpA (r:Zq) (i:Int) (v:BYT):Bool:=!(ZeN (fun k x=>!(decide ((k:Int)≠i)&&ZaZ (Qc x) v)) r.cond 0&&r.thn.all fun a=>!ZaZ a.pattern.args v)
theorem Zjl {r:Zq}{i:Int}{v:BYT}{f:Zh->Option (List BYT)}{g:List BYT->BYT->Option Bool}(C:∀x∈r.cond,f x=some (Qc x)) (B:∀l,g l v=some (ZaZ l v)) {fin:Unit->Option Bool}(c:fin ()=some (!(r.thn.all fun a=>!ZaZ a.pattern.args v))):
  Zx (σ:=Unit) (fun (k:Nat) (x:Zh) _=>if ((k:Int) != i)=true then (f x).bind fun l=>(g l v).bind fun b=>if b=true then some (.inr true) else some (.inl ()) else some (.inl ())) fin r.cond 0 ()=some (ZpA r i v):=by
 rw [ZbP (p:=fun k x=>!(decide ((k:Int)≠i)&&ZaZ (Qc x) v)) (r:=true)]
 .unfold ZpA;cases ZeN (fun k x=>!(decide ((k:Int)≠i)&&ZaZ (Qc x) v)) r.cond 0 with
  |true=>simp only[if_true,c,AB]
  |false=>simp
 .intro j x A;rw [C x (AL A),A0,B,A0,AH];by_cases h:(j:Int)=i
  .simp [h]
  .have:((j:Int) != i)=true:=by simpa using h
   simp only[this,if_true];cases ZaZ (Qc x) v<;>simp [h]
theorem ZiX (r:Zq) (i:Int) (v:BYT) (h:Zaf r):Zab r i v=some (ZpA r i v):=by
 unfold Zab;refine Zjl (f:=ZbJ) (g:=ZbX) (fun x A=>Zgu x (by have:=h.ca x A;omega)) (fun l=>ZeU l v) ?_;rw [Zg4 (p:=fun a=>ZaZ a.pattern.args v) (r:=true)]
 .simp only[<-Ar,As];cases r.thn.any fun a=>ZaZ a.pattern.args v<;>rfl
 .intro j a _;rw [ZeU];cases ZaZ a.pattern.args v<;>simp
theorem ZmA (r:Zq) (i:Int) (v:BYT) (h:Zaf r) (C:Yv v=true):Zad r i v=some (ZpA r i v):=by
 unfold Zad;refine Zjl (f:=ZaG) (g:=X2) (fun x A=>Zgp x (by have:=h.ca x A;omega)) (fun l=>Zdc l v) ?_;rw [Zg4 (p:=fun a=>ZaZ a.pattern.args v) (r:=true)]
 .simp only[<-Ar,As];cases r.thn.any fun a=>ZaZ a.pattern.args v<;>rfl
 .intro j a B;rw [Zed _ (by have:=h.ta a B;omega),A0,Zdc,A0];have:ZaZ (Xj (Qi a.pattern.args)) v=ZaZ a.pattern.args v:=by
   rw [AC,Zn8,Zn8,Qt,Ze7];simp [C]
  rw [this];cases ZaZ a.pattern.args v<;>simp
def ZoM (r:Zq) (i:Nat) (x:Zh) (v:BYT):Bool:=decide (x.kind=1)||ZaZ (QQ r i) v||(decide (x.kind=2)&&!ZpA r i v)
def Zjd (r:Zq) (i:Nat) (x:Zh):Bool:=(Qc x).all (ZoM r i x)
theorem ZpS (r:Zq) (i:Nat) (x:Zh) (h:Zaf r) (E:r.cond.length<=4) (A:r.cond[i]?=some x):ZdL r i=some (Zjd r i x):=by
 unfold ZdL Zjd;have D:atI r.cond (i:Int)=some x:=by unfold atI;rw [yp yE,AG];exact A
 rw [D,A0,Zi7 r _ h E,A0,Zgu x (by have:=h.ca x (AL A);omega),A0,AG];rw [Zaa (p:=ZoM r i x) (r:=false)]
 .cases (Qc x).all (ZoM r i x)<;>rfl
 .intro j v F;rw [ZeU,ZiX r _ v h];simp only[A0,ZoM,beq_iff_eq,bne_iff_ne,ne_eq];by_cases C:x.kind=1
  .simp [C]
  .simp only[C,if_false,decide_false,At];cases ZaZ (QQ r i) v with
   |true=>simp
   |false=>
    by_cases B:x.kind=2
    .simp only[B,not_true_eq_false,if_false,AD,decide_true,AB,At];cases ZpA r i v<;>simp
    .simp [B]
def Zcg (r:Zq):Bool:=
 ZaE r.name&&decide (0<=r.priority)&&decide (r.priority<=9)&&decide (1<=r.cond.length)&&decide (r.cond.length<=4)&&decide (1<=r.thn.length)&&decide (r.thn.length<=2) && ZeN (fun i x=>XW x&&(decide (i≠0)||decide (x.kind=1))&&Zjd r i x) r.cond 0 && r.thn.all (fun a=>Zar a&&(Qi a.pattern.args).all (ZaZ (QQ r r.cond.length))) && decide ((Xj (r.cond.flatMap Qc)).length<=6)
theorem Znn (l:List Zh) (h:∀x∈l,x.pattern.args.length<=1048576) (D:l.length<=4):Zdq l=some (l.flatMap Qc):=by
 unfold Zdq;rw [ZeZ (f:=fun s x=>s++Qc x) (fun j s=>s.length<=1048578*j) yG]
 .congr 1
  have:∀(l:List Zh) (acc:List BYT),l.foldl (fun s x=>s++Qc x) acc=acc++l.flatMap Qc:=by
   intro l;induction l with
   |nil=>simp
   |cons x l ih=>intro acc;rw [AN,ih];simp
  simpa using this l []
 .intro j x s A _ B C;have:=h x A;have:=ZjQ x;rw [Zgu x yE,A0,Zn _ yE];exact ⟨rfl,by simp;omega⟩
theorem Zui (r:Zq) (h:Zaf r):Ziu r=some (Zcg r):=by
 unfold Ziu Zcg;rw [ZiP,A0];cases ZaE r.name with
 |false=>simp
 |true=>
 simp only[if_true,decide_eq_true_eq,AB];split
 .rw [decide_eq_false (show ¬0<=r.priority by omega)];simp
 split
 .rw [decide_eq_false (show ¬r.priority<=9 by omega)];simp
 split
 .rw [decide_eq_false (show ¬1<=r.cond.length by omega)];simp
 split
 .rw [decide_eq_false (show ¬r.cond.length<=4 by omega)];simp
 split
 .rw [decide_eq_false (show ¬1<=r.thn.length by omega)];simp
 split
 .rw [decide_eq_false (show ¬r.thn.length<=2 by omega)];simp
 rw [decide_eq_true (show 0<=r.priority by omega),decide_eq_true (show r.priority<=9 by omega),decide_eq_true (show 1<=r.cond.length by omega),decide_eq_true (show r.cond.length<=4 by omega),decide_eq_true (show 1<=r.thn.length by omega),decide_eq_true (show r.thn.length<=2 by omega)];simp only[AB];have B:r.cond.length<=4:=by omega
 rw [ZbP (p:=fun i x=>XW x&&(decide (i≠0)||decide (x.kind=1))&&Zjd r i x) (r:=false)]
 .cases ZeN (fun i x=>XW x&&(decide (i≠0)||decide (x.kind=1))&&Zjd r i x) r.cond 0 with
  |false=>simp
  |true=>
   simp only[if_true,AB];rw [Zi7 r _ h B,A0,AG,Zaa (p:=fun a=>Zar a&&(Qi a.pattern.args).all (ZaZ (QQ r r.cond.length))) (r:=false)]
   .cases r.thn.all fun a=>Zar a&&(Qi a.pattern.args).all (ZaZ (QQ r r.cond.length)) with
    |false=>simp
    |true=>
     have A:(r.cond.flatMap Qc).length<=1048578*r.cond.length:=by
      have:∀l:List Zh,(∀x∈l,x.pattern.args.length<=1048576)->(l.flatMap Qc).length<=1048578*l.length:=by
       intro l;induction l with
       |nil=>simp
       |cons x l ih=>
        intro A;have h1:=ih fun y E=>A y (by simp [E]);have h2:=A x yG;have h3:=ZjQ x;simp only[AT,AO,AE];omega
      exact this r.cond h.ca
     simp only[if_true,AB];rw [Znn _ h.ca B,A0,ZdO _ yE,A0];congr 1
     rw [AC];simp only[decide_eq_true_eq];omega
   .intro j a F;rw [ZpU,A0];cases Zar a with
    |false=>simp
    |true=>
     simp only[if_true,AB];rw [ZfB _ (by have:=h.ta a F;omega),A0,Zaa (p:=ZaZ (QQ r r.cond.length)) (r:=.inr false)]
     .cases (Qi a.pattern.args).all (ZaZ (QQ r r.cond.length))<;>rfl
     .intro k v _;rw [ZeU,A0];cases ZaZ (QQ r r.cond.length) v<;>simp
 .intro j x G;rw [AH,Zjo,A0,ZpS r j x h B G];simp only[A0];cases XW x with
  |false=>simp
  |true=>
   by_cases D:j=0
   .subst D;by_cases C:x.kind=1
    .simp only[C];cases Zjd r 0 x<;>simp
    .simp [C]
   .have:((j:Int)==0)=false:=by rw [beq_eq_false_iff_ne];omega
    simp only[this];cases Zjd r j x<;>simp [D]
theorem Zhn {α:Type}(f:α->List BYT):∀(l:List α) (acc:List BYT),Asc acc->l.foldl (fun s x=>(f x).foldl Zbj s) acc=(l.flatMap f).foldl Zbj acc
 | [],_,_=>rfl
 |x::l,acc,h=>by rw [AN,Zhn f l _ (Zaj (f x) acc h).1,AT,Ai]
def Zn9 (r:Zq):List BYT:=Xj (r.cond.flatMap Qc++r.thn.flatMap fun a=>Qi a.pattern.args)
theorem ZpN (r:Zq) (h:Zaf r) (K:r.cond.length<=4) (h2:r.thn.length<=2):Zfh r=some (Zn9 r):=by
 unfold Zfh Zn9;rw [ZeZ (f:=fun s x=>(Qc x).foldl Zbj s) (fun j s=>s.length<=1048578*j/\Asc s) ⟨yG,AF⟩]
 .have hA:=Zhn Qc r.cond [] AF;have D:Asc (r.cond.foldl (fun s x=>(Qc x).foldl Zbj s) []):=by rw [hA];exact (Zaj _ [] AF).1
  have A:(r.cond.foldl (fun s x=>(Qc x).foldl Zbj s) []).length<=1048578*4:=by
   rw [hA];have:=(Zaj (r.cond.flatMap Qc) [] AF).2.2;have h3:(r.cond.flatMap Qc).length<=1048578*r.cond.length:=by
    have:∀l:List Zh,(∀x∈l,x.pattern.args.length<=1048576)->(l.flatMap Qc).length<=1048578*l.length:=by
     intro l;induction l with
     |nil=>simp
     |cons x l ih=>
      intro A;have h1:=ih fun y E=>A y (by simp [E]);have h2:=A x yG;have h3:=ZjQ x;simp only[AT,AO,AE];omega
    exact this r.cond h.ca
   simp only[AX,Nat.add_zero]at this;omega
  rw [ZeZ (f:=fun s a=>(Xj (Qi a.pattern.args)).foldl Zbj s) (fun j s=>s.length<=1048578*4+1048576*j/\Asc s) ⟨yE,D⟩]
  .congr 1
   rw [Zhn (fun a:ZV=>Xj (Qi a.pattern.args)) r.thn _ D,hA];refine ZhM (Zaj _ _ (Zaj _ [] AF).1).1 fun y=>?_;rw [(Zaj _ _ (Zaj _ [] AF).1).2.1 y,(Zaj _ [] AF).2.1 y];simp only[AS,AY,Qt,Aq,or_false];exact Or.comm
  .intro j a s G _ H B;have h5:=h.ta a G;have h6:=Ze0 a.pattern.args;have h7:=Zgi (Qi a.pattern.args);obtain ⟨C,J,I⟩:=Zaj (Xj (Qi a.pattern.args)) s B.2;rw [Zed _ yE,A0,Zn5 (fun _ _ _=>rfl) yE];exact ⟨rfl,yE,C⟩
 .intro j x s F _ H B;have h5:=h.ca x F;have h6:=ZjQ x;obtain ⟨C,J,I⟩:=Zaj (Qc x) s B.2;rw [Zgp _ yE,A0,Zn5 (fun _ _ _=>rfl) yE];exact ⟨rfl,yE,C⟩
theorem Ztg {l:List Zh}{y:BYT}(h:y∈QZ l):y∈l.flatMap Qc:=by
 simp only[QZ,AY]at h ⊢;obtain ⟨x,B,A⟩:=h;refine ⟨x,B,?_⟩;split at A
 .rw [Qc,Qt,Ze7];rw [Ze7]at A;exact ⟨by simp [ZaY,A.1],A.2⟩
 .simp at A
theorem Ztr (r:Zq) (h:Zaf r):Zjb r=some (Zcg r):=by
 unfold Zjb Zcg;rw [Ziz,A0];cases ZaE r.name with
 |false=>simp
 |true=>
 simp only[if_true,ZdF,A0,AB,A6,decide_eq_true_eq];split
 rotate_left
 .rename_i F;have:(decide (0<=r.priority)&&decide (r.priority<=9))=false:=by simp;omega
  rw [this];simp
 rename_i E;rw [decide_eq_true E.1,decide_eq_true E.2];split
 rotate_left
 .rename_i F;have:(decide (1<=r.cond.length)&&decide (r.cond.length<=4))=false:=by simp;omega
  simp only[AB,this,Aj]
 rename_i K;rw [decide_eq_true (show 1<=r.cond.length by omega),decide_eq_true (show r.cond.length<=4 by omega)];split
 rotate_left
 .rename_i F;have:(decide (1<=r.thn.length)&&decide (r.thn.length<=2))=false:=by simp;omega
  simp only[AB,this,Aj]
 rename_i J;rw [decide_eq_true (show 1<=r.thn.length by omega),decide_eq_true (show r.thn.length<=2 by omega)];simp only[AB];have D:r.cond.length<=4:=by omega
 rw [Ziq r _ h D,A0,AG];rw [ZbP (p:=fun i x=>XW x&&(decide (i≠0)||decide (x.kind=1))&&Zjd r i x) (r:=false)]
 .cases ZeN (fun i x=>XW x&&(decide (i≠0)||decide (x.kind=1))&&Zjd r i x) r.cond 0 with
  |false=>simp
  |true=>
   simp only[if_true,AB];rw [Zaa (p:=fun a=>Zar a&&(Qi a.pattern.args).all (ZaZ (QQ r r.cond.length))) (r:=false)]
   .cases ha:r.thn.all fun a=>Zar a&&(Qi a.pattern.args).all (ZaZ (QQ r r.cond.length)) with
    |false=>simp
    |true=>
     simp only[if_true,AB];rw [ZpN r h D yE,A0];have e:Zn9 r=Xj (r.cond.flatMap Qc):=ZpT fun y=>by
      simp only[AS];refine ⟨fun B=>?_,.inl⟩;rcases B with B|B
      .exact B
      .obtain ⟨a,C,B⟩:=AY.1 B;have:=AR.1 ha a C;simp only[A6]at this;have:=AR.1 this.2 y B;rw [Zn8,QQ,Qt,List.take_length]at this;exact Ztg this
     rw [e];congr 1
     rw [AC];simp only[decide_eq_true_eq];omega
   .intro j a C;rw [Zp2,A0];cases Zar a with
    |false=>simp
    |true=>
     simp only[if_true,AB];rw [Zed _ (by have:=h.ta a C;omega),A0,Zaa (p:=ZaZ (QQ r r.cond.length)) (r:=.inr false)]
     .have:(Xj (Qi a.pattern.args)).all (ZaZ (QQ r r.cond.length))=(Qi a.pattern.args).all (ZaZ (QQ r r.cond.length)):=by
       rw [AC,AR,AR];simp only[Qt]
      rw [this];cases (Qi a.pattern.args).all (ZaZ (QQ r r.cond.length))<;>rfl
     .intro k v _;rw [Zdc,A0];cases ZaZ (QQ r r.cond.length) v<;>simp
 .intro j x I;have hxa:=h.ca x (AL I);rw [AH,ZfZ,A0,Ziq r _ h D,Zgp x yE,AG];simp only[A0];cases hic:XW x with
  |false=>simp
  |true=>
   have c:∀{fin:Unit->Option (Unit ⊕ Bool)} (d:fin ()=some (.inl ())),Zx (σ:=Unit) (ρ:=Unit ⊕ Bool) (fun (_:Nat) (v:BYT) _=>(X2 (QQ r j) v).bind fun b=>(ZcK x).bind fun t=>if t=true then (if b=true then (if (x.kind==2)=true then some (.inl ()) else some (.inl ())) else some (.inr (.inr false))) else (if (x.kind==2)=true then (if b=true then some (.inl ()) else (Zad r (j:Int) v).bind fun e=>if e=true then some (.inr (.inr false)) else some (.inl ())) else some (.inl ()))) fin (Qc x) 0 ()=some (bif Zjd r j x then .inl () else .inr false):=fun {fin} d=>by
    rw [Zaa (p:=ZoM r j x) (r:=.inr false)]
    .unfold Zjd;cases (Qc x).all (ZoM r j x)<;>simp [d]
    .intro k v H;rw [Zdc,ZuM,ZmA r _ v h (Zw9 H),hic];simp only[A0,AB,decide_eq_true_eq,beq_iff_eq,ZoM];rcases ZsJ hic with A|A|A|A|A<;>rw [A]<;>cases ZaZ (QQ r j) v<;>cases ZpA r j v<;>simp
   by_cases G:j=0
   .subst G;by_cases A:x.kind=1
    .have f:(x.kind != 1)=false:=by simp [A]
     simp only[if_true,f,show (((0:Nat):Int)==0)=true from rfl,AD,if_false];rw [c rfl];simp [A]
    .have f:(x.kind != 1)=true:=by simpa using A
     simp [f,A]
   .have:((j:Int)==0)=false:=by rw [beq_eq_false_iff_ne];omega
    simp only[if_true,this,AD,if_false];rw [c rfl];simp [G]
theorem ZeW {v:BYT}(h:Yv v=true):Z9 v=false:=by
 cases ha:Z9 v with
 |false=>rfl
 |true=>
  have h1:=Zk8 ha;rw [ZbO]at h1;unfold Yv at h;simp only[A6,decide_eq_true_iff]at h;omega
def YO:List Zj->BYT->Option BYT
 | [],_=>none
 |x::b,v=>if x.var=v then some x.value else YO b v
def ZdC (b:List Zj) (t:BYT):Option BYT:=if Z9 t=true then some t else if Yv t=true then YO b t else none
theorem ZoZ {b:List Zj}{v:BYT}(h:Yv v=true):ZdC b v=YO b v:=by
 unfold ZdC;rw [yn (by rw [ZeW h];simp),yp h]
def Zhx (x:Zj):Bool:=Yv x.var&&Z9 x.value
def ZkP:Option BYT->BYT->Bool
 |none,_=>true
 |some p,v=>sLt p v
def XL:Option BYT->List Zj->Bool
 |_,[]=>true
 |prev,x::r=>Zhx x&&ZkP prev x.var&&XL (some x.var) r
def YA (b:List Zj):Bool:=decide (b.length<=6)&&XL none b
theorem Zxq {a:Option BYT}{b:List Zj}(h:XL a b=true):∀x∈b,Zhx x=true/\∀p,a=some p->sLt p x.var=true:=by
 induction b generalizing a with
 |nil=>simp
 |cons y r ih=>
  simp only[XL,A6]at h;obtain ⟨⟨G,C⟩,F⟩:=h;intro x A;rcases AA.1 A with rfl|A
  .exact ⟨G,fun p B=>by subst B;exact C⟩
  .obtain ⟨E,D⟩:=ih F x A;exact ⟨E,fun p B=>by subst B;exact Zg3 C (D _ rfl)⟩
theorem ZxM {b:List Zj}{v:BYT}(h:YO b v=none):∀x∈b,¬x.var=v:=by
 induction b with
 |nil=>simp
 |cons y r ih=>
  simp only[YO]at h;split at h
  .simp at h
  .rename_i B;intro x A;rcases AA.1 A with rfl|A
   .exact B
   .exact ih h x A
def ZgP:List Zj->BYT->BYT->List Zj
 | [],v,w=>[⟨v,w⟩]
 |x::b,v,w=>if sLt v x.var=true then ⟨v,w⟩::x::b else x::ZgP b v w
theorem Zo9 (v w:BYT):∀b:List Zj,(ZgP b v w).length=b.length+1
 | []=>rfl
 |x::b=>by
  simp only[ZgP];split
  .rfl
  .rw [AE,Zo9 v w b];rfl
theorem ZjW {v w u:BYT}:∀{b:List Zj},YO b v=none->YO (ZgP b v w) u=if v=u then some w else YO b u
 | [],_=>by simp [ZgP,YO]
 |x::b,h=>by
  simp only[YO]at h;split at h
  .simp at h
  .rename_i B;simp only[ZgP];split
   .simp [YO]
   .simp only[YO];rw [ZjW h];by_cases A:x.var=u
    .rw [yp A,yp A,yn (fun e=>B (A.trans e.symm))]
    .rw [yn A,yn A]
theorem ZqM {v w:BYT}(B:Yv v=true) (A:Z9 w=true):∀{b:List Zj}{a:Option BYT},XL a b=true->YO b v=none->(∀p,a=some p->sLt p v=true)->XL a (ZgP b v w)=true
 | [],a,_,_,hp=>by
  simp only[ZgP,XL,Zhx,B,A,Bool.and_self,AB,Am];cases a with
  |none=>rfl
  |some p=>exact hp p rfl
 |x::b,a,h,hg,hp=>by
  have hx:=ZxM hg x yG;simp only[YO,hx,if_false]at hg;simp only[XL,A6]at h;obtain ⟨⟨D,F⟩,C⟩:=h;simp only[ZgP];by_cases c:sLt v x.var=true
  .rw [yp c];have E:ZkP a v=true:=by
    cases a with
    |none=>rfl
    |some p=>exact hp p rfl
   simp only[XL,A6];exact ⟨⟨by simp [Zhx,B,A],E⟩,⟨⟨D,c⟩,C⟩⟩
  .rw [yn c];simp only[XL,A6];refine ⟨⟨D,F⟩,ZqM B A C hg fun p d=>?_⟩;obtain rfl:=AP d;exact Zg5 (by simpa using c) (fun e=>hx e.symm)
def ZfX (b:List Zj) (v w:BYT):Option (List Zj):=
 if YA b=true/\Yv v=true/\Z9 w=true then
  (match YO b v with
  |some old=>if old=w then some b else none
  |none=>if b.length=6 then none else some (ZgP b v w))
 else none
theorem ZnM {b C:List Zj}{v w:BYT}(h:ZfX b v w=some C):YA C=true/\YO C v=some w/\∀u z,YO b u=some z->YO C u=some z:=by
 unfold ZfX at h;split at h
 .rename_i E;obtain ⟨B,G,F⟩:=E;cases hg:YO b v with
  |some old=>
   rw [hg]at h;simp only at h;split at h
   .rename_i D;obtain rfl:=AP h;exact ⟨B,by rw [hg,D],fun u z A=>A⟩
   .simp at h
  |none=>
   rw [hg]at h;simp only at h;split at h
   .simp at h
   .rename_i H;obtain rfl:=AP h;unfold YA at B ⊢;rw [A6,decide_eq_true_iff]at B;refine ⟨?_,by rw [ZjW hg,yp rfl],fun u z A=>?_⟩
    .rw [A6,decide_eq_true_iff,Zo9];exact ⟨yE,ZqM G F B.2 hg yG⟩
    .rw [ZjW hg,yn (fun e=>by rw [<-e,hg]at A;simp at A)];exact A
 .simp at h
def Zck:List BYT->List BYT->List Zj->Option (List Zj)
 | [],_,b=>some b
 |_::_,[],_=>none
 |a::p,w::f,b=>if Z9 a=true then (if a=w then Zck p f b else none) else (ZfX b a w).bind (Zck p f)
theorem Zmx:∀{p f:List BYT}{b B:List Zj},YA b=true->Zck p f b=some B->YA B=true/\(∀a∈p,Yv a=true->∃z,YO B a=some z)/\∀u z,YO b u=some z->YO B u=some z
 | [],_,b,B,hb,h=>by
  simp only[Zck,Option.some.injEq]at h;subst h;exact ⟨hb,yG,fun u z h=>h⟩
 |_::_,[],_,_,_,h=>by simp [Zck]at h
 |a::p,w::f,b,B,hb,h=>by
  simp only[Zck]at h;by_cases D:Z9 a=true
  .rw [yp D]at h;split at h
   .obtain ⟨G,F,E⟩:=Zmx hb h;refine ⟨G,fun x A C=>?_,E⟩;rcases AA.1 A with rfl|A
    .rw [ZeW C]at D;simp at D
    .exact F x A C
   .simp at h
  .rw [yn D]at h;obtain ⟨M,L,h⟩:=Option.bind_eq_some_iff.1 h;obtain ⟨J,I,H⟩:=ZnM L;obtain ⟨G,F,E⟩:=Zmx J h;refine ⟨G,fun x A C=>?_,fun u z K=>E u z (H u z K)⟩;rcases AA.1 A with rfl|A
   .exact ⟨w,E _ _ I⟩
   .exact F x A C
def ZfG (p:Zm) (f:Zf) (b:List Zj):Bool:=Xm p&&Xh f&&YA b&&decide (p.rel=f.rel)&&decide (p.args.length=f.args.length)
def Y0 (p:Zm) (f:Zf) (b:List Zj):Option (List Zj):=if ZfG p f b=true then Zck p.args f.args b else none
theorem ZxW {p:Zm}{f:Zf}{b A:List Zj}(h:Y0 p f b=some A):YA A=true/\(∀a∈p.args,Yv a=true->∃z,YO A a=some z)/\∀u z,YO b u=some z->YO A u=some z:=by
 unfold Y0 at h;split at h
 .rename_i B;unfold ZfG at B;simp only[A6]at B;exact Zmx B.1.1.2 h
 .simp at h
def YR (p:Zm) (b:List Zj) (F:List Zf):List Zf:=F.filter fun f=>(Y0 p f b).isSome
def ZyD (l r:BYT):Bool:=match Za5 l,Za5 r with|some m,some n=>decide (m<n)|_,_=>false
def ZsZ (k:Int) (l r:BYT):Bool:=if k=3 then decide (l=r) else if k=4 then !decide (l=r) else ZyD l r
def Zpo (x:Zh) (b:List Zj):Bool:=
 if XW x=true/\3<=x.kind/\YA b=true then (match ZdC b x.left,ZdC b x.right with|some l,some r=>ZsZ x.kind l r|_,_=>false) else false
def ZiU (x:Zh) (b:List Zj) (F:List Zf):Bool:=
 if XW x=true/\YA b=true then (if x.kind=1 then decide (0<(YR x.pattern b F).length) else if x.kind=2 then decide ((YR x.pattern b F).length=0) else Zpo x b) else false
def QL (x:Zh) (F:List Zf) (t:Zi):List Zi:=
 if x.kind=1 then F.filterMap fun f=>(Y0 x.pattern f t.binding).map fun b=>{ facts:=t.facts++[f],binding:=b } else if ZiU x t.binding F=true then [t] else []
def Zbk (x:Zh) (F:List Zf) (l:List Zi):List Zi:=l.flatMap (QL x F)
def Zkz:Zi:={ facts:=[],binding:=[] }
def Yk (l:List Zh) (F:List Zf):List Zi:=l.foldl (fun ts x=>Zbk x F ts) [Zkz]
theorem Zc7 (p:List Zh) (x:Zh) (F:List Zf):Yk (p++[x]) F=Zbk x F (Yk p F):=by
 unfold Yk;rw [Ai];rfl
structure Zoh (p:List Zh) (F:List Zf) (t:Zi):Prop where
 bind:YA t.binding=true
 len:t.facts.length<=p.length
 sub:∀f∈t.facts,f∈F
 vars:∀v∈QZ p,∃z,YO t.binding v=some z
theorem ZA9 {p:List Zh}{x:Zh}{F:List Zf}{t u:Zi}(h:Zoh p F t) (B:u∈QL x F t):Zoh (p++[x]) F u:=by
 unfold QL at B;have E:QZ (p++[x])=QZ p++(if x.kind=1 then Qi x.pattern.args else []):=by simp [QZ]
 by_cases D:x.kind=1
 .rw [yp D]at B;obtain ⟨f,G,e⟩:=List.mem_filterMap.1 B;obtain ⟨b,N,rfl⟩:=Option.map_eq_some_iff.1 e;obtain ⟨M,L,K⟩:=ZxW N;refine ⟨M,by have:=h.len;simp;omega,fun g C=>?_,fun v A=>?_⟩
  .rcases AS.1 C with C|C
   .exact h.sub g C
   .simp at C;subst C;exact G
  .rw [E,yp D]at A;rcases AS.1 A with A|A
   .obtain ⟨z,J⟩:=h.vars v A;exact ⟨z,K v z J⟩
   .obtain ⟨I,H⟩:=Ze7.1 A;exact L v I H
 .rw [yn D]at B;split at B
  .simp at B;subst B;refine ⟨h.bind,by have:=h.len;simp;omega,h.sub,fun v A=>?_⟩;rw [E,yn D,An]at A;exact h.vars v A
  .simp at B
theorem ZBn (F:List Zf):Zoh [] F Zkz:=⟨rfl,AW _,by simp [Zkz],by simp [QZ]⟩
theorem Ze2 (F:List Zf) (l:List Zh):∀t∈Yk l F,Zoh l F t:=by
 have:∀n (l:List Zh),l.length=n->∀t∈Yk l F,Zoh l F t:=by
  intro n;induction n with
  |zero=>
   intro l h;rw [List.eq_nil_of_length_eq_zero h];intro t A;simp [Yk]at A;subst A;exact ZBn F
  |succ n ih=>
   intro l h;obtain ⟨p,x,rfl⟩:∃p x,l=p++[x]:=⟨l.dropLast,l.getLast (by intro e;simp [e]at h),(List.dropLast_concat_getLast _).symm⟩
   intro t A;rw [Zc7]at A;obtain ⟨s,B,A⟩:=AY.1 A;exact ZA9 (ih p (by simpa using h) s B) A
 exact this _ l rfl
theorem Zlq (x:Zh) (F:List Zf) (A:F.length<=24):∀l:List Zi,(Zbk x F l).length<=24*l.length
 | []=>AW _
 |t::l=>by
  have ih:=Zlq x F A l;have B:(QL x F t).length<=24:=by
   unfold QL;split
   .exact AQ (List.length_filterMap_le _ _) A
   .split<;>simp
  unfold Zbk at *;rw [AT,AO,AE];omega
theorem ZfD (F:List Zf) (B:F.length<=24) (l:List Zh) (A:l.length<=4):(Yk l F).length<=331776:=by
 have key:∀(l:List Zh) (ts:List Zi),(l.foldl (fun ts x=>Zbk x F ts) ts).length<=24 ^ l.length*ts.length:=by
  intro l;induction l with
  |nil=>intro ts;simp
  |cons x l ih=>
   intro ts;rw [AN,AE,Nat.pow_succ];have h1:=ih (Zbk x F ts);have h2:=Zlq x F B ts;refine AQ h1 (AQ (Nat.mul_le_mul_left _ h2) ?_);rw [<-Ao];exact AW _
 have h1:=key l [Zkz];have h2:24 ^ l.length<=24 ^ 4:=Ae yE A;unfold Yk;simp only[List.length_singleton,Nat.mul_one]at h1;omega
def ZhA (b:List Zj) (i:Nat):Option BYT:=if i=0 then none else (b[i - 1]?).map (·.var)
theorem Zmv {b:List Zj}{body:Nat->Zj->Unit->Option (Unit ⊕ Bool)}{fin:Unit->Option Bool}(C:∀i x,b[i]?=some x->body i x ()=if (Zhx x&&ZkP (ZhA b i) x.var)=true then some (.inl ()) else some (.inr false)):
  ∀(l:List Zj) (i:Nat),b.drop i=l->Zx body fin l i ()=if XL (ZhA b i) l=true then fin () else some false
 | [],i,_=>by simp [Zx,XL]
 |x::l,i,h=>by
  have B:b[i]?=some x:=by rw [<-List.head?_drop,h];rfl
  have E:b.drop (i+1)=l:=by rw [<-List.tail_drop,h];rfl
  have D:ZhA b (i+1)=some x.var:=by unfold ZhA;rw [yn yE,Nat.add_sub_cancel,B];rfl
  by_cases A:(Zhx x&&ZkP (ZhA b i) x.var)=true
  .rw [ZP (by rw [C i x B,yp A]),Zmv C l (i+1) E,D];simp only[XL,A,AB]
  .rw [Yp (by rw [C i x B,yn A])];simp only[XL,eq_false_of_ne_true A,Aj,AD,if_false]
theorem ZqD {b:List Zj}(D:b.length<=1048576) {i:Nat}{x:Zj}(B:b[i]?=some x):
  (if Yv x.var=true then (if Z9 x.value=true then (if (decide (0<(i:Int)))=true then (atI b (i64.wrap ((i:Int) - 1))).bind fun a=>if (sLt a.var x.var)=true then some (.inl ()) else some (.inr false) else some (.inl ())) else some (.inr false)) else some (.inr false):Option (Unit ⊕ Bool))
   = if (Zhx x&&ZkP (ZhA b i) x.var)=true then some (.inl ()) else some (.inr false):=by
 have hi:=(AJ.1 B).1;unfold Zhx;cases Yv x.var with
 |false=>simp
 |true=>
  cases Z9 x.value with
  |false=>simp
  |true=>
   rw [yp rfl,yp rfl];by_cases A:i=0
   .subst A;rw [yn yG];simp [ZhA,ZkP]
   .have C:ZhA b i=some (b[i - 1]).var:=by unfold ZhA;rw [yn A,AK yE];rfl
    rw [yp (by simp;omega),show (i:Int) - 1=((i - 1:Nat):Int) by omega,Zf7 yE yE,Xi,AK yE,A0,C];simp [ZkP]
theorem Zdg (b:List Zj):Zax b=some (YA b):=by
 unfold Zax YA;by_cases A:b.length<=6
 .rw [yn (by simp;omega),Zmv (b:=b) (fun i x B=>by
   rw [Zbi,A0,Zau];exact ZqD yE B) b 0 rfl,decide_eq_true A]
  show (if XL none b=true then some true else some false)=_
  cases XL none b<;>rfl
 .rw [yp (by simp;omega),decide_eq_false A];rfl
theorem Zde (b:List Zj) (B:b.length<=1048576):Zas b=some (YA b):=by
 unfold Zas YA;rw [Zmv (b:=b) (fun i x A=>by
   rw [ZaJ,A0,Zaz];exact ZqD B A) b 0 rfl]
 show (if XL none b=true then some (decide ((b.length:Int)<=6)) else some false)=_
 have:decide ((b.length:Int)<=6)=decide (b.length<=6):=by rw [AC];simp;omega
 rw [this];cases XL none b<;>simp
def ZAY (b:List Zj) (t:BYT):BYT×Bool:=match ZdC b t with|some v=>(v,true)|none=>(⟨#[]⟩,false)
def ZyB:Option BYT->BYT×Bool
 |some v=>(v,true)
 |none=>(⟨#[]⟩,false)
theorem Zf1 (b:List Zj) (t:BYT):ZAY b t=ZyB (ZdC b t):=by unfold ZAY ZyB;cases ZdC b t<;>rfl
theorem Zoe {t:BYT}{body:Nat->Zj->Unit->Option (Unit ⊕ (BYT×Bool))}(B:∀i x,body i x ()=if x.var=t then some (.inr (x.value,true)) else some (.inl ())):
  ∀(b:List Zj) (i:Nat),Zx body (fun _=>some ((⟨#[]⟩),false)) b i ()=some (ZyB (YO b t))
 | [],_=>rfl
 |x::b,i=>by
  by_cases A:x.var=t
  .rw [Yp (by rw [B,yp A])];simp [YO,A,ZyB]
  .rw [ZP (by rw [B,yn A]),Zoe B b (i+1)];simp [YO,A]
theorem Zhy (b:List Zj) (t:BYT):ZdJ b t=some (ZAY b t):=by
 unfold ZdJ;rw [Zf1,Zau,A0];unfold ZdC;by_cases C:Z9 t=true
 .rw [yp C,yp C];rfl
 .rw [yn C,yn C,Zbi,A0];by_cases B:Yv t=true
  .rw [yp B,yp B,Zoe];intro i x;by_cases A:x.var=t
   .rw [yp (ZJ.2 A),yp A]
   .rw [yn (by rw [ZJ];exact A),yn A]
  .rw [yn B,yn B];rfl
theorem Zhj (b:List Zj) (t:BYT):Zdz b t=some (ZAY b t):=by
 unfold Zdz;rw [Zf1,Zaz,A0];unfold ZdC;by_cases C:Z9 t=true
 .rw [yp C,yp C];rfl
 .rw [yn C,yn C];by_cases B:Yv t=true
  .rw [yp B,Zoe];intro i x;by_cases A:x.var=t
   .rw [yp (ZJ.2 A),yp A,ZaJ,A0,yp B]
   .rw [yn (by rw [ZJ];exact A),yn A]
  .rw [yn B,Zaa (p:=fun _=>true) (r:=((⟨#[]⟩:BYT),false))]
   .simp [ZyB]
   .intro i x _;rw [ZaJ,A0,yn B];split<;>rfl
theorem Zs7 {a v:BYT}:((sLt a v||sEq a v)=true)↔¬sLt v a=true:=by
 rw [Aa,ZJ];constructor
 .rintro (h|h)
  .rw [Zmp h];simp
  .rw [h,ZkS];simp
 .intro h;by_cases e:a=v
  .exact .inr e
  .exact .inl (Zg5 (by simpa using h) (fun A=>e A.symm))
theorem ZtJ {ρ:Type}{v w:BYT}{K:List Zj->Option ρ}{body:Nat->Zj->(List Zj×Bool)->Option ((List Zj×Bool) ⊕ ρ)}{fin:(List Zj×Bool)->Option ρ}
  (E:∀i x row,row.length<=1000->body i x (row,true)=some (.inl (row++[x],true)))
  (D:∀i x row,row.length<=1000->body i x (row,false)=if (sLt x.var v||sEq x.var v)=true then some (.inl (row++[x],false)) else some (.inl ((row++[{ var:=v,value:=w }])++[x],true)))
  (C:∀row,row.length<=1000->fin (row,true)=K row) (B:∀row,row.length<=1000->fin (row,false)=K (row++[{ var:=v,value:=w }])) (b:List Zj) (F:b.length<=100):Zx body fin b 0 ([],false)=K (ZgP b v w):=by
 rw [Zd3 (fun l _ s=>K (s.1++(if s.2=true then l else ZgP l v w))) (fun l _ s=>s.1.length+2*l.length<=900) ?_ ?_ b 0 ([],false) (by simp;omega)]
 .simp
 .rintro i ⟨row,a⟩ A;simp only[AX]at A;cases a with
  |true=>rw [C row yE];simp
  |false=>rw [B row yE];simp [ZgP]
 .rintro x l i ⟨row,a⟩ A;simp only[AE]at A;left
  cases a with
  |true=>exact ⟨_,E i x row yE,by simp;omega,yG⟩
  |false=>
   rw [D i x row yE];by_cases hs:sLt v x.var=true
   .rw [yn (by rw [Zs7];simpa using hs)];exact ⟨_,rfl,by simp;omega,by simp [ZgP,hs]⟩
   .rw [yp (Zs7.2 hs)];exact ⟨_,rfl,by simp;omega,by simp [ZgP,hs]⟩
def Zm4:Option (List Zj)->List Zj×Bool
 |some b=>(b,true)
 |none=>([],false)
theorem ZjX {b:List Zj}{v w:BYT}(h:¬(YA b=true/\Yv v=true/\Z9 w=true)):Zm4 (ZfX b v w)=([],false):=by
 unfold ZfX;rw [yn h];rfl
theorem Zl7 {b:List Zj}{v w:BYT}(C:YA b=true) (B:Yv v=true) (A:Z9 w=true):ZfX b v w=match YO b v with|some a=>if a=w then some b else none|none=>if b.length=6 then none else some (ZgP b v w):=by
 unfold ZfX;exact yp ⟨C,B,A⟩
theorem Zbx {b:List Zj}(h:YA b=true):b.length<=6:=by
 unfold YA at h;rw [A6,decide_eq_true_iff]at h;exact h.1
theorem ZtO (b:List Zj) (v w:BYT):Ziv b v w=some (Zm4 (ZfX b v w)):=by
 unfold Ziv;rw [Zdg,A0];by_cases B:YA b=true
 .rw [yp B,Zbi,A0];by_cases A:Yv v=true
  .rw [yp A,Zau,A0];by_cases C:Z9 w=true
   .have h6:=Zbx B;rw [yp C,Zhy,A0,Zf1,ZoZ A];cases hg:YO b v with
    |some a=>
     have E:ZfX b v w=if a=w then some b else none:=by rw [Zl7 B A C,hg]
     rw [E];show (if true=true then (if sEq a w=true then _ else _) else _)=_
     rw [yp rfl];by_cases D:a=w
     .rw [yp (ZJ.2 D),yp D];unfold Zat;rw [Zn _ yE];rfl
     .rw [yn (by rw [ZJ];exact D),yn D];rfl
    |none=>
     have E:ZfX b v w=if b.length=6 then none else some (ZgP b v w):=by rw [Zl7 B A C,hg]
     rw [E];show (if false=true then _ else _)=_
     rw [yn yG];by_cases G:b.length=6
     .rw [yp (by simp;omega),yp G];rfl
     .rw [yn (by simp;omega),yn G];refine ZtJ (K:=fun r=>some (r,true)) (fun i x row F=>?_) (fun i x row F=>?_) (fun row F=>?_) (fun row F=>?_) b yE
      .show (if true=true then _ else _)=_
       rw [yp rfl,Zn _ yE]
      .show (if false=true then _ else _)=_
       rw [yn yG];split
       .rw [Zn _ yE]
       .rw [Zn _ yE,Zn _ yE]
      .show (if true=true then _ else _)=_
       rw [yp rfl]
      .show (if false=true then _ else _)=_
       rw [yn yG,Zn _ yE]
   .rw [yn C,ZjX (fun h=>C h.2.2)]
  .rw [yn A,ZjX (fun h=>A h.2.1)]
 .rw [yn B,ZjX (fun h=>B h.1)]
theorem Zu8 (b:List Zj) (v w:BYT) (B:b.length<=100):Zl9 b v w=some (ZgP b v w):=by
 unfold Zl9;refine ZtJ (K:=fun r=>some r) (fun i x row A=>?_) (fun i x row A=>?_) (fun row A=>?_) (fun row A=>?_) b B
 .show (if true=true then _ else _)=_
  rw [yp rfl,Zn _ yE]
 .show (if false=true then _ else _)=_
  rw [yn yG];split
  .rw [Zn _ yE]
  .rw [Zn _ yE,Zn _ yE]
 .show (if true=true then _ else _)=_
  rw [yp rfl]
 .show (if false=true then _ else _)=_
  rw [yn yG,Zn _ yE]
theorem Zt0 (b:List Zj) (v w:BYT) (G:b.length<=1048576):Ziy b v w=some (Zm4 (ZfX b v w)):=by
 unfold Ziy;rw [Zde b G,A0];by_cases B:YA b=true
 .rw [yp B,ZaJ,A0];by_cases A:Yv v=true
  .rw [yp A,Zaz,A0];by_cases C:Z9 w=true
   .have h6:=Zbx B;rw [yp C,Zhj,A0,Zf1,ZoZ A];cases hg:YO b v with
    |some a=>
     have E:ZfX b v w=if a=w then some b else none:=by rw [Zl7 B A C,hg]
     rw [E];show (if true=true then (if sEq a w=true then _ else _) else _)=_
     rw [yp rfl];by_cases D:a=w
     .rw [yp (ZJ.2 D),yp D];unfold ZcN;rw [Zn _ yE];rfl
     .rw [yn (by rw [ZJ];exact D),yn D];rfl
    |none=>
     have E:ZfX b v w=if b.length=6 then none else some (ZgP b v w):=by rw [Zl7 B A C,hg]
     rw [E];show (if false=true then _ else _)=_
     rw [yn yG];by_cases F:b.length=6
     .rw [yp (by simp;omega),yp F];rfl
     .rw [yn (by simp;omega),yn F,Zu8 _ _ _ yE];rfl
   .rw [yn C,ZjX (fun h=>C h.2.2)]
  .rw [yn A,ZjX (fun h=>A h.2.1)]
 .rw [yn B,ZjX (fun h=>B h.1)]
theorem Zhl {fa:List BYT}{body:Nat->BYT->List Zj->Option (List Zj ⊕ (List Zj×Bool))}
  (A:∀i a w row,fa[i]?=some w->YA row=true->body i a row=if Z9 a=true then (if a=w then some (.inl row) else some (.inr ([],false))) else (match ZfX row a w with|some r=>some (.inl r)|none=>some (.inr ([],false)))):
  ∀(l:List BYT) (i:Nat) (row:List Zj),i+l.length=fa.length->YA row=true->Zx body (fun row=>some (row,true)) l i row=some (Zm4 (Zck l (fa.drop i) row))
 | [],i,row,_,_=>by simp [Zx,Zck,Zm4]
 |a::l,i,row,h,hr=>by
  simp only[AE]at h;have hi:i<fa.length:=by omega
  have D:fa[i]?=some fa[i]:=AK hi;rw [Ah hi];simp only[Zck];have e:=A i a _ row D hr;by_cases C:Z9 a=true
  .rw [yp C]at e ⊢;by_cases B:a=fa[i]
   .rw [yp B]at e ⊢;rw [ZP e];exact Zhl A l (i+1) row yE hr
   .rw [yn B]at e ⊢;rw [Yp e];rfl
  .rw [yn C]at e ⊢;cases hx:ZfX row a fa[i]with
   |none=>
    rw [hx]at e;rw [Yp e];rfl
   |some r=>
    rw [hx]at e;rw [ZP e,A0];exact Zhl A l (i+1) r yE (ZnM hx).1
theorem Za7 (p:Zm) (f:Zf) (b:List Zj):QX p f b=some (Zm4 (Y0 p f b)):=by
 unfold QX Y0 ZfG;rw [ZfV,A0];cases h1:Xm p with
 |false=>rfl
 |true=>
  rw [yp rfl,ZiK,A0];cases h2:Xh f with
  |false=>rfl
  |true=>
   rw [yp rfl,Zdg,A0];cases h3:YA b with
   |false=>rfl
   |true=>
    rw [yp rfl];by_cases B:p.rel=f.rel
    .rw [yp (ZJ.2 B),decide_eq_true B];by_cases C:p.args.length=f.args.length
     .have h6:=Zbx h3;rw [yn (by simp;omega),decide_eq_true C];unfold Zat;rw [Zn _ yE,A0];rw [Zhl (fa:=f.args) (fun i a w row D E=>?_) p.args 0 b yE h3]
      .rfl
      .rw [Zau,A0,Xi,D,A0,A0];split
       .by_cases A:a=w
        .rw [yp (ZJ.2 A),yp A]
        .rw [yn (by rw [ZJ];exact A),yn A]
       .rw [ZtO,A0];cases ZfX row a w<;>rfl
     .rw [yp (by simp;omega),decide_eq_false C];rfl
    .rw [yn (by rw [ZJ];exact B),decide_eq_false B];rfl
theorem ZfO (p:Zm) (f:Zf) (b:List Zj) (F:b.length<=1048576):ZbB p f b=some (Zm4 (Y0 p f b)):=by
 unfold ZbB Y0 ZfG;rw [ZfU,A0];cases h1:Xm p with
 |false=>rfl
 |true=>
  rw [yp rfl,ZiW,A0];cases h2:Xh f with
  |false=>rfl
  |true=>
   rw [yp rfl,Zde b F,A0];cases h3:YA b with
   |false=>rfl
   |true=>
    rw [yp rfl];by_cases B:p.rel=f.rel
    .rw [yp (ZJ.2 B),decide_eq_true B];by_cases C:p.args.length=f.args.length
     .have h6:=Zbx h3;rw [yn (by simp;omega),decide_eq_true C];unfold ZcN;rw [Zn _ yE,A0];rw [Zhl (fa:=f.args) (fun i a w row D E=>?_) p.args 0 b yE h3]
      .rfl
      .have hr6:=Zbx E;rw [Zaz,A0,Xi,D,A0,A0];split
       .by_cases A:a=w
        .rw [yp (ZJ.2 A),yp A]
        .rw [yn (by rw [ZJ];exact A),yn A]
       .rw [Zt0 _ _ _ yE,A0];cases ZfX row a w<;>rfl
     .rw [yp (by simp;omega),decide_eq_false C];rfl
    .rw [yn (by rw [ZJ];exact B),decide_eq_false B];rfl
theorem Zdx (o:Option (List Zj)):(Zm4 o).2=o.isSome:=by cases o<;>rfl
theorem Zcp (p:Zm) (b:List Zj) (F:List Zf) (C:F.length<=1048576) (B:∀f∈F,f.args.length<=1048576):Qh p b F=some (YR p b F):=by
 unfold Qh YR;rw [Zgn (p:=fun f=>(Y0 p f b).isSome)]
 .simp
 .intro j f s A hs;rw [Za7,A0,Zdx];split
  .rw [XX f (B f A),A0,Zn _ (by simp at hs;omega)]
  .rfl
theorem ZaD (p:Zm) (b:List Zj) (F:List Zf) (B:b.length<=1048576) (D:F.length<=1048576) (C:∀f∈F,f.args.length<=1048576):XD p b F=some (YR p b F):=by
 unfold XD YR;rw [Zgn (p:=fun f=>(Y0 p f b).isSome)]
 .simp
 .intro j f s A hs;rw [ZfO _ _ _ B,A0,Zdx];split
  .rw [Qz f (C f A),A0,Zn _ (by simp at hs;omega)]
  .rfl
theorem Zpd (x:Zh) (b:List Zj):Zey x b=some (Zpo x b):=by
 unfold Zey Zpo Zlf;rw [Zjo,A0];cases h1:XW x with
 |false=>rfl
 |true=>
  rw [yp rfl,A0];by_cases C:3<=x.kind
  .rw [yp (by simpa using C),Zdg,A0];cases h3:YA b with
   |false=>simp
   |true=>
    rw [yp rfl,yp ⟨rfl,C,rfl⟩,Zhy,A0,Zhy,A0,Zf1,Zf1];cases ZdC b x.left with
    |none=>rfl
    |some l=>
     cases ZdC b x.right with
     |none=>rfl
     |some r=>
      show (if true=true then (if true=true then (if (x.kind==3)=true then some (sEq l r) else _) else _) else _)=some (ZsZ x.kind l r)
      rw [yp rfl,yp rfl];unfold ZsZ;by_cases B:x.kind=3
      .rw [yp (by simpa using B),yp B];rfl
      .rw [yn (by simpa using B),yn B];by_cases A:x.kind=4
       .rw [yp (by simpa using A),yp A];rfl
       .rw [yn (by simpa using A),yn A,ZdV,A0,ZdV,A0];show (if (ZfY l).2=true then (if (ZfY r).2=true then some (decide ((ZfY l).1<(ZfY r).1)) else some false) else some false)=_
        unfold ZfY ZyD;cases Za5 l<;>cases Za5 r<;>simp
  .rw [yn (by simpa using C),yn (fun h=>C h.2.1)]
theorem Zoa (x:Zh) (b:List Zj) (I:b.length<=1048576):Zec x b=some (Zpo x b):=by
 unfold Zec Zpo ZcK;rw [ZfZ,A0];cases h1:XW x with
 |false=>rfl
 |true=>
  rw [yp rfl,A0];by_cases C:3<=x.kind
  .rw [yp (by simpa using C),Zde b I,A0];cases h3:YA b with
   |false=>simp
   |true=>
    rw [yp rfl,yp ⟨rfl,C,rfl⟩,Zhj,A0,Zhj,A0,Zf1,Zf1];cases ZdC b x.left with
    |none=>rfl
    |some l=>
     cases ZdC b x.right with
     |none=>rfl
     |some r=>
      show (if true=true then (if true=true then (if (x.kind==3)=true then some (sEq l r) else _) else _) else _)=some (ZsZ x.kind l r)
      rw [yp rfl,yp rfl];unfold ZsZ;by_cases B:x.kind=3
      .rw [yp (by simpa using B),yp B];rfl
      .rw [yn (by simpa using B),yn B];by_cases A:x.kind=4
       .rw [yp (by simpa using A),yp A];rfl
       .rw [yn (by simpa using A),yn A];unfold ZfQ;rw [ZdT,A0,A0];show (if (ZfY l).2=true then ((Zbl r).bind fun F=>some F.2).bind (fun E=>if E=true then (QE l r).bind fun D=>some (decide (D<0)) else some false) else some false)=_
        unfold ZyD;cases hl:Za5 l with
        |none=>simp [ZfY,hl]
        |some m=>
         rw [yp (by simp [ZfY,hl]),ZdT,A0,A0];cases hr:Za5 r with
         |none=>simp [ZfY,hr]
         |some n=>
          have G:decide (Zif l r<0)=decide (m<n):=by
           have H:Zif l r=Zna m n:=by unfold Zif;rw [hl,hr]
           rw [H,AC,decide_eq_true_iff,decide_eq_true_iff];unfold Zna;split
           .omega
           .split<;>omega
          rw [yp (by simp [ZfY,hr]),Zgd,A0,G]
  .rw [yn (by simpa using C),yn (fun h=>C h.2.1)]
theorem Zi8 (x:Zh) (b:List Zj) (F:List Zf) (D:F.length<=1048576) (C:∀f∈F,f.args.length<=1048576):Zev x b F=some (ZiU x b F):=by
 unfold Zev ZiU;rw [Zjo,A0];cases h1:XW x with
 |false=>rfl
 |true=>
  rw [yp rfl,Zdg,A0];cases h3:YA b with
  |false=>rfl
  |true=>
   rw [yp rfl,yp (show true=true/\true=true from ⟨rfl,rfl⟩)];by_cases B:x.kind=1
   .rw [yp (by simpa using B),yp B,Zcp _ _ _ D C,A0];congr 1
    rw [AC];simp
   .rw [yn (by simpa using B),yn B];by_cases A:x.kind=2
    .rw [yp (by simpa using A),yp A,Zcp _ _ _ D C,A0,ZAc]
    .rw [yn (by simpa using A),yn A,Zpd];rfl
theorem ZoE (x:Zh) (b:List Zj) (F:List Zf) (C:b.length<=1048576) (E:F.length<=1048576) (D:∀f∈F,f.args.length<=1048576):Zeu x b F=some (ZiU x b F):=by
 unfold Zeu ZiU;rw [ZfZ,A0];cases h1:XW x with
 |false=>rfl
 |true=>
  rw [yp rfl,Zde b C,A0];cases h3:YA b with
  |false=>rfl
  |true=>
   rw [yp rfl,yp (show true=true/\true=true from ⟨rfl,rfl⟩)];by_cases B:x.kind=1
   .rw [yp (by simpa using B),yp B,ZaD _ _ _ C E D,A0];congr 1
    rw [AC];simp
   .rw [yn (by simpa using B),yn B];by_cases A:x.kind=2
    .rw [yp (by simpa using A),yp A,ZaD _ _ _ C E D,A0,ZAc]
    .rw [yn (by simpa using A),yn A,Zoa _ _ C];rfl
theorem Zs4 {r:Zq}(h:Zcg r=true):r.cond.length<=4/\r.thn.length<=2:=by
 simp only[Zcg,A6,decide_eq_true_eq]at h;omega
theorem Znr (s:BYT):ZbI s []=some s:=rfl
theorem Zmr (x:Zh) (h:x.pattern.args.length<=1048576):Qn x []=some x:=by
 unfold Qn;simp only[Znr,A0];rw [Xw (g:=fun y=>y)]
 .simp
 .intro j y s _ hs;rw [Zn _ (by simp at hs;omega)]
theorem Zij (x:Zh) (h:x.pattern.args.length<=1048576):ZbM x=some x:=by
 unfold ZbM;rw [Zmr x h];rfl
theorem ZwM {l:List Nat}{x:Nat}(h:x∈l):x<=l.sum:=by
 induction l with
 |nil=>simp at h
 |cons a r ih=>
  rcases AA.1 h with h|h
  .subst h;simp
  .have:=ih h;simp;omega
theorem Zex {α:Type}{f:α->Nat}{l:List α}{n:Nat}(h:l.length+(l.map f).sum<=n) {x:α}(A:x∈l):f x<=n:=by
 have:=ZwM (List.mem_map_of_mem (f:=f) A);omega
theorem ZuU {l:List Zh}(h:Xp l<=1048576):l.length<=1048576/\∀x∈l,x.pattern.args.length<=1048576:=by
 unfold Xp at h;refine ⟨yE,fun x A=>?_⟩;have:=Zex (f:=Yf) h A;simp only[Yf,ZL,XA]at this;omega
theorem ZvO {r:Zq}(h:YW r<=1048576):Zaf r:=by
 simp only[YW]at h;have C:Xp r.cond<=1048576:=by omega
 have A:YN r.thn<=1048576:=by omega
 obtain ⟨a,b⟩:=ZuU C;refine ⟨a,?_,b,fun x B=>?_⟩
 .unfold YN at A;omega
 .unfold YN at A;have:=Zex (f:=Y6) A B;simp only[Y6,ZL,XA]at this;omega
section
section
variable {α σ ρ:Type} {body:Nat->α->σ->Option (σ ⊕ ρ)}
theorem Zq9 (I:List α->σ->Prop) (Q:ρ->Prop):∀(l a:List α) (s:σ),I a s->(∀p x s,x∈l->p.length<a.length+l.length->I p s->(∃s',body p.length x s=some (.inl s')/\I (p++[x]) s')\/∃r,body p.length x s=some (.inr r)/\Q r)->
  (∃s',(∀fin:σ->Option ρ,Zx body fin l a.length s=fin s')/\I (a++l) s')\/∃r,(∀fin:σ->Option ρ,Zx body fin l a.length s=some r)/\Q r
 | [],a,s,h,_=>.inl ⟨s,fun _=>rfl,by simpa using h⟩
 |x::l,a,s,h,hs=>by
  rcases hs a x s yG yG h with ⟨s',e,B⟩|⟨r,e,B⟩
  .rcases Zq9 I Q l (a++[x]) s' B fun p y s m E F=>hs p y s (by simp [m]) (by simp at E ⊢;omega) F with ⟨D,C,A⟩|⟨r,C,A⟩
   .refine .inl ⟨D,fun fin=>?_,by simpa using A⟩;rw [ZP e];simpa using C fin
   .refine .inr ⟨r,fun fin=>?_,A⟩;rw [ZP e];simpa using C fin
  .exact .inr ⟨r,fun fin=>Yp e,B⟩
theorem Zx8 (I:List α->σ->Prop) (Q:ρ->Prop) (l:List α) (s:σ) (h:I [] s) (hs:∀p x s,x∈l->p.length<l.length->I p s->(∃s',body p.length x s=some (.inl s')/\I (p++[x]) s')\/∃r,body p.length x s=some (.inr r)/\Q r):
  (∃s',(∀fin:σ->Option ρ,Zx body fin l 0 s=fin s')/\I l s')\/∃r,(∀fin:σ->Option ρ,Zx body fin l 0 s=some r)/\Q r:=by
 have:=Zq9 I Q l [] s h fun p x s m A B=>hs p x s m (by simpa using A) B;simpa using this
end
theorem Zzm {m:List (BYT×Bool)}{k y:BYT}:ZgK (Zmz m k true) y false=if y=k then true else ZgK m y false:=by
 unfold ZgK;induction m with
 |nil=>
  by_cases h:y=k<;>simp [Zmz,Zjz,h]
 |cons p r ih=>
  simp only[Zmz];by_cases h:k=p.1
  .subst h;rw [yp rfl];by_cases A:y=p.1
   .simp [Zjz,A]
   .simp [Zjz,A]
  .rw [yn h];by_cases A:y=p.1
   .subst A;have:¬p.1=k:=fun e=>h e.symm;simp [Zjz,this]
   .simp only[Zjz,yn A];exact ih
theorem ZeX {σ ρ:Type}{body:σ->Option (σ ⊕ ρ)}{s s':σ}(h:body s=some (.inl s')):Zb2 body s=Zb2 body s':=by rw [ZnP,h]
theorem Zcw {σ ρ:Type}{body:σ->Option (σ ⊕ ρ)}{s:σ}{r:ρ}(h:body s=some (.inr r)):Zb2 body s=some r:=by rw [ZnP,h]
open Classical
end
section
theorem ZxC (l:List Zq) (n:BYT):∃z,Zcm l n=some z:=by
 unfold Zcm;rcases Zx8 (ρ:=Int) (body:=fun (B:Nat) (A:Zq) (_:Unit)=>
   if (sEq A.name n)=true then
    some (.inr (B:Int))
   else
    some (.inl ())) (fun _ _=>True) (fun _=>True) l () trivial (fun p x s C D _=>by
  cases h:sEq x.name n with
  |true=>exact .inr ⟨_,by rw [yp rfl],trivial⟩
  |false=>exact .inl ⟨(),by rw [yn yG],trivial⟩) with ⟨s,e,_⟩|⟨z,e,_⟩
 .exact ⟨-1,e _⟩
 .exact ⟨z,e _⟩
def Zm5 (l:List Zq) (n:BYT):Int:=(Zcm l n).getD 0
theorem Zkf (l:List Zq) (n:BYT):Zcm l n=some (Zm5 l n):=by
 obtain ⟨z,h⟩:=ZxC l n;unfold Zm5;rw [h];rfl
theorem ZpK (l:List Zq) (n:BYT):ZhW l n=some (Zm5 l n):=Zkf l n
def Zjn (R:List Zq) (j:Nat) (r:Zq):Bool:=Zcg r&&(Zm5 R r.name==(j:Int))
def YQ (R:List Zq):Bool:=decide (R.length<=6)&&ZeN (Zjn R) R 0
theorem ZpL {R:List Zq}(h:∀r∈R,Zaf r):ZfT R=some (YQ R):=by
 unfold ZfT YQ;by_cases B:R.length<=6
 .rw [yn (by simp;omega),decide_eq_true B,AB,ZbP (p:=Zjn R) (r:=false)]
  .cases ZeN (Zjn R) R 0<;>rfl
  .intro j r C;rw [Zui r (h r (AL C)),A0,Zkf];unfold Zjn;simp only[A0,AH];cases Zcg r with
   |false=>rfl
   |true=>
    by_cases A:Zm5 R r.name=(j:Int)
    .simp [A]
    .have e:(Zm5 R r.name==(j:Int))=false:=by simpa using A
     simp [e,A]
 .rw [yp (by simp;omega),decide_eq_false B];rfl
theorem ZpM {R:List Zq}(h:∀r∈R,Zaf r):Zfv R=some (YQ R):=by
 unfold Zfv YQ;rw [ZbP (p:=Zjn R) (r:=false)]
 .have:decide ((R.length:Int)<=6)=decide (R.length<=6):=by rw [AC];simp;omega
  rw [this];cases ZeN (Zjn R) R 0<;>simp
 .intro j r B;rw [Ztr r (h r (AL B)),A0,ZpK];unfold Zjn;simp only[A0,AH];cases Zcg r with
  |false=>rfl
  |true=>
   by_cases A:Zm5 R r.name=(j:Int)
   .simp [A]
   .have e:(Zm5 R r.name==(j:Int))=false:=by simpa using A
    simp [e,A]
open Classical
end
section
open Classical
theorem ZuH (a b:Zf):ZgY a b=some (decide (a=b)):=ZaU a b
theorem Zj8 (l:List Zf) (f:Zf):∃z,Zfb l f=some z/\(z<0↔f∉l):=Zku l f
def ZhX (F:List Zf) (i:Nat) (x:Zf):Bool:=Xh x&&(if i=0 then true else match F[i - 1]? with|some y=>decide (Zeb y x<0)|none=>true)
def YP (F:List Zf):Bool:=decide (F.length<=24)&&ZeN (ZhX F) F 0
theorem ZoJ {α:Type}{p:Nat->α->Bool}{q:α->Bool}(h:∀i x,p i x=true->q x=true):∀{l:List α}{i:Nat},ZeN p l i=true->∀x∈l,q x=true
 | [],_,_=>by simp
 |y::l,i,ha=>by
  simp only[ZeN,A6]at ha;intro x A;rcases AA.1 A with rfl|A
  .exact h i _ ha.1
  .exact ZoJ h ha.2 x A
theorem Zf5 {F:List Zf}(h:YP F=true):F.length<=24/\∀f∈F,Xh f=true:=by
 unfold YP at h;rw [A6,decide_eq_true_iff]at h;refine ⟨h.1,ZoJ (fun i x A=>?_) h.2⟩;unfold ZhX at A;rw [A6]at A;exact A.1
theorem ZjL {f:Zf}(h:Xh f=true):f.args.length<=3:=by
 unfold Xh at h;simp only[A6,decide_eq_true_iff]at h;exact h.1.2
theorem Zri {F:List Zf}(E:F.length<=1048576) {i:Nat}{x:Zf}(C:F[i]?=some x):
  (if Xh x=true then (if (decide (0<(i:Int)))=true then (atI F (i64.wrap ((i:Int) - 1))).bind fun a=>(some (Zeb a x)).bind fun b=>if (decide (0<=b))=true then some (.inr false) else some (.inl ()) else some (.inl ())) else some (.inr false):Option (Unit ⊕ Bool))
   = some (bif ZhX F i x then .inl () else .inr false):=by
 have hi:=(AJ.1 C).1;unfold ZhX;cases Xh x with
 |false=>rfl
 |true=>
  rw [yp rfl];by_cases B:i=0
  .subst B;rw [yn yG];simp
  .have D:F[i - 1]?=some F[i - 1]:=AK yE;rw [yp (by simp;omega),show (i:Int) - 1=((i - 1:Nat):Int) by omega,Zf7 yE yE,Xi,D,A0,A0,yn B];by_cases A:Zeb F[i - 1] x<0
   .rw [yn (by simpa using A)];simp [A]
   .rw [yp (by simpa using A)];simp [A]
theorem ZgA (F:List Zf):Zcn F=some (YP F):=by
 unfold Zcn YP;by_cases h:F.length<=24
 .rw [yn (by simp;omega),decide_eq_true h,ZbP (p:=ZhX F) (r:=false)]
  .cases ZeN (ZhX F) F 0<;>rfl
  .intro j x A;rw [AH,ZiK,A0];simp only[ZcS];exact Zri yE A
 .rw [yp (by simp;omega),decide_eq_false h];rfl
theorem ZgB (F:List Zf) (B:F.length<=1048576):Zch F=some (YP F):=by
 unfold Zch YP;rw [ZbP (p:=ZhX F) (r:=false)]
 .have:decide ((F.length:Int)<=24)=decide (F.length<=24):=by rw [AC];simp;omega
  rw [this];cases ZeN (ZhX F) F 0<;>simp
 .intro j x A;rw [AH,ZiW,A0];simp only[ZcR];exact Zri B A
theorem Zdk (l:List Zf) (B:l.length<=1048576) (h:∀f∈l,f.args.length<=1048576):Yl l=some l:=by
 unfold Yl;rw [Xw (g:=fun y=>y)]
 .simp
 .intro j y s A hs;rw [XX y (h y A),A0,Zn _ (by simp at hs;omega)]
theorem Zgv (l:List Zf) (B:l.length<=1048576) (h:∀f∈l,f.args.length<=1048576):Y4 l=some l:=by
 unfold Y4;rw [Xw (g:=fun y=>y)]
 .simp
 .intro j y s A hs;rw [Qz y (h y A),A0,Zn _ (by simp at hs;omega)]
structure Zvw (F:List Zf) (t:Zi):Prop where
 bind:t.binding.length<=6
 len:t.facts.length<=4
 args:∀f∈t.facts,f.args.length<=3
theorem Zoh.s {p:List Zh}{F:List Zf}{t:Zi}(h:Zoh p F t) (C:p.length<=4) (B:∀f∈F,f.args.length<=3):Zvw F t:=
 ⟨Zbx h.bind,by have:=h.len;omega,fun f A=>B f (h.sub f A)⟩
theorem Zq6 {ρ:Type}{x:Zh}{F:List Zf}{body:Nat->Zi->List Zi->Option (List Zi ⊕ ρ)}{fin:List Zi->Option ρ}(C:F.length<=24) (ts:List Zi) (A:ts.length<=331776)
  (B:∀i t row,t∈ts->row.length<=10000000->body i t row=some (.inl (row++QL x F t))):Zx body fin ts 0 []=fin (Zbk x F ts):=by
 have a:Zbk x F []=[]:=rfl;rw [<-a,Ze8 (fun p=>Zbk x F p) ts];intro p t q e;have hl:=Zlq x F C p;have D:p.length<=ts.length:=by rw [e];simp
 rw [B _ _ _ (by rw [e];simp) yE];unfold Zbk;rw [List.flatMap_append];simp
theorem Zkm (l:List Zh) (F:List Zf) (K:l.length<=4) (D:F.length<=24) (C:∀f∈F,f.args.length<=3):ZkK l F=some (Yk l F):=by
 unfold ZkK;have I:Yk [] F=[({ facts:=[],binding:=[] }:Zi)]:=rfl;rw [<-I,Ze8 (fun p=>Yk p F) l];intro p x q e;have H:p.length+(q.length+1)=l.length:=by rw [e,AO,AE]
 rw [Zc7];refine Zq6 (fin:=fun r=>(some (Sum.inl r):Option (List Zi ⊕ List Zi))) D (Yk p F) (ZfD F D p yE) (fun i t row E J=>?_);have ht:=(Ze2 F p t E).s yE C;unfold QL;by_cases A:x.kind=1
 .rw [yn (by simpa using A),yp A,ZbD (g:=fun f=>(Y0 x.pattern f t.binding).map fun b=>({ facts:=t.facts++[f],binding:=b }:Zi))];intro j f s B hs;rw [Za7,A0,Zdx];cases hm:Y0 x.pattern f t.binding with
  |none=>simp
  |some b=>
   simp only[Au,if_true];rw [Zdk _ (by have:=ht.len;omega) (fun g G=>by have:=ht.args g G;omega),A0,XX f (by have:=C f B;omega),A0,Zn _ (by have:=ht.len;omega),Zn _ yE];rfl
 .rw [yp (by simpa using A),yn A,Zi8 _ _ _ yE (fun f B=>by have:=C f B;omega),A0];split
  .rw [Zn _ yE]
  .simp
theorem Zuh {F:List Zf}{t:Zi}(A:Zvw F t):Zfc t=some t:=by
 unfold Zfc ZcN;rw [Zgv _ (by have:=A.len;omega) (fun g B=>by have:=A.args g B;omega),A0,Zn _ (by have:=A.bind;omega)];rfl
theorem ZiT (ts:List Zi) (x:Zh) (F:List Zf) (a:ts.length<=331776) (G:F.length<=24) (C:∀f∈F,f.args.length<=3) (ht:∀t∈ts,Zvw F t):ZfI ts x F=some (Zbk x F ts):=by
 unfold ZfI;refine Zq6 (fin:=fun r=>some r) G ts a (fun i t row D H=>?_);have ht:=ht t D;have htb:=ht.bind;unfold QL;by_cases A:x.kind=1
 .rw [yn (by simpa using A),yp A,ZbD (g:=fun f=>(Y0 x.pattern f t.binding).map fun b=>({ facts:=t.facts++[f],binding:=b }:Zi))];intro j f s B hs;rw [ZfO _ _ _ yE,A0,Zdx];cases hm:Y0 x.pattern f t.binding with
  |none=>simp
  |some b=>
   simp only[Au,if_true];rw [Zgv _ (by have:=ht.len;omega) (fun g E=>by have:=ht.args g E;omega),A0,Qz f (by have:=C f B;omega),A0,Zn _ (by have:=ht.len;omega),Zn _ yE];rfl
 .rw [yp (by simpa using A),yn A,ZoE _ _ _ yE yE (fun f B=>by have:=C f B;omega),A0];split
  .rw [Zuh ht,A0,Zn _ yE]
  .simp
theorem Zqq (l:List Zh) (F:List Zf) (G:l.length<=4) (A:F.length<=24) (B:∀f∈F,f.args.length<=3):Zff l F=some (Yk l F):=by
 unfold Zff;have E:Yk [] F=[({ facts:=[],binding:=[] }:Zi)]:=rfl;rw [<-E,Ze8 (fun p=>Yk p F) l];intro p x q e;have D:p.length+(q.length+1)=l.length:=by rw [e,AO,AE]
 rw [Zc7,ZiT _ _ _ (ZfD F A p yE) A B (fun t C=>(Ze2 F p t C).s yE B)];rfl
theorem Zc8 {R:List Zq}(h:YQ R=true):R.length<=6/\∀r∈R,Zcg r=true:=by
 unfold YQ at h;rw [A6,decide_eq_true_iff]at h;refine ⟨h.1,ZoJ (fun i x A=>?_) h.2⟩;unfold Zjn at A;rw [A6]at A;exact A.1
end
end
end Go.Proofs.YtfdjdgdipgfmeaaGreatDoor
