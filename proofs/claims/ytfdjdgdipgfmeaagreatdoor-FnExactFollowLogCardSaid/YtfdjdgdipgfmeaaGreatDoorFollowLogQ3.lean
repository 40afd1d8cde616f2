/- Texts of this proof, joined: K1, K2, K3, U14, K4, K5, K6, K7, K8, K11, F7, K12, K13, K14, BInv, BRun, BOps1, BOps2, BOps3, BOps4, BOps5. What each holds is said at its theorems. -/
import Derived.Test.YtfdjdgdipgfmeaaGreatDoorFollowLogQ2
import Derived.Test.YtfdjdgdipgfmeaaGreatDoorFollowLogQ1
import Derived.Laws.CopyRow
import Derived.Laws.OwnMore
import Derived.Laws.StructEq
import Derived.Laws.Tables
open Array renaming getElem?_eq_some_iff→BR
open Bool renaming and_eq_true→AD,eq_iff_iff→AU,eq_false_iff→Ae,true_and→Ar
open ByteArray renaming size→Bg,size_extract→Bn
open Go.ByteArray renaming toList_eq→Bo
open Int renaming toNat_natCast→AH,toNat→Az
open List renaming getElem?_eq_getElem→A6,getElem?_map→A9,getElem?_eq_some_iff→AC,length_cons→AE,length_append→AF,nil_append→AJ,mem_append→AK,getElem?_mapIdx→AL,foldl_cons→AP,mem_cons→AR,getElem?_append_left→AT,mem_map→AW,take_add_one→AX,length_singleton→AY,mem_of_getElem?→AZ,map_cons→Aa,ext_getElem?→Ad,map_id'→Ag,length_nil→Ah,append_nil→Ai,take_of_length_le→Aj,length_take→Ak,map_map→Al,length_map→Am,drop_length→Ao,drop_eq_getElem_cons→Aq,mem_of_mem_take→At,mem_of_mem_drop→Au,length_filter_le→Aw,append_assoc→Ax,getElem_mem→Ay,getElem?_append_right→BB,getElem?_drop→BC,all_eq_true→BF,pairwise_cons→BG,take_zero→BH,filter_cons_of_neg→BI,filter_cons_of_pos→BJ,mem_filter→BK,filter_append→BM,length_mapIdx→BN,mem_map_of_mem→BP,getElem?_eq_none→BS,getElem?_cons_succ→BU,cons_append→BV,map_append→BX,getElem_of_mem→BY,take_append_drop→BZ,pairwise_singleton→Bc,mem_filterMap→Be,sum_cons→Bf,nodup_cons→Bh,drop_succ_cons→Bi,drop_zero→Bj,length_drop→Bk,take_length→Bl,any_cons→Bm,getElem?_take→Bp
open List.Pairwise renaming nil→Bd
open List.cons renaming injEq→Ba,inj→Bb
open Nat renaming le_refl→AG,zero_add→AM,add_assoc→AO,add_mul→AS,le_trans→Ac,lt_or_ge→An,add_zero→BD,lt_trichotomy→BE,zero_le→BL
open Option renaming bind_some→A0,map_eq_some_iff→AA,bind_eq_some_iff→AN,map_some→AQ,toList_some→BW
open Option.some renaming injEq→AB,inj→AI
open Prod.mk renaming injEq→BT
open UInt8 renaming ofNat→As
set_option linter.unusedSimpArgs false
set_option linter.unusedVariables false
set_option maxRecDepth 1000000
set_option maxHeartbeats 4000000
namespace Go.Proofs.YtfdjdgdipgfmeaaGreatDoor
open Go.IntKind
noncomputable section
section
open Classical
theorem Zzb {α:Type}{p:Nat->α->Bool}{b:List α}(A:∀i x,p i x=true↔b[i]?=some x):∀(a:List α),a.length=b.length->(ZeN p a 0=true↔a=b):=by
 intro a C;constructor
 .intro B;apply Ad;intro i;by_cases hi:i<a.length
  .have hx:=A6 hi;have:=Zr8 B i _ hx;rw [AM,A]at this;rw [hx,this]
  .rw [BS yE,BS yE]
 .rintro rfl;have:∀(l c:List α),a=c++l->ZeN p l c.length=true:=by
   intro l;induction l with
   |nil=>intro c _;rfl
   |cons x l ih=>
    intro c e;simp only[ZeN,AD];refine ⟨(A _ _).2 (by rw [e];simp),?_⟩;have:=ih (c++[x]) (by rw [e];simp);simpa using this
  exact this a [] rfl
theorem ZBy (a b:Zm):a=b↔a.rel=b.rel/\a.args=b.args:=⟨fun e=>by rw [e];exact ⟨rfl,rfl⟩,fun h=>by cases a;cases b;simp_all⟩
theorem ZuI (a b:Zh):a=b↔a.kind=b.kind/\a.pattern=b.pattern/\a.left=b.left/\a.right=b.right:=⟨fun e=>by rw [e];exact ⟨rfl,rfl,rfl,rfl⟩,fun h=>by cases a;cases b;simp_all⟩
theorem ZAZ (a b:ZV):a=b↔a.kind=b.kind/\a.pattern=b.pattern:=⟨fun e=>by rw [e];exact ⟨rfl,rfl⟩,fun h=>by cases a;cases b;simp_all⟩
theorem ZyG (a b:Zq):a=b↔a.name=b.name/\a.priority=b.priority/\a.cond=b.cond/\a.thn=b.thn:=⟨fun e=>by rw [e];exact ⟨rfl,rfl,rfl,rfl⟩,fun h=>by cases a;cases b;simp_all⟩
theorem ZBh (a b:Zi):a=b↔a.facts=b.facts/\a.binding=b.binding:=⟨fun e=>by rw [e];exact ⟨rfl,rfl⟩,fun h=>by cases a;cases b;simp_all⟩
end
section
open Classical
def Qw (acc:List Zj) (s:BYT):List Zj:=if Yv s=true/\YO acc s=none then acc++[{ var:=s,value:=(⟨#[63]⟩:BYT)++ofL (Lib.itoa ((acc.length:Int)+1)) }] else acc
def ZhV (l:List BYT):List Zj:=l.foldl Qw []
def ZhC (to:List Zj) (s:BYT):BYT:=(YO to s).getD s
def ZsP (to:List Zj) (x:Zh):Zh:={ kind:=x.kind,pattern:={ rel:=x.pattern.rel,args:=x.pattern.args.map (ZhC to) },left:=ZhC to x.left,right:=ZhC to x.right }
def Qd (p:Zm):Zm:={ rel:=p.rel,args:=p.args.map (ZhC (ZhV p.args)) }
def Zk3 (r:Zq):List Zj:=ZhV (r.cond.flatMap ZaY)
def Zdh (r:Zq):List Zh:=r.cond.map (ZsP (Zk3 r))
theorem Zhe (acc:List Zj) (s:BYT):(Qw acc s).length<=acc.length+1:=by
 unfold Qw;split<;>simp
theorem ZhU:∀(l:List BYT) (acc:List Zj),(l.foldl Qw acc).length<=acc.length+l.length
 | [],_=>by simp
 |s::l,acc=>by
  have h1:=ZhU l (Qw acc s);have h2:=Zhe acc s;simp only[AP,AE];omega
def Zbp (q:ZA->Prop):List ZA->Nat->Option Nat
 | [],_=>none
 |y::r,i=>if 0<i/\q y then some i else Zbp q r (i+1)
def ZlL (p:Zm):List ZO->Nat->Option Nat
 | [],_=>none
 |y::r,i=>if y.shape=p then some i else ZlL p r (i+1)
def XQ (n:Zc) (p:Zm):Int×Zc:=
 match ZlL p n.alphas 0 with
 |some i=>((i:Int),n)
 |none=>((n.alphas.length:Int),{ n with alphas:=n.alphas++[{ shape:=p,facts:=[] }] })
def Z4 (n:Zc) (parent:Int) (x:Zh):Int×Zc:=
 match Zbp (fun y=>y.parent=parent/\y.cond=x) n.nodes 0 with
 |some i=>((i:Int),n)
 |none=>
  let a:Int×Zc:=if x.kind=1\/x.kind=2 then XQ n (Qd x.pattern) else (-1,n)
  ((n.nodes.length:Int),{ a.2 with nodes:=n.nodes++[{ parent:=parent,cond:=x,alpha:=a.1,tokens:=[] }] })
def X4 (l:List Zh) (s:Int×Zc):Int×Zc:=l.foldl (fun s x=>Z4 s.2 s.1 x) s
def X9 (n:Zc) (r:Zq):Zc:={ (X4 (Zdh r) (0,n)).2 with ends:=n.ends++[(X4 (Zdh r) (0,n)).1] }
def ZAn:Zh:={ kind:=0,pattern:={ rel:=⟨#[]⟩,args:=[] },left:=⟨#[]⟩,right:=⟨#[]⟩ }
def ZaT (R:List Zq) (t:List Zi):Zc:={ rules:=R,ends:=[],alphas:=[],nodes:=[{ parent:=-1,cond:=ZAn,alpha:=-1,tokens:=t }],facts:=[],tries:=0 }
def ZeP (R:List Zq) (t:List Zi):Zc:=R.foldl X9 (ZaT R t)
def Zgk (nodes:List ZA):Nat->Int->List Zh
 |0,_=>[]
 |f+1,i=>if 1<=i then (match nodes[i.toNat]? with|some y=>(if y.parent<i then Zgk nodes f y.parent else [])++[y.cond]|none=>[]) else []
def XU (nodes:List ZA) (i:Int):List Zh:=Zgk nodes i.toNat i
theorem ZgM {a:List ZA}{f:Nat}{i:Int}(h:i<1):Zgk a f i=[]:=by
 cases f with
 |zero=>rfl
 |succ f=>unfold Zgk;rw [yn yE]
theorem Zos {a:List ZA}:∀(f g:Nat) (i:Int),i.toNat<=f->i.toNat<=g->Zgk a f i=Zgk a g i
 |0,g,i,h,_=>by rw [ZgM yE,ZgM yE]
 |f+1,0,i,_,h=>by rw [ZgM yE,ZgM yE]
 |f+1,g+1,i,h,h'=>by
  unfold Zgk;split
  .cases a[i.toNat]? with
   |none=>rfl
   |some y=>
    simp only;split
    .rw [Zos f g y.parent yE yE]
    .rfl
  .rfl
theorem ZjB {a:List ZA}{i:Int}{y:ZA}(C:1<=i) (A:a[i.toNat]?=some y) (B:y.parent<i):XU a i=XU a y.parent++[y.cond]:=by
 unfold XU;obtain ⟨k,hk⟩:∃k,i.toNat=k+1:=⟨i.toNat - 1,yE⟩
 rw [hk];show (if 1<=i then (match a[i.toNat]? with|some y=>(if y.parent<i then Zgk a k y.parent else [])++[y.cond]|none=>[]) else [])=_
 rw [yp C,A];simp only[yp B];rw [Zos k y.parent.toNat y.parent yE (AG _)]
theorem Zcy {a:List ZA}{i:Int}(h:i<1):XU a i=[]:=ZgM h
def QF (y:ZA):Int×Zh:=(y.parent,y.cond)
theorem Zo6 {a b:List ZA}(h:a.map QF=b.map QF):∀(f:Nat) (i:Int),Zgk a f i=Zgk b f i
 |0,_=>rfl
 |f+1,i=>by
  have A:(a[i.toNat]?).map QF=(b[i.toNat]?).map QF:=by rw [<-A9,<-A9,h]
  unfold Zgk;split
  .cases ha:a[i.toNat]? with
   |none=>rw [ha]at A;cases hb:b[i.toNat]? with
    |none=>rfl
    |some y=>rw [hb]at A;simp at A
   |some x=>rw [ha]at A;cases hb:b[i.toNat]? with
    |none=>rw [hb]at A;simp at A
    |some y=>
     rw [hb]at A;simp only[AQ,AB,QF,BT]at A;obtain ⟨C,B⟩:=A;simp only[C,B,Zo6 h f]
  .rfl
theorem Zfe {a b:List ZA}(h:a.map QF=b.map QF) (i:Int):XU a i=XU b i:=Zo6 h _ _
theorem ZqH {a:List ZA}(z:List ZA):∀(f:Nat) (i:Int),i<a.length->Zgk (a++z) f i=Zgk a f i
 |0,_,_=>rfl
 |f+1,i,h=>by
  unfold Zgk;split
  .rw [AT yE];cases ha:a[i.toNat]? with
   |none=>rfl
   |some y=>
    simp only;split
    .rw [ZqH z f y.parent yE]
    .rfl
  .rfl
theorem Zrt {a:List ZA}(z:List ZA) (i:Int) (h:i<a.length):XU (a++z) i=XU a i:=ZqH z _ _ h
structure Zpw (n:Zc):Prop where
 one:1<=n.nodes.length
 par:∀i y,1<=i->n.nodes[i]?=some y->0<=y.parent/\y.parent<((i:Nat):Int)
 few:∀i:Nat,i<n.nodes.length->(XU n.nodes ((i:Nat):Int)).length<=4
theorem ZmU {q:ZA->Prop}:∀{l:List ZA}{i k:Nat},Zbp q l i=some k->∃y,i<=k/\l[k - i]?=some y/\0<k/\q y
 | [],_,_,h=>by simp [Zbp]at h
 |y::r,i,k,h=>by
  unfold Zbp at h;split at h
  .rename_i A;obtain rfl:=AI h;exact ⟨y,AG _,yG,A.1,A.2⟩
  .obtain ⟨z,D,C,B⟩:=ZmU h;refine ⟨z,yE,?_,B⟩;rw [show k - i=(k - (i+1))+1 by omega,BU];exact C
theorem ZyZ {n:Zc}{p:Int}{x:Zh}(h:Zpw n) (B:0<=p/\p<n.nodes.length) (I:(XU n.nodes p).length<=3):
  Zpw (Z4 n p x).2/\0<=(Z4 n p x).1/\(Z4 n p x).1<(Z4 n p x).2.nodes.length/\(XU (Z4 n p x).2.nodes (Z4 n p x).1).length=(XU n.nodes p).length+1/\(Z4 n p x).2.nodes.length<=n.nodes.length+1/\(Z4 n p x).2.alphas.length<=n.alphas.length+1/\n.nodes.length<=(Z4 n p x).2.nodes.length:=by
 unfold Z4
 split
 .rename_i i hi
  obtain ⟨y,K,C,G,F,J⟩:=ZmU hi
  rw [Nat.sub_zero]at C
  have b:=(AC.1 C).1
  have d:=h.par i y G C
  refine ⟨h,yE,by simp only;omega,?_,by simp only;omega,by simp only;omega,AG _⟩
  simp only
  rw [ZjB (y:=y) yE (by simpa using C) d.2,F]
  simp
 .have E:∀a:Int×Zc,a=(if x.kind=1\/x.kind=2 then XQ n (Qd x.pattern) else (-1,n))->a.2.nodes=n.nodes/\a.2.alphas.length<=n.alphas.length+1:=by
   rintro a rfl
   split
   .unfold XQ
    split
    .exact ⟨rfl,by simp only;omega⟩
    .exact ⟨rfl,yG⟩
   .exact ⟨rfl,by simp only;omega⟩
  generalize (if x.kind=1\/x.kind=2 then XQ n (Qd x.pattern) else (-1,n))=a at *
  obtain ⟨L,H⟩:=E a rfl
  simp only
  have D:(n.nodes++[({ parent:=p,cond:=x,alpha:=a.1,tokens:=[] }:ZA)])[n.nodes.length]?=some { parent:=p,cond:=x,alpha:=a.1,tokens:=[] }:=by simp
  have c:XU (n.nodes++[({ parent:=p,cond:=x,alpha:=a.1,tokens:=[] }:ZA)]) ((n.nodes.length:Nat):Int)=XU n.nodes p++[x]:=by
   rw [ZjB (y:={ parent:=p,cond:=x,alpha:=a.1,tokens:=[] }) (by have:=h.one;omega) yG B.2,Zrt _ _ B.2]
  refine ⟨⟨yG,fun i y hi A=>?_,fun i hi=>?_⟩,yE,by simp;omega,by rw [c];simp,yG,by simpa using H,yG⟩
  .rcases An i n.nodes.length with b|f
   .rw [AT b]at A
    exact h.par i y hi A
   .have e:i=n.nodes.length:=by
     have:=(AC.1 A).1
     simp at this;omega
    subst e
    rw [D]at A
    obtain rfl:=AI A
    exact ⟨B.1,B.2⟩
  .rcases An i n.nodes.length with b|f
   .rw [Zrt _ _ yE];exact h.few i b
   .have e:i=n.nodes.length:=by simp at hi;omega
    subst e
    rw [c];simp;omega
theorem ZwT:∀(l:List Zh) (p:Int) (n:Zc),Zpw n->0<=p/\p<n.nodes.length->(XU n.nodes p).length+l.length<=4->
  Zpw (X4 l (p,n)).2/\(X4 l (p,n)).2.nodes.length<=n.nodes.length+l.length/\(X4 l (p,n)).2.alphas.length<=n.alphas.length+l.length/\n.nodes.length<=(X4 l (p,n)).2.nodes.length
 | [],p,n,h,_,_=>⟨h,by simp [X4],by simp [X4],by simp [X4]⟩
 |x::l,p,n,h,hp,hl=>by
  simp only[AE]at hl ⊢
  obtain ⟨C,c2,B,I,H,G,F⟩:=ZyZ (x:=x) h hp yE
  have e:X4 (x::l) (p,n)=X4 l ((Z4 n p x).1,(Z4 n p x).2):=rfl
  rw [e]
  obtain ⟨A,w2,E,D⟩:=ZwT l (Z4 n p x).1 (Z4 n p x).2 C ⟨c2,B⟩ yE
  exact ⟨A,yE,yE,yE⟩
theorem ZkH (r:Zq):(Zdh r).length=r.cond.length:=by simp [Zdh]
theorem Zr6 {n:Zc}{r:Zq}(h:Zpw n) (C:r.cond.length<=4):Zpw (X9 n r)/\(X9 n r).nodes.length<=n.nodes.length+4/\(X9 n r).alphas.length<=n.alphas.length+4/\(X9 n r).ends.length=n.ends.length+1:=by
 have h1:=h.one
 obtain ⟨A,w2,B,_⟩:=ZwT (Zdh r) 0 n h ⟨yE,yE⟩ (by rw [Zcy yE,ZkH];simpa using C)
 rw [ZkH]at w2 B
 exact ⟨⟨A.one,A.par,A.few⟩,by show (X4 (Zdh r) (0,n)).2.nodes.length<=_;omega,by show (X4 (Zdh r) (0,n)).2.alphas.length<=_;omega,by simp [X9]⟩
theorem Zmd (R:List Zq) (t:List Zi):Zpw (ZaT R t):=⟨by simp [ZaT],fun i y hi A=>by
 have:=(AC.1 A).1
 simp [ZaT]at this;omega,fun i hi=>by
 simp [ZaT]at hi;subst hi
 rw [Zcy yE];simp⟩
theorem ZrB:∀(l:List Zq) (n:Zc),Zpw n->(∀r∈l,r.cond.length<=4)->Zpw (l.foldl X9 n)/\(l.foldl X9 n).nodes.length<=n.nodes.length+4*l.length/\(l.foldl X9 n).alphas.length<=n.alphas.length+4*l.length
 | [],n,h,_=>⟨h,yG,yG⟩
 |r::l,n,h,hl=>by
  obtain ⟨B,F,E,_⟩:=Zr6 h (hl r yG)
  obtain ⟨A,w2,D⟩:=ZrB l (X9 n r) B fun r C=>hl r (by simp [C])
  simp only[AP,AE]
  exact ⟨A,yE,yE⟩
def rt (t:List Zi) (n:Zc):Zc:={ n with nodes:=match n.nodes with | []=>[]|y::r=>{ y with tokens:=t }::r }
theorem ZAS {q:ZA->Prop}{t:List Zi}{n:Zc}:Zbp q (rt t n).nodes 0=Zbp q n.nodes 0:=by
 unfold rt;simp only;cases n.nodes with
 |nil=>rfl
 |cons y r=>simp [Zbp]
theorem ZDc {t:List Zi}{n:Zc}:(rt t n).nodes.length=n.nodes.length:=by
 unfold rt;cases hn:n.nodes<;>simp
theorem Zz3 {t:List Zi}{n:Zc}{p:Zm}:XQ (rt t n) p=((XQ n p).1,rt t (XQ n p).2):=by
 unfold XQ;rw [show (rt t n).alphas=n.alphas from rfl];split<;>rfl
theorem ZyS {t:List Zi}{n:Zc}{p:Int}{x:Zh}(h:1<=n.nodes.length):Z4 (rt t n) p x=((Z4 n p x).1,rt t (Z4 n p x).2):=by
 unfold Z4;rw [ZAS];split
 .rfl
 .simp only[ZDc];have b:∀a:Int×Zc,a.2.nodes=n.nodes->((n.nodes.length:Int),({ rt t a.2 with nodes:=(rt t n).nodes++[{ parent:=p,cond:=x,alpha:=a.1,tokens:=[] }] }:Zc))=((n.nodes.length:Int),rt t { a.2 with nodes:=n.nodes++[{ parent:=p,cond:=x,alpha:=a.1,tokens:=[] }] }):=by
   intro a A;congr 1
   unfold rt;cases hn:n.nodes with
   |nil=>rw [hn]at h;simp at h
   |cons y r=>simp
  split
  .rw [Zz3];refine b (XQ n (Qd x.pattern)) ?_;unfold XQ;split<;>rfl
  .exact b (-1,n) rfl
theorem ZwJ {t:List Zi}:∀(l:List Zh) (p:Int) (n:Zc),1<=n.nodes.length->X4 l (p,rt t n)=((X4 l (p,n)).1,rt t (X4 l (p,n)).2)
 | [],_,_,_=>rfl
 |x::l,p,n,h=>by
  have e:∀m,X4 (x::l) (p,m)=X4 l ((Z4 m p x).1,(Z4 m p x).2):=fun _=>rfl;rw [e,e,ZyS h];refine ZwJ l _ _ ?_;unfold Z4;split
  .exact h
  .simp
theorem ZBj {t:List Zi}{n:Zc}{r:Zq}(h:1<=n.nodes.length):X9 (rt t n) r=rt t (X9 n r):=by
 unfold X9;rw [ZwJ _ _ _ h];rfl
theorem ZAr {t:List Zi}:∀(l:List Zq) (n:Zc),Zpw n->(∀r∈l,r.cond.length<=4)->l.foldl X9 (rt t n)=rt t (l.foldl X9 n)
 | [],_,_,_=>rfl
 |r::l,n,h,hl=>by
  simp only[AP]
  rw [ZBj h.one]
  exact ZAr l _ (Zr6 h (hl r yG)).1 fun r A=>hl r (by simp [A])
theorem Zzz {R:List Zq}(A:∀r∈R,r.cond.length<=4) (t:List Zi):ZeP R t=rt t (ZeP R []):=by
 unfold ZeP
 rw [<-ZAr R (ZaT R []) (Zmd R []) A]
 rfl
end
section
open Classical
theorem Zyu {α:Type}{a b:List α}{body:Nat->α->Unit->Option (Unit ⊕ Bool)}{fin:Unit->Option Bool}(h:a.length=b.length) (C:∀i x y,a[i]?=some x->b[i]?=some y->body i x ()=some (bif decide (x=y) then .inl () else .inr false)):Zx body fin a 0 ()=if a=b then fin () else some false:=by
 rw [ZbP (p:=fun i x=>decide (b[i]?=some x)) (r:=false)]
 .have:=Zzb (p:=fun i x=>decide (b[i]?=some x)) (b:=b) (fun i x=>by rw [decide_eq_true_iff]) a h;by_cases e:a=b
  .rw [yp (this.2 e),yp e]
  .rw [yn fun B=>e (this.1 B),yn e]
 .intro j x A;have hj:=(AC.1 A).1;have c:b[j]?=some b[j]:=A6 yE;rw [AM,C j x b[j] A c,c];congr 2
  rw [AU,decide_eq_true_iff,decide_eq_true_iff];exact ⟨fun e=>by rw [e],fun e=>(AI e).symm⟩
theorem ZmS {α:Type}{a b:List α}{body:Nat->α->Unit->Option (Unit ⊕ Bool)}(h:a.length=b.length) (A:∀i x y,a[i]?=some x->b[i]?=some y->body i x ()=some (bif decide (x=y) then .inl () else .inr false)):Zx body (fun _=>some true) a 0 ()=some (decide (a=b)):=by
 rw [Zyu h A];by_cases e:a=b
 .rw [yp e,decide_eq_true e]
 .rw [yn e,decide_eq_false e]
theorem Zia {α:Type}{a b:List α}(h:¬a.length=b.length):(((a.length:Int)) != (b.length:Int))=true:=by simp;omega
theorem Zid {α:Type}{a b:List α}(h:a.length=b.length):¬(((a.length:Int)) != (b.length:Int))=true:=by simp;omega
theorem ZBO {α:Type}{a b:List α}(h:¬a.length=b.length):decide (a=b)=false:=decide_eq_false fun e=>h (by rw [e])
theorem Zyi (p:Prop) [Decidable p]:(if decide p=true then some (Sum.inl ()) else some (Sum.inr false):Option (Unit ⊕ Bool))=some (bif decide p then .inl () else .inr false):=by
 by_cases h:p<;>simp [h]
theorem QB (a b:Zm):Qx a b=some (decide (a=b)):=by
 unfold Qx;by_cases B:a.rel=b.rel
 .rw [yp (ZJ.2 B),Zi1,A0];by_cases A:a.args=b.args
  .rw [decide_eq_true A,decide_eq_true ((ZBy a b).2 ⟨B,A⟩)]
  .rw [decide_eq_false A,decide_eq_false fun e=>A (by rw [e])]
 .rw [yn (by rw [ZJ];exact B),decide_eq_false fun e=>B (by rw [e])]
theorem ZbT (a b:Zm):ZaW a b=some (decide (a=b)):=QB a b
theorem ZdP (a b:Zh):ZbK a b=some (decide (a=b)):=by
 unfold ZbK;by_cases h:a=b
 .subst h;rw [yp yG,yp (ZJ.2 rfl),yp (ZJ.2 rfl),QB,A0];simp
 .rw [decide_eq_false h];split
  .rename_i C;split
   .rename_i B;split
    .rename_i A;rw [QB,A0,decide_eq_false fun e=>h ((ZuI a b).2 ⟨by simpa using C,e,ZJ.1 B,ZJ.1 A⟩)]
    .rfl
   .rfl
  .rfl
theorem Zki (a b:Zh):Zdv a b=some (decide (a=b)):=by
 unfold Zdv;by_cases h:a=b
 .subst h;rw [yp yG,ZbT,A0,yp yG,yp (ZJ.2 rfl),ZJ.2 rfl];simp
 .rw [decide_eq_false h];split
  .rename_i D;rw [ZbT,A0];split
   .rename_i C;split
    .rename_i B;congr 1
     rw [Ae];intro A;exact h ((ZuI a b).2 ⟨by simpa using D,by simpa using C,ZJ.1 B,ZJ.1 A⟩)
    .rfl
   .rfl
  .rfl
theorem Zyr {a b:List ZV}{f:Zm->Zm->Option Bool}(D:∀x y,f x y=some (decide (x=y))) (h:a.length=b.length):Zx (σ:=Unit)
  (fun (g:Nat) (c:ZV) _=>(atI b (g:Int)).bind fun d=>if (c.kind != d.kind)=true then some (.inr false) else (f c.pattern d.pattern).bind fun j=>if j=true then some (.inl ()) else some (.inr false)) (fun _=>some true) a 0 ()=some (decide (a=b)):=by
 refine ZmS h fun i x y E C=>?_;rw [Xi,C,A0];by_cases B:x.kind=y.kind
 .rw [yn (by simp [B]),D,A0];by_cases A:x.pattern=y.pattern
  .rw [decide_eq_true A,decide_eq_true ((ZAZ x y).2 ⟨B,A⟩)];rfl
  .rw [decide_eq_false A,decide_eq_false fun e=>A (by rw [e])];rfl
 .rw [yp (by simp [B]),decide_eq_false fun e=>B (by rw [e])];rfl
theorem ZpI (a b:Zq):Zfq a b=some (decide (a=b)):=by
 unfold Zfq;by_cases F:a.name=b.name
 .rw [yp (ZJ.2 F)];by_cases E:a.priority=b.priority
  .rw [yn (by simp [E])];by_cases D:a.cond.length=b.cond.length
   .rw [yn (Zid D)];by_cases C:a.thn.length=b.thn.length
    .rw [yn (Zid C),Zyr QB C,Zyu D fun i x y H G=>by rw [Xi,G,A0,ZdP,A0,Zyi]];by_cases B:a.cond=b.cond
     .rw [yp B];by_cases A:a.thn=b.thn
      .rw [decide_eq_true A,decide_eq_true ((ZyG a b).2 ⟨F,E,B,A⟩)]
      .rw [decide_eq_false A,decide_eq_false fun e=>A (by rw [e])]
     .rw [yn B,decide_eq_false fun e=>B (by rw [e])]
    .rw [yp (Zia C),decide_eq_false fun e=>C (by rw [e])]
   .rw [yp (Zia D),decide_eq_false fun e=>D (by rw [e])]
  .rw [yp (by simp [E]),decide_eq_false fun e=>E (by rw [e])]
 .rw [yn (by rw [ZJ];exact F),decide_eq_false fun e=>F (by rw [e])]
theorem ZoC (a b:List Zq):Zd9 a b=some (decide (a=b)):=by
 unfold Zd9;by_cases h:a.length=b.length
 .rw [yn (Zid h),ZmS h fun i x y B A=>by rw [Xi,A,A0,ZpI,A0,Zyi]]
 .rw [yp (Zia h),ZBO h]
theorem ZeQ (a b:List Zf):Zbw a b=some (decide (a=b)):=by
 unfold Zbw;by_cases h:a.length=b.length
 .rw [yn (Zid h),ZmS h fun i x y B A=>by rw [Xi,A,A0,ZaU,A0,Zyi]]
 .rw [yp (Zia h),ZBO h]
theorem ZrV (a b:List Zf):Zej a b=some (decide (a=b)):=ZeQ a b
theorem ZzF (x y:Zj):x=y↔x.var=y.var/\x.value=y.value:=⟨fun e=>by rw [e];exact ⟨rfl,rfl⟩,fun h=>by cases x;cases y;simp_all⟩
theorem ZrX (a b:List Zj):Zer a b=some (decide (a=b)):=by
 unfold Zer;by_cases h:a.length=b.length
 .rw [yn (Zid h),ZmS h fun i x y C B=>by
   rw [Xi,B,A0];by_cases e:x=y
   .rw [yp (by rw [e];simp [ZJ]),decide_eq_true e];rfl
   .rw [yn (fun A=>e (by
     rw [AD,ZJ,ZJ]at A;exact (ZzF x y).2 A)),decide_eq_false e];rfl]
 .rw [yp (Zia h),ZBO h]
theorem Ztn (a b:List Int):Zfo a b=some (decide (a=b)):=by
 unfold Zfo;by_cases h:a.length=b.length
 .rw [yn (Zid h),ZmS h fun i x y B A=>by
   rw [Xi,A,A0];by_cases e:x=y
   .rw [yn (by simp [e])];simp [e]
   .rw [yp (by simp [e])];simp [e]]
  exact congrArg some (decide_eq_decide.2 Iff.rfl)
 .rw [yp (Zia h)];have:¬a=b:=fun e=>h (by rw [e]);simp [this]
theorem Zh8 (a b:List Zi):Zc2 a b=some (decide (a=b)):=by
 unfold Zc2;by_cases h:a.length=b.length
 .rw [yn (Zid h),ZmS h fun i x y C B=>by
   rw [Xi,B,A0,ZeQ,A0];by_cases A:x.facts=y.facts
   .rw [yp (decide_eq_true A),ZrX,A0,Zyi];congr 2
    rw [AU,decide_eq_true_iff,decide_eq_true_iff];exact ⟨fun e=>(ZBh x y).2 ⟨A,e⟩,fun e=>by rw [e]⟩
   .rw [yn (by simpa using A),decide_eq_false fun e=>A (by rw [e])];rfl]
 .rw [yp (Zia h),ZBO h]
theorem ZlA (a b:List Zi):Zc9 a b=some (decide (a=b)):=Zh8 a b
theorem Zn2 (s:BYT):∀(l:List Zj) (i:Nat),Zx (σ:=Unit) (fun (_:Nat) (A:Zj) _=>if (sEq A.var s)=true then some (.inr A.value) else some (.inl ())) (fun _=>some s) l i ()=some (ZhC l s)
 | [],i=>rfl
 |x::l,i=>by
  unfold ZhC YO;by_cases h:x.var=s
  .rw [Yp (by rw [yp (ZJ.2 h)]),yp h];rfl
  .rw [ZP (by rw [yn (by rw [ZJ];exact h)]),yn h];exact Zn2 s l (i+1)
theorem ZdG (s:BYT) (A:List Zj):ZaX s A=some (ZhC A s):=Zn2 s A 0
theorem ZfS (s:BYT) (A:List Zj):ZbI s A=some (ZhC A s):=Zn2 s A 0
theorem Zib (x:Zh) (A:List Zj) (h:x.pattern.args.length<=1048576):ZbV x A=some (ZsP A x):=by
 unfold ZbV;rw [ZdG,A0,ZdG,A0,Xw (g:=ZhC A)]
 .rfl
 .intro j y s B hs;rw [ZdG,A0,Zn _ (by simp at hs;omega)]
theorem ZeC (x:Zh) (A:List Zj) (h:x.pattern.args.length<=1048576):Qn x A=some (ZsP A x):=by
 unfold Qn;rw [ZfS,A0,ZfS,A0,Xw (g:=ZhC A)]
 .rfl
 .intro j y s B hs;rw [ZfS,A0,Zn _ (by simp at hs;omega)]
theorem Zin (p:Zj) (y:BYT):∀l:List Zj,YO (l++[p]) y=match YO l y with|some v=>some v|none=>if p.var=y then some p.value else none
 | []=>by simp [YO]
 |x::l=>by
  simp only[BV,YO];split
  .rfl
  .exact Zin p y l
theorem Zwb {n:Int}(h:Zem n):(⟨#[63]⟩:BYT).size+(ofL (Lib.itoa n)).size<=9223372036854775807:=by
 have:=ZxI h;have e:(⟨#[63]⟩:BYT).size=1:=rfl;omega
theorem ZhZ:∀(l:List BYT) (i:Nat) (A:List (BYT×Bool)) (acc:List Zj),(∀y,ZgK A y false=true↔YO acc y≠none)->acc.length+l.length<=4194304->
  Zx (σ:=(List (BYT×Bool))×(List Zj)) (fun (_:Nat) (a:BYT) s=>match s with|(mp_11,row_12)=>(Zc6 a).bind fun c=>if c=true then if (ZgK mp_11 a false)=true then some (.inl (mp_11,row_12)) else
   ((ZaB (i64.wrap ((row_12.length:Int)+1))).bind fun b=>chk ((⟨#[63]⟩:BYT).size+b.size<=9223372036854775807) <| chk (row_12.length+1<=1073741824) <| some (.inl ((Zmz mp_11 a true),(row_12++[({ var:=a,value:=((⟨#[63]⟩:BYT)++b) }:Zj)])))) else some (.inl (mp_11,row_12)))
   (fun s=>match s with|(_,row_12)=>some row_12) l i (A,acc)=some (l.foldl Qw acc)
 | [],_,_,_,_,_=>rfl
 |x::l,i,A,acc,hm,hl=>by
  simp only[AE]at hl;simp only[AP];have E:Zem ((acc.length:Int)+1):=⟨yE,yE⟩
  by_cases C:Yv x=true
  .by_cases D:YO acc x=none
   .have B:Qw acc x=acc++[{ var:=x,value:=(⟨#[63]⟩:BYT)++ofL (Lib.itoa ((acc.length:Int)+1)) }]:=yp ⟨C,D⟩;rw [ZP (s':=(Zmz A x true,Qw acc x)) (by
     simp only[Zbi,A0,C,if_true];rw [yn (by rw [hm];simpa using D),Qj E.1 E.2,Zc1 E,A0,Zn _ (Zwb E),Zn _ yE,B])]
    refine ZhZ l (i+1) _ _ (fun y=>?_) (by rw [B];simp;omega);rw [Zzm,B,Zin];by_cases F:y=x
    .subst F;simp [D]
    .rw [yn F,hm];have d:¬x=y:=fun e=>F e.symm;cases YO acc y<;>simp [d]
   .have B:Qw acc x=acc:=yn fun h=>D h.2;rw [ZP (s':=(A,acc)) (by
     simp only[Zbi,A0,C,if_true];rw [yp ((hm x).2 D)]),B]
    exact ZhZ l (i+1) A acc hm yE
  .have B:Qw acc x=acc:=yn fun h=>C h.1;rw [ZP (s':=(A,acc)) (by
    simp only[Zbi,A0];rw [yn C]),B]
   exact ZhZ l (i+1) A acc hm yE
theorem Zh7 (l:List BYT) (h:l.length<=4194304):ZaH l=some (ZhV l):=ZhZ l 0 [] [] (fun y=>by simp [ZgK,Zjz,YO]) (by simpa using h)
theorem Zt8 {acc:List Zj}{s:BYT}{ρ:Type}{z:ρ}{fin:Unit->Option ρ}:∀(l:List Zj) (i:Nat),Zx (σ:=Unit) (fun (_:Nat) (A:Zj) _=>if (sEq A.var s)=true then some (.inr z) else some (.inl ())) fin l i ()=if YO l s=none then fin () else some z
 | [],_=>by simp [YO,Zx]
 |x::l,i=>by
  unfold YO;by_cases h:x.var=s
  .rw [Yp (by rw [yp (ZJ.2 h)]),yp h,yn yG]
  .rw [ZP (by rw [yn (by rw [ZJ];exact h)]),yn h];exact Zt8 (acc:=acc) l (i+1)
theorem ZiF (acc:List Zj) (s:BYT) (h:acc.length<=4194304):ZaP acc s=some (Qw acc s):=by
 unfold ZaP Qw;have A:Zem ((acc.length:Int)+1):=⟨yE,yE⟩
 rw [ZaJ,A0];by_cases B:Yv s=true
 .rw [yp B,Zt8 (acc:=acc)];by_cases C:YO acc s=none
  .rw [yp C,yp ⟨B,C⟩,Qj A.1 A.2,Ziw A,A0,Zn _ (Zwb A),Zn _ yE]
  .rw [yn C,yn fun h=>C h.2]
 .rw [yn B,yn fun h=>B h.1]
end
section
theorem ZgU (p:Zm) (h:p.args.length<=1048576):Qu p=some p:=by
 unfold Qu;rw [Zbq _ yE];rfl
theorem ZkO (p:Zm) (h:p.args.length<=1048576):Qe p=some p:=by
 unfold Qe;rw [ZhS _ yE];rfl
theorem ZaV (x:Zh) (h:x.pattern.args.length<=1048576):Xv x=some x:=by
 unfold Xv;rw [ZgU _ h];rfl
theorem ZnZ (l:List Zh) (B:l.length<=1048576) (h:∀x∈l,x.pattern.args.length<=1048576):Zd4 l=some l:=by
 unfold Zd4;rw [Xw (g:=fun y=>y)]
 .simp
 .intro j y s A hs;rw [ZaV y (h y A),A0,Zn _ (by simp at hs;omega)]
theorem Zp1 (r:Zq) (h:Zaf r):Zfi r=some r:=by
 unfold Zfi;rw [ZnZ _ h.1 h.3,A0,Xw (g:=fun y=>y)]
 .simp
 .intro j y s A hs;have hl:=h.2;rw [ZgU _ (h.4 y A),A0,Zn _ (by simp at hs;omega)]
theorem Zuc (r:Zq) (h:Zaf r):ZiR r=some r:=by
 unfold ZiR;rw [Xw (g:=fun y=>y)]
 .simp only[AJ,Ag];rw [Xw (g:=fun y=>y)]
  .simp
  .intro j y s A hs;have hl:=h.2;rw [ZkO _ (h.4 y A),A0,Zn _ (by simp at hs;omega)]
 .intro j y s A hs;have hl:=h.1;rw [Zij y (h.3 y A),A0,Zn _ (by simp at hs;omega)]
open Classical
end
section
open Classical
theorem Zpt (p:Zm):(ZsP (ZhV p.args) { kind:=0,pattern:=p,left:=⟨#[]⟩,right:=⟨#[]⟩ }).pattern=Qd p:=rfl
theorem ZlU (p:Zm) (h:p.args.length<=1048576):ZeY p=some (Qd p):=by
 unfold ZeY;rw [Zh7 _ yE,A0,Zib _ _ h,A0,Zpt]
theorem ZkX {ρ:Type}{fin:List Zj->Option ρ}:∀(l:List BYT) (i:Nat) (acc:List Zj),acc.length+l.length<=4194304->Zx (σ:=(List Zj)) (fun (_:Nat) (B:BYT) A=>(ZaP A B).bind fun a=>some (.inl a)) fin l i acc=fin (l.foldl Qw acc)
 | [],_,_,_=>rfl
 |x::l,i,acc,h=>by
  simp only[AE]at h;have:=Zhe acc x;rw [ZP (s':=Qw acc x) (by rw [ZiF _ _ yE];rfl)];exact ZkX l (i+1) _ yE
theorem Zlt (p:Zm) (h:p.args.length<=1048576):Ze3 p=some (Qd p):=by
 unfold Ze3;rw [ZkX _ _ _ (by simp;omega),ZeC _ _ h,A0];exact congrArg some (Zpt p)
theorem Zw0 {l:List Zh}(h:∀x∈l,x.pattern.args.length<=1048574) (B:l.length<=4):(l.flatMap ZaY).length<=1048576*l.length:=by
 clear B;induction l with
 |nil=>simp
 |cons x l ih=>
  have h1:=h x yG;have h2:=ih fun y A=>h y (by simp [A]);simp only[List.flatMap_cons,AF,ZaY,AE,Ah];omega
theorem Zva (x:Zh) (h:x.pattern.args.length<=1048576):Zcv x=some (ZaY x):=by
 unfold Zcv;rw [Zbq _ yE,A0,Zn _ yE];rfl
structure SmN (r:Zq):Prop where
 c4:r.cond.length<=4
 ca:∀x∈r.cond,x.pattern.args.length<=1048574
theorem Znj (r:Zq) (h:SmN r):Zdi r=some (Zk3 r):=by
 unfold Zdi Zk3;have key:∀(l:List Zh) (i:Nat) (acc:List BYT),(∀x∈l,x.pattern.args.length<=1048574)->acc.length+1048576*l.length<=8388608->
   Zx (σ:=(List BYT)) (fun (_:Nat) (c:Zh) a=>(Zcv c).bind fun b=>chk (a.length+b.length<=1073741824) <| some (.inl (a++b))) (fun a=>(ZaH a).bind fun d=>some d) l i acc=(ZaH (acc++l.flatMap ZaY)).bind fun v=>some v:=by
  intro l;induction l with
  |nil=>intro i acc _ _;simp [Zx]
  |cons x l ih=>
   intro i acc hs C;have hx:=hs x yG;simp only[AE]at C;have B:(ZaY x).length=x.pattern.args.length+2:=by simp [ZaY]
   rw [ZP (s':=acc++ZaY x) (by rw [Zva _ yE,A0,Zn _ yE]),ih _ _ (fun y A=>hs y (by simp [A])) (by rw [AF,B];omega)];simp [Ax]
 have hc:=h.c4;rw [key r.cond 0 [] h.ca (by simp;omega),AJ,Zh7 _ (by have:=Zw0 h.ca hc;omega)];rfl
theorem Znh (r:Zq) (h:SmN r):ZcV r=some (Zk3 r):=by
 unfold ZcV Zk3 ZhV;have key:∀(l:List Zh) (i:Nat) (acc:List Zj),(∀x∈l,x.pattern.args.length<=1048574)->acc.length+1048576*l.length<=4194304->
   Zx (σ:=(List Zj)) (fun (_:Nat) (c:Zh) a=>Zx (σ:=(List Zj)) (fun (_:Nat) (d:BYT) b=>(ZaP b d).bind fun e=>some (.inl e)) (fun b=>(ZaP b c.left).bind fun f=>(ZaP f c.right).bind fun g=>some (.inl g)) c.pattern.args 0 a) (fun a=>some a) l i acc=some ((l.flatMap ZaY).foldl Qw acc):=by
  intro l;induction l with
  |nil=>intro i acc _ _;rfl
  |cons x l ih=>
   intro i acc hs B;have hx:=hs x yG;simp only[AE]at B;have h1:=ZhU x.pattern.args acc;have h2:=Zhe (x.pattern.args.foldl Qw acc) x.left;have h3:=Zhe (Qw (x.pattern.args.foldl Qw acc) x.left) x.right;rw [ZP (s':=Qw (Qw (x.pattern.args.foldl Qw acc) x.left) x.right) (by
    rw [ZkX _ _ _ yE,ZiF _ _ yE,A0,ZiF _ _ yE,A0])]
   rw [ih _ _ (fun y A=>hs y (by simp [A])) yE];simp [ZaY,List.foldl_append]
 have hc:=h.c4;rw [key r.cond 0 [] h.ca (by simp;omega)]
theorem ZnD (r:Zq) (h:SmN r):ZcX r=some (Zdh r):=by
 unfold ZcX;rw [Znj r h,A0,Xw (g:=ZsP (Zk3 r))]
 .rfl
 .intro j y s A hs;have hc:=h.c4;rw [Zib _ _ (by have:=h.ca y A;omega),A0,Zn _ (by simp at hs;omega)]
theorem Znz (r:Zq) (h:SmN r):ZcY r=some (Zdh r):=by
 unfold ZcY;rw [Znh r h,A0,Xw (g:=ZsP (Zk3 r))]
 .rfl
 .intro j y s A hs;have hc:=h.c4;rw [ZeC _ _ (by have:=h.ca y A;omega),A0,Zn _ (by simp at hs;omega)]
theorem Zm0 {r:Zq}(h:SmN r):∀x∈Zdh r,x.pattern.args.length<=1048574:=fun x B=>by
 obtain ⟨y,A,rfl⟩:=AW.1 B;have:=h.ca y A;simpa [ZsP]using this
theorem ZkG {ρ:Type}{f:Zm->Zm->Option Bool}(A:∀x y,f x y=some (decide (x=y))) {g:Nat->ρ}{fin:Unit->Option ρ}(p:Zm):∀(l:List ZO) (i:Nat),Zx (σ:=Unit) (fun (D:Nat) (B:ZO) _=>(f B.shape p).bind fun C=>if C=true then some (.inr (g D)) else some (.inl ())) fin l i ()=match ZlL p l i with|some k=>some (g k)|none=>fin ()
 | [],_=>rfl
 |x::l,i=>by
  unfold ZlL;by_cases h:x.shape=p
  .rw [Yp (by rw [A,A0,yp (decide_eq_true h)]),yp h]
  .rw [ZP (by rw [A,A0,yn (by simpa using h)]),yn h];exact ZkG A p l (i+1)
theorem Zei {n:Nat}(h:n<=1048576):i64.wrap ((((n+1:Nat)):Int) - 1)=(n:Int):=by
 rw [show (((n+1:Nat)):Int) - 1=(n:Int) by omega,Qj yE yE]
theorem ZoX (n:Zc) (p:Zm) (h:n.alphas.length<=1000):QT n p=some (XQ n p):=by
 unfold QT XQ;rw [ZkG QB (g:=fun i=>((i:Int),n))];cases ZlL p n.alphas 0 with
 |some k=>rfl
 |none=>simp only;rw [Zn _ yE,Zei yE]
theorem ZlP (n:Zc) (p:Zm) (h:n.alphas.length<=1000):Ze4 n p=some (XQ n p):=by
 unfold Ze4 XQ;rw [ZkG ZbT (g:=fun i=>((i:Int),n))];cases ZlL p n.alphas 0 with
 |some k=>rfl
 |none=>simp only;rw [Zn _ yE,Zei yE]
theorem Zel (n:Zc) (p:Zm):(XQ n p).2.nodes=n.nodes/\(XQ n p).2.alphas.length<=n.alphas.length+1:=by
 unfold XQ;split
 .exact ⟨rfl,by simp only;omega⟩
 .exact ⟨rfl,yG⟩
theorem Zx4 (n:Zc) (p:Int) (x:Zh):n.nodes.length<=(Z4 n p x).2.nodes.length/\(Z4 n p x).2.nodes.length<=n.nodes.length+1/\(Z4 n p x).2.alphas.length<=n.alphas.length+1:=by
 unfold Z4;split
 .exact ⟨AG _,by simp only;omega,by simp only;omega⟩
 .refine ⟨yG,yG,?_⟩;simp only;split
  .exact (Zel n _).2
  .simp only;omega
theorem ZmK {ρ:Type}{g:Nat->ρ}{fin:Unit->Option ρ}(p:Int) (x:Zh):∀(l:List ZA) (i:Nat),Zx (σ:=Unit) (fun (a:Nat) (b:ZA) _=>if (decide (0<(a:Int)))=true then if (b.parent==p)=true then (ZbK b.cond x).bind fun c=>if c=true then some (.inr (g a)) else some (.inl ()) else some (.inl ()) else some (.inl ())) fin l i ()=
  match Zbp (fun y=>y.parent=p/\y.cond=x) l i with|some k=>some (g k)|none=>fin ()
 | [],_=>rfl
 |y::l,i=>by
  unfold Zbp;have ih:=ZmK (g:=g) (fin:=fin) p x l (i+1);by_cases D:0<i
  .have C:decide (0<(i:Int))=true:=decide_eq_true yE;by_cases A:y.parent=p
   .by_cases B:y.cond=x
    .rw [Yp (by rw [yp C,yp (by simp [A]),ZdP,A0,yp (decide_eq_true B)]),yp ⟨D,A,B⟩]
    .rw [ZP (by rw [yp C,yp (by simp [A]),ZdP,A0,yn (by simpa using B)]),yn fun h=>B h.2.2];exact ih
   .rw [ZP (by rw [yp C,yn (by simp [A])]),yn fun h=>A h.2.1];exact ih
  .rw [ZP (by rw [yn (by simp;omega)]),yn fun h=>D h.1];exact ih
theorem Zu0 (n:Zc) (p:Int) (x:Zh) (F:n.nodes.length<=1000) (C:n.alphas.length<=1000) (E:x.pattern.args.length<=1048574):ZaR n p x=some (Z4 n p x):=by
 unfold ZaR Z4;rw [ZmK (g:=fun i=>((i:Int),n)) p x];cases Zbp (fun y=>y.parent=p/\y.cond=x) n.nodes 0 with
 |some k=>rfl
 |none=>
  simp only;obtain ⟨D,G⟩:=Zel n (Qd x.pattern);by_cases B:x.kind=1
  .rw [yp (by simp [B]),ZlU _ yE,A0,ZoX _ _ C,A0,ZaV _ yE,A0,D,Zn _ yE,Zei yE,yp (.inl B)]
  .rw [yn (by simp [B])];by_cases A:x.kind=2
   .rw [yp (by simp [A]),ZlU _ yE,A0,ZoX _ _ C,A0,ZaV _ yE,A0,D,Zn _ yE,Zei yE,yp (.inr A)]
   .rw [yn (by simp [A]),ZaV _ yE,A0,Zn _ yE,Zei yE,yn (by simp [B,A])]
theorem ZmZ {ρ:Type}{a:List ZA}{q:ZA->Prop}(E:a.length<=1000) {body:Int->Option (Int ⊕ ρ)}{g:Nat->ρ}{z:Option ρ}
  (C:∀(k:Nat) y,1<=k->a[k]?=some y->body (k:Int)=if q y then some (.inr (g k)) else some (.inl (((k+1:Nat)):Int))) (B:body (a.length:Int)=z.bind fun r=>some (.inr r)):
  ∀(d k:Nat),k+d=a.length->1<=k->Zb2 body (k:Int)=match Zbp q (a.drop k) k with|some j=>some (g j)|none=>z
 |0,k,hk,hk1=>by
  obtain rfl:k=a.length:=by omega
  rw [Ao];cases z with
  |none=>rw [ZnP,B];rfl
  |some r=>rw [Zcw (by rw [B];rfl)];rfl
 |d+1,k,hk,hk1=>by
  have b:k<a.length:=by omega
  rw [Aq b];unfold Zbp;have D:a[k]?=some a[k]:=A6 b;by_cases A:q a[k]
  .rw [Zcw (by rw [C k _ hk1 D,yp A]),yp ⟨yE,A⟩]
  .rw [ZeX (by rw [C k _ hk1 D,yn A]),yn fun h=>A h.2];exact ZmZ E C B d (k+1) yE yE
def ZAa (n:Zc) (parent:Int) (x:Zh):Int×Zc:=
 let a:Int×Zc:=if x.kind=1\/x.kind=2 then XQ n (Qd x.pattern) else (-1,n)
 ((n.nodes.length:Int),{ a.2 with nodes:=n.nodes++[{ parent:=parent,cond:=x,alpha:=a.1,tokens:=[] }] })
theorem Zvk (n:Zc) (p:Int) (x:Zh) (H:1<=n.nodes.length) (J:n.nodes.length<=1000) (G:n.alphas.length<=1000) (K:x.pattern.args.length<=1048574):ZgN n p x=some (Z4 n p x):=by
 unfold ZgN Z4;have I:Zbp (fun y=>y.parent=p/\y.cond=x) n.nodes 0=Zbp (fun y=>y.parent=p/\y.cond=x) (n.nodes.drop 1) 1:=by
  cases hn:n.nodes with
  |nil=>rw [hn]at H;simp at H
  |cons y r=>simp [Zbp]
 rw [I];refine (ZmZ (q:=fun y=>y.parent=p/\y.cond=x) (g:=fun i=>((i:Int),n)) (z:=some (ZAa n p x)) J (fun k y L E=>?_) ?_ (n.nodes.length - 1) 1 yE (AG _)).trans ?_
 .have a:=(AC.1 E).1;rw [yp (decide_eq_true yE),Zn _ ⟨yE,yE⟩,AH,E,A0];have F:i64.wrap ((k:Int)+1)=(((k+1:Nat)):Int):=Zt a yE;by_cases A:y.parent=p
  .rw [yp (by simp [A]),Zki,A0];by_cases B:y.cond=x
   .rw [yp (decide_eq_true B),yp ⟨A,B⟩]
   .rw [yn (by simpa using B),yn fun h=>B h.2,F]
  .rw [yn (by simp [A]),yn fun h=>A h.1,F]
 .rw [yn yG,Zij _ yE,A0];unfold ZAa;obtain ⟨A,B⟩:=Zel n (Qd x.pattern);by_cases D:x.kind=1
  .rw [yp (by simp [D]),Zlt _ yE,A0,ZlP _ _ G,A0,A,Zn _ yE,Zei yE,yp (.inl D)];rfl
  .rw [yn (by simp [D])];by_cases C:x.kind=2
   .rw [yp (by simp [C]),Zlt _ yE,A0,ZlP _ _ G,A0,A,Zn _ yE,Zei yE,yp (.inr C)];rfl
   .rw [yn (by simp [C]),Zn _ yE,Zei yE,yn (by simp [D,C])];rfl
 .cases Zbp (fun y=>y.parent=p/\y.cond=x) (n.nodes.drop 1) 1<;>rfl
theorem Zrl {ρ:Type}{A:Zc->Int->Zh->Option (Int×Zc)}(b:∀n p x,1<=n.nodes.length->n.nodes.length<=1000->n.alphas.length<=1000->x.pattern.args.length<=1048574->A n p x=some (Z4 n p x)) {fin:Int×(List Zq)×(List Int)×(List ZO)×(List ZA)×(List Zf)×Int->Option ρ}:
  ∀(l:List Zh) (i:Nat) (p:Int) (n:Zc),1<=n.nodes.length->n.nodes.length+l.length<=1000->n.alphas.length+l.length<=1000->(∀x∈l,x.pattern.args.length<=1048574)->
  Zx (σ:=Int×(List Zq)×(List Int)×(List ZO)×(List ZA)×(List Zf)×Int) (fun (_:Nat) (c:Zh) s=>match s with|(f_67,row_68,row_69,row_70,row_71,row_72,u_74)=>(A ({ rules:=row_68,ends:=row_69,alphas:=row_70,nodes:=row_71,facts:=row_72,tries:=f_67 }:Zc) u_74 c).bind fun a=>some (.inl (a.2.tries,a.2.rules,a.2.ends,a.2.alphas,a.2.nodes,a.2.facts,a.1)))
   fin l i (n.tries,n.rules,n.ends,n.alphas,n.nodes,n.facts,p)=fin ((X4 l (p,n)).2.tries,(X4 l (p,n)).2.rules,(X4 l (p,n)).2.ends,(X4 l (p,n)).2.alphas,(X4 l (p,n)).2.nodes,(X4 l (p,n)).2.facts,(X4 l (p,n)).1)
 | [],_,_,_,_,_,_,_=>rfl
 |x::l,i,p,n,h0,h1,h2,h3=>by
  simp only[AE]at h1 h2;obtain ⟨D,c2,C⟩:=Zx4 n p x;rw [ZP (s':=((Z4 n p x).2.tries,(Z4 n p x).2.rules,(Z4 n p x).2.ends,(Z4 n p x).2.alphas,(Z4 n p x).2.nodes,(Z4 n p x).2.facts,(Z4 n p x).1)) (by
   show (A n p x).bind _=_
   rw [b n p x h0 yE yE (h3 x yG)];rfl)]
  exact Zrl b l (i+1) (Z4 n p x).1 (Z4 n p x).2 yE yE yE fun y B=>h3 y (by simp [B])
theorem Zmh:∀(l:List Zh) (p:Int) (n:Zc),(X4 l (p,n)).2.ends=n.ends/\(X4 l (p,n)).2.rules=n.rules/\(X4 l (p,n)).2.facts=n.facts/\(X4 l (p,n)).2.tries=n.tries
 | [],_,_=>⟨rfl,rfl,rfl,rfl⟩
 |x::l,p,n=>by
  have e:X4 (x::l) (p,n)=X4 l ((Z4 n p x).1,(Z4 n p x).2):=rfl;obtain ⟨a,b,c,d⟩:=Zmh l (Z4 n p x).1 (Z4 n p x).2;have A:(Z4 n p x).2.ends=n.ends/\(Z4 n p x).2.rules=n.rules/\(Z4 n p x).2.facts=n.facts/\(Z4 n p x).2.tries=n.tries:=by
   unfold Z4;split
   .exact ⟨rfl,rfl,rfl,rfl⟩
   .simp only;split
    .unfold XQ;split<;>exact ⟨rfl,rfl,rfl,rfl⟩
    .exact ⟨rfl,rfl,rfl,rfl⟩
  rw [e];exact ⟨a.trans A.1,b.trans A.2.1,c.trans A.2.2.1,d.trans A.2.2.2⟩
theorem Zk5 {ρ:Type}{A:Zq->Option (List Zh)}(b:∀r,SmN r->A r=some (Zdh r)) {B:Zc->Int->Zh->Option (Int×Zc)}(c:∀n p x,1<=n.nodes.length->n.nodes.length<=1000->n.alphas.length<=1000->x.pattern.args.length<=1048574->B n p x=some (Z4 n p x)) {fin:Int×(List Zq)×(List Int)×(List ZO)×(List ZA)×(List Zf)->Option ρ}:
  ∀(l:List Zq) (i:Nat) (n:Zc),Zpw n->n.nodes.length+4*l.length<=900->n.alphas.length+4*l.length<=900->n.ends.length+l.length<=900->(∀r∈l,SmN r)->
  Zx (σ:=Int×(List Zq)×(List Int)×(List ZO)×(List ZA)×(List Zf)) (fun (_:Nat) (d:Zq) s=>match s with|(f_38,row_39,row_40,row_41,row_42,row_43)=>(A d).bind (fun e=>Zx (σ:=Int×(List Zq)×(List Int)×(List ZO)×(List ZA)×(List Zf)×Int) (fun (_:Nat) (f:Zh) s=>match s with|(f_67,row_68,row_69,row_70,row_71,row_72,u_74)=>(B ({ rules:=row_68,ends:=row_69,alphas:=row_70,nodes:=row_71,facts:=row_72,tries:=f_67 }:Zc) u_74 f).bind fun a=>some (.inl (a.2.tries,a.2.rules,a.2.ends,a.2.alphas,a.2.nodes,a.2.facts,a.1))) (fun s=>match s with|(f_67,row_68,row_69,row_70,row_71,row_72,u_74)=>chk (row_69.length+1<=1073741824) <| some (.inl (f_67,row_68,(row_69++[u_74]),row_70,row_71,row_72))) e 0 (f_38,row_39,row_40,row_41,row_42,row_43,0)))
   fin l i (n.tries,n.rules,n.ends,n.alphas,n.nodes,n.facts)=fin ((l.foldl X9 n).tries,(l.foldl X9 n).rules,(l.foldl X9 n).ends,(l.foldl X9 n).alphas,(l.foldl X9 n).nodes,(l.foldl X9 n).facts)
 | [],_,_,_,_,_,_,_=>rfl
 |r::l,i,n,hI,h1,h2,h4,h3=>by
  simp only[AE]at h1 h2 h4
  have hr:=h3 r yG
  have hr4:=hr.c4
  have hcl:=ZkH r
  obtain ⟨D,J,I,H⟩:=Zr6 hI hr.c4
  obtain ⟨C,w2,G,F⟩:=Zmh (Zdh r) 0 n
  rw [ZP (s':=((X9 n r).tries,(X9 n r).rules,(X9 n r).ends,(X9 n r).alphas,(X9 n r).nodes,(X9 n r).facts)) (by
   simp only[b r hr,A0]
   rw [Zrl c _ _ _ _ hI.one yE yE (Zm0 hr)]
   simp only
   rw [C,Zn _ yE]
   rfl)]
  exact Zk5 b c l (i+1) (X9 n r) D yE yE yE fun y E=>h3 y (by simp [E])
theorem ZlG (R:List Zq) (B:R.length<=1048576) (h:∀r∈R,Zaf r):ZcG R=some R:=by
 unfold ZcG;rw [Xw (g:=fun r=>r)]
 .simp
 .intro j y s A hs;rw [Zp1 y (h y A),A0,Zn _ (by simp at hs;omega)]
theorem ZmO (R:List Zq) (B:R.length<=1048576) (h:∀r∈R,Zaf r):ZdA R=some R:=by
 unfold ZdA;rw [Xw (g:=fun r=>r)]
 .simp
 .intro j y s A hs;rw [Zuc y (h y A),A0,Zn _ (by simp at hs;omega)]
theorem Zn7 (R:List Zq) (B:R.length<=6) (h:∀r∈R,Zaf r) (A:∀r∈R,SmN r):Zes R=some (ZeP R []):=by
 unfold Zes
 rw [ZlG R yE h,A0]
 exact (Zk5 ZnD (fun n p x _ a b c=>Zu0 n p x a b c) R 0 (ZaT R []) (Zmd R []) (by simp [ZaT];omega) (by simp [ZaT];omega) (by simp [ZaT];omega) A).trans rfl
theorem Zk9 (R:List Zq) (h:∀r∈R,Zaf r) (B:YQ R=true->∀r∈R,SmN r):Zbc R=some (if YQ R=true then (ZeP R [Zkz],true) else ({ rules:=[],ends:=[],alphas:=[],nodes:=[],facts:=[],tries:=0 },false)):=by
 unfold Zbc
 rw [ZpM h,A0]
 by_cases A:YQ R=true
 .have hl:=(Zc8 A).1
  rw [yp A,yp A,ZmO R yE h,A0]
  exact (Zk5 Znz Zvk R 0 (ZaT R [Zkz]) (Zmd R [Zkz]) (by simp [ZaT];omega) (by simp [ZaT];omega) (by simp [ZaT];omega) (B A)).trans rfl
 .rw [yn A,yn A]
end
section
open Classical
structure Zhw (N:List ZA):Prop where
 par:∀i y,1<=i->N[i]?=some y->0<=y.parent/\y.parent<((i:Nat):Int)
 sm:∀y∈N,y.cond.pattern.args.length<=1048574
 few:N.length<=1000
def ZmC (N:List ZA) (i:Int):Zh:=match N[i.toNat]? with|some y=>y.cond|none=>ZAn
theorem ZuQ (n:Zc) (h:Zhw n.nodes):∀(k:Nat) (row:List Zh) (i:Int),i.toNat<=k->i<n.nodes.length->row.length+k<=1000->
  Zb2 (σ:=(List Zh)×Int)
  (fun s=>
   match s with
   |(row_4,node_5)=>
   (ZaL node_5 1 (i64.wrap (((n.nodes.length:Nat):Int) - 1))).bind fun E=>
   if E=true then
    (atI n.nodes node_5).bind fun A=>
    (ZbM A.cond).bind fun B=>
    chk (1+row_4.length<=1073741824) <|
    if (decide (node_5<=A.parent))=true then
     some (.inr ([B]++row_4))
    else
     some (.inl (([B]++row_4),A.parent))
   else
    some (.inr row_4))
  (row,i)=some (XU n.nodes i++row):=by
 have hlen:=h.few
 intro k
 induction k with
 |zero=>
  intro row i G hi F
  rw [Zcy yE,Zcw (r:=row)]
  .rfl
  .show (ZaL i 1 _).bind _=_
   rw [ZdF,A0,yn (by simp;omega)]
 |succ k ih=>
  intro row i G hi F
  by_cases H:1<=i
  .obtain ⟨j,rfl⟩:∃j:Nat,i=(j:Int):=⟨i.toNat,yE⟩
   have D:j<n.nodes.length:=by omega
   have C:n.nodes[j]?=some n.nodes[j]:=A6 D
   have hp:=h.par j _ yE C
   have hs:=h.sm _ (Ay D)
   rw [ZjB (y:=n.nodes[j]) H yG hp.2,ZeX (s':=([n.nodes[j].cond]++row,n.nodes[j].parent))]
   .rw [ih _ _ yE yE (by simp;omega)]
    simp
   .show (ZaL _ 1 _).bind _=_
    rw [ZdF,A0,Qj yE yE,yp (by simp;omega),Xi,C,A0,Zij _ yE,A0,Zn _ yE,yn (by simp;omega)]
  .rw [Zcy yE,Zcw (r:=row)]
   .rfl
   .show (ZaL i 1 _).bind _=_
    rw [ZdF,A0,yn (by simp;omega)]
theorem Zuf (n:Zc) (h:Zhw n.nodes) (i:Nat) (hi:i<n.nodes.length):Zit n ((i:Nat):Int)=some (XU n.nodes ((i:Nat):Int)):=by
 unfold Zit
 have hlen:=h.few
 rw [ZuQ n h i [] _ yE yE (by simp;omega),Ai]
theorem ZBV {ρ:Type}(N:List ZA) (h:Zhw N) (U:List Int) (C:∀u∈U,0<=u/\u<N.length) (G:U.length<=2000) {g:List Zh->ρ}:∀(k:Nat) (acc:List Zh),k<=U.length->acc.length+k<=4000->
  Zb2 (σ:=(List Zh)×Int)
       (fun s=>
        match s with
        |(row_12,i_13)=>
        if (decide (0<=i_13))=true then
         chk (0<=i_13/\i_13<((U.length:Nat):Int)) <|
         (U[(Az i_13)]?).bind fun b=>
         (atI N b).bind fun c=>
         (Xv c.cond).bind fun d=>
         chk (row_12.length+1<=1073741824) <|
         some (.inl ((row_12++[d]),(i64.wrap (i_13 - 1))))
        else
         some (.inr (g row_12)))
       (acc,((k:Nat):Int) - 1)=some (g (acc++(U.take k).reverse.map (ZmC N))):=by
 intro k
 induction k with
 |zero=>
  intro acc _ _
  rw [Zcw (r:=g acc)]
  .simp
  .show (if _ then _ else _)=_
   rw [yn yG]
 |succ k ih=>
  intro acc H I
  have B:U[k]?=some U[k]:=A6 yE
  obtain ⟨F,E⟩:=C _ (Ay (show k<U.length by omega))
  obtain ⟨j,hj⟩:∃j:Nat,U[k]=(j:Int):=⟨U[k].toNat,yE⟩
  have a:j<N.length:=by omega
  have A:N[j]?=some N[j]:=A6 a
  have hs:=h.sm _ (Ay a)
  have e:(((k+1:Nat):Int) - 1)=((k:Nat):Int):=by omega
  have D:ZmC N U[k]=N[j].cond:=by unfold ZmC;rw [hj,AH,A]
  rw [ZeX (s':=(acc++[N[j].cond],((k:Nat):Int) - 1))]
  .rw [ih _ yE (by simp;omega),AX,B,BW,List.reverse_append,List.reverse_singleton,BX,List.map_singleton,D,Ax]
  .show (if _ then _ else _)=_
   rw [e,yp yG,Zn _ yE,AH,B,A0,hj,Xi,A,A0,ZaV _ yE,A0,Zn _ yE,Qj yE yE]
theorem ZuF {N:List ZA}{j:Nat}(D:1<=j) (C:j<N.length) (B:N[j].parent<(j:Int)):XU N (j:Int)=XU N N[j].parent++[ZmC N (j:Int)]:=by
 have A:N[j]?=some N[j]:=A6 C;rw [ZjB (y:=N[j]) yE yG B];unfold ZmC;rw [AH,A]
theorem Zt9 (n:Zc) (h:Zhw n.nodes) (i:Nat) (hi:i<n.nodes.length):Zis n ((i:Nat):Int)=some (XU n.nodes ((i:Nat):Int)):=by
 have hlen:=h.few
 unfold Zis
 by_cases F:i=0
 .subst F
  rw [yp yG,Zcy yE]
 rw [yn (by simp;omega),yn (by simp;omega)]
 have key:∀(k:Nat) (row:List Int) (j:Nat),j<=k->1<=j->j<n.nodes.length->(∀u∈row,0<=u/\u<n.nodes.length)->row.length+k<=1000->
   Zb2 (σ:=(List Int)×Int)
    (fun s=>
     match s with
     |(row_3,node_4)=>
     chk (row_3.length+1<=1073741824) <|
     (atI n.nodes node_4).bind fun B=>
     if (decide (B.parent<1))=true then
      Zb2 (σ:=(List Zh)×Int)
       (fun s=>
        match s with
        |(row_12,i_13)=>
        if (decide (0<=i_13))=true then
         chk (0<=i_13/\i_13<((row_3.length+1:Nat):Int)) <|
         ((row_3++[node_4])[(Az i_13)]?).bind fun f=>
         (atI n.nodes f).bind fun l=>
         (Xv l.cond).bind fun m=>
         chk (row_12.length+1<=1073741824) <|
         some (.inl ((row_12++[m]),(i64.wrap (i_13 - 1))))
        else
         some (.inr (.inr row_12)))
       ([],(i64.wrap (((row_3.length+1:Nat):Int) - 1)))
     else
      if (decide (node_4<=B.parent))=true then
       Zb2 (σ:=(List Zh)×Int)
        (fun s=>
         match s with
         |(row_23,i_24)=>
         if (decide (0<=i_24))=true then
          chk (0<=i_24/\i_24<((row_3.length+1:Nat):Int)) <|
          ((row_3++[node_4])[(Az i_24)]?).bind fun o=>
          (atI n.nodes o).bind fun p=>
          (Xv p.cond).bind fun t=>
          chk (row_23.length+1<=1073741824) <|
          some (.inl ((row_23++[t]),(i64.wrap (i_24 - 1))))
         else
          some (.inr (.inr row_23)))
        ([],(i64.wrap (((row_3.length+1:Nat):Int) - 1)))
      else
       some (.inl ((row_3++[node_4]),B.parent)))
    (row,((j:Nat):Int))=some (XU n.nodes ((j:Nat):Int)++row.reverse.map (ZmC n.nodes)):=by
  intro k
  induction k with
  |zero=>intro row j a b;omega
  |succ k ih=>
   intro row j H E D c G
   have C:n.nodes[j]?=some n.nodes[j]:=A6 D
   have hp:=h.par j _ E C
   have e:=ZuF E D hp.2
   by_cases d:n.nodes[j].parent<1
   .refine Zcw ?_
    show chk _ _=_
    rw [Zn _ yE,Xi,C,A0,yp (by simpa using d)]
    have hd:=ZBV (ρ:=(List Int×Int) ⊕ List Zh) n.nodes h (row++[((j:Nat):Int)]) (fun u A=>by
     rcases AK.1 A with A|A
     .exact c u A
     .simp at A;subst A;omega) (by simp;omega) (g:=.inr) (row.length+1) [] yG (by simp;omega)
    rw [AF,AY]at hd
    rw [Qj yE yE]
    refine hd.trans ?_
    rw [e,Zcy (by omega:n.nodes[j].parent<1),Aj yG]
    simp
   .rw [ZeX (s':=(row++[((j:Nat):Int)],n.nodes[j].parent))]
    .obtain ⟨q,hq⟩:∃q:Nat,n.nodes[j].parent=(q:Int):=⟨n.nodes[j].parent.toNat,yE⟩
     rw [e,hq,ih _ q yE yE yE (fun u A=>by
      rcases AK.1 A with A|A
      .exact c u A
      .simp at A;subst A;omega) (by simp;omega)]
     simp
    .show chk _ _=_
     rw [Zn _ yE,Xi,C,A0,yn (by simpa using d),yn (by simp;omega)]
 rw [key i [] i (AG _) yE hi yG (by simp;omega)]
 simp
end
section
open Classical
theorem ZlH {α:Type}{l M:List α}{k:Nat}(C:M.length=l.length) (B:k<l.length) {y:α}(A:M[k]?=some y):((M.take k++l.drop k).set k y)=M.take (k+1)++l.drop (k+1):=by
 have a:(M.take k).length=k:=by rw [Ak];omega
 rw [List.set_append_right _ _ yE,a,Nat.sub_self,Aq B,List.set_cons_zero,AX,A,BW,Ax];rfl
theorem ZnQ {α:Type}{l M:List α}{k:Nat}(B:M.length=l.length) (A:k<l.length):(M.take k++l.drop k)[k]?=some l[k]:=by
 have a:(M.take k).length=k:=by rw [Ak];omega
 rw [BB yE,a,Nat.sub_self,BC,BD,A6 A]
theorem ZuE {α ρ:Type}{body:(List α×Int)->Option ((List α×Int) ⊕ ρ)}{l M:List α}(B:M.length=l.length) {r:ρ}
  (a:∀k (A:k<l.length),body (M.take k++l.drop k,(k:Int))=some (.inl (M.take (k+1)++l.drop (k+1),(((k+1:Nat)):Int))))
  (b:body (M,(l.length:Int))=some (.inr r)):Zb2 body (l,0)=some r:=by
 have key:∀(m k:Nat),k+m=l.length->Zb2 body (M.take k++l.drop k,(k:Int))=some r:=by
  intro m;induction m with
  |zero=>
   intro k A;have e:k=l.length:=by omega
   subst e;rw [Ao,Ai,Aj yE];exact Zcw b
  |succ m ih=>
   intro k A;rw [ZeX (a k yE)];exact ih (k+1) yE
 have:=key l.length 0 yE;simpa using this
def QG (F:List Zf) (a:ZO):ZO:={ shape:=a.shape,facts:=YR a.shape [] F }
def XT (N:List ZA) (F:List Zf) (i:Nat) (y:ZA):ZA:={ parent:=y.parent,cond:=y.cond,alpha:=y.alpha,tokens:=Yk (XU N (i:Int)) F }
def Yw (n:Zc) (F:List Zf):Zc:={ rules:=n.rules,ends:=n.ends,alphas:=n.alphas.map (QG F),nodes:=n.nodes.mapIdx (XT n.nodes F),facts:=F,tries:=n.tries }
theorem Zmo (N:List ZA) (F:List Zf):(N.mapIdx (XT N F)).map QF=N.map QF:=by
 refine Ad fun i=>?_;rw [A9,A9,AL];cases N[i]?<;>rfl
theorem Zja {a b:List ZA}(h:a.map QF=b.map QF) (C:Zhw b):Zhw a:=by
 have D:a.length=b.length:=by
  have:=congrArg List.length h
  simpa using this
 have c:∀(i:Nat) (x:ZA),a[i]?=some x->∃y:ZA,b[i]?=some y/\x.parent=y.parent/\x.cond=y.cond:=fun i x B=>by
  have e:(a.map QF)[i]?=(b.map QF)[i]?:=by rw [h]
  rw [A9,A9,B]at e
  cases A:b[i]? with
  |none=>rw [A]at e;simp at e
  |some y=>
   rw [A]at e
   simp only[AQ,AB,QF,BT]at e
   exact ⟨y,rfl,e.1,e.2⟩
 refine ⟨fun i x F B=>?_,fun x E=>?_,by have:=C.few;omega⟩
 .obtain ⟨y,A,H,_⟩:=c i x B
  rw [H];exact C.par i y F A
 .obtain ⟨i,hi,rfl⟩:=BY E
  obtain ⟨y,A,_,G⟩:=c i _ (A6 hi)
  rw [G];exact C.sm y (AZ A)
theorem Zxg {l M:List ZA}(h:M.map QF=l.map QF) (k:Nat):(M.take k++l.drop k).map QF=l.map QF:=by
 rw [BX,List.map_take,List.map_drop,h,BZ]
theorem ZqK (n:Zc) (F:List Zf) (G:Zhw n.nodes) (E:∀i:Nat,i<n.nodes.length->(XU n.nodes ((i:Nat):Int)).length<=4) (H:F.length<=24) (C:∀f∈F,f.args.length<=3) (I:n.alphas.length<=1000):Zaq n F=some (Yw n F):=by
 have hlen:=G.few
 unfold Zaq
 rw [Zdk _ yE (fun f D=>by have:=C f D;omega),A0]
 refine ZuE (M:=n.alphas.map (QG F)) yG (fun k A=>?_) ?_
 .have B:(n.alphas.map (QG F)).length=n.alphas.length:=by simp
  have hg:=ZnQ (M:=n.alphas.map (QG F)) B A
  show (if _ then _ else _)=_
  rw [yp (by simpa using A),Zn _ (by simp;omega),AH,hg,A0,Zcp _ _ _ yE (fun f D=>by have:=C f D;omega),A0,
   ZlH (M:=n.alphas.map (QG F)) B A (y:={ shape:=n.alphas[k].shape,facts:=YR n.alphas[k].shape [] F }) (by rw [A9,A6 A];rfl),Qj yE yE]
  rfl
 .show (if _ then _ else _)=_
  rw [yn yG]
  refine ZuE (M:=n.nodes.mapIdx (XT n.nodes F)) yG (fun k A=>?_) ?_
  .have B:(n.nodes.mapIdx (XT n.nodes F)).length=n.nodes.length:=by simp
   have hg:=ZnQ (M:=n.nodes.mapIdx (XT n.nodes F)) B A
   have a:=Zxg (Zmo n.nodes F) k
   have b:((n.nodes.mapIdx (XT n.nodes F)).take k++n.nodes.drop k).length=n.nodes.length:=by simp;omega
   show (if _ then _ else _)=_
   rw [yp (by simpa using A),Zt9 _ (Zja a G) k (by rw [b];exact A),A0]
   simp only[Zfe a]
   unfold Zge
   rw [yp ⟨E k A,H,C⟩,Zkm _ _ (E k A) H C,A0,Zn _ (by rw [b];omega),AH,hg,A0,
    ZlH (M:=n.nodes.mapIdx (XT n.nodes F)) B A (y:={ parent:=n.nodes[k].parent,cond:=n.nodes[k].cond,alpha:=n.nodes[k].alpha,tokens:=Yk (XU n.nodes ((k:Nat):Int)) F }) (by rw [AL,A6 A];rfl),Qj yE yE]
   rfl
  .show (if _ then _ else _)=_
   rw [yn yG]
   rfl
theorem ZxN {n:Zc}{p:Int}{x:Zh}(h:∀y∈n.nodes,y.cond.pattern.args.length<=1048574) (B:x.pattern.args.length<=1048574):∀y∈(Z4 n p x).2.nodes,y.cond.pattern.args.length<=1048574:=by
 unfold Z4;split
 .exact h
 .have C:∀a:Int×Zc,a.2.nodes=n.nodes->∀y∈a.2.nodes++[({ parent:=p,cond:=x,alpha:=a.1,tokens:=[] }:ZA)],y.cond.pattern.args.length<=1048574:=fun a e y A=>by
   rcases AK.1 A with A|A
   .exact h y (e ▸ A)
   .simp at A;subst A;exact B
  intro y A;refine C (if x.kind=1\/x.kind=2 then XQ n (Qd x.pattern) else (-1,n)) ?_ y ?_
  .split
   .exact (Zel n _).1
   .rfl
  .have e:(if x.kind=1\/x.kind=2 then XQ n (Qd x.pattern) else (-1,n)).2.nodes=n.nodes:=by
    split
    .exact (Zel n _).1
    .rfl
   rw [e];exact A
theorem ZsY:∀(l:List Zh) (p:Int) (n:Zc),(∀y∈n.nodes,y.cond.pattern.args.length<=1048574)->(∀x∈l,x.pattern.args.length<=1048574)->∀y∈(X4 l (p,n)).2.nodes,y.cond.pattern.args.length<=1048574
 | [],_,_,h,_=>h
 |x::l,p,n,h,hl=>by
  have e:X4 (x::l) (p,n)=X4 l ((Z4 n p x).1,(Z4 n p x).2):=rfl;rw [e];exact ZsY l _ _ (ZxN h (hl x yG)) fun y A=>hl y (by simp [A])
theorem Zws:∀(l:List Zq) (n:Zc),(∀y∈n.nodes,y.cond.pattern.args.length<=1048574)->(∀r∈l,SmN r)->∀y∈(l.foldl X9 n).nodes,y.cond.pattern.args.length<=1048574
 | [],_,h,_=>h
 |r::l,n,h,hl=>by
  rw [AP];exact Zws l _ (ZsY _ _ _ h (Zm0 (hl r yG))) fun r A=>hl r (by simp [A])
theorem ZmB {R:List Zq}(F:R.length<=6) (h:∀r∈R,SmN r) (t:List Zi):Zhw (ZeP R t).nodes/\(∀i:Nat,i<(ZeP R t).nodes.length->(XU (ZeP R t).nodes ((i:Nat):Int)).length<=4)/\(ZeP R t).alphas.length<=1000:=by
 obtain ⟨A,w2,B⟩:=ZrB R (ZaT R t) (Zmd R t) fun r C=>(h r C).c4
 have E:(ZaT R t).nodes.length=1:=rfl
 have D:(ZaT R t).alphas.length=0:=rfl
 rw [E]at w2
 rw [D]at B
 exact ⟨⟨A.par,Zws R (ZaT R t) (by simp [ZaT,ZAn]) h,by show (R.foldl X9 (ZaT R t)).nodes.length<=_;omega⟩,A.few,by show (R.foldl X9 (ZaT R t)).alphas.length<=_;omega⟩
theorem ZvT (R:List Zq) (F:List Zf) (z:Int) (A:R.length<=6) (h:∀r∈R,Zaf r) (B:∀r∈R,SmN r) (C:F.length<=24) (D:∀f∈F,f.args.length<=3):ZlY R F z=some { Yw (ZeP R []) F with tries:=z }:=by
 unfold ZlY;obtain ⟨H,G,E⟩:=ZmB A B [];rw [Zn7 R A h B,A0,ZqK _ _ H G C D E,A0]
end
section
open Classical
theorem ZB5 {α β:Type}{f:α->β}{a b:List α}{body:Nat->α->Unit->Option (Unit ⊕ Bool)}{fin:Unit->Option Bool}(h:a.length=b.length) (D:∀i x y,a[i]?=some x->b[i]?=some y->(f x=f y->body i x ()=some (.inl ()))/\(f x≠f y->body i x ()=some (.inr false))):Zx body fin a 0 ()=if a.map f=b.map f then fin () else some false:=by
 have key:∀(l:List α) (i:Nat),a.drop i=l->Zx body fin l i ()=if l.map f=(b.drop i).map f then fin () else some false:=by
  intro l;induction l with
  |nil=>
   intro i hi;have B:a.length<=i:=by
    have:=congrArg List.length hi;simp at this;omega
   rw [List.drop_eq_nil_of_le (by omega:b.length<=i)];simp [Zx]
  |cons x l ih=>
   intro i hi;have B:i<a.length:=by
    have:=congrArg List.length hi;simp at this;omega
   rw [Aq B]at hi;simp only[Ba]at hi;obtain ⟨C,hi⟩:=hi;have c:=D i x b[i] (by rw [<-C];exact A6 B) (A6 yE);rw [Aq (by omega:i<b.length),Aa,Aa];by_cases e:f x=f b[i]
   .rw [ZP (s':=()) (c.1 e),ih (i+1) hi];by_cases A:l.map f=(b.drop (i+1)).map f
    .rw [yp A,yp (by rw [e,A])]
    .rw [yn A,yn fun h=>A (Bb h).2]
   .rw [Yp (c.2 e),yn fun h=>e (Bb h).1]
 have:=key a 0 yG;simpa using this
theorem ZkY {α:Type}{q:Nat->α->Prop}{body:Nat->α->Unit->Option (Unit ⊕ Bool)}{fin:Unit->Option Bool}:∀(l:List α) (i:Nat),(∀(j:Nat) (x:α),l[j]?=some x->(q (i+j) x->body (i+j) x ()=some (.inl ()))/\(¬q (i+j) x->body (i+j) x ()=some (.inr false)))->
  Zx body fin l i ()=if (∀j x,l[j]?=some x->q (i+j) x) then fin () else some false
 | [],i,_=>by rw [yp (fun j x h=>by simp at h)];rfl
 |x::l,i,h=>by
  have h0:=h 0 x yG;rw [BD]at h0;by_cases e:q i x
  .rw [ZP (s':=()) (h0.1 e),ZkY (q:=q) l (i+1) fun j y A=>by
    have:=h (j+1) y (by simpa using A);rw [show i+1+j=i+(j+1) by omega];exact this]
   by_cases B:∀j y,l[j]?=some y->q (i+1+j) y
   .rw [yp B,yp fun j y A=>?_];cases j with
    |zero=>simp at A;subst A;exact e
    |succ j=>rw [show i+(j+1)=i+1+j by omega];exact B j y (by simpa using A)
   .rw [yn B,yn fun C=>B fun j y A=>by
     have:=C (j+1) y (by simpa using A);rw [show i+1+j=i+(j+1) by omega];exact this]
  .rw [Yp (h0.2 e),yn fun C=>e (by simpa using C 0 x yG)]
theorem ZFX {p q:Prop}[Decidable p] [Decidable q] [Decidable (p/\q)]:(if decide p=true then (some (bif decide q then .inl () else .inr false):Option (Unit ⊕ Bool)) else some (.inr false))=some (bif decide (p/\q) then .inl () else .inr false):=by
 by_cases B:p<;>by_cases A:q<;>simp [B,A]
theorem Zrg (a b:ZO):a=b↔a.shape=b.shape/\a.facts=b.facts:=⟨fun e=>by rw [e];exact ⟨rfl,rfl⟩,fun h=>by cases a;cases b;simp_all⟩
theorem Zuv (a b:ZA):a=b↔a.parent=b.parent/\a.cond=b.cond/\a.alpha=b.alpha/\a.tokens=b.tokens:=⟨fun e=>by rw [e];exact ⟨rfl,rfl,rfl,rfl⟩,fun h=>by cases a;cases b;simp_all⟩
def Zbm (y:ZA):Int×Int×Zh:=(y.parent,y.alpha,y.cond)
theorem ZlS (a b:Zc):Za9 a b=some (decide (a.rules=b.rules/\a.ends=b.ends/\a.facts=b.facts/\a.alphas=b.alphas/\a.nodes=b.nodes)):=by
 unfold Za9;rw [ZoC,A0];by_cases F:a.rules=b.rules
 rotate_left
 .rw [decide_eq_false F,yn yG,decide_eq_false fun h=>F h.1]
 rw [decide_eq_true F,yp rfl,Ztn,A0];by_cases E:a.ends=b.ends
 rotate_left
 .rw [decide_eq_false E,yn yG,decide_eq_false fun h=>E h.2.1]
 rw [decide_eq_true E,yp rfl,ZeQ,A0];by_cases D:a.facts=b.facts
 rotate_left
 .rw [decide_eq_false D,yn yG,decide_eq_false fun h=>D h.2.2.1]
 rw [decide_eq_true D,yp rfl];by_cases C:a.alphas.length=b.alphas.length
 rotate_left
 .rw [yp (Zia C),decide_eq_false fun h=>C (by rw [h.2.2.2.1])]
 rw [yn (Zid C)];by_cases B:a.nodes.length=b.nodes.length
 rotate_left
 .rw [yp (Zia B),decide_eq_false fun h=>B (by rw [h.2.2.2.2])]
 rw [yn (Zid B),Zyu C fun i x y J I=>by
  rw [Xi,I,A0,QB,A0,ZeQ,A0,Zyi,ZFX];congr 2
  rw [AU,decide_eq_true_iff,decide_eq_true_iff,Zrg]]
 rw [ZmS B fun i x y J I=>by
  rw [Xi,I,A0];by_cases H:x.parent=y.parent
  rotate_left
  .rw [yp (by simpa using H),decide_eq_false fun e=>H (by rw [e])];rfl
  rw [yn (by simp [H])];by_cases G:x.alpha=y.alpha
  rotate_left
  .rw [yp (by simpa using G),decide_eq_false fun e=>G (by rw [e])];rfl
  rw [yn (by simp [G]),ZdP,A0,Zh8,A0,Zyi,ZFX];congr 2
  rw [AU,decide_eq_true_iff,decide_eq_true_iff,Zuv];exact ⟨fun h=>⟨H,h.1,G,h.2⟩,fun h=>⟨h.2.1,h.2.2.2⟩⟩]
 by_cases A:a.alphas=b.alphas
 .rw [yp A];congr 2
  simp [F,E,D,A]
 .rw [yn A,decide_eq_false fun h=>A h.2.2.2.1]
theorem ZnA (a b:Zc):ZcJ a b=some (decide (a.alphas.map (·.shape)=b.alphas.map (·.shape)/\a.nodes.map Zbm=b.nodes.map Zbm/\a.ends=b.ends)):=by
 unfold ZcJ;by_cases F:a.alphas.length=b.alphas.length
 rotate_left
 .rw [yp (Zia F),decide_eq_false fun h=>F (by have:=congrArg List.length h.1;simpa using this)]
 rw [yn (Zid F)];by_cases E:a.nodes.length=b.nodes.length
 rotate_left
 .rw [yp (Zia E),decide_eq_false fun h=>E (by have:=congrArg List.length h.2.1;simpa using this)]
 rw [yn (Zid E)];by_cases D:a.ends.length=b.ends.length
 rotate_left
 .rw [yp (Zia D),decide_eq_false fun h=>D (by rw [h.2.2])]
 rw [yn (Zid D),ZB5 (f:=(·.shape)) F fun i x y H C=>by
  rw [Xi,C,A0,ZbT,A0];exact ⟨fun e=>yp (decide_eq_true e),fun e=>yn (by simpa using e)⟩]
 by_cases A:a.alphas.map (·.shape)=b.alphas.map (·.shape)
 rotate_left
 .rw [yn A,decide_eq_false fun h=>A h.1]
 rw [yp A,ZB5 (f:=Zbm) E fun i x y H C=>by
  rw [Xi,C,A0,Zki,A0];refine ⟨fun e=>?_,fun e=>?_⟩
  .have A:x.parent=y.parent:=congrArg (·.1) e;have B:x.alpha=y.alpha:=congrArg (·.2.1) e;have G:x.cond=y.cond:=congrArg (·.2.2) e;rw [yn (by simp [A]),yn (by simp [B]),yp (decide_eq_true G)]
  .by_cases A:x.parent=y.parent
   rotate_left
   .rw [yp (by simpa using A)]
   by_cases B:x.alpha=y.alpha
   rotate_left
   .rw [yn (by simp [A]),yp (by simpa using B)]
   rw [yn (by simp [A]),yn (by simp [B]),yn (by
    rw [decide_eq_true_iff];exact fun G=>e (by unfold Zbm;rw [A,B,G]))]]
 by_cases B:a.nodes.map Zbm=b.nodes.map Zbm
 rotate_left
 .rw [yn B,decide_eq_false fun h=>B h.2.1]
 rw [yp B,ZmS D fun i x y H C=>by
  rw [Xi,C,A0];by_cases e:x=y
  .rw [yn (by simp [e])];simp [e]
  .rw [yp (by simpa using e)];simp [e]]
 congr 2
 simp [A,B]
end
section
open Classical
theorem ZAl (t:List Zi) (n:Zc):(rt t n).nodes.map Zbm=n.nodes.map Zbm:=by
 unfold rt;cases n.nodes<;>rfl
theorem ZoL {a b:List ZA}(h:a.map Zbm=b.map Zbm):a.map QF=b.map QF:=by
 have e:∀l:List ZA,l.map QF=(l.map Zbm).map fun x=>(x.1,x.2.2):=fun l=>by
  rw [Al];rfl
 rw [e,e,h]
theorem ZvP (N:List ZA) (F:List Zf):(N.mapIdx (XT N F)).map Zbm=N.map Zbm:=by
 refine Ad fun i=>?_;rw [A9,A9,AL];cases N[i]?<;>rfl
theorem Zs2 (n N0:Zc) (t:List Zi) (F:List Zf):
  ((n.alphas.map (·.shape)=(rt t N0).alphas.map (·.shape)/\n.nodes.map Zbm=(rt t N0).nodes.map Zbm/\n.ends=(rt t N0).ends)/\(∀(j:Nat) (x:ZO),n.alphas[j]?=some x->x.facts=YR x.shape [] F)/\(∀(j:Nat) (y:ZA),n.nodes[j]?=some y->y.tokens=Yk (XU n.nodes (j:Int)) F))↔
  (n.ends=(Yw N0 F).ends/\n.alphas=(Yw N0 F).alphas/\n.nodes=(Yw N0 F).nodes):=by
 rw [ZAl];constructor
 .rintro ⟨⟨G,D,E⟩,J,I⟩;refine ⟨E,Ad fun i=>?_,Ad fun i=>?_⟩
  .have e:(n.alphas.map (·.shape))[i]?=(N0.alphas.map (·.shape))[i]?:=by rw [G];rfl
   rw [A9,A9]at e;show _=(N0.alphas.map (QG F))[i]?
   rw [A9];cases B:n.alphas[i]? with
   |none=>rw [B]at e;cases A:N0.alphas[i]? with
    |none=>rfl
    |some y=>rw [A]at e;simp at e
   |some x=>rw [B]at e;cases A:N0.alphas[i]? with
    |none=>rw [A]at e;simp at e
    |some y=>
     rw [A]at e;have C:x.shape=y.shape:=by simpa using e
     rw [AQ,(Zrg x (QG F y)).2 ⟨C,by rw [J i x B,C];rfl⟩]
  .have e:(n.nodes.map Zbm)[i]?=(N0.nodes.map Zbm)[i]?:=by rw [D]
   rw [A9,A9]at e;have hp:=Zfe (ZoL D) (i:Int);show _=(N0.nodes.mapIdx (XT N0.nodes F))[i]?
   rw [AL];cases B:n.nodes[i]? with
   |none=>rw [B]at e;cases A:N0.nodes[i]? with
    |none=>rfl
    |some y=>rw [A]at e;simp at e
   |some x=>rw [B]at e;cases A:N0.nodes[i]? with
    |none=>rw [A]at e;simp at e
    |some y=>
     rw [A]at e;have C:Zbm x=Zbm y:=by simpa using e
     rw [AQ,(Zuv x (XT N0.nodes F i y)).2 ⟨congrArg (·.1) C,congrArg (·.2.2) C,congrArg (·.2.1) C,by rw [I i x B,hp];rfl⟩]
 .rintro ⟨G,D,E⟩;have H:n.nodes.map Zbm=N0.nodes.map Zbm:=by
   rw [E];exact ZvP N0.nodes F
  refine ⟨⟨?_,H,G⟩,fun j x B=>?_,fun j y A=>?_⟩
  .rw [D];show (N0.alphas.map (QG F)).map _=N0.alphas.map _
   rw [Al];rfl
  .rw [D]at B;have b:(N0.alphas.map (QG F))[j]?=some x:=B;rw [A9]at b;obtain ⟨a,_,rfl⟩:=AA.1 b;rfl
  .rw [Zfe (ZoL H)];rw [E]at A;have c:(N0.nodes.mapIdx (XT N0.nodes F))[j]?=some y:=A;rw [AL]at c;obtain ⟨a,_,rfl⟩:=AA.1 c;rfl
theorem Zo8:∀(l:List Zq) (n:Zc),(l.foldl X9 n).rules=n.rules
 | [],_=>rfl
 |r::l,n=>by
  rw [AP,Zo8 l];exact (Zmh (Zdh r) 0 n).2.1
theorem Zvx (R:List Zq) (t:List Zi):(ZeP R t).rules=R:=Zo8 R (ZaT R t)
def Zne (n:Zc):Bool:=YQ n.rules&&YP n.facts&&decide (0<=n.tries)&&decide (n.ends=(Yw (ZeP n.rules []) n.facts).ends/\n.alphas=(Yw (ZeP n.rules []) n.facts).alphas/\n.nodes=(Yw (ZeP n.rules []) n.facts).nodes)
theorem Zoy {F:List Zf}(h:YP F=true):F.length<=24/\∀f∈F,f.args.length<=3:=by
 obtain ⟨C,B⟩:=Zf5 h;refine ⟨C,fun f A=>?_⟩;exact ZjL (B f A)
theorem ZiG (n:Zc) (D:∀r∈n.rules,Zaf r) (E:YQ n.rules=true->∀r∈n.rules,SmN r):Zcx n=some (Zne n):=by
 unfold Zcx Zne;rw [ZpL D,A0];by_cases A:YQ n.rules=true
 rotate_left
 .rw [yn A,Ae.2 A];rfl
 rw [yp A,ZgA,A0];by_cases B:YP n.facts=true
 rotate_left
 .rw [yn B,A,Ae.2 B];rfl
 rw [yp B];by_cases C:0<=n.tries
 rotate_left
 .rw [yn (by simpa using C),A,B,decide_eq_false C];rfl
 obtain ⟨G,F⟩:=Zoy B;rw [yp (decide_eq_true C),ZvT n.rules n.facts 0 (Zc8 A).1 D (E A) G F,A0,ZlS,A0,A,B,decide_eq_true C];congr 1
 simp only[Ar];rw [AU,decide_eq_true_iff,decide_eq_true_iff];exact ⟨fun h=>⟨h.2.1,h.2.2.2.1,h.2.2.2.2⟩,fun h=>⟨(Zvx _ _).symm,h.1,rfl,h.2.1,h.2.2⟩⟩
theorem ZiV (n:Zc) (N:∀r∈n.rules,Zaf r) (F:YQ n.rules=true->∀r∈n.rules,SmN r) (H:n.facts.length<=1048576):ZcE n=some (Zne n):=by
 unfold ZcE Zne
 rw [Zk9 _ N F,A0]
 by_cases A:YQ n.rules=true
 rotate_left
 .rw [yn A,yn yG,Ae.2 A];rfl
 rw [yp A,yp rfl,ZgB _ H,A0]
 by_cases C:YP n.facts=true
 rotate_left
 .rw [yn C,A,Ae.2 C];rfl
 obtain ⟨O,J⟩:=Zoy C
 have hl:=(Zc8 A).1
 have a:=Zs2 n (ZeP n.rules []) [Zkz] n.facts
 rw [<-Zzz (fun r K=>(F A r K).c4)]at a
 rw [yp C,ZnA,A0,A,C,Ar,Ar]
 by_cases B:n.alphas.map (·.shape)=(ZeP n.rules [Zkz]).alphas.map (·.shape)/\n.nodes.map Zbm=(ZeP n.rules [Zkz]).nodes.map Zbm/\n.ends=(ZeP n.rules [Zkz]).ends
 rotate_left
 .rw [yn (by simpa using B),decide_eq_false fun h=>B (a.2 h).1,Bool.and_false]
 rw [yp (by simpa using B)]
 by_cases I:0<=n.tries
 rotate_left
 .rw [yp (by simp;omega),decide_eq_false I];rfl
 rw [yn (by simp;omega),decide_eq_true I,Ar]
 obtain ⟨R,P,T⟩:=ZmB hl (F A) [Zkz]
 have b:=ZoL B.2.1
 have hN:=Zja b R
 have G:n.nodes.length=(ZeP n.rules [Zkz]).nodes.length:=by
  have:=congrArg List.length B.2.1
  simpa using this
 rw [ZkY (q:=fun _ x=>x.facts=YR x.shape [] n.facts) n.alphas 0 fun j x S=>by
  rw [ZaD _ _ _ yG H (fun f L=>by have:=J f L;omega),A0,ZrV,A0]
  exact ⟨fun e=>yp (decide_eq_true e),fun e=>yn (by rw [decide_eq_true_iff];exact e)⟩]
 by_cases E:∀(j:Nat) (x:ZO),n.alphas[j]?=some x->x.facts=YR x.shape [] n.facts
 rotate_left
 .rw [yn E,decide_eq_false fun h=>E (a.2 h).2.1]
 rw [yp E,ZkY (q:=fun i y=>y.tokens=Yk (XU n.nodes ((i:Nat):Int)) n.facts) n.nodes 0 fun j y M=>by
  have hj:=(AC.1 M).1
  rw [AM,Zuf n hN j hj,A0,Zqq _ _ (by rw [Zfe b];exact P j yE) O J,A0,ZlA,A0]
  exact ⟨fun e=>yp (decide_eq_true e),fun e=>yn (by rw [decide_eq_true_iff];exact e)⟩]
 simp only[AM]
 by_cases D:∀(j:Nat) (y:ZA),n.nodes[j]?=some y->y.tokens=Yk (XU n.nodes ((j:Nat):Int)) n.facts
 .rw [yp D,decide_eq_true (a.1 ⟨B,E,D⟩)]
 .rw [yn D,decide_eq_false fun h=>D (a.2 h).2.2]
end
section
open Classical
def nmK (k:Nat):BYT:=(⟨#[63]⟩:BYT)++ofL (Lib.itoa ((k:Int)+1))
theorem Zn6 (k:Nat) (h:k<9):nmK k=(⟨#[63]⟩:BYT)++ofL [As (48+(k+1))]:=by
 unfold nmK;have e:(k:Int)+1=(((k+1:Nat)):Int):=by omega
 rw [e];unfold Lib.itoa;rw [yn yE,AH,Lib.decDigits_one yE]
theorem ZAj:∀k:Nat,k<3->Yv (nmK k)=true
 |0,_=>by rw [Zn6 0 yE];decide +kernel
 |1,_=>by rw [Zn6 1 yE];decide +kernel
 |2,_=>by rw [Zn6 2 yE];decide +kernel
 |k+3,h=>by omega
theorem Zzd:∀i j:Nat,i<3->j<3->nmK i=nmK j->i=j:=by
 have key:∀i j:Nat,i<j->j<3->nmK i≠nmK j:=by
  intro i j C B h;rw [Zn6 i yE,Zn6 j yE]at h;rcases i with _|_|i<;>rcases j with _|_|_|j<;>first|omega|exact absurd h (by decide +kernel)
 intro i j hi B h;rcases BE i j with A|A|A
 .exact absurd h (key i j A B)
 .exact A
 .exact absurd h.symm (key j i A hi)
structure NmI (acc:List Zj):Prop where
 var:∀a v,YO acc a=some v->Yv a=true/\∃k,k<acc.length/\v=nmK k
 inj:∀a b v,YO acc a=some v->YO acc b=some v->a=b
theorem Zyj {acc:List Zj}{s a v:BYT}(h:YO acc a=some v):YO (Qw acc s) a=some v:=by
 unfold Qw;split
 .rw [Zin,h]
 .exact h
theorem ZzN {acc:List Zj}{s:BYT}(h:Yv s=true):∃v,YO (Qw acc s) s=some v:=by
 unfold Qw;by_cases A:YO acc s=none
 .rw [yp ⟨h,A⟩,Zin,A];exact ⟨_,yp rfl⟩
 .rw [yn fun B=>A B.2];cases e:YO acc s with
  |none=>exact absurd e A
  |some v=>exact ⟨v,rfl⟩
theorem NmI.name {acc:List Zj}{s:BYT}(h:NmI acc) (D:acc.length<3):NmI (Qw acc s):=by
 unfold Qw;split
 rotate_left
 .exact h
 rename_i hs;have c:∀a v,YO (acc++[{ var:=s,value:=nmK acc.length }]) a=some v->YO acc a=some v\/a=s/\v=nmK acc.length:=fun a v e=>by
  rw [Zin]at e;cases hg:YO acc a with
  |some u=>rw [hg]at e;exact .inl e
  |none=>
   rw [hg]at e;simp only at e;split at e
   .rename_i F;exact .inr ⟨F.symm,(AI e).symm⟩
   .simp at e
 refine ⟨fun a v e=>?_,fun a b v J I=>?_⟩
 .rcases c a v e with e|⟨rfl,rfl⟩
  .obtain ⟨G,k,E,A⟩:=h.var a v e;exact ⟨G,k,by rw [AF];omega,A⟩
  .exact ⟨hs.1,acc.length,yG,rfl⟩
 .rcases c a v J with C|⟨C,H⟩<;>rcases c b v I with B|⟨B,d⟩
  .exact h.inj a b v C B
  .obtain ⟨_,k,E,A⟩:=h.var a v C;have:=Zzd k acc.length yE D (by rw [<-A,d]);omega
  .obtain ⟨_,k,E,A⟩:=h.var b v B;have:=Zzd k acc.length yE D (by rw [<-A,H]);omega
  .rw [C,B]
theorem ZnR:∀(l:List BYT) (acc:List Zj),NmI acc->acc.length+l.length<=3->NmI (l.foldl Qw acc)
 | [],_,h,_=>h
 |s::l,acc,h,hl=>by
  simp only[AE]at hl;have:=Zhe acc s;exact ZnR l _ (h.name yE) yE
theorem Zkx:∀(l:List BYT) (acc:List Zj) {a v:BYT},YO acc a=some v->YO (l.foldl Qw acc) a=some v
 | [],_,_,_,h=>h
 |s::l,acc,_,_,h=>Zkx l (Qw acc s) (Zyj h)
theorem ZlM:∀(l:List BYT) (acc:List Zj),∀a∈l,Yv a=true->∃v,YO (l.foldl Qw acc) a=some v
 |s::l,acc,a,A,ha=>by
  rcases AR.1 A with rfl|A
  .obtain ⟨v,B⟩:=ZzN (acc:=acc) ha;exact ⟨v,Zkx l _ B⟩
  .exact ZlM l _ a A ha
theorem Zq3 {A:List Zj}(C:NmI A) {a:BYT}(B:Z9 a=true):ZhC A a=a:=by
 unfold ZhC;cases hg:YO A a with
 |none=>rfl
 |some v=>
  have:=(C.var a v hg).1;rw [ZeW this]at B;simp at B
theorem Zsy {A:List Zj}(C:NmI A) (K:A.length<=3):∀{p f:List BYT}{c d c':List Zj},(∀a∈p,Yv a=true->∃v,YO A a=some v)->YA c'=true->c'.length+p.length<=6->(∀a v z,YO A a=some v->YO c' v=some z->YO c a=some z)->Zck p f c=some d->∃S,Zck (p.map (ZhC A)) f c'=some S
 | [],_,_,_,c',_,_,_,_,_=>⟨c',rfl⟩
 |_::_,[],_,_,_,_,_,_,_,h=>by simp [Zck]at h
 |a::p,w::f,c,d,c',hm,hb,hl,hr,h=>by
  simp only[AE]at hl;simp only[Zck,Aa]at h ⊢;by_cases E:Z9 a=true
  .rw [yp E]at h;rw [Zq3 C E,yp E];split at h
   .rename_i R;rw [yp R];exact Zsy C K (fun b G=>hm b (by simp [G])) hb yE hr h
   .simp at h
  .rw [yn E]at h;obtain ⟨T,F,h⟩:=AN.1 h;have I:Yv a=true/\Z9 w=true:=by
    unfold ZfX at F;split at F
    .rename_i O;exact O.2
    .simp at F
   obtain ⟨v,i⟩:=hm a yG I.1;have P:ZhC A a=v:=by unfold ZhC;rw [i];rfl
   obtain ⟨_,k,W,rfl⟩:=C.var a v i;have l:=ZAj k yE;rw [P,yn (by rw [ZeW l];simp)];obtain ⟨V,J,H⟩:=ZnM F;have D:∃g,ZfX c' (nmK k) w=some g/\YA g=true/\g.length<=c'.length+1/\∀b u z,YO A b=some u->YO g u=some z->YO T b=some z:=by
    cases hg:YO c' (nmK k) with
    |some m=>
     have h2:=H _ _ (hr a _ m i hg);rw [J]at h2;obtain rfl:=AI h2;exact ⟨c',by unfold ZfX;rw [yp ⟨hb,l,I.2⟩,hg];simp,hb,yE,fun b u z j B=>H _ _ (hr b u z j B)⟩
    |none=>
     have D:ZfX c' (nmK k) w=some (ZgP c' (nmK k) w):=by
      unfold ZfX;rw [yp ⟨hb,l,I.2⟩,hg];exact yn yE
     refine ⟨_,D,(ZnM D).1,by rw [Zo9];omega,fun b u z j B=>?_⟩;rw [ZjW hg]at B;split at B
     .rename_i e;subst e;obtain rfl:=C.inj a b _ i j;obtain rfl:=AI B;exact J
     .exact H _ _ (hr b u z j B)
   obtain ⟨g,N,M,U,L⟩:=D;rw [N,A0];exact Zsy C K (fun b G=>hm b (by simp [G])) M yE L h
theorem Zm7 {p:Zm}{f:Zf}{b:List Zj}(h:(Y0 p f b).isSome=true):(Y0 (Qd p) f []).isSome=true:=by
 unfold Y0 at h ⊢;split at h
 rotate_left
 .simp at h
 rename_i A;unfold ZfG at A;simp only[AD,decide_eq_true_iff]at A;obtain ⟨⟨⟨⟨L,K⟩,R⟩,J⟩,I⟩:=A;have hp:=L;unfold Xm at hp;simp only[AD,decide_eq_true_iff]at hp;obtain ⟨⟨H,C⟩,G⟩:=hp;have B:NmI (ZhV p.args):=ZnR p.args [] ⟨fun a v e=>by simp [YO]at e,fun a b v e=>by simp [YO]at e⟩ (by simpa using C);have c:(ZhV p.args).length<=3:=by
  have:=ZhU p.args [];simp only[Ah]at this;show (p.args.foldl Qw []).length<=3
  omega
 have F:∀a∈p.args,Yv a=true->∃v,YO (ZhV p.args) a=some v:=ZlM p.args [];have g:ZfG (Qd p) f []=true:=by
  unfold ZfG Xm;simp only[AD,decide_eq_true_iff];refine ⟨⟨⟨⟨⟨⟨H,by simpa [Qd]using C⟩,?_⟩,K⟩,rfl⟩,J⟩,by simpa [Qd]using I⟩;rw [BF];intro y M;obtain ⟨a,D,rfl⟩:=AW.1 M;have ht:=BF.1 G a D;unfold Xt at ht ⊢;rw [Bool.or_eq_true]at ht ⊢;rcases ht with ht|ht
  .rw [Zq3 B ht];exact .inl ht
  .obtain ⟨v,E⟩:=F a D ht;obtain ⟨_,k,S,rfl⟩:=B.var a v E;have O:ZhC (ZhV p.args) a=nmK k:=by unfold ZhC;rw [E];rfl
   rw [O];exact .inr (ZAj k yE)
 rw [yp g];obtain ⟨d,e⟩:=Option.isSome_iff_exists.1 h;obtain ⟨T,P⟩:=Zsy B c (c':=[]) F rfl (by simp only[Ah];omega) (fun a v z _ N=>by simp [YO]at N) e;show (Zck (p.args.map _) f.args []).isSome=true
 rw [P];rfl
theorem Zzn {x:Zh}{F:List Zf}{t:Zi}(A:x.kind=1\/x.kind=2):QL x (YR (Qd x.pattern) [] F) t=QL x F t:=by
 unfold QL;split
 .unfold YR;rw [List.filterMap_filter];congr 1
  funext f
  by_cases hs:(Y0 (Qd x.pattern) f []).isSome=true
  .rw [yp hs]
  .rw [yn hs];cases e:Y0 x.pattern f t.binding with
   |none=>rfl
   |some b=>exact absurd (Zm7 (by rw [e];rfl)) hs
 .have e:YR x.pattern t.binding (YR (Qd x.pattern) [] F)=YR x.pattern t.binding F:=by
   unfold YR;rw [List.filter_filter];congr 1
   funext f
   cases e:(Y0 x.pattern f t.binding).isSome with
   |false=>rfl
   |true=>rw [Zm7 e];rfl
  unfold ZiU;rw [e]
theorem ZzV {x:Zh}{F:List Zf}(A:x.kind=1\/x.kind=2) (ts:List Zi):Zbk x (YR (Qd x.pattern) [] F) ts=Zbk x F ts:=by
 unfold Zbk;congr 1
 funext t
 exact Zzn A
theorem Zx0 {x:Zh}{F:List Zf}(A:¬(x.kind=1\/x.kind=2)) (ts:List Zi):Zbk x [] ts=Zbk x F ts:=by
 unfold Zbk;congr 1
 funext t
 unfold QL ZiU;rw [yn fun h=>A (.inl h),yn fun h=>A (.inl h)];simp only[yn fun h=>A (.inl h),yn fun h=>A (.inr h)]
def Zma (A:List ZO) (y:ZA):Prop:=(¬(y.cond.kind=1\/y.cond.kind=2)/\y.alpha<0)\/((y.cond.kind=1\/y.cond.kind=2)/\∃k:Nat,y.alpha=(k:Int)/\∃a,A[k]?=some a/\a.shape=Qd y.cond.pattern)
def Zp5 (n:Zc):Prop:=∀(i:Nat) (y:ZA),1<=i->n.nodes[i]?=some y->Zma n.alphas y
theorem Zma.more {A z:List ZO}{y:ZA}(h:Zma A y):Zma (A++z) y:=by
 rcases h with h|⟨E,k,D,a,B,C⟩
 .exact .inl h
 .exact .inr ⟨E,k,D,a,by rw [AT (AC.1 B).1];exact B,C⟩
theorem Zou {p:Zm}:∀{l:List ZO}{i k:Nat},ZlL p l i=some k->∃a,i<=k/\l[k - i]?=some a/\a.shape=p
 | [],_,_,h=>by simp [ZlL]at h
 |y::r,i,k,h=>by
  unfold ZlL at h;split at h
  .rename_i A;obtain rfl:=AI h;exact ⟨y,AG _,yG,A⟩
  .obtain ⟨z,D,C,B⟩:=Zou h;refine ⟨z,yE,?_,B⟩;rw [show k - i=(k - (i+1))+1 by omega,BU];exact C
theorem ZAB (n:Zc) (p:Zm):(∃z,(XQ n p).2.alphas=n.alphas++z)/\∃k:Nat,(XQ n p).1=(k:Int)/\∃a,(XQ n p).2.alphas[k]?=some a/\a.shape=p:=by
 unfold XQ;split
 .rename_i i hi;obtain ⟨a,C,B,A⟩:=Zou hi;exact ⟨⟨[],yG⟩,i,rfl,a,by simpa using B,A⟩
 .exact ⟨⟨_,rfl⟩,n.alphas.length,rfl,{ shape:=p,facts:=[] },yG,rfl⟩
theorem ZFz {n:Zc}{p:Int}{x:Zh}(h:Zp5 n):Zp5 (Z4 n p x).2:=by
 unfold Z4;split
 .exact h
 .have C:∀a:Int×Zc,a=(if x.kind=1\/x.kind=2 then XQ n (Qd x.pattern) else (-1,n))->(∃z,a.2.alphas=n.alphas++z)/\Zma a.2.alphas { parent:=p,cond:=x,alpha:=a.1,tokens:=[] }:=by
   rintro a rfl;split
   .rename_i B;obtain ⟨G,k,F,b,E,D⟩:=ZAB n (Qd x.pattern);exact ⟨G,.inr ⟨B,k,F,b,E,D⟩⟩
   .rename_i B;exact ⟨⟨[],yG⟩,.inl ⟨B,yG⟩⟩
  generalize (if x.kind=1\/x.kind=2 then XQ n (Qd x.pattern) else (-1,n))=a at *
  obtain ⟨⟨z,I⟩,H⟩:=C a rfl;intro i y hi A;simp only at A ⊢;rcases An i n.nodes.length with c|d
  .rw [AT c]at A;rw [I];exact (h i y hi A).more
  .rw [BB d]at A;have e:i - n.nodes.length=0:=by
    have:=(AC.1 A).1;simp at this;omega
   rw [e]at A;obtain rfl:=AI A;exact H
theorem ZB6:∀(l:List Zh) (p:Int) (n:Zc),Zp5 n->Zp5 (X4 l (p,n)).2
 | [],_,_,h=>h
 |x::l,p,n,h=>ZB6 l (Z4 n p x).1 (Z4 n p x).2 (ZFz h)
theorem ZB4:∀(l:List Zq) (n:Zc),Zp5 n->Zp5 (l.foldl X9 n)
 | [],_,h=>h
 |r::l,n,h=>ZB4 l (X9 n r) (ZB6 (Zdh r) 0 n h)
theorem ZHO (R:List Zq) (t:List Zi):Zp5 (ZeP R t):=ZB4 R (ZaT R t) fun i y hi A=>by
 have:=(AC.1 A).1;simp [ZaT]at this;omega
theorem Zxd {n:Zc}(F:List Zf) (h:Zp5 n):Zp5 (Yw n F):=fun i y hi A=>by
 have b:(n.nodes.mapIdx (XT n.nodes F))[i]?=some y:=A;rw [AL]at b;obtain ⟨x,B,rfl⟩:=AA.1 b;rcases h i x hi B with h|⟨G,k,E,a,D,C⟩
 .exact .inl h
 .exact .inr ⟨G,k,E,QG F a,by show (n.alphas.map (QG F))[k]?=_;rw [A9,D];rfl,C⟩
def Zkv (l:List Zi):Prop:=l.Pairwise fun t u=>t.facts≠u.facts
theorem Zu7 {x:Zh}{F:List Zf}(D:F.Pairwise fun a b=>a≠b) {ts:List Zi}(h:Zkv ts):Zkv (Zbk x F ts):=by
 unfold Zbk Zkv;rw [List.pairwise_flatMap];refine ⟨fun t J=>?_,h.imp fun {t u} c y B z A=>?_⟩
 .unfold QL;split
  .refine List.Pairwise.filterMap _ (fun f g d y B z A=>?_) D;obtain ⟨_,_,rfl⟩:=AA.1 B;obtain ⟨_,_,rfl⟩:=AA.1 A;intro e;have:=List.append_cancel_left e;simp at this;exact d this
  .split
   .exact Bc _ _
   .exact Bd
 .unfold QL at B A;by_cases C:x.kind=1
  .rw [yp C]at B A;obtain ⟨f,_,G⟩:=Be.1 B;obtain ⟨g,_,E⟩:=Be.1 A;obtain ⟨_,_,rfl⟩:=AA.1 G;obtain ⟨_,_,rfl⟩:=AA.1 E;intro e;exact c (List.append_inj_left' e rfl)
  .rw [yn C]at B A;have I:y=t:=by
    split at B
    .simpa using B
    .simp at B
   have H:z=u:=by
    split at A
    .simpa using A
    .simp at A
   rw [I,H];exact c
theorem Zr3 {F:List Zf}(A:F.Pairwise fun a b=>a≠b) (l:List Zh):Zkv (Yk l F):=by
 have key:∀(l:List Zh) (ts:List Zi),Zkv ts->Zkv (l.foldl (fun ts x=>Zbk x F ts) ts):=by
  intro l;induction l with
  |nil=>intro ts h;exact h
  |cons x l ih=>intro ts h;exact ih _ (Zu7 A h)
 exact key l [Zkz] (Bc _ _)
end
section
open Classical
theorem ZzC (x:Zf):¬Zeb x x<0:=by rw [(ZjV.eq x x).2 rfl];omega
theorem Zol {l:List Zf}(h:ZA2 l):l.Nodup:=List.Pairwise.imp (fun {a b} c e=>by subst e;exact ZzC a c) h
theorem Zlv {F:List Zf}(h:YP F=true):ZA2 F:=by
 unfold YP at h;rw [AD]at h;have c:∀i y x,F[i]?=some y->F[i+1]?=some x->Zeb y x<0:=fun i y x B C=>by
  have:=Zr8 h.2 (i+1) x C;unfold ZhX at this;rw [AD,AM,yn yE,Nat.add_sub_cancel,B]at this;simpa using this.2
 have key:∀(l:List Zf),(∀i y x,l[i]?=some y->l[i+1]?=some x->Zeb y x<0)->ZA2 l:=by
  intro l;induction l with
  |nil=>intro _;exact Bd
  |cons a l ih=>
   intro D;have hp:=ih (fun i y x B C=>D (i+1) y x (by simpa using B) (by simpa using C));unfold ZA2 at hp ⊢;rw [BG];refine ⟨fun x A=>?_,hp⟩;cases l with
   |nil=>simp at A
   |cons b l=>
    have d:=D 0 a b rfl rfl;rcases AR.1 A with rfl|A
    .exact d
    .rw [BG]at hp;exact ZjV.tr _ _ _ d (hp.1 x A)
 exact key F c
theorem Zhk {α:Type}{f:α->Nat}{N:Nat}:∀{l:List α},(∀x∈l,f x<=N)->(l.map f).sum<=l.length*N
 | [],_=>by simp
 |x::l,h=>by
  have h1:=h x yG;have h2:=Zhk (l:=l) fun y A=>h y (by simp [A]);simp only[Aa,Bf,AE,AS];omega
theorem Zyq {f:Zf}(h:Xh f=true):YV f<=64:=by
 unfold Xh ZaE at h;simp only[AD,decide_eq_true_eq,BF]at h;obtain ⟨⟨⟨C,_⟩,E⟩,B⟩:=h;have h4:=(ZaF C).2;have D:(f.args.map Bg).sum<=f.args.length*8:=Zhk fun x A=>(ZaF (B x A)).2;unfold YV XA;omega
end
section
open Classical
def ZvD:List Zf->Zf->Nat->Int
 | [],_,_=>-1
 |x::l,f,i=>if x=f then (i:Int) else ZvD l f (i+1)
theorem ZuB (l:List Zf) (f:Zf):Zby l f=some (ZvD l f 0):=by
 unfold Zby;generalize 0=i
 induction l generalizing i with
 |nil=>rfl
 |cons x l ih=>
  by_cases A:x=f
  .rw [Yp (r:=(i:Int)) (by rw [ZaU,A0,yp (decide_eq_true A)])];simp [ZvD,A]
  .rw [ZP (s':=()) (by rw [ZaU,A0,yn (by simpa using A)]),ih (i+1)];simp [ZvD,A]
theorem Zrm {f:Zf}:∀{l:List Zf}{i:Nat},(f∉l/\ZvD l f i=-1)\/∃j,ZvD l f i=((i+j:Nat):Int)/\l[j]?=some f
 | [],i=>.inl ⟨yG,rfl⟩
 |x::l,i=>by
  unfold ZvD;by_cases A:x=f
  .rw [yp A];exact .inr ⟨0,yG,by simp [A]⟩
  .rw [yn A];rcases Zrm (f:=f) (l:=l) (i:=i+1) with ⟨C,B⟩|⟨j,C,B⟩
   .exact .inl ⟨by simp only[AR,not_or];exact ⟨fun e=>A e.symm,C⟩,B⟩
   .exact .inr ⟨j+1,by rw [C];congr 1;omega,by simpa using B⟩
structure SmF (l:List Zf):Prop where
 n:l.length<=1048576
 a:∀f∈l,f.args.length<=1048576
theorem SmF.of24 {l:List Zf}(C:l.length<=24) (B:∀f∈l,f.args.length<=3):SmF l:=⟨yE,fun f A=>by have:=B f A;omega⟩
theorem ZcU {l:List Zf}(h:SmF l):Yl l=some l:=Zdk l h.n h.a
theorem ZdQ {l:List Zf}(h:SmF l):Y4 l=some l:=Zgv l h.n h.a
def Znt (l:List Zf) (f:Zf):List Zf×Bool:=if YP l=true/\Xh f=true/\f∉l/\l.length<24 then (Zi3 l f,true) else (l,false)
def Znq (l:List Zf) (f:Zf):List Zf×Bool:=if YP l=true/\f∈l then (l.filter fun x=>decide (x≠f),true) else (l,false)
theorem Zr7 {l:List Zf}(h:SmF l) (f:Zf):Zha l f=some (Znt l f):=by
 unfold Zha Znt;rw [ZgA,A0];by_cases D:YP l=true
 rotate_left
 .rw [yn D,yn fun A=>D A.1,ZcU h];rfl
 rw [yp D,ZiK,A0];by_cases C:Xh f=true
 rotate_left
 .rw [yn C,yn fun A=>C A.2.1,ZcU h];rfl
 obtain ⟨z,e,E⟩:=Zku l f;rw [yp C,e,A0];by_cases B:f∈l
 .rw [yp (by rw [decide_eq_true_iff];exact Classical.byContradiction fun G=>E.1 yE B),yn fun A=>A.2.2.1 B,ZcU h];rfl
 rw [yn (by rw [decide_eq_true_iff];have:=E.2 B;omega)];by_cases F:l.length<24
 .rw [yn (by simp;omega),yp ⟨D,C,B,F⟩,ZrU l f B h.n h.a (by have:=ZjL C;omega)];rfl
 .rw [yp (by simp;omega),yn fun A=>F A.2.2.2,ZcU h];rfl
theorem Zsv {l:List Zf}(h:SmF l) (f:Zf):ZgQ l f=some (Znt l f):=by
 unfold ZgQ Znt;rw [ZgB l h.n,A0];by_cases C:YP l=true
 rotate_left
 .rw [yn C,yn fun A=>C A.1,ZdQ h];rfl
 rw [yp C,ZiW,A0];by_cases B:Xh f=true
 rotate_left
 .rw [yn B,yn fun A=>B A.2.1,ZdQ h];rfl
 obtain ⟨z,e,E⟩:=Zj8 l f;rw [yp B,e,A0];by_cases D:f∈l
 .rw [yp (by rw [decide_eq_true_iff];exact Classical.byContradiction fun G=>E.1 yE D),yn fun A=>A.2.2.1 D,ZdQ h];rfl
 rw [yn (by rw [decide_eq_true_iff];have:=E.2 D;omega)];have h24:=(Zf5 C).1;by_cases F:l.length<24
 .rw [yn (by simp;omega),yp ⟨C,B,D,F⟩,Zvo l f h.n h.a (by have:=ZjL B;omega)];rfl
 .rw [yp (by simp;omega),yn fun A=>F A.2.2.2,ZdQ h];rfl
theorem Zpq {f:Zf}:∀{l:List Zf}{j:Nat},l.Nodup->l[j]?=some f->l.take j++l.drop (j+1)=l.filter fun x=>decide (x≠f)
 | [],j,_,h=>by simp at h
 |x::l,0,hn,h=>by
  obtain rfl:=AI (by simpa using h:some x=some f);rw [Bh]at hn;simp only[BH,AJ,Bi,Bj];have A:∀y∈l,decide (y≠x)=true:=fun y C=>decide_eq_true fun e=>hn.1 (by rw [<-e];exact C);rw [BI yG,List.filter_eq_self.2 A]
 |x::l,j+1,hn,h=>by
  rw [Bh]at hn;have B:l[j]?=some f:=by simpa using h
  have A:x≠f:=fun e=>hn.1 (by rw [e];exact AZ B);rw [List.take_succ_cons,Bi,BV,Zpq hn.2 B,BJ (by simpa using A)]
theorem SmF.take {l:List Zf}(h:SmF l) (k:Nat):SmF (l.take k):=⟨by rw [Ak];have:=h.n;omega,fun f A=>h.a f (At A)⟩
theorem SmF.drop {l:List Zf}(h:SmF l) (k:Nat):SmF (l.drop k):=⟨by rw [Bk];have:=h.n;omega,fun f A=>h.a f (Au A)⟩
theorem Znw {l:List Zf}(h:SmF l) (f:Zf):ZcM l f=some (Znq l f):=by
 unfold ZcM Znq;rw [ZuB,A0,ZgA,A0];by_cases A:YP l=true
 rotate_left
 .rw [yn A,yn fun C=>A C.1,ZcU h];rfl
 rw [yp A];have hn:=h.n;rcases Zrm (f:=f) (l:=l) (i:=0) with ⟨D,e⟩|⟨j,e,B⟩
 .rw [e,yp yF,yn fun C=>D C.2,ZcU h];rfl
 .rw [AM]at e;have hlt:=(AC.1 B).1;rw [e,yn yG,Zn _ yE,AH,Bj,ZcU (h.take j),A0,Qj yE yE,Zn _ yE,Bl,
   show ((j:Int)+1).toNat=j+1 by omega,ZcU (h.drop (j+1)),A0,Zn _ (by rw [Ak,Bk];omega),Zpq (Zol (Zlv A)) B,yp ⟨A,AZ B⟩]
theorem Zp8 {l:List Zf}(h:SmF l) (f:Zf):ZcO l f=some (Znq l f):=by
 unfold ZcO Znq;rw [ZgB l h.n,A0];by_cases C:YP l=true
 rotate_left
 .rw [yn C,yn fun A=>C A.1,ZdQ h];rfl
 obtain ⟨z,e,D⟩:=Zj8 l f;rw [yp C,e,A0];by_cases B:f∈l
 rotate_left
 .rw [yp (decide_eq_true (D.2 B)),yn fun A=>B A.2,ZdQ h];rfl
 rw [yn (by rw [decide_eq_true_iff];exact fun A=>D.1 A B),yp ⟨C,B⟩];unfold Zga;rw [Zgn (p:=fun x=>decide (x≠f))]
 .rfl
 .intro j x s E hs;simp only[Ah,AM]at hs;have hn:=h.n;rw [ZuH,A0];by_cases e:x=f
  .rw [yp (by simpa using e),yn (by simpa using e)]
  .rw [yn (by simpa using e),Qz _ (h.a x E),A0,Zn _ yE,yp (by simpa using e)]
theorem ZrS {l:List Zf}{f:Zf}(h:(Znt l f).2=true):(Znt l f).1.length<=24/\∀g∈(Znt l f).1,Xh g=true:=by
 unfold Znt at h ⊢;split
 .rename_i A;have h1:=Zf5 A.1;have h2:=ZuO f l;refine ⟨by simp only;omega,fun g B=>?_⟩;rcases ZuK.1 B with rfl|B
  .exact A.2.1
  .exact h1.2 g B
 .rename_i A;rw [yn A]at h;simp at h
theorem Zsx {l:List Zf}{f:Zf}(h:(Znq l f).2=true):(Znq l f).1.length<=24/\∀g∈(Znq l f).1,Xh g=true:=by
 unfold Znq at h ⊢;split
 .rename_i A;have h1:=Zf5 A.1;refine ⟨Ac (Aw _ _) h1.1,fun g B=>h1.2 g (BK.1 B).1⟩
 .rename_i A;rw [yn A]at h;simp at h
structure SmT (t:Zi):Prop where
 b:t.binding.length<=1048576
 f:SmF t.facts
structure ZHP (y:ZA):Prop where
 c:y.cond.pattern.args.length<=1048576
 l:y.tokens.length<=1048576
 t:∀t∈y.tokens,SmT t
structure SmW (n:Zc):Prop where
 rl:n.rules.length<=1048576
 ru:∀r∈n.rules,Zaf r
 en:n.ends.length<=1048576
 f:SmF n.facts
 al:n.alphas.length<=1048576
 a:∀a∈n.alphas,a.shape.args.length<=1048576/\SmF a.facts
 nl:n.nodes.length<=1048576
 n:∀y∈n.nodes,ZHP y
theorem Znk {l:List Zi}(B:l.length<=1048576) (h:∀t∈l,SmT t):Zdm l=some l:=by
 unfold Zdm;rw [Xw (g:=fun y=>y)]
 .simp
 .intro j t s A hs;have ht:=h t A;have hb:=ht.b;rw [ZcU ht.f,A0];unfold Zat;rw [Zn _ yE,A0,Zn _ (by simp at hs;omega)]
theorem Znx {l:List Zi}(B:l.length<=1048576) (h:∀t∈l,SmT t):Zbb l=some l:=by
 unfold Zbb;rw [Xw (g:=fun y=>y)]
 .simp
 .intro j t s A hs;have ht:=h t A;have hb:=ht.b;unfold Zfc ZcN;rw [ZdQ ht.f,A0,Zn _ yE,A0,A0,Zn _ (by simp at hs;omega)]
theorem Zx9 (x:Zh) (h:x.pattern.args.length<=1048576):ZbM x=some x:=by
 unfold ZbM;rw [ZeC x [] h,A0];congr 1
 have e:∀s:BYT,ZhC [] s=s:=fun _=>rfl;unfold ZsP;rw [show (ZhC []:BYT->BYT)=id from funext e,List.map_id];rfl
theorem XS {n:Zc}(h:SmW n):Ym n=some n:=by
 unfold Ym Zhs;have hl:=h.en;have ha:=h.al;have hn:=h.nl;rw [ZlG _ h.rl h.ru,A0,Zn _ yE,A0,ZcU h.f,A0,Xw (g:=fun y=>y)]
 .rw [AJ,Ag,Xw (g:=fun y=>y)]
  .rw [AJ,Ag]
  .intro j y s A hs;have hy:=h.n y A;rw [ZaV _ hy.c,A0,Znk hy.l hy.t,A0,Zn _ (by simp at hs;omega)]
 .intro j a s B hs;obtain ⟨D,C⟩:=h.a a B;unfold Qu;rw [Zbq _ yE,A0,A0,ZcU C,A0,Zn _ (by simp at hs;omega)]
theorem QA {n:Zc}(h:SmW n):QW n=some n:=by
 unfold QW Zlz;have hl:=h.en;have ha:=h.al;have hn:=h.nl;rw [ZmO _ h.rl h.ru,A0,Zn _ yE,A0,ZdQ h.f,A0,Xw (g:=fun y=>y)]
 .rw [AJ,Ag,Xw (g:=fun y=>y)]
  .rw [AJ,Ag]
  .intro j y s A hs;have hy:=h.n y A;rw [Zx9 _ hy.c,A0,Znx hy.l hy.t,A0,Zn _ (by simp at hs;omega)]
 .intro j a s B hs;obtain ⟨D,C⟩:=h.a a B;unfold Qe;rw [ZhS _ yE,A0,A0,ZdQ C,A0,Zn _ (by simp at hs;omega)]
theorem ZqP {a b:List Zf}{body:Nat->Zf->Unit->Option (Unit ⊕ Int)}{fin:Unit->Option Int}{q:Int}(E:q=0↔a.length=b.length) (d:fin ()=some q)
  (J:∀i x y,b[i]?=some y->body i x ()=if Zeb x y=0 then some (.inl ()) else some (.inr (Zeb x y))) (I:∀i x,b.length<=i->body i x ()=some (.inr q)):∃z,Zx body fin a 0 ()=some z/\(z=0↔a=b):=by
 have key:∀(r c:List Zf),a=c++r->c=b.take c.length->c.length<=b.length->∃z,Zx body fin r c.length ()=some z/\(z=0↔a=b):=by
  intro r;induction r with
  |nil=>
   intro c e C H;refine ⟨q,d,E.trans ⟨fun A=>?_,fun A=>by rw [A]⟩⟩;rw [Ai]at e;subst e;rw [C,A,Bl]
  |cons x r ih=>
   intro c e C H;rcases An c.length b.length with f|g
   .have D:b[c.length]?=some b[c.length]:=A6 f;have hx:=J c.length x _ D;by_cases B:Zeb x b[c.length]=0
    .rw [yp B]at hx;rw [ZP hx];have j:=(ZjV.eq _ _).1 B;have:=ih (c++[x]) (by rw [e];simp) (by rw [AF,AY,AX,D,<-C,j];rfl) (by rw [AF,AY];omega);simpa using this
    .rw [yn B]at hx;refine ⟨_,Yp hx,⟨fun A=>absurd A B,fun A=>absurd ((ZjV.eq _ _).2 ?_) B⟩⟩;have F:a[c.length]?=some x:=by rw [e];simp
     rw [A,D]at F;exact (AI F).symm
   .have hx:=I c.length x g;have G:a.length=c.length+(r.length+1):=by rw [e];simp
    exact ⟨q,Yp hx,E.trans ⟨fun A=>by omega,fun A=>by rw [A]⟩⟩
 exact key a [] rfl rfl (BL _)
theorem ZC0 (t u:Zi):∃z,ZaS t u=some z/\(z=0↔t.facts=u.facts):=by
 unfold ZaS ZaC Xs;have e:∀o:Option Int,(o.bind fun v=>some v)=o:=fun o=>by cases o<;>rfl
 rw [e];have C:∃q:Int,(q=0↔t.facts.length=u.facts.length)/\(if (decide ((t.facts.length:Int)<(u.facts.length:Int)))=true then some (-1) else if (decide ((u.facts.length:Int)<(t.facts.length:Int)))=true then some 1 else some 0)=some q:=by
  rcases BE t.facts.length u.facts.length with h|h|h
  .exact ⟨-1,yE,by rw [yp (by simp;omega)]⟩
  .exact ⟨0,yE,by rw [yn (by simp;omega),yn (by simp;omega)]⟩
  .exact ⟨1,yE,by rw [yn (by simp;omega),yp (by simp;omega)]⟩
 obtain ⟨q,a,b⟩:=C;rw [b];refine ZqP a rfl (fun i x y B=>?_) fun i x hi=>?_
 .have hi:=(AC.1 B).1;rw [yp (by simp;omega),Xi,B,A0,ZcS,A0];by_cases A:Zeb x y=0
  .rw [yp A,yn (by simp [A])]
  .rw [yn A,yp (by simpa using A)]
 .rw [yn (by simp;omega)];rfl
theorem Zz0 (t u:Zi):∃z,Qg t u=some z/\(z=0↔t.facts=u.facts):=by
 unfold Qg;have C:∃q:Int,(q=0↔t.facts.length=u.facts.length)/\∀{α:Type} (g:Int->α),(if (decide ((t.facts.length:Int)<(u.facts.length:Int)))=true then some (g (-1)) else if (decide ((u.facts.length:Int)<(t.facts.length:Int)))=true then some (g 1) else some (g 0))=some (g q):=by
  rcases BE t.facts.length u.facts.length with h|h|h
  .exact ⟨-1,yE,fun g=>by rw [yp (by simp;omega)]⟩
  .exact ⟨0,yE,fun g=>by rw [yn (by simp;omega),yn (by simp;omega)]⟩
  .exact ⟨1,yE,fun g=>by rw [yn (by simp;omega),yp (by simp;omega)]⟩
 obtain ⟨q,b,a⟩:=C;refine ZqP b (a fun z=>z) (fun i x y B=>?_) fun i x hi=>?_
 .have hi:=(AC.1 B).1;rw [yp (by simp;omega),Xi,B,A0,ZcR,A0];by_cases A:Zeb x y=0
  .rw [yp A,yn (by simp [A])]
  .rw [yn A,yp (by simpa using A)]
 .rw [yn (by simp;omega)];exact a fun z=>(Sum.inr z:Unit ⊕ Int)
def Zeg (l:List Zi) (t:Zi):Bool:=l.any fun u=>decide (u.facts=t.facts)
theorem Zqh (l:List Zi) (t:Zi):ZfR l t=some (Zeg l t):=by
 unfold ZfR Zeg;rw [Zg4 (p:=fun u=>decide (u.facts=t.facts)) (r:=true)]
 .cases l.any _<;>rfl
 .intro i u C;obtain ⟨z,e,A⟩:=ZC0 u t;rw [e,A0];by_cases h:u.facts=t.facts
  .rw [yp (by simpa using A.2 h),decide_eq_true h];rfl
  .rw [yn (by simpa using fun B=>h (A.1 B)),decide_eq_false h];rfl
def Zb0 (now before:List Zi):Nat:=(now.filter (Zeg before)).length
theorem ZnX (a before:List Zi):Zb0 a before<=a.length:=Aw _ _
theorem Zv7 {ρ:Type}{t:Zi}{fin:Int->Option ρ}:∀{l:List Zi}(i:Nat) (z:Int),Zkv l->0<=z->z<=1000000->Zx (σ:=Int) (fun (_:Nat) (a:Zi) A=>(Qg t a).bind fun b=>if (b==0)=true then some (.inl (i64.wrap (A+1))) else some (.inl A)) fin l i z=fin (z+if Zeg l t=true then 1 else 0)
 | [],i,z,_,_,_=>by simp [Zx,Zeg]
 |u::l,i,z,h,D,h1=>by
  unfold Zkv at h;rw [BG]at h;obtain ⟨q,e,E⟩:=Zz0 t u;by_cases C:t.facts=u.facts
  .have H:Zeg l t=false:=by
    unfold Zeg;rw [List.any_eq_false];intro v G;rw [decide_eq_true_iff];exact fun B=>h.1 v G (by rw [<-C,B])
   rw [ZP (s':=z+1) (by rw [e,A0,yp (by simpa using E.2 C),Qj yE yE])];have F:Zeg (u::l) t=true:=by unfold Zeg;simp [C]
   rw [F,yp rfl];have key:∀(l:List Zi) (i:Nat) (z:Int),Zeg l t=false->Zx (σ:=Int) (fun (_:Nat) (a:Zi) A=>(Qg t a).bind fun b=>if (b==0)=true then some (.inl (i64.wrap (A+1))) else some (.inl A)) fin l i z=fin z:=by
    intro l;induction l with
    |nil=>intro i z _;rfl
    |cons v l ih=>
     intro i z B;unfold Zeg at B;rw [Bm,Bool.or_eq_false_iff,decide_eq_false_iff_not]at B;obtain ⟨q,e,E⟩:=Zz0 t v;rw [ZP (s':=z) (by rw [e,A0,yn (by simpa using fun D=>B.1 (E.1 D).symm)])];exact ih _ _ B.2
   exact key l _ _ H
  .rw [ZP (s':=z) (by rw [e,A0,yn (by simpa using fun D=>C (E.1 D))]),Zv7 (i+1) z h.2 D h1];have F:Zeg (u::l) t=Zeg l t:=by
    unfold Zeg;rw [Bm,decide_eq_false fun B=>C B.symm,Bool.false_or]
   rw [F]
theorem Zul {a before:List Zi}(h:Zkv before) (B:a.length<=331776):Zjf a before=some (((Zb0 a before:Nat):Int),(((a.length - Zb0 a before:Nat)):Int)):=by
 unfold Zjf;show Zx _ _ a 0 ((Zb0 [] before:Nat):Int)=_
 rw [Ze8 (ρ:=Int×Int) (fun p=>((Zb0 p before:Nat):Int)) a]
 .have:=ZnX a before;rw [Qj yE yE];congr 2
  omega
 .intro p x q e;have hp:=ZnX p before;have A:p.length+(q.length+1)=a.length:=by rw [e,AF,AE]
  rw [Zv7 0 _ h yE yE];congr 2
  unfold Zb0;rw [BM,AF];cases hx:Zeg before x with
  |true=>rw [BJ hx];simp
  |false=>rw [BI (by rw [hx];simp)];simp
end
section
open Classical
theorem ZsV {σ ρ:Type}{body:σ->Option (σ ⊕ ρ)}(S:Nat->σ) {m len:Nat}(h:m<=len) {r:ρ}(a:∀k,m<=k->k<len->body (S k)=some (.inl (S (k+1)))) (b:body (S len)=some (.inr r)):Zb2 body (S m)=some r:=by
 have key:∀(d k:Nat),k+d=len->m<=k->Zb2 body (S k)=some r:=by
  intro d;induction d with
  |zero=>
   intro k B _;obtain rfl:k=len:=by omega
   exact Zcw b
  |succ d ih=>
   intro k B A;rw [ZeX (a k A yE)];exact ih (k+1) yE yE
 exact key (len - m) m yE (AG _)
def ZBD (k c:Nat) (A:List ZO) (f:Zf) (al z:Int):Int:=
 if al<0 then i64.wrap (z+(c:Int)) else
 match A[al.toNat]? with
 |some a=>if (Y0 a.shape f []).isSome=true then i64.wrap (i64.wrap (z+i64.wrap ((c:Int)*(a.facts.length:Int)))+(k:Int)) else i64.wrap (z+i64.wrap ((c:Int)*(a.facts.length:Int)))
 |none=>z
def trN (n V:Zc) (f:Zf):Nat->Int
 |0=>V.tries
 |i+1=>if i=0 then trN n V f i else
  match V.nodes[i]? with
  |some y=>(match V.nodes[y.parent.toNat]?,n.nodes[y.parent.toNat]? with
   |some u,some b=>ZBD (Zb0 u.tokens b.tokens) (u.tokens.length - Zb0 u.tokens b.tokens) V.alphas f y.alpha (trN n V f i)
   |_,_=>trN n V f i)
  |none=>trN n V f i
theorem Zzx {n V:Zc}{f:Zf}{i:Nat}(h:i≠0) {y u b:ZA}(A:V.nodes[i]?=some y) (B:V.nodes[y.parent.toNat]?=some u) (C:n.nodes[y.parent.toNat]?=some b):
  trN n V f (i+1)=ZBD (Zb0 u.tokens b.tokens) (u.tokens.length - Zb0 u.tokens b.tokens) V.alphas f y.alpha (trN n V f i):=by
 rw [trN,yn h,A];simp only[B,C]
def ZkA (n:Zc) (F:List Zf) (f:Zf):Zc:={ Yw n F with tries:=trN n (Yw n F) f n.nodes.length }
structure VN (n:Zc):Prop where
 nodes:Zhw n.nodes
 path:∀i:Nat,i<n.nodes.length->(XU n.nodes ((i:Nat):Int)).length<=4
 al:n.alphas.length<=1000
 at_:Zp5 n
 tok:∀(j:Nat) (y:ZA),n.nodes[j]?=some y->y.tokens=Yk (XU n.nodes ((j:Nat):Int)) n.facts
 fa:YP n.facts=true
 one:1<=n.nodes.length
theorem ZjS {n:Zc}(F:YQ n.rules=true->∀r∈n.rules,SmN r) (h:Zne n=true):VN n:=by
 unfold Zne at h
 simp only[AD,decide_eq_true_iff]at h
 obtain ⟨⟨⟨D,I⟩,M⟩,H,C,B⟩:=h
 have hl:=(Zc8 D).1
 obtain ⟨L,K,J⟩:=ZmB hl (F D) []
 have A:n.nodes.map QF=(ZeP n.rules []).nodes.map QF:=by rw [B];exact Zmo _ _
 have a:n.nodes.length=(ZeP n.rules []).nodes.length:=by
  have:=congrArg List.length A
  simpa using this
 have b:=(ZrB n.rules (ZaT n.rules []) (Zmd _ _) fun r G=>(F D r G).c4).1.one
 have hs:=(Zs2 n (ZeP n.rules []) [] n.facts).2 ⟨H,C,B⟩
 have hA:=Zxd n.facts (ZHO n.rules [])
 refine ⟨Zja A L,fun i hi=>by rw [Zfe A];exact K i yE,by rw [C];show ((ZeP n.rules []).alphas.map (QG n.facts)).length<=1000;rw [Am];exact J,?_,hs.2.2,I,by rw [a];exact b⟩
 intro i y hi E
 rw [B]at E
 rw [C]
 exact hA i y hi E
theorem Zvu {F:List Zf}(h:YP F=true):F.Pairwise fun a b=>a≠b:=Zol (Zlv h)
theorem Zwr {n:Zc}{F:List Zf}(B:VN n) (K:F.length<=24) (L:∀f∈F,f.args.length<=3) {k:Nat}{y:ZA}(M:1<=k) (A:n.nodes[k]?=some y):
  ∃u b,0<=y.parent/\y.parent<((k:Nat):Int)/\(Yw n F).nodes[y.parent.toNat]?=some u/\n.nodes[y.parent.toNat]?=some b/\u.tokens.length<=331776/\(∀t∈u.tokens,Zvw F t)/\Zkv b.tokens/\Yk (XU n.nodes ((k:Nat):Int)) F=Zbk y.cond F u.tokens/\(Yw n F).nodes[k]?=some (XT n.nodes F k y):=by
 obtain ⟨I,E⟩:=B.nodes.par k y M A
 have hk:=(AC.1 A).1
 have H:y.parent.toNat<n.nodes.length:=by omega
 have D:n.nodes[y.parent.toNat]?=some n.nodes[y.parent.toNat]:=A6 H
 have J:(Yw n F).nodes[y.parent.toNat]?=some (XT n.nodes F y.parent.toNat n.nodes[y.parent.toNat]):=by
  show (n.nodes.mapIdx (XT n.nodes F))[y.parent.toNat]?=_
  rw [AL,D];rfl
 have a:=B.path y.parent.toNat H
 have e:((y.parent.toNat:Nat):Int)=y.parent:=by omega
 have C:(XT n.nodes F y.parent.toNat n.nodes[y.parent.toNat]).tokens=Yk (XU n.nodes ((y.parent.toNat:Nat):Int)) F:=rfl
 refine ⟨_,_,I,E,J,D,by rw [C];exact ZfD F K _ a,fun t G=>(Ze2 F _ t (by rw [C]at G;exact G)).s a L,?_,?_,?_⟩
 .rw [B.tok _ _ D]
  exact Zr3 (Zvu B.fa) _
 .rw [ZjB (y:=y) yE (by simpa using A) E,Zc7,C,e]
 .show (n.nodes.mapIdx (XT n.nodes F))[k]?=_
  rw [AL,A];rfl
theorem Zxw {ρ:Type}{before:List Zi}{fin:Int×Int->Option ρ}{body:Nat->Zi->Int×Int->Option ((Int×Int) ⊕ ρ)}{c:List Zi}(D:c.length<=331776)
  (C:∀i t a b,body i t (a,b)=if Zeg before t=true then some (.inl (i64.wrap (a+1),b)) else some (.inl (a,i64.wrap (b+1)))):
  Zx body fin c 0 (0,0)=fin (((Zb0 c before:Nat):Int),(((c.length - Zb0 c before:Nat)):Int)):=by
 show Zx body fin c 0 (((Zb0 [] before:Nat):Int),((([]:List Zi).length - Zb0 [] before:Nat):Int))=_
 rw [Ze8 (fun p=>(((Zb0 p before:Nat):Int),(((p.length - Zb0 p before:Nat)):Int))) c];intro p x q e;have hp:=ZnX p before;have B:p.length+(q.length+1)=c.length:=by rw [e,AF,AE]
 rw [C];cases hx:Zeg before x with
 |true=>
  have A:Zb0 (p++[x]) before=Zb0 p before+1:=by
   unfold Zb0;rw [BM,AF,BJ hx];simp
  rw [yp rfl,Qj yE yE,A,AF,AY];congr 3
  omega
 |false=>
  have A:Zb0 (p++[x]) before=Zb0 p before:=by
   unfold Zb0;rw [BM,AF,BI (by rw [hx];simp)];simp
  rw [yn yG,Qj yE yE,A,AF,AY];congr 3
  omega
theorem Zme {n:Zc}{F:List Zf}(f:Zf) (A:VN n) (O:SmW n) (K:F.length<=24) (L:∀f∈F,f.args.length<=3):Ze6 n F f=some (ZkA n F f):=by
 unfold Ze6
 rw [XS O,A0,ZqK n F A.nodes A.path K L A.al,A0]
 have j:(Yw n F).nodes.length=n.nodes.length:=by
  show (n.nodes.mapIdx (XT n.nodes F)).length=_
  rw [BN]
 have P:(Yw n F).alphas.length=n.alphas.length:=by
  show (n.alphas.map (QG F)).length=_
  rw [Am]
 have hfew:=A.nodes.few
 show Zx _ _ (Yw n F).nodes 0 (trN n (Yw n F) f ([]:List ZA).length)=_
 rw [Ze8 (fun p=>trN n (Yw n F) f p.length) (Yw n F).nodes]
 .rw [j]
  rfl
 .intro p x q e
  have H:(Yw n F).nodes[p.length]?=some x:=by rw [e];simp
  have m:p.length<n.nodes.length:=by rw [<-j,e];simp
  rw [AF,AY]
  by_cases B:p.length=0
  .rw [yp (by simp [B])]
   have S:trN n (Yw n F) f (0+1)=trN n (Yw n F) f 0:=yp rfl
   rw [B,S]
  .rw [yn (by simpa using B)]
   have G:n.nodes[p.length]?=some n.nodes[p.length]:=A6 m
   obtain ⟨u,b,E,N,C,D,o,_,_,_,l⟩:=Zwr A K L yE G
   rw [H]at l
   have d:=AI l
   have R:x.parent=n.nodes[p.length].parent:=by rw [d];rfl
   have M:x.alpha=n.nodes[p.length].alpha:=by rw [d];rfl
   have T:x.cond=n.nodes[p.length].cond:=by rw [d];rfl
   rw [<-R]at E N C D
   rw [Zn _ yE,C,A0,Zxw (before:=b.tokens) o fun i t a c=>by
    show ((atI n.nodes x.parent).bind _)=_
    unfold atI
    rw [yp E,D,A0,Zqh,A0]]
   rw [Zzx B H C D]
   unfold ZBD
   rcases A.at_ p.length _ yE G with ⟨_,g⟩|⟨_,k,I,a,J,_⟩
   .rw [<-M]at g
    rw [yp g]
    exact yp (decide_eq_true g)
   .rw [<-M]at I
    have hkl:=(AC.1 J).1
    have v:(Yw n F).alphas[k]?=some (QG F a):=by
     show (n.alphas.map (QG F))[k]?=_
     rw [A9,J];rfl
    rw [I,AH,v]
    show (if _ then _ else _)=_
    rw [yn yG,Zn _ yE,A0,Za7,A0,Zdx,yn (show ¬(((k:Nat):Int)<0) by omega)]
    simp only
    split<;>rfl
theorem Zkh {n:Zc}{F:List Zf}(f:Zf) (T:VN n) (hW:SmW n) (V:F.length<=24) (W:∀f∈F,f.args.length<=3):Zdu n F f=some (ZkA n F f):=by
 unfold Zdu
 rw [QA hW,A0,ZdQ (SmF.of24 V W),A0]
 have d:(n.nodes.mapIdx (XT n.nodes F)).length=n.nodes.length:=BN
 have l:(n.alphas.map (QG F)).length=n.alphas.length:=Am _
 have hfew:=T.nodes.few
 have hal:=T.al
 have hS:=SmF.of24 V W
 refine ZsV (fun k=>((n.alphas.map (QG F)).take k++n.alphas.drop k,(n.alphas.map fun a=>(Y0 a.shape f []).isSome).take k,((k:Nat):Int))) (m:=0) (len:=n.alphas.length) (BL _) (fun k _ S=>?_) ?_
 .have hg:=ZnQ (M:=n.alphas.map (QG F)) l S
  have c:((n.alphas.map (QG F)).take k++n.alphas.drop k).length=n.alphas.length:=by simp;omega
  show (if _ then _ else _)=_
  rw [yp (by rw [c];simpa using S),Zn _ (by rw [c];omega),AH,hg,A0,ZfO _ _ _ yG,A0,Zn _ (by simp;omega),ZaD _ _ _ yG hS.n hS.a,A0,
   ZlH (M:=n.alphas.map (QG F)) l S (y:={ shape:=n.alphas[k].shape,facts:=YR n.alphas[k].shape [] F }) (by rw [A9,A6 S];rfl),Qj yE yE,Zdx]
  have U:(n.alphas.map fun a=>(Y0 a.shape f []).isSome).take k++[(Y0 n.alphas[k].shape f []).isSome]=(n.alphas.map fun a=>(Y0 a.shape f []).isSome).take (k+1):=by
   rw [AX,A9,A6 S];rfl
  rw [U]
  rfl
 .have e1:(n.alphas.map (QG F)).take n.alphas.length++n.alphas.drop n.alphas.length=n.alphas.map (QG F):=by
   rw [Ao,Ai,Aj (by rw [l];exact AG _)]
  have e2:(n.alphas.map fun a=>(Y0 a.shape f []).isSome).take n.alphas.length=n.alphas.map fun a=>(Y0 a.shape f []).isSome:=Aj yG
  simp only[e1,e2]
  rw [yn (by rw [l];simp)]
  have I:((fun k:Nat=>(trN n (Yw n F) f k,(n.nodes.mapIdx (XT n.nodes F)).take k++n.nodes.drop k,((k:Nat):Int))) 1)=(n.tries,n.nodes,1):=by
   have h00:=T.one
   have h0:n.nodes[0]?=some n.nodes[0]:=A6 T.one
   have t0:=T.tok 0 _ h0
   have e:XT n.nodes F 0 n.nodes[0]=n.nodes[0]:=by
    unfold XT
    rw [Zcy yG]
    rw [Zcy yG]at t0
    have:Yk [] F=n.nodes[0].tokens:=by rw [t0];rfl
    rw [this]
   have en:(n.nodes.mapIdx (XT n.nodes F)).take 1++n.nodes.drop 1=n.nodes:=by
    rw [AX,AL,h0,AQ,e,BH,AJ]
    have:=BZ 1 n.nodes
    rw [AX,h0,BH,AJ]at this
    exact this
   simp only[en]
   rw [trN,yp rfl]
   rfl
  rw [<-I]
  refine ZsV (fun k:Nat=>(trN n (Yw n F) f k,(n.nodes.mapIdx (XT n.nodes F)).take k++n.nodes.drop k,((k:Nat):Int))) (m:=1) (len:=n.nodes.length) T.one (fun k h1 S=>?_) ?_
  .have hy:n.nodes[k]?=some n.nodes[k]:=A6 S
   obtain ⟨u,b,p0,p1,hu,U,A,B,J,D,E⟩:=Zwr T V W h1 hy
   have hg:=ZnQ (M:=n.nodes.mapIdx (XT n.nodes F)) d S
   have c:((n.nodes.mapIdx (XT n.nodes F)).take k++n.nodes.drop k).length=n.nodes.length:=by simp;omega
   have K:((n.nodes.mapIdx (XT n.nodes F)).take k++n.nodes.drop k)[n.nodes[k].parent.toNat]?=some u:=by
    rw [AT (by rw [Ak,d];omega),List.getElem?_take_of_lt yE]
    exact hu
   have L:atI n.nodes n.nodes[k].parent=some b:=by unfold atI;rw [yp p0,U]
   have o:=ZlH (M:=n.nodes.mapIdx (XT n.nodes F)) d S (y:=XT n.nodes F k n.nodes[k]) E
   have v:∀F',∀t∈u.tokens,Zvw F' t:=fun F' t mt=>⟨(B t mt).bind,(B t mt).len,(B t mt).args⟩
   have N:=Zzx (f:=f) (i:=k) yE E hu U
   simp only
   rw [yp (by rw [c];simpa using S),Zn _ (by rw [c];omega),AH,hg,A0,Zn _ (by rw [c];omega),K,A0,L,A0,Zul J A,A0,N]
   unfold ZBD
   have ea:(XT n.nodes F k n.nodes[k]).alpha=n.nodes[k].alpha:=rfl
   rw [ea]
   rcases T.at_ k _ h1 hy with ⟨C,w⟩|⟨C,j,hj,a,ha,O⟩
   .rw [yp (decide_eq_true w),yp w,ZiT _ _ _ A yG yG (v []),A0,Zx0 C,<-D,Qj (x:=((k:Nat):Int)+1) yE yE]
    exact congrArg (fun z=>some (Sum.inl (_,z,(((k+1:Nat)):Int)))) o
   .have hjl:=(AC.1 ha).1
    have G:(n.alphas.map (QG F))[j]?=some (QG F a):=by rw [A9,ha];rfl
    have H:(Yw n F).alphas[j]?=some (QG F a):=G
    have p:(QG F a).facts=YR (Qd n.nodes[k].cond.pattern) [] F:=by rw [<-O];rfl
    have P:(QG F a).facts.length<=24:=by rw [p];exact Ac (Aw _ _) V
    have Q:∀g∈(QG F a).facts,g.args.length<=3:=fun g mg=>by rw [p]at mg;exact W g (BK.1 mg).1
    rw [yn (by rw [hj];simp),yn yE,hj,Zn _ (by rw [l];omega),AH,G,H,A0,ZiT _ _ _ A P Q (v _),A0,Zn _ (by simp;omega),A9,ha,AQ,A0]
    rw [p,ZzV C,<-D,<-p,Qj (x:=((k:Nat):Int)+1) yE yE]
    simp only
    have R:XT n.nodes F k n.nodes[k]={ parent:=n.nodes[k].parent,cond:=n.nodes[k].cond,alpha:=((j:Nat):Int),tokens:=Yk (XU n.nodes ((k:Nat):Int)) F }:=by
     unfold XT
     rw [hj]
    rw [R]at o
    have q:(QG F a).shape=a.shape:=rfl
    rw [q]
    split
    .exact congrArg (fun z=>some (Sum.inl (_,z,(((k+1:Nat)):Int)))) o
    .exact congrArg (fun z=>some (Sum.inl (_,z,(((k+1:Nat)):Int)))) o
  .have e3:(n.nodes.mapIdx (XT n.nodes F)).take n.nodes.length++n.nodes.drop n.nodes.length=n.nodes.mapIdx (XT n.nodes F):=by
    rw [Ao,Ai,Aj (by rw [d];exact AG _)]
   simp only[e3]
   rw [yn (by rw [d];simp)]
   rfl
end
section
open Classical
def ZsO (n:Zc) (f:Zf):Zc×Bool:=if Zne n=true/\(Znt n.facts f).2=true then (ZkA n (Znt n.facts f).1 f,true) else (n,false)
def ZtL (n:Zc) (f:Zf):Zc×Bool:=if Zne n=true/\(Znq n.facts f).2=true then (ZkA n (Znq n.facts f).1 f,true) else (n,false)
theorem ZhG {F:List Zf}(h:∀g∈F,Xh g=true):∀g∈F,g.args.length<=3:=fun g A=>ZjL (h g A)
section
variable {n:Zc} (hW:SmW n) (hS:YQ n.rules=true->∀r∈n.rules,SmN r) (f:Zf)
include hW hS
theorem Zt7:XZ n f=some (ZsO n f):=by
 unfold XZ ZsO
 rw [ZiG n hW.ru hS,A0]
 by_cases B:Zne n=true
 rotate_left
 .rw [yn B,yn fun C=>B C.1,XS hW];rfl
 rw [yp B]
 unfold ZwU
 rw [Zr7 hW.f,A0]
 by_cases A:(Znt n.facts f).2=true
 .obtain ⟨E,D⟩:=ZrS A
  rw [yp A,yp ⟨B,A⟩,Zme f (ZjS hS B) hW E (ZhG D)];rfl
 .rw [yn A,yn fun C=>A C.2,XS hW];rfl
theorem Zro:Y7 n f=some (ZtL n f):=by
 unfold Y7 ZtL
 rw [ZiG n hW.ru hS,A0]
 by_cases B:Zne n=true
 rotate_left
 .rw [yn B,yn fun C=>B C.1,XS hW];rfl
 rw [yp B]
 unfold Zsi
 rw [Znw hW.f,A0]
 by_cases A:(Znq n.facts f).2=true
 .obtain ⟨E,D⟩:=Zsx A
  rw [yp A,yp ⟨B,A⟩,Zme f (ZjS hS B) hW E (ZhG D)];rfl
 .rw [yn A,yn fun C=>A C.2,XS hW];rfl
theorem ZyO:Zao n f=some (ZsO n f):=by
 unfold Zao ZsO
 rw [Zsv hW.f,A0,ZiV n hW.ru hS hW.f.n,A0]
 by_cases B:Zne n=true
 rotate_left
 .rw [yn B,yn fun C=>B C.1,QA hW];rfl
 rw [yp B]
 by_cases A:(Znt n.facts f).2=true
 .obtain ⟨E,D⟩:=ZrS A
  rw [yp A,yp ⟨B,A⟩,Zkh f (ZjS hS B) hW E (ZhG D)];rfl
 .rw [yn A,yn fun C=>A C.2,QA hW];rfl
theorem Zxv:X7 n f=some (ZtL n f):=by
 unfold X7 ZtL
 rw [Zp8 hW.f,A0,ZiV n hW.ru hS hW.f.n,A0]
 by_cases B:Zne n=true
 rotate_left
 .rw [yn B,yn fun C=>B C.1,QA hW];rfl
 rw [yp B]
 by_cases A:(Znq n.facts f).2=true
 .obtain ⟨E,D⟩:=Zsx A
  rw [yp A,yp ⟨B,A⟩,Zkh f (ZjS hS B) hW E (ZhG D)];rfl
 .rw [yn A,yn fun C=>A C.2,QA hW];rfl
end
structure ZmH (n m:Zc):Prop where
 ru:m.rules=n.rules
 en:m.ends=n.ends
 al:m.alphas.map (·.shape)=n.alphas.map (·.shape)
 nd:m.nodes.map QF=n.nodes.map QF
theorem ZmH.refl (n:Zc):ZmH n n:=⟨rfl,rfl,rfl,rfl⟩
theorem ZmH.chg {n m:Zc}(h:ZmH n m) (F:List Zf) (f:Zf):ZmH n (ZkA m F f):=⟨h.ru,h.en,by
 show (m.alphas.map (QG F)).map _=_
 rw [Al,<-h.al];rfl,by rw [<-h.nd];exact Zmo _ _⟩
structure Way (n m:Zc):Prop where
 s:ZmH n m
 c:m=n\/∃m0 F f,VN m0/\F.length<=24/\(∀g∈F,Xh g=true)/\m=ZkA m0 F f
theorem ZyN {s:BYT}(h:Yv s=true):s.size<=9:=by
 unfold Yv at h;simp only[AD,decide_eq_true_eq]at h;have h1:=(ZaF h.2).2;unfold ZwS at h1;rw [Bn]at h1;omega
theorem Zxp {b:List Zj}(h:YA b=true):XP b<=108:=by
 have hl:=Zbx h;have B:∀x∈b,XY x<=17:=fun x A=>by
  unfold YA at h;rw [AD]at h;have h2:=(Zxq h.2 x A).1;unfold Zhx at h2;rw [AD]at h2;have h3:=ZyN h2.1;have h4:=(ZaF h2.2).2;unfold XY;omega
 have:=Zhk B;unfold XP;omega
theorem ZkM {F:List Zf}{k:Nat}(B:F.length<=k) (h:∀g∈F,Xh g=true):Yi F<=65*k:=by
 have:(F.map YV).sum<=F.length*64:=Zhk fun g A=>Zyq (h g A);unfold Yi;omega
theorem ZqU {m:Zc}{F:List Zf}(H:VN m) (I:F.length<=24) (h:∀g∈F,Xh g=true) {y:ZA}(C:y∈(Yw m F).nodes):
  y.tokens.length<=331776/\(∀t∈y.tokens,Zvw F t)/\YX y.tokens<=200000000:=by
 obtain ⟨i,hi,e⟩:=BY C
 have B:(m.nodes.mapIdx (XT m.nodes F))[i]?=some y:=by rw [<-e];exact A6 hi
 rw [AL]at B
 obtain ⟨x,E,rfl⟩:=AA.1 B
 have a:=(AC.1 E).1
 have hp:=H.path i a
 have hl:=ZfD F I _ hp
 have hA:=ZhG h
 have G:∀t∈Yk (XU m.nodes ((i:Nat):Int)) F,YF t<=400:=fun t A=>by
  have ht:=Ze2 F _ t A
  have h1:=Zxp ht.bind
  have h2:=ZkM (k:=4) (Ac ht.len hp) fun g D=>h g (ht.sub g D)
  unfold YF
  omega
 have hs:=Zhk G
 refine ⟨hl,fun t A=>(Ze2 F _ t A).s hp hA,?_⟩
 show (Yk (XU m.nodes ((i:Nat):Int)) F).length+((Yk (XU m.nodes ((i:Nat):Int)) F).map YF).sum<=_
 omega
theorem Zla {α:Type}(f g:α->Nat):∀l:List α,(l.map fun x=>f x+g x).sum=(l.map f).sum+(l.map g).sum
 | []=>rfl
 |x::l=>by
  simp only[Aa,Bf];rw [Zla f g l];omega
theorem Way.ok {n m:Zc}(h:Way n m) (C:SmW n) (W:ZZ n<=1048576):SmW m/\ZZ m<=1000000000000:=by
 rcases h.c with rfl|⟨A,F,f,H,D,d,rfl⟩
 .exact ⟨C,yE⟩
 have hs:=h.s
 have P:(Yw A F).nodes.length=n.nodes.length:=by
  have:=congrArg List.length hs.nd
  simpa [ZkA]using this
 have R:(Yw A F).alphas.length=n.alphas.length:=by
  have:=congrArg List.length hs.al
  simpa [ZkA]using this
 have V:∀y∈(Yw A F).nodes,∃x∈n.nodes,QF x=QF y:=fun y G=>by
  have:QF y∈n.nodes.map QF:=by rw [<-hs.nd];exact BP (f:=QF) G
  exact AW.1 this
 have e:∀a∈(Yw A F).alphas,(∃x∈n.alphas,x.shape=a.shape)/\a.facts.length<=24/\∀g∈a.facts,Xh g=true:=fun a B=>by
  have:a.shape∈n.alphas.map (·.shape):=by rw [<-hs.al];exact BP (f:=(·.shape)) B
  obtain ⟨b,_,rfl⟩:=AW.1 B
  exact ⟨AW.1 this,Ac (Aw _ _) D,fun g K=>d g (BK.1 K).1⟩
 have i:=SmF.of24 D (ZhG d)
 have hnl:=C.nl
 have hal:=C.al
 refine ⟨⟨by rw [hs.ru];exact C.rl,by rw [hs.ru];exact C.ru,by rw [hs.en];exact C.en,i,by show (Yw A F).alphas.length<=_;omega,fun a B=>?_,by show (Yw A F).nodes.length<=_;omega,fun y G=>?_⟩,?_⟩
 .obtain ⟨⟨x,I,L⟩,U,E⟩:=e a B
  exact ⟨by rw [<-L];exact (C.a x I).1,SmF.of24 U (ZhG E)⟩
 .obtain ⟨x,I,L⟩:=V y G
  obtain ⟨U,E,_⟩:=ZqU H D d G
  have ec:y.cond=x.cond:=(congrArg (·.2) L).symm
  exact ⟨by rw [ec];exact (C.n x I).c,yE,fun t J=>⟨by have:=(E t J).bind;omega,⟨by have:=(E t J).len;omega,fun g K=>by have:=(E t J).args g K;omega⟩⟩⟩
 .have c1:YS (ZkA A F f).rules=YS n.rules:=by rw [hs.ru]
  have c2:(ZkA A F f).ends.length=n.ends.length:=by rw [hs.en]
  have c3:Yi F<=65*24:=ZkM D d
  have c4:((Yw A F).alphas.map Yz).sum<=(n.alphas.map Yz).sum+(Yw A F).alphas.length*1560:=by
   have O:((Yw A F).alphas.map Yz).sum=((Yw A F).alphas.map fun a=>ZL a.shape).sum+((Yw A F).alphas.map fun a=>Yi a.facts).sum:=Zla _ _ _
   have N:(n.alphas.map Yz).sum=(n.alphas.map fun a=>ZL a.shape).sum+(n.alphas.map fun a=>Yi a.facts).sum:=Zla _ _ _
   have M:(Yw A F).alphas.map (fun a=>ZL a.shape)=n.alphas.map fun a=>ZL a.shape:=by
    show (ZkA A F f).alphas.map (fun a=>ZL a.shape)=_
    have:=congrArg (List.map ZL) hs.al
    simpa [Al,Function.comp_def]using this
   have e4:((Yw A F).alphas.map fun a=>Yi a.facts).sum<=(Yw A F).alphas.length*1560:=Zhk fun a B=>ZkM (e a B).2.1 (e a B).2.2
   rw [O,N,M]
   omega
  have c5:((Yw A F).nodes.map YU).sum<=(n.nodes.map YU).sum+(Yw A F).nodes.length*200000000:=by
   have O:((Yw A F).nodes.map YU).sum=((Yw A F).nodes.map fun a=>Yf a.cond).sum+((Yw A F).nodes.map fun a=>YX a.tokens).sum:=Zla _ _ _
   have N:(n.nodes.map YU).sum=(n.nodes.map fun a=>Yf a.cond).sum+(n.nodes.map fun a=>YX a.tokens).sum:=Zla _ _ _
   have M:(Yw A F).nodes.map (fun a=>Yf a.cond)=n.nodes.map fun a=>Yf a.cond:=by
    show (ZkA A F f).nodes.map (fun a=>Yf a.cond)=_
    have:=congrArg (List.map fun z:Int×Zh=>Yf z.2) hs.nd
    simpa [Al,Function.comp_def,QF]using this
   have e4:((Yw A F).nodes.map fun a=>YX a.tokens).sum<=(Yw A F).nodes.length*200000000:=Zhk fun a B=>(ZqU H D d B).2.2
   rw [O,N,M]
   omega
  have S:(Yw A F).nodes.length<=1000:=by
   have:=H.nodes.few
   show (A.nodes.mapIdx (XT A.nodes F)).length<=1000
   rw [BN];exact this
  have T:(Yw A F).alphas.length<=1000:=by
   have:=H.al
   show (A.alphas.map (QG F)).length<=1000
   rw [Am];exact this
  have e6:ZZ (ZkA A F f)=YS (ZkA A F f).rules+(ZkA A F f).ends.length+((Yw A F).alphas.length+((Yw A F).alphas.map Yz).sum)+((Yw A F).nodes.length+((Yw A F).nodes.map YU).sum)+Yi F:=rfl
  simp only[ZZ,Y5,XO]at W
  rw [e6,c1,c2]
  omega
theorem Zz4 {n m:Zc}(h:Way n m) (B:YQ n.rules=true->∀r∈n.rules,SmN r) (f:Zf):Way n (ZsO m f).1:=by
 unfold ZsO
 split
 .rename_i A
  obtain ⟨D,C⟩:=ZrS A.2
  exact ⟨h.s.chg _ _,.inr ⟨m,_,f,ZjS (by rw [h.s.ru];exact B) A.1,D,C,rfl⟩⟩
 .exact h
theorem Zy5 {n m:Zc}(h:Way n m) (B:YQ n.rules=true->∀r∈n.rules,SmN r) (f:Zf):Way n (ZtL m f).1:=by
 unfold ZtL
 split
 .rename_i A
  obtain ⟨D,C⟩:=Zsx A.2
  exact ⟨h.s.chg _ _,.inr ⟨m,_,f,ZjS (by rw [h.s.ru];exact B) A.1,D,C,rfl⟩⟩
 .exact h
def Zlc (m:Zc) (x:YB):Zc×Bool:=
 if x.kind=1\/x.kind=4 then ZsO m x.fact else if x.kind=2\/x.kind=5 then ZtL m x.fact else (m,true)
def ZjT (n:Zc):List YB->Zc->Zc×Bool
 | [],m=>(m,true)
 |x::l,m=>if (Zlc m x).2=true then ZjT n l (Zlc m x).1 else (n,false)
abbrev StW:Type:=Int×(List Zq)×(List Int)×(List ZO)×(List ZA)×(List Zf)
def ofW (m:Zc):StW:=(m.tries,m.rules,m.ends,m.alphas,m.nodes,m.facts)
theorem Zgg {n:Zc}(J:SmW n) (K:ZZ n<=1048576) (E:YQ n.rules=true->∀r∈n.rules,SmN r) {body:Nat->YB->StW->Option (StW ⊕ (Zc×Bool))}{fin:StW->Option (Zc×Bool)}{cp:Zc->Option Zc}{D C:Zc->Zf->Option (Zc×Bool)}
  (b:cp n=some n) (c:∀m,SmW m->m.rules=n.rules->∀f,D m f=some (ZsO m f)) (d:∀m,SmW m->m.rules=n.rules->∀f,C m f=some (ZtL m f)) (a:∀m,fin (ofW m)=some (m,true))
  (L:∀i x m,body i x (ofW m)=
   let B:Option (Zc×Bool)->Option (StW ⊕ (Zc×Bool)):=fun o=>o.bind fun v=>if v.2=true then some (.inl (ofW v.1)) else (cp n).bind fun w=>some (.inr (w,false))
   if (x.kind==1)=true then B (D m x.fact) else if (x.kind==4)=true then B (D m x.fact) else if (x.kind==2)=true then B (C m x.fact) else if (x.kind==5)=true then B (C m x.fact) else some (.inl (ofW m))):
  ∀(l:List YB) (i:Nat) (m:Zc),Way n m->Zx body fin l i (ofW m)=some (ZjT n l m)/\Way n (ZjT n l m).1
 | [],i,m,h=>⟨a m,h⟩
 |x::l,i,m,h=>by
  have hw:=(h.ok J K).1;have key:body i x (ofW m)=if (Zlc m x).2=true then some (.inl (ofW (Zlc m x).1)) else some (.inr (n,false)):=by
   rw [L];simp only[b,c m hw h.s.ru,d m hw h.s.ru,A0,beq_iff_eq];unfold Zlc;by_cases I:x.kind=1
   .simp only[I,if_true,true_or]
   by_cases G:x.kind=4
   .simp only[G];simp
   by_cases H:x.kind=2
   .simp only[H];simp
   by_cases F:x.kind=5
   .simp only[F];simp
   simp [I,H,G,F]
  have e:Way n (Zlc m x).1:=by
   unfold Zlc;split
   .exact Zz4 h E _
   .split
    .exact Zy5 h E _
    .exact h
  have ih:=Zgg J K E b c d a L l (i+1) (Zlc m x).1 e;unfold ZjT;by_cases A:(Zlc m x).2=true
  .rw [yp A]at key;rw [yp A,ZP key];exact ih
  .rw [yn A]at key;rw [yn A,Yp key];exact ⟨rfl,⟨ZmH.refl n,.inl rfl⟩⟩
theorem ZGp {r:Zq}(h:YW r<=1048576) (A:Zcg r=true):SmN r:=by
 simp only[YW]at h;have a:=Zs4 A;refine ⟨a.1,fun x B=>?_⟩;have C:1<=r.thn.length:=by
  unfold Zcg at A;simp only[AD,decide_eq_true_iff]at A;omega
 have E:r.cond.length+(r.cond.map Yf).sum<=1048575:=by
  unfold Xp YN at h;omega
 have D:1<=r.cond.length:=List.length_pos_of_mem B;have h2:=ZwM (BP (f:=Yf) B);simp only[Yf,ZL,XA]at h2;omega
theorem Zjh {l:List Zf}(h:Yi l<=1048576):SmF l:=by
 unfold Yi at h;refine ⟨yE,fun f A=>?_⟩;have:=Zex (f:=YV) h A;simp only[YV,XA]at this;omega
theorem ZxO {n:Zc}(h:ZZ n<=1048576):SmW n/\(YQ n.rules=true->∀r∈n.rules,SmN r):=by
 simp only[ZZ]at h;have B:n.rules.length+(n.rules.map YW).sum<=1048576:=by unfold YS at h;omega
 have H:n.alphas.length+(n.alphas.map Yz).sum<=1048576:=by unfold Y5 at h;omega
 have G:n.nodes.length+(n.nodes.map YU).sum<=1048576:=by unfold XO at h;omega
 refine ⟨⟨yE,fun r A=>ZvO (Zex (f:=YW) B A),yE,Zjh yE,yE,fun a E=>?_,yE,fun y C=>?_⟩,fun I r A=>ZGp (Zex (f:=YW) B A) ((Zc8 I).2 r A)⟩
 .have:=Zex (f:=Yz) H E;simp only[Yz,ZL,XA]at this;exact ⟨yE,Zjh yE⟩
 .have:=Zex (f:=YU) G C;simp only[YU,Yf,ZL,XA]at this;have F:y.tokens.length+(y.tokens.map YF).sum<=1048576:=by unfold YX at this;omega
  refine ⟨yE,yE,fun t D=>?_⟩;have:=Zex (f:=YF) F D;simp only[YF,XP]at this;exact ⟨yE,Zjh yE⟩
theorem ZnF (aN:Zc) (F:ZZ aN<=1048576) (_:Zml aN) (D:List YB) (_:Xl D<=1048576) (_:(fun ds=>∀d∈ds,Zrw d) D):∃r k,Zet aN D=some (r,k)/\Zd5 aN D=some (r,k)/\ZZ r<=1000000000000:=by
 obtain ⟨E,C⟩:=ZxO F;have H:Way aN aN:=⟨ZmH.refl aN,.inl rfl⟩
 refine ⟨(ZjT aN D aN).1,(ZjT aN D aN).2,?_,?_,?_⟩
 .unfold Zet;rw [QA E,A0];exact (Zgg E F C (cp:=fun m=>some m) rfl (fun m B A f=>ZyO B (by rw [A];exact C) f) (fun m B A f=>Zxv B (by rw [A];exact C) f) (fun m=>rfl) (fun i x m=>rfl) D 0 aN H).1
 .unfold Zd5;rw [XS E,A0];exact (Zgg E F C (cp:=fun m=>some m) rfl (fun m B A f=>Zt7 B (by rw [A];exact C) f) (fun m B A f=>Zro B (by rw [A];exact C) f) (fun m=>rfl) (fun i x m=>rfl) D 0 aN H).1
 .have h:=Zgg E F C (XS E) (fun m B A f=>Zt7 B (by rw [A];exact C) f) (fun m B A f=>Zro B (by rw [A];exact C) f) (fin:=fun s=>some ({ rules:=s.2.1,ends:=s.2.2.1,alphas:=s.2.2.2.1,nodes:=s.2.2.2.2.1,facts:=s.2.2.2.2.2,tries:=s.1 },true)) (fun m=>rfl) (body:=fun i x s=>
   let m:Zc:={ rules:=s.2.1,ends:=s.2.2.1,alphas:=s.2.2.2.1,nodes:=s.2.2.2.2.1,facts:=s.2.2.2.2.2,tries:=s.1 }
   let G:Option (Zc×Bool)->Option (StW ⊕ (Zc×Bool)):=fun o=>o.bind fun v=>if v.2=true then some (.inl (ofW v.1)) else (Ym aN).bind fun w=>some (.inr (w,false))
   if (x.kind==1)=true then G (XZ m x.fact) else if (x.kind==4)=true then G (XZ m x.fact) else if (x.kind==2)=true then G (Y7 m x.fact) else if (x.kind==5)=true then G (Y7 m x.fact) else some (.inl (ofW m))) (fun i x m=>rfl) D 0 aN H
  exact (h.2.ok E F).2
end
section
open Go.RowKit
def ZN {α β:Type}(R:α->β->Prop):List α->List β->Prop
 | [],[]=>True
 |a::l,b::r=>R a b/\ZN R l r
 |_,_=>False
section
variable {α β:Type} {R R':α->β->Prop}
theorem ZN.len:∀{l:List α}{r:List β},ZN R l r->l.length=r.length
 | [],[],_=>rfl
 |_::_,_::_,h=>by simp [h.2.len]
 | [],_::_,h=>h.elim
 |_::_,[],h=>h.elim
theorem ZN.mono:∀{l:List α}{r:List β},ZN R l r->(∀a b,a∈l->R a b->R' a b)->ZN R' l r
 | [],[],_,_=>trivial
 |_::_,_::_,h,f=>⟨f _ _ yG h.1,h.2.mono fun a b m=>f a b (by simp [m])⟩
 | [],_::_,h,_=>h.elim
 |_::_,[],h,_=>h.elim
theorem ZN.at:∀{l:List α}{r:List β}{i:Nat}{a:α},ZN R l r->l[i]?=some a->∃b,r[i]?=some b/\R a b
 | [],[],_,_,_,h=>by simp at h
 |_::_,b::_,0,_,h,e=>by simp at e;subst e;exact ⟨b,yG,h.1⟩
 |_::_,_::_,i+1,a,h,e=>by
  obtain ⟨b,B,A⟩:=h.2.at (i:=i) (a:=a) (by simpa using e);exact ⟨b,by simpa using B,A⟩
 | [],_::_,_,_,h,_=>h.elim
 |_::_,[],_,_,h,_=>h.elim
theorem ZN.set:∀{l:List α}{r:List β}{i:Nat}{a:α}{b:β},ZN R l r->R a b->ZN R (l.set i a) (r.set i b)
 | [],[],_,_,_,_,_=>trivial
 |_::_,_::_,0,_,_,h,e=>⟨e,h.2⟩
 |_::_,_::_,_+1,_,_,h,e=>⟨h.1,h.2.set e⟩
 | [],_::_,_,_,_,h,_=>h.elim
 |_::_,[],_,_,_,h,_=>h.elim
theorem ZN.drop:∀{l:List α}{r:List β}(n:Nat),ZN R l r->ZN R (l.drop n) (r.drop n)
 |_,_,0,h=>by simpa using h
 | [],[],n+1,_=>by simp [ZN]
 |_::_,_::_,n+1,h=>by simpa using h.2.drop n
 | [],_::_,_+1,h=>h.elim
 |_::_,[],_+1,h=>h.elim
theorem ZN.take:∀{l:List α}{r:List β}(n:Nat),ZN R l r->ZN R (l.take n) (r.take n)
 |_,_,0,h=>by simp [ZN]
 | [],[],n+1,_=>by simp [ZN]
 |_::_,_::_,n+1,h=>by simpa using ⟨h.1,h.2.take n⟩
 | [],_::_,_+1,h=>h.elim
 |_::_,[],_+1,h=>h.elim
theorem ZN.append:∀{l B:List α}{r A:List β},ZN R l r->ZN R B A->ZN R (l++B) (r++A)
 | [],_,[],_,_,h=>h
 |_::_,_,_::_,_,h,h'=>⟨h.1,h.2.append h'⟩
 | [],_,_::_,_,h,_=>h.elim
 |_::_,_,[],_,h,_=>h.elim
end
class NW where
 B0:Nat
structure Gh where
 val:Nat->Value
 O:Nat->List Nat
 D:Nat->List Nat
 Z:Nat->Prop
def Gh.own (g:Gh) (b:Nat):Prop:=(∃k,b∈g.O k)\/g.Z b
def Gh.low (g:Gh) (b:Nat):Prop:=g.own b\/∃k,b∈g.D k
structure Zai (g g':Gh) (n:Nat):Prop where
 own:∀b,g'.own b->g.own b\/n<=b
 low:∀b,g'.low b->g.low b\/n<=b
structure QM (g' g:Gh):Prop where
 own:∀b,g'.own b->g.own b
 low:∀b,g'.low b->g.low b
theorem Zai.refl (g:Gh) (n:Nat):Zai g g n:=⟨fun _ h=>.inl h,fun _ h=>.inl h⟩
theorem QM.refl (g:Gh):QM g g:=⟨fun _ h=>h,fun _ h=>h⟩
theorem QM.trans {a b c:Gh}(h:QM a b) (k:QM b c):QM a c:=⟨fun x A=>k.own x (h.own x A),fun x A=>k.low x (h.low x A)⟩
theorem QM.grow {B g:Gh}(h:QM B g) (n:Nat):Zai g B n:=⟨fun x A=>.inl (h.own x A),fun x A=>.inl (h.low x A)⟩
theorem QM.of {A g:Gh}(h:∀b,A.own b->g.own b) (k:∀j b,b∈A.D j->∃i,b∈g.D i):QM A g:=⟨h,fun x C=>C.imp (h x) fun ⟨j,B⟩=>k j x B⟩
theorem Zai.of {g B:Gh}{n:Nat}(h:∀b,B.own b->g.own b\/n<=b) (k:∀j b,b∈B.D j->g.low b\/n<=b):Zai g B n:=⟨h,fun x A=>by
 rcases A with A|⟨j,C⟩
 .exact (h x A).imp (fun q=>.inl q) id
 .exact k j x C⟩
structure ZbW extends World where
 z:Nat->Prop
 x:Nat->Prop
 hv:Option Value
 y:Nat->Prop:=fun _=>False
structure Bel (W:ZbW) (w:World):Prop where
 os:w.os=W.os
 tape:w.tape=W.tape
 output:w.output=W.output
 size:W.heap.size<=w.heap.size
 block:∀k,k<W.heap.size->¬W.x k->w.heap[k]?=W.heap[k]?
theorem Bel.trans {W:ZbW}{w w':World}(h:Bel W w) (k:Below w.heap.size w w'):Bel W w':=
 ⟨k.os.trans h.os,k.tape.trans h.tape,k.output.trans h.output,Ac h.size k.size,fun i hi A=>(k.block i (Nat.lt_of_lt_of_le hi h.size)).trans (h.block i hi A)⟩
def NR [NW] (g:Gh) (w:World) (x:CT) (v:Value):Prop:=
 ∃e m xs cs L,x=.sl e m xs/\0<m/\w.ownsV 0 e m v xs.length cs/\REs w m xs cs L/\(v.ownBlock.toList++L).Nodup/\∀b∈v.ownBlock.toList++L,¬g.low b/\NW.B0<=b/\∃cur t,w.heap[b]?=some (.cells cur t (0,0))
def AVR [NW] (g:Gh) (w:World):AV->Value->Prop
 |.c x,v=>∃L,RC w x v L/\∀b∈L,¬g.own b
 |.n x,v=>NR g w x v
 |.row k,v=>v=g.val k/\v.oneCell'=true
 |.nil _ _,v=>v=.slice none 0 0
 |.dead,v=>v.oneCell'=true
def PVR [NW] (g:Gh) (w:World):Bool->List AV->Value->Prop
 |true,cs,v=>∃vs:List Value,v=.agg vs.toArray/\ZN (AVR g w) cs vs
 |false,cs,v=>∃x,cs=[x]/\AVR g w x v
def SVR [NW] (g:Gh) (w:World):SV->Value->Prop
 |.any,_=>True
 |.und,v=>v=undef
 |.p a cs,v=>PVR g w a cs v
 |.tup xs,v=>∃vs:List Value,v=.tuple vs.toArray/\ZN (fun x u=>PVR g w x.1 x.2 u) xs vs
 |.bp k off,v=>∃b,g.val k=.pointer (some ⟨b,0,none⟩)/\v=.pointer (some ⟨b,off,none⟩)
 |.rp k m i off,v=>∃b o n c,g.val k=.slice (some ⟨b,o,none⟩) n c/\v=.pointer (some ⟨b,o+(i*m+off),none⟩)
 |.ep e off,v=>∃b lo cs L,v=.pointer (some ⟨b,lo+off,none⟩)/\Zal w b lo cs/\RCs w e cs L/\(∀x∈b::L,¬g.own x)/\b<w.heap.size
 |.fn f,v=>v=.func (.func f) #[] #[]
def ObR [NW] (g:Gh) (w:World) (k:Nat):Ob->Prop
 |.gone=>g.O k=[]/\g.D k=[]
 |.box t cs=>∃b vs,g.val k=.pointer (some ⟨b,0,none⟩)/\g.O k=[b]/\g.D k=[]/\w.heap[b]?=some (.cells vs.toArray t (0,0))/\ZN (AVR g w) cs vs
 |.row e m xs d=>0<m/\∃cs L,w.ownsV 0 e m (g.val k) xs.length cs/\REs w m xs cs L/\((d=2/\g.O k=(g.val k).ownBlock.toList/\g.D k=L)\/(d=1/\g.O k=(g.val k).ownBlock.toList/\g.D k=[]/\∀b∈L,¬g.own b)\/(d=0/\g.O k=[]/\g.D k=[]/\∀b∈(g.val k).ownBlock.toList++L,¬g.own b))
 |.map kk vk kv=>∃b es c,g.val k=.map (some b)/\g.O k=[b]/\g.D k=[]/\w.heap[b]?=some (.map es c)/\ZfJ es=kv/\ZlO kk vk kv
def Qb (w:World) (o:Ob) (b:Nat):Prop:=
 match o with
 |.map _ _ _=>∃es c,w.heap[b]?=some (.map es c)
 |_=>∃cur e,w.heap[b]?=some (.cells cur e (0,0))
theorem Qb.lt {w:World}{o:Ob}{b:Nat}(h:Qb w o b):b<w.heap.size:=by
 unfold Qb at h;split at h
 .obtain ⟨_,_,h⟩:=h;exact (BR.1 h).1
 .obtain ⟨_,_,h⟩:=h;exact (BR.1 h).1
theorem Qb.keep {w w':World}{o:Ob}{b:Nat}(h:Qb w o b) (e:w'.heap[b]?=w.heap[b]?):Qb w' o b:=by
 unfold Qb at h ⊢;rw [e];exact h
def Zlb:Ob->Bool
 |.map _ _ _=>true
 |_=>false
theorem Qb.of {w:World}{o o':Ob}{b:Nat}(h:Qb w o b) (e:Zlb o'=Zlb o):Qb w o' b:=by
 cases o<;>cases o'<;>simp [Zlb]at e<;>exact h
structure HI [NW] (W:ZbW) (g:Gh) (ob:Nat->Ob) (w:World):Prop where
 below:Bel W w
 obs:∀k,ObR g w k (ob k)
 nodup:∀k,(g.O k++g.D k).Nodup
 apart:∀k j,k≠j->∀b∈g.O k++g.D k,b∉g.O j++g.D j
 plain:∀k,∀b∈g.O k++g.D k,(W.heap.size<=b\/W.x b\/W.y b)/\Qb w (ob k) b
 gz:g.Z=W.z
 zx:∀b,W.z b->b<W.heap.size/\¬W.x b/\¬W.y b
 nw:∀b,(W.heap.size<=b\/W.x b\/W.y b)->NW.B0<=b
 oy:∀k,∀b∈g.O k,W.heap.size<=b\/W.x b
def avU (U:Nat->Prop):AV->Prop
 |.row k=>U k
 |_=>True
def QK (U:Nat->Prop) (cs:List AV):Prop:=∀x∈cs,avU U x
def svU (U:Nat->Prop):SV->Prop
 |.p _ cs=>QK U cs
 |.tup xs=>∀x∈xs,QK U x.2
 |.bp k _=>U k
 |.rp k _ _ _=>U k
 |_=>True
def obU (U:Nat->Prop):Ob->Prop
 |.box _ cs=>QK U cs
 |_=>True
structure StU (U:Nat->Prop) (st:St):Prop where
 sl:∀t,svU U (st.sl t)
 ob:∀k,obU U (st.ob k)
 gone:∀k,¬U k->st.ob k=.gone
theorem HI.lt [NW] {W:ZbW}{g:Gh}{ob:Nat->Ob}{w:World}(h:HI W g ob w) (k:Nat):∀b∈g.O k++g.D k,b<w.heap.size:=by
 intro b m;exact (h.plain k b m).2.lt
theorem HI.nz [NW] {W:ZbW}{g:Gh}{ob:Nat->Ob}{w:World}(h:HI W g ob w) {k b:Nat}(m:b∈g.O k++g.D k):¬g.Z b:=fun B=>by
 rw [h.gz]at B;obtain ⟨E,C⟩:=h.zx b B;rcases (h.plain k b m).1 with A|A|A
 .omega
 .exact C.1 A
 .exact C.2 A
theorem HI.oyOf [NW] {W:ZbW}{g A:Gh}{ob ob':Nat->Ob}{w w':World}(h:HI W g ob w) (C:∀b,A.own b->g.own b\/w.heap.size<=b)
  (B:∀k,∀b∈A.O k++A.D k,(W.heap.size<=b\/W.x b\/W.y b)/\Qb w' (ob' k) b):∀k,∀b∈A.O k,W.heap.size<=b\/W.x b:=fun k b m=>by
 rcases C b (.inl ⟨k,m⟩) with (⟨j,mj⟩|hz)|hn
 .exact h.oy j b mj
 .rw [h.gz]at hz;obtain ⟨G,F,E⟩:=h.zx b hz;rcases (B k b (by simp [m])).1 with q|q|q
  .omega
  .exact absurd q F
  .exact absurd q E
 .exact .inl (Ac h.below.size hn)
section
variable {g g':Gh} {w w':World} {U:Nat->Prop}
theorem NR.move [NW] {x:CT}{v:Value}(h:NR g w x v)
  (C:∀b,b<w.heap.size->¬g.own b->w'.heap[b]?=w.heap[b]?) (D:Zai g g' w.heap.size):NR g' w' x v:=by
 obtain ⟨e,m,xs,cs,L,I,H,G,F,E,B⟩:=h;have a:∀b∈v.ownBlock.toList++L,b<w.heap.size:=fun b A=>by
  obtain ⟨_,_,_,_,q⟩:=B b A;exact (BR.1 q).1
 have hs:∀b∈v.ownBlock.toList++L,w'.heap[b]?=w.heap[b]?:=fun b A=>C b (a b A) fun o=>(B b A).1 (.inl o);refine ⟨e,m,xs,cs,L,I,H,Zdy G fun b A=>hs b (by simp [A]),F.keep fun b A=>hs b (by simp [A]),E,fun b A=>⟨fun o=>?_,(B b A).2.1,by rw [hs b A];exact (B b A).2.2⟩⟩;rcases D.low b o with o|o
 .exact (B b A).1 o
 .have:=a b A;omega
theorem AVR.move [NW] {x:AV}{v:Value}(h:AVR g w x v) (E:avU U x) (F:∀k,U k->g'.val k=g.val k)
  (A:∀b,b<w.heap.size->¬g.own b->w'.heap[b]?=w.heap[b]?) (B:Zai g g' w.heap.size):AVR g' w' x v:=by
 cases x with
 |c x=>
  obtain ⟨L,D,C⟩:=h;have a:=D.lt;refine ⟨L,D.keep fun b m=>A b (a b m) (C b m),fun b m o=>?_⟩;rcases B.own b o with o|o
  .exact C b m o
  .have:=a b m;omega
 |n x=>exact NR.move h A B
 |row k=>exact ⟨h.1.trans (F k E).symm,h.2⟩
 |nil e m=>exact h
 |dead=>exact h
theorem AVRs.move [NW] {cs:List AV}{vs:List Value}(h:ZN (AVR g w) cs vs) (A:QK U cs) (C:∀k,U k->g'.val k=g.val k)
  (B:∀b,b<w.heap.size->¬g.own b->w'.heap[b]?=w.heap[b]?) (D:Zai g g' w.heap.size):ZN (AVR g' w') cs vs:=
 h.mono fun a _ m r=>r.move (A a m) C B D
theorem PVR.move [NW] {a:Bool}{cs:List AV}{v:Value}(h:PVR g w a cs v) (C:QK U cs) (E:∀k,U k->g'.val k=g.val k)
  (D:∀b,b<w.heap.size->¬g.own b->w'.heap[b]?=w.heap[b]?) (F:Zai g g' w.heap.size):PVR g' w' a cs v:=by
 cases a with
 |true=>obtain ⟨vs,A,B⟩:=h;exact ⟨vs,A,AVRs.move B C E D F⟩
 |false=>obtain ⟨x,A,B⟩:=h;exact ⟨x,A,B.move (C x (by simp [A])) E D F⟩
theorem SVR.move [NW] {s:SV}{v:Value}(h:SVR g w s v) (C:svU U s) (E:∀k,U k->g'.val k=g.val k)
  (D:∀b,b<w.heap.size->¬g.own b->w'.heap[b]?=w.heap[b]?) (F:Zai g g' w.heap.size) (hs:w.heap.size<=w'.heap.size):SVR g' w' s v:=by
 cases s with
 |any=>exact h
 |und=>exact h
 |p a cs=>exact PVR.move h C E D F
 |tup xs=>
  obtain ⟨vs,B,A⟩:=h;exact ⟨vs,B,A.mono fun x _ m r=>r.move (C x m) E D F⟩
 |bp k off=>obtain ⟨b,B,A⟩:=h;exact ⟨b,(E k C).trans B,A⟩
 |rp k m i off=>obtain ⟨b,o,n,c,B,A⟩:=h;exact ⟨b,o,n,c,(E k C).trans B,A⟩
 |ep e off=>
  obtain ⟨b,I,cs,L,B,A,H,G,K⟩:=h;have d:=H.lt;refine ⟨b,I,cs,L,B,fun j u J=>?_,H.keep fun x m=>D x (d x m) (G x (by simp [m])),fun x m o=>?_,yE⟩
  .rw [<-A j u J];exact World.cell?_of_block (D b K (G b yG))
  .rcases F.own x o with o|o
   .exact G x m o
   .rcases AR.1 m with rfl|m
    .omega
    .have:=d x m;omega
 |fn f=>exact h
theorem HI.step [NW] {W:ZbW}{ob ob':Nat->Ob}(h:HI W g ob w) (T:Nat->Prop)
  (v:Bel W w') (hZ:g'.Z=g.Z)
  (hw:∀b,b<w.heap.size->(∀k,T k->b∉g.O k)->w'.heap[b]?=w.heap[b]?)
  (I:∀k,¬T k->ob' k=ob k/\g'.val k=g.val k/\g'.O k=g.O k/\g'.D k=g.D k)
  (z:∀k,obU U (ob k)) (hv:∀k,U k->g'.val k=g.val k)
  (ho:Zai g g' w.heap.size)
  (N:∀k,T k->ObR g' w' k (ob' k)/\(g'.O k++g'.D k).Nodup/\(∀b∈g'.O k++g'.D k,(W.heap.size<=b\/W.x b\/W.y b)/\Qb w' (ob' k) b)/\∀j,k≠j->∀b∈g'.O k++g'.D k,b∉g'.O j++g'.D j):
  HI W g' ob' w':=by
 have p:∀b,b<w.heap.size->¬g.own b->w'.heap[b]?=w.heap[b]?:=fun b hb hn=>hw b hb fun k _ m=>hn (.inl ⟨k,m⟩);have i:∀k,¬T k->∀b∈g.O k++g.D k,w'.heap[b]?=w.heap[b]?:=fun k I b m=>
  hw b (h.lt k b m) fun j hj S=>h.apart j k (fun e=>I (e ▸ hj)) b (by simp [S]) m
 suffices hpl:(∀k,ObR g' w' k (ob' k))/\(∀k,(g'.O k++g'.D k).Nodup)/\(∀k j,k≠j->∀b∈g'.O k++g'.D k,b∉g'.O j++g'.D j)/\∀k,∀b∈g'.O k++g'.D k,(W.heap.size<=b\/W.x b\/W.y b)/\Qb w' (ob' k) b from
  ⟨v,hpl.1,hpl.2.1,hpl.2.2.1,hpl.2.2.2,hZ.trans h.gz,h.zx,h.nw,h.oyOf ho.own hpl.2.2.2⟩
 refine ⟨fun k=>?_,fun k=>?_,fun k j q b m=>?_,fun k b m=>?_⟩
 .by_cases a:T k
  .exact (N k a).1
  .obtain ⟨R,P,H,G⟩:=I k a;have f:=h.obs k;have hF:=i k a;have hU:=z k;rw [R];cases hok:ob k with
   |gone=>rw [hok]at f;exact ⟨H.trans f.1,G.trans f.2⟩
   |box t cs=>
    rw [hok]at f hU;obtain ⟨b,vs,M,K,F,C,J⟩:=f;exact ⟨b,vs,P.trans M,H.trans K,G.trans F,by rw [hF b (by simp [K])];exact C,AVRs.move J hU hv p ho⟩
   |map kk vk kv=>
    rw [hok]at f;obtain ⟨b,es,c,M,K,F,C,J⟩:=f;exact ⟨b,es,c,P.trans M,H.trans K,G.trans F,by rw [hF b (by simp [K])];exact C,J⟩
   |row e m xs d=>
    rw [hok]at f;obtain ⟨hm,cs,L,M,K,C⟩:=f;have l:=K.lt;have hL:∀b∈L,w'.heap[b]?=w.heap[b]?:=fun b E=>by
     rcases C with ⟨_,_,C⟩|⟨_,_,_,C⟩|⟨_,_,_,C⟩
     .exact hF b (by simp [C,E])
     .exact p b (l b E) (C b E)
     .exact p b (l b E) (C b (by simp [E]))
    have B:∀b∈(g.val k).ownBlock.toList,w'.heap[b]?=w.heap[b]?:=fun b E=>by
     rcases C with ⟨_,F,_⟩|⟨_,F,_⟩|⟨_,_,_,C⟩
     .exact hF b (by simp [F,E])
     .exact hF b (by simp [F,E])
     .exact p b (ZkW M b E) (C b (by simp [E]))
    refine ⟨hm,cs,L,by rw [P];exact Zdy M B,K.keep hL,?_⟩;rw [P,H,G];have u:∀b,b<w.heap.size->¬g.own b->¬g'.own b:=fun b hb hn o=>by
     rcases ho.own b o with o|o
     .exact hn o
     .omega
    rcases C with C|⟨hd,F,C,J⟩|⟨hd,F,C,J⟩
    .exact .inl C
    .exact .inr (.inl ⟨hd,F,C,fun b E=>u b (l b E) (J b E)⟩)
    .refine .inr (.inr ⟨hd,F,C,fun b E=>?_⟩);rcases AK.1 E with V|V
     .exact u b (ZkW M b V) (J b E)
     .exact u b (l b V) (J b E)
 .by_cases a:T k
  .exact (N k a).2.1
  .obtain ⟨R,P,H,G⟩:=I k a;rw [H,G];exact h.nodup k
 .by_cases a:T k
  .exact (N k a).2.2.2 j q b m
  .by_cases A:T j
   .exact fun S=>(N j A).2.2.2 k (fun e=>q e.symm) b S m
   .obtain ⟨_,_,H,G⟩:=I k a;obtain ⟨_,_,f3,f4⟩:=I j A;rw [H,G]at m;rw [f3,f4];exact h.apart k j q b m
 .by_cases a:T k
  .exact (N k a).2.2.1 b m
  .obtain ⟨_,_,H,G⟩:=I k a;rw [H,G]at m;obtain ⟨p1,p2⟩:=h.plain k b m;obtain ⟨R,_⟩:=I k a;exact ⟨p1,by rw [R];exact p2.keep (i k a b m)⟩
end
structure Inv [NW] (W:ZbW) (U:Nat->Prop) (st:St) (a:Act) (w:World):Prop where
 ex:∃g,HI W g st.ob w/\∀t,SVR g w (st.sl t) (a.tmps.getD t undef)
 wf:StU U st
 defers:a.defers=[]
 hand:∀v,W.hv=some v->a.tmps.getD 0 undef=v
end
section
open Go.RowKit
def Zb3:AV->Value->Bool
 |.c (.int k n),.int k' n'=>k==k'&&n==n'
 |.c (.bool b),.bool b'=>b==b'
 |.c (.str s),.string s'=>s.data.toList==s'.data.toList&&Zcs s
 |.nil _ m,.slice none 0 0=>Nat.blt 0 m
 |_,_=>false
def Zkl:TypeDesc->AV->Bool
 |.int k,.c (.int k' _)=>k==k'
 |.bool,.c (.bool _)=>true
 |.string,.c (.str _)=>true
 |_,_=>false
def ZsK:TypeDesc->Bool
 |.struct _=>true
 |.array _ _=>true
 |_=>false
def Ze9:PK->TypeDesc->Bool
 |.int k,.int k'=>k==k'
 |.str,.string=>true
 |.bool,.bool=>true
 |_,_=>false
def EqF (P:Program):List PK->List Field->Nat->Prop
 | [],[],_=>True
 | k :: ks, f :: fs, n => f.name ≠ "_" ∧ f.offset = n ∧ (∃ d, P.underlying f.type = some d ∧ Ze9 k d = true) ∧ EqF P ks fs (n + 1)
 |_,_,_=>False
def TOk (P:Program) (t:TypeId):TI->Prop
 |.atom z=>∃d zv i,P.underlying t=some d/\Zkl d z=true/\P.info? t=some i/\i.zero=some zv/\i.size=1/\Zb3 z zv=true
 |.strct fs n z=>∃(fields:Array Field) (i:TypeInfo) (zvs:Array Value),P.underlying t=some (.struct fields)/\P.info? t=some i/\i.size=n/\i.zero=some (.agg zvs)/\ZN (fun a v=>Zb3 a v=true) z zvs.toList/\
   ZN (fun (fi:FI) (f:Field)=>f.offset=fi.off/\fi.size≠0/\∃j d,P.info? f.type=some j/\j.size=fi.size/\P.underlying f.type=some d/\ZsK d=fi.agg) fs fields.toList
 |.slice e m bytes z=>P.underlying t=some (.slice e)/\0<m/\bytes<=131072/\(∃(i:TypeInfo) (zv:Value),P.info? e=some i/\i.size=m/\i.bytes=bytes/\i.zero=some zv/\ZN (fun a v=>Zb3 a v=true) z zv.cells.toList/\z.length=m)/\
   ∃j:TypeInfo,P.info? t=some j/\j.size=1/\j.zero=some (.slice none 0 0)
 |.ifc=>∃ms,P.underlying t=some (.interface ms)
 |.map kk vk=>∃kt et dk dv i zv,P.underlying t=some (.map kt et)/\P.underlying kt=some dk/\Ze9 kk dk=true/\P.underlying et=some dv/\Ze9 vk dv=true/\P.info? et=some i/\i.zero=some zv/\Zb3 (Zgw vk) zv=true
 |.eqs ks=>∃u,t=u+4000/\P.underlying u=some (.struct (P.fieldsOf u))/\P.stoodInHeld u=false/\P.eqGuardType P.depth u=false/\EqF P ks (P.fieldsOf u).toList 0
section
variable {P:Program} {w:World} {t:TypeId}
theorem ZuW {i:TypeInfo}(h:P.info? t=some i):(typeInfo t).run P w=.ok i w:=by simp [typeInfo,program,Sem.run,h]
theorem Xk {d:TypeDesc}(h:P.underlying t=some d):(underlying t).run P w=.ok d w:=by simp [underlying,program,Sem.run,h]
theorem X1 [NW] {i:TypeInfo}(h:P.info? t=some i):(sizeOf t).run P w=.ok i.size w:=by simp [sizeOf,ZuW h]
theorem ZlE [NW] {i:TypeInfo}{z:Value}(h:P.info? t=some i) (A:i.zero=some z):(zeroValue t).run P w=.ok z w:=by simp [zeroValue,ZuW h,A]
theorem Zj0 [NW] {d:TypeDesc}(h:P.underlying t=some d):(isAgg t).run P w=.ok (ZsK d) w:=by
 simp only[isAgg,Sem.run_bind,Xk h,Result.andThen_ok];cases d<;>rfl
theorem ZzI {d:TypeDesc}{z:AV}(h:Zkl d z=true):ZsK d=false:=by
 unfold Zkl at h;split at h<;>first|rfl|simp at h
end
section
variable {g:Gh} {w:World}
theorem Zuw {s:BYT}(h:Zcs s=true):s.size<=9223372036854775807:=by
 unfold Zcs at h;have:=Nat.le_of_ble_eq_true h;rw [Array.length_toList]at this;exact this
theorem Zg8 [NW] {x:AV}{v:Value}(h:Zb3 x v=true):AVR g w x v:=by
 unfold Zb3 at h;split at h
 .simp only[AD,beq_iff_eq]at h;exact ⟨[],⟨by rw [h.1,h.2],rfl⟩,yG⟩
 .simp only[beq_iff_eq]at h;exact ⟨[],⟨by rw [h],rfl⟩,yG⟩
 .rename_i s s';simp only[AD,beq_iff_eq]at h;have e:s=s':=by
   cases s;cases s';simpa using h.1
  exact ⟨[],⟨by rw [e],rfl,Zuw h.2⟩,yG⟩
 .rfl
 .simp at h
theorem AVR.one [NW] {x:AV}{v:Value}(h:AVR g w x v):v.oneCell'=true:=by
 cases x with
 |c x=>obtain ⟨L,B,_⟩:=h;exact B.one
 |n x=>
  obtain ⟨e,m,xs,cs,L,B,E,D,_⟩:=h;obtain ⟨A,c,C,_⟩:=Zbt D;simp [C,Value.oneCell']
 |row k=>exact h.2
 |nil e m=>simp [AVR]at h;simp [h,Value.oneCell']
 |dead=>exact h
theorem ZqB {v:Value}(h:v.oneCell'=true):v.cells=#[v]:=by
 cases v<;>simp [Value.oneCell']at h<;>rfl
theorem PVR.cells [NW] {a:Bool}{cs:List AV}{v:Value}(h:PVR g w a cs v):∃vs:List Value,v.cells=vs.toArray/\ZN (AVR g w) cs vs:=by
 cases a with
 |true=>obtain ⟨vs,rfl,A⟩:=h;exact ⟨vs,rfl,A⟩
 |false=>obtain ⟨x,rfl,A⟩:=h;exact ⟨[v],by rw [ZqB A.one],⟨A,trivial⟩⟩
theorem AVRs.one [NW] {cs:List AV}{vs:List Value}(h:ZN (AVR g w) cs vs):∀u∈vs,u.oneCell'=true:=by
 induction vs generalizing cs with
 |nil=>simp
 |cons v r ih=>
  cases cs with
  |nil=>exact h.elim
  |cons c cs=>
   intro u m;rcases AR.1 m with rfl|m
   .exact h.1.one
   .exact ih h.2 u m
end
theorem ZwO (x y:BYT):(x.toList==y.toList)=decide (x=y):=by
 rw [AU];simp only[beq_iff_eq,decide_eq_true_eq];constructor
 .intro h;have A:x.data.toList=y.data.toList:=by rw [<-Bo,<-Bo];exact h
  cases x;cases y;simpa using A
 .rintro rfl;rfl
end
section
open Go.RowKit
def Uk (U:Nat->Prop) (key:Nat):Nat->Prop:=fun k=>U k\/(key<=k/\k<key+16)
theorem avU.mono {U U':Nat->Prop}(h:∀k,U k->U' k) {x:AV}(A:avU U x):avU U' x:=by cases x<;>first|exact h _ A|trivial
theorem QK.mono [NW] {U U':Nat->Prop}(h:∀k,U k->U' k) {x:List AV}(A:QK U x):QK U' x:=fun y m=>(A y m).mono h
theorem svU.mono [NW] {U U':Nat->Prop}(h:∀k,U k->U' k) {x:SV}(A:svU U x):svU U' x:=by
 cases x<;>first|exact QK.mono h A|exact fun y m=>QK.mono h (A y m)|exact h _ A|trivial
theorem obU.mono [NW] {U U':Nat->Prop}(h:∀k,U k->U' k) {x:Ob}(A:obU U x):obU U' x:=by
 cases x<;>first|exact QK.mono h A|trivial
def Fin [NW] (P:Program) (W:ZbW) (U:Nat->Prop) (key:Nat) (st:St) (g:Gh) (w:World) (s:Sem Next) (r:SV×List (Nat×Ob)):Prop:=
 ∃g' cv w',(s.run P w=.ok (.value cv) w'\/(s.run P w=.ok .skip w'/\cv=undef))/\HI W g' (Zl st.ob r.2) w'/\SVR g' w' r.1 cv/\(∀x v,svU U x->SVR g w x v->SVR g' w' x v)/\ svU (Uk U key) r.1/\(∀k,obU (Uk U key) (Zl st.ob r.2 k))/\∀k,¬Uk U key k->Zl st.ob r.2 k=.gone
section
variable {P:Program} {W:ZbW} {U:Nat->Prop} {key:Nat} {st:St} {g:Gh} {w:World} {a:Act} {tt:Nat->Option TI}
theorem Zb7 [NW] {s:Sem Next}{v:SV}{cv:Value}(E:HI W g st.ob w) (A:StU U st) (a:s.run P w=.ok (.value cv) w) (B:SVR g w v cv) (C:svU U v):Fin P W U key st g w s (v,[]):=
 ⟨g,cv,w,.inl a,E,B,fun _ _ _ h=>h,C.mono fun _=>.inl,fun k=>(A.ob k).mono fun _=>.inl,fun k D=>A.gone k fun h=>D (.inl h)⟩
theorem QN (x:CT):svU U (.p false [.c x]):=fun y m=>by simp at m;subst m;trivial
theorem ZcT [NW] (k:IntKind) (n:Int):SVR g w (.p false [.c (.int k n)]) (.int k n):=⟨_,rfl,[],⟨rfl,rfl⟩,yG⟩
theorem Zb5 [NW] (b:Bool):SVR g w (.p false [.c (.bool b)]) (.bool b):=⟨_,rfl,[],⟨rfl,rfl⟩,yG⟩
theorem ZnN [NW] {s:BYT}(h:s.size<=9223372036854775807):SVR g w (.p false [.c (.str s)]) (.string s):=⟨_,rfl,[],⟨rfl,rfl,h⟩,yG⟩
theorem Zdl [NW] {k:IntKind}{n:Int}{v:Value}(h:SVR g w (.p false [.c (.int k n)]) v):v=.int k n:=by
 obtain ⟨x,A,h⟩:=h;simp at A;subst A;obtain ⟨L,B,_⟩:=h;exact B.1
theorem ZhT [NW] {b:Bool}{v:Value}(h:SVR g w (.p false [.c (.bool b)]) v):v=.bool b:=by
 obtain ⟨x,A,h⟩:=h;simp at A;subst A;obtain ⟨L,B,_⟩:=h;exact B.1
theorem Zk4 [NW] {s:BYT}{v:Value}(h:SVR g w (.p false [.c (.str s)]) v):v=.string s/\s.size<=9223372036854775807:=by
 obtain ⟨x,A,h⟩:=h;simp at A;subst A;obtain ⟨L,B,_⟩:=h;exact ⟨B.1,B.2.2⟩
theorem ZGD [NW] {t:Nat}(A:∀t i,tt t=some i->TOk P t i) (v:Value):SVR g w (cvT (tt t) v) v/\svU U (cvT (tt t) v):=by
 unfold cvT;split
 .exact ⟨ZcT _ _,QN _⟩
 .exact ⟨Zb5 _,QN _⟩
 .split
  .rename_i h;exact ⟨ZnN (Zuw h),QN _⟩
  .exact ⟨trivial,trivial⟩
 .split
  .exact ⟨⟨_,rfl,rfl⟩,fun y m=>by simp at m;subst m;trivial⟩
  .exact ⟨trivial,trivial⟩
 .exact ⟨trivial,trivial⟩
theorem ZmW [NW] (A:∀t i,tt t=some i->TOk P t i) (C:∀t,SVR g w (st.sl t) (a.tmps.getD t undef)) (B:StU U st) (t:Nat) (x:Operand):
  SVR g w (st.ev tt t x) (a.eval x)/\svU U (st.ev tt t x):=by
 cases x with
 |tmp s=>exact ⟨C s,B.sl s⟩
 |const v=>exact ZGD A v
 |global _=>exact ⟨trivial,trivial⟩
 |func f=>exact ⟨rfl,trivial⟩
theorem ZBv [NW] {A:BinOp}{t:Nat}{ox oy:Operand}{k C:IntKind}{n n':Int}{z:CT}(D:k=C\/A=.shl\/A=.shr) (B:ZBz A k n n'=some z):
  ∃cv,(do eqGuard A t ox oy (.int k n) (.int C n');binOp A t (.int k n) (.int C n'):Sem Value).run P w=.ok cv w/\SVR g w (.p false [.c z]) cv:=by
 have E:(eqGuard A t ox oy (.int k n) (.int C n')).run P w=.ok () w:=by
  cases A<;>rfl
 simp only[Sem.run_bind,E,Result.andThen_ok];cases A<;>simp only[ZBz,ZFh,ZFY,orI,ZGK,Zwv,ZGP,ZGa,Option.map_none,AQ,AB,reduceCtorEq]at B<;>(try subst B)<;>
  (try (split at B<;>simp only[AB,reduceCtorEq]at B;subst B))<;>
  simp only[reduceCtorEq,or_false,or_true]at D<;>(try subst D)<;>
  first
   |(refine ⟨_,?_,ZcT _ _⟩;simp [binOp,Op.intArith,Op.intDiv,Op.intBits,Op.shift, *];done)
   |(refine ⟨_,?_,Zb5 _⟩;simp [binOp,Op.intCmp];done)
set_option maxHeartbeats 1000000 in
theorem ZBU [NW] {A:BinOp} {t:Nat} {ox oy:Operand} {s s' : BYT} {z:CT} (B:ZBH A s s' = some z) :
    ∃ cv,(do eqGuard A t ox oy (.string s) (.string s');binOp A t (.string s) (.string s'):Sem Value).run P w=.ok cv w/\SVR g w (.p false [.c z]) cv:=by
  have E:(eqGuard A t ox oy (.string s) (.string s')).run P w=.ok () w:=by
    cases A<;>rfl
  simp only[Sem.run_bind,E,Result.andThen_ok];cases A<;>simp only[ZBH,AB,reduceCtorEq] at B<;>(try subst B) <;>
    first
      | (refine ⟨_,?_,Zb5 _⟩;simp only[binOp,Op.stringOp,sLt,sEq,← ZwO];rfl)
      | (split at B
         · rename_i D
           simp only[AB] at B;subst B;refine ⟨_,?_,ZnN (by rw [ByteArray.size_append];exact D)⟩;have C:¬ ((s.size+s'.size:Nat):Int) > IntKind.i64.max:=by
             have:IntKind.i64.max=9223372036854775807:=by decide
             omega
           simp only[binOp,Op.stringOp,C,if_false];rfl
         · simp at B)
theorem Zus [NW] {B:BinOp}{t:Nat}{ox oy:Operand}{b A:Bool}{r:Bool}(D:P.underlying t=some .bool) (a:(B=.eql/\r=(b==A))\/(B=.neq/\r=!(b==A))):
  (do eqGuard B t ox oy (.bool b) (.bool A);binOp B t (.bool b) (.bool A):Sem Value).run P w=.ok (.bool r) w:=by
 have E:(eqGuard B t ox oy (.bool b) (.bool A)).run P w=.ok () w:=by
  cases B<;>rfl
 have C:(Op.equal t (.bool b) (.bool A)).run P w=.ok (b==A) w:=by
  have key:∀d:Nat,(Op.equalIn (d+1) t (.bool b) (.bool A)).run P w=.ok (b==A) w:=fun d=>by
   rw [Op.equalIn];simp only[Sem.run_bind,Xk D,Result.andThen_ok,Sem.run_pure]
  exact key 9999
 simp only[Sem.run_bind,E,Result.andThen_ok];rcases a with ⟨rfl,rfl⟩|⟨rfl,rfl⟩
 .simp only[binOp,Sem.run_bind,C,Result.andThen_ok,Sem.run_pure]
 .simp only[binOp,Sem.run_bind,C,Result.andThen_ok,Sem.run_pure]
theorem ZCH [NW] (C:∀t i,tt t=some i->TOk P t i) {F:BinOp}{t:Nat}{ox oy:Operand}{x y v:SV}{E D:Value}(h:ZBe (tt t) F x y=some v) (I:SVR g w x E) (H:SVR g w y D):
  ∃cv,(do eqGuard F t ox oy E D;binOp F t E D:Sem Value).run P w=.ok cv w/\SVR g w v cv/\svU U v:=by
 unfold ZBe at h;split at h
 .have ex:=Zdl I;have ey:=Zdl H;subst ex ey;split at h
  .rename_i L;obtain ⟨z,G,rfl⟩:=AA.1 h;obtain ⟨cv,B,A⟩:=ZBv (P:=P) (g:=g) (w:=w) (t:=t) (ox:=ox) (oy:=oy) L G;exact ⟨cv,B,A,QN _⟩
  .simp at h
 .obtain ⟨ex,N⟩:=Zk4 I;obtain ⟨ey,M⟩:=Zk4 H;subst ex ey;obtain ⟨z,G,rfl⟩:=AA.1 h;obtain ⟨cv,B,A⟩:=ZBU (P:=P) (g:=g) (w:=w) (t:=t) (ox:=ox) (oy:=oy) G;exact ⟨cv,B,A,QN _⟩
 .have ex:=ZhT I;have ey:=ZhT H;subst ex ey;split at h
  .rename_i a;simp only[AB]at h;subst h;obtain ⟨d,K,i,B,A,_⟩:=C t _ a;have J:d=.bool:=by cases d<;>simp [Zkl]at A;rfl
   subst J;exact ⟨_,Zus B (.inl ⟨rfl,rfl⟩),Zb5 _,QN _⟩
  .rename_i a;simp only[AB]at h;subst h;obtain ⟨d,K,i,B,A,_⟩:=C t _ a;have J:d=.bool:=by cases d<;>simp [Zkl]at A;rfl
   subst J;exact ⟨_,Zus B (.inr ⟨rfl,rfl⟩),Zb5 _,QN _⟩
  .simp at h
 .simp at h
theorem ZqY {k:PK}{d:TypeDesc}(h:Ze9 k d=true):ZsK d=false:=by
 unfold Ze9 at h;split at h<;>first|rfl|simp at h
theorem ZDK [NW] {k:PK}{x y:AV}{H G:Value}{b:Bool}{t:Nat}{d:TypeDesc}(h:eqC k x y=some b) (F:P.underlying t=some d) (E:Ze9 k d=true) (D:AVR g w x H) (C:AVR g w y G) (n:Nat):(Op.equalIn (n+1) t H G).run P w=.ok b w:=by
 unfold eqC at h;split at h
 .split at h<;>simp only[AB,reduceCtorEq]at h
  rename_i I;subst I h;obtain ⟨_,B,_⟩:=D;obtain ⟨_,A,_⟩:=C;have e1:=B.1;have e2:=A.1;subst e1 e2;cases d<;>simp [Ze9]at E
  exact run_equalIn_int w n t _ _ _ _ F
 .simp only[AB]at h;subst h;obtain ⟨_,B,_⟩:=D;obtain ⟨_,A,_⟩:=C;have e1:=B.1;have e2:=A.1;subst e1 e2;cases d<;>simp [Ze9]at E
  rw [run_equalIn_string w n t _ _ F,sEq,ZwO]
 .simp only[AB]at h;subst h;obtain ⟨_,B,_⟩:=D;obtain ⟨_,A,_⟩:=C;have e1:=B.1;have e2:=A.1;subst e1 e2;cases d<;>simp [Ze9]at E
  exact run_equalIn_bool' w n t _ _ F
 .simp at h
theorem Zwf [NW] (n:Nat) {X Y:Array Value}:∀{ks:List PK}{B:List Field}{o:Nat}{xs A:List AV}{D C:List Value}{b:Bool},Zqe ks xs A=some b->EqF P ks B o->ZN (AVR g w) xs D->ZN (AVR g w) A C->(∀j v,D[j]?=some v->X[o+j]?=some v)->(∀j v,C[j]?=some v->Y[o+j]?=some v)->(Op.eqFields (n+1) X Y B).run P w=.ok b w
 | [],[],_,[],[],_,_,b,h,_,_,_,_,_=>by simp [Zqe]at h;subst h;simp [Op.eqFields]
 |k::ks,f::B,o,x::xs,y::A,[],_,_,_,_,hx,_,_,_=>hx.elim
 |k::ks,f::B,o,x::xs,y::A,_::_,[],_,_,_,_,hy,_,_=>hy.elim
 |k::ks,f::B,o,x::xs,y::A,u::D,v::C,b,h,hf,hx,hy,hX,hY=>by
  simp only[Zqe]at h;obtain ⟨O,L,h⟩:=AN.1 h;obtain ⟨R,K,rfl⟩:=AA.1 h;obtain ⟨N,H,⟨d,G,F⟩,M⟩:=hf;have e1:=ZDK L G F hx.1 hy.1 n;have e2:=Zwf n K M hx.2 hy.2 (fun j v E=>by have:=hX (j+1) v (by simpa using E);rwa [show o+(j+1)=o+1+j by omega]at this) (fun j v E=>by have:=hY (j+1) v (by simpa using E);rwa [show o+(j+1)=o+1+j by omega]at this)
  have J:(part f.type X f.offset).run P w=.ok u w:=by
   have:=hX 0 u yG;simp only[part,Sem.run_bind,Zj0 G,ZqY F,Result.andThen_ok];rw [H];simp at this;simp [this]
  have I:(part f.type Y f.offset).run P w=.ok v w:=by
   have:=hY 0 v yG;simp only[part,Sem.run_bind,Zj0 G,ZqY F,Result.andThen_ok];rw [H];simp at this;simp [this]
  simp only[Op.eqFields,N,ne_eq,not_false_eq_true,if_true,Sem.run_bind,J,I,e1,Result.andThen_ok];cases O
  .simp
  .simpa using e2
 | [],_::_,_,_,_,_,_,_,_,hf,_,_,_,_=>hf.elim
 |_::_,[],_,_,_,_,_,_,_,hf,_,_,_,_=>hf.elim
 | [],[],_,_::_,_,_,_,_,h,_,_,_,_,_=>by simp [Zqe]at h
 | [],[],_,[],_::_,_,_,_,h,_,_,_,_,_=>by simp [Zqe]at h
 |_::_,_::_,_,[],_,_,_,_,h,_,_,_,_,_=>by simp [Zqe]at h
 |_::_,_::_,_,_::_,[],_,_,_,h,_,_,_,_,_=>by simp [Zqe]at h
theorem ZtF {A:BinOp}{b:Bool}{v:SV}(h:ZtU A b=some v):(A=.eql/\v=.p false [.c (.bool b)])\/(A=.neq/\v=.p false [.c (.bool (!b))]):=by
 unfold ZtU at h;split at h<;>simp only[AB,reduceCtorEq]at h<;>subst h
 .exact .inl ⟨rfl,rfl⟩
 .exact .inr ⟨rfl,rfl⟩
theorem ZFy [NW] (D:∀t i,tt t=some i->TOk P t i) {A:BinOp}{t:Nat}{ox oy:Operand}{x y v:SV}{C B:Value}(h:ZBi (tt (t+4000)) A x y=some v) (J:SVR g w x C) (I:SVR g w y B):
  ∃cv,(do eqGuard A t ox oy C B;binOp A t C B:Sem Value).run P w=.ok cv w/\SVR g w v cv/\svU U v:=by
 unfold ZBi at h;split at h
 .obtain ⟨ks,a,N⟩:=AN.1 h;obtain ⟨b,K,d⟩:=AN.1 N;have c:tt (t+4000)=some (.eqs ks):=by
   unfold Zy9 at a;split at a<;>simp only[AB,reduceCtorEq]at a
   rename_i c;rw [c,a]
  obtain ⟨u,e,H,G,M,L⟩:=D _ _ c;have e:t=u:=Nat.add_right_cancel e;subst e;obtain ⟨F,rfl,f⟩:=J;obtain ⟨vs,rfl,k⟩:=I;have hq:=Zwf (X:=F.toArray) (Y:=vs.toArray) 9998 K L f k (fun j v E=>by simpa using E) (fun j v E=>by simpa using E);have hg:=run_eqGuard_agg (P:=P) w A t ox oy F.toArray vs.toArray M;rcases ZtF d with ⟨rfl,rfl⟩|⟨rfl,rfl⟩
  .refine ⟨_,?_,Zb5 b,QN _⟩;simp only[Sem.run_bind,hg,Result.andThen_ok,run_eql_struct,run_equalIn_struct w 9999 t _ _ H G,hq]
  .refine ⟨_,?_,Zb5 (!b),QN _⟩;simp only[Sem.run_bind,hg,Result.andThen_ok,run_neq_struct,run_equalIn_struct w 9999 t _ _ H G,hq]
 .simp at h
theorem ZE2 [NW] {b:Bool}{v:Value}(h:SVR g w (.p false [.c (.ifc b)]) v):(b=true/\v=.nilIface)\/(b=false/\∃t x,v=.iface t x):=by
 obtain ⟨x,A,h⟩:=h;simp at A;subst A;obtain ⟨L,B,_⟩:=h;have h2:=B.2.2;cases b with
 |true=>exact .inl ⟨rfl,h2⟩
 |false=>exact .inr ⟨rfl,h2⟩
theorem ZAP [NW] (A:∀t i,tt t=some i->TOk P t i) {B:BinOp}{t:Nat}{ox oy:Operand}{x y v:SV}{C:Value}(h:Zzw tt t (Zmt oy) B x y=some v) (F:SVR g w x C) (G:SVR g w y (a.eval oy)):
  ∃cv,(do eqGuard B t ox oy C (a.eval oy);binOp B t C (a.eval oy):Sem Value).run P w=.ok cv w/\SVR g w v cv/\svU U v:=by
 unfold Zzw at h;split at h
 .rename_i H;have K:oy=.const .nilIface:=by
   cases oy with
   |const c=>cases c<;>first|rfl|(simp [Zmt,ZvI]at H;done)
   |_=>simp [Zmt]at H
  subst K;split at h
  rotate_left
  .simp at h
  rename_i d;have j:tt t=some .ifc:=by
   unfold ZyT at d;split at d
   .assumption
   .simp at d
  obtain ⟨M,e⟩:=A _ _ j;unfold ZDg at h;split at h
  .rename_i b;have hb:=ZE2 F;have k:a.eval (.const .nilIface)=.nilIface:=rfl;rw [k];have L:∀v:Value,(v=.nilIface\/∃t x,v=.iface t x)->(eqGuard B t ox (.const .nilIface) v .nilIface).run P w=.ok () w:=fun v J=>by
    rcases J with rfl|⟨E,D,rfl⟩
    .simp only[eqGuard];cases ox<;>cases B<;>rfl
    .simp only[eqGuard];cases B<;>rfl
   have I:(Op.equal t C .nilIface).run P w=.ok b w:=by
    show (Op.equalIn (9999+1) t _ _).run P w=_
    rw [Op.equalIn];rcases hb with ⟨rfl,rfl⟩|⟨rfl,E,D,rfl⟩
    .simp only[Sem.run_bind,Xk e,Result.andThen_ok,Sem.run_pure]
    .simp only[Sem.run_bind,Xk e,Result.andThen_ok,Sem.run_pure]
   have f:=L C (hb.imp (fun h=>h.2) (fun h=>h.2));rcases ZtF h with ⟨rfl,rfl⟩|⟨rfl,rfl⟩
   .refine ⟨_,?_,Zb5 b,QN _⟩;simp only[Sem.run_bind,f,Result.andThen_ok];rcases hb with ⟨rfl,rfl⟩|⟨rfl,E,D,rfl⟩<;>simp only[binOp,Sem.run_bind,I,Result.andThen_ok,Sem.run_pure]
   .refine ⟨_,?_,Zb5 (!b),QN _⟩;simp only[Sem.run_bind,f,Result.andThen_ok];rcases hb with ⟨rfl,rfl⟩|⟨rfl,E,D,rfl⟩<;>simp only[binOp,Sem.run_bind,I,Result.andThen_ok,Sem.run_pure]
  .simp at h
 .split at h
  .exact ZFy A h F G
  .exact ZCH A h F G
theorem ZGL [NW] {B:UnOp}{x v:SV}{A:Value}(h:unV B x=some v) (C:SVR g w x A):∃cv,(Op.unary B A).run P w=.ok cv w/\SVR g w v cv/\svU U v:=by
 unfold unV at h;split at h
 .have ex:=ZhT C;subst ex;split at h<;>simp at h
  subst h;exact ⟨_,by simp [Op.unary],Zb5 _,QN _⟩
 .have ex:=Zdl C;subst ex;split at h<;>simp at h
  subst h;exact ⟨_,by simp [Op.unary,Op.intArith],ZcT _ _,QN _⟩
 .simp at h
end
end
section
open Go.RowKit
section
variable {P:Program} {W:ZbW} {U:Nat->Prop} {key:Nat} {st:St} {g:Gh} {w:World} {a:Act} {tt:Nat->Option TI}
theorem ZFk {t:Nat}{z:AV}(A:∀t i,tt t=some i->TOk P t i) (h:tt t=some (.atom z)):∃d,P.underlying t=some d:=by
 obtain ⟨d,_,_,h,_⟩:=A t _ h;exact ⟨d,h⟩
theorem Ztw {t:Nat}(A:∀t i,tt t=some i->TOk P t i) (h:ZcW (tt t)=true):∃e,P.underlying t=some (.slice e):=by
 unfold ZcW at h;split at h
 .rename_i B;exact ⟨_,(A t _ B).1⟩
 .simp at h
theorem ZjO {t:Nat}(A:∀t i,tt t=some i->TOk P t i) (h:Zd6 (tt t)=true):P.underlying t=some .string:=by
 unfold Zd6 at h;split at h
 .rename_i E;obtain ⟨d,F,i,B,D,_⟩:=A t _ E;have C:d=.string:=by cases d<;>simp [Zkl]at D;rfl
  rw [C]at B;exact B
 .simp at h
theorem ZAQ [NW] (A:∀t i,tt t=some i->TOk P t i) {s t:Nat}{x v:SV}{C:Value}(h:ZtK (tt s) (tt t) x=some v) (D:SVR g w x C):∃cv,(convert s t C).run P w=.ok cv w/\SVR g w v cv/\svU U v:=by
 unfold ZtK at h;split at h
 .have ex:=Zdl D;subst ex;split at h
  .rename_i H G;simp only[AB]at h;subst h;obtain ⟨d,I,i,F,B,_⟩:=A t _ G;have E:∃k,d=.int k:=by cases d<;>simp [Zkl]at B;exact ⟨_,rfl⟩
   obtain ⟨k,rfl⟩:=E;simp only[Zkl,beq_iff_eq]at B;subst B;obtain ⟨ds,hs⟩:=ZFk A H;refine ⟨_,?_,ZcT _ _,QN _⟩;simp [convert,Xk hs,Xk F,Conv.intToInt]
  .simp at h
 .simp at h
theorem ZjE [NW] {e m:Nat}{xs:List (List CT)}{v:Value}(h:SVR g w (.p false [.c (.sl e m xs)]) v):∃A cap cs L0 L1,v=.slice A xs.length cap/\xs.length<=cap/\cap<=maxLen/\0<m/\Sl w m A xs.length cs L0/\REs w m xs cs L1/\(∀b∈L0++L1,¬g.own b):=by
 obtain ⟨x,B,h⟩:=h;simp at B;subst B;obtain ⟨L,⟨A,cap,cs,L0,L1,J,I,H,G,F,E,D⟩,C⟩:=h;exact ⟨A,cap,cs,L0,L1,J,I,H,F,E,D,fun b m=>C b (G ▸ m)⟩
theorem ZhR [NW] {k:Nat}{v:Value}(h:SVR g w (.p false [.row k]) v):v=g.val k:=by
 obtain ⟨x,A,h⟩:=h;simp at A;subst A;exact h.1
theorem Zv4 [NW] {e m:Nat}{v:Value}(h:SVR g w (.p false [.nil e m]) v):v=.slice none 0 0:=by
 obtain ⟨x,A,h⟩:=h;simp at A;subst A;exact h
theorem Zgl {B e m n:Nat}{v:Value}{cs:List Value}(h:w.ownsV B e m v n cs):∃A cap,v=.slice A n cap:=by
 obtain ⟨A,c,C,_⟩:=Zbt h;exact ⟨A,c,C⟩
theorem ZH0 [NW] {x:CT}{v:Value}(h:SVR g w (.p false [.n x]) v):NR g w x v:=by
 obtain ⟨y,A,h⟩:=h;simp at A;subst A;exact h
theorem ZEh [NW] (C:∀t i,tt t=some i->TOk P t i) (H:HI W g st.ob w) {t:Nat}{ts:Array TypeId}{ty:TypeId}(a:ts[0]?=some t) {x v:SV}{E:Value}(h:Zqx st (tt t) x=some v) (B:SVR g w x E):
  ∃cv,(Builtin.len_ ts ty #[E]).run P w=.ok cv w/\SVR g w v cv/\svU U v:=by
 have fin:∀(A:Option Addr) (n c:Nat),ZcW (tt t)=true->(Builtin.len_ ts ty #[.slice A n c]).run P w=.ok (.int .i64 n) w:=fun A n c hs=>by
  obtain ⟨e,G⟩:=Ztw C hs;simp [Builtin.len_,a,Xk G,goInt]
 unfold Zqx at h;split at h
 .split at h<;>simp at h
  rename_i hs;subst h;obtain ⟨A,cap,_,_,_,rfl,_⟩:=ZjE B;exact ⟨_,fin _ _ _ hs,ZcT _ _,QN _⟩
 .split at h<;>simp at h
  rename_i hs;subst h;obtain ⟨_,_,_,_,_,D,_,I,_⟩:=ZH0 B;simp only[CT.sl.injEq]at D;obtain ⟨_,_,rfl⟩:=D;obtain ⟨A,cap,rfl⟩:=Zgl I;exact ⟨_,fin _ _ _ hs,ZcT _ _,QN _⟩
 .split at h<;>simp at h
  rename_i hs;subst h;obtain ⟨rfl,_⟩:=Zk4 B;refine ⟨_,?_,ZcT _ _,QN _⟩;simp [Builtin.len_,a,Xk (ZjO C hs),goInt]
 .split at h<;>simp at h
  rename_i hs;subst h;have:=Zv4 B;subst this;exact ⟨_,fin _ _ _ hs,ZcT _ _,QN _⟩
 .split at h
  .rename_i k _ e m xs d F;split at h<;>simp at h
   rename_i hs;subst h;have hv:=ZhR B;subst hv;have ho:=H.obs k;rw [F]at ho;obtain ⟨_,cs,L,D,_⟩:=ho;obtain ⟨A,cap,hv⟩:=Zgl D;rw [hv];exact ⟨_,fin _ _ _ hs,ZcT _ _,QN _⟩
  .simp at h
 .simp at h
theorem ZoO {f:Value->BYT->Sem (ForInStep BYT)}(A:∀n s,f (.int .u8 n) s=pure (ForInStep.yield (s.push (As n.toNat)))):∀(l:List Int) (s:BYT),(forIn (l.map fun n=>Value.int .u8 n) s f).run P w=.ok ⟨s.data++(l.map fun n=>As n.toNat).toArray⟩ w
 | [],s=>by simp
 |n::l,s=>by
  have ih:=ZoO A l (s.push (As n.toNat));simp only[Aa,List.forIn_cons,A,Sem.run_bind,Sem.run_pure,Result.andThen_ok,ih];congr 2
  apply Array.ext';simp [ByteArray.push]
theorem Zxh [NW] {b o cap:Nat}(l:List Int) (B:∀j u,(l.map fun n=>Value.int .u8 n)[j]?=some u->w.cell? ⟨b,o+j,none⟩=some u):(Conv.bytesToString (.slice (some ⟨b,o,none⟩) l.length cap)).run P w=.ok (.string (Ql l)) w:=by
 have h1:=run_loadCells_list (P:=P) w ⟨b,o,none⟩ (l.map fun n=>Value.int .u8 n) (fun j u A=>by rw [Zea];exact B j u A);rw [Am]at h1;unfold Conv.bytesToString;simp only[Sem.run_bind,h1,Result.andThen_ok,<-Array.forIn_toList];rw [ZoO (fun _ _=>rfl)];simp [Ql,ByteArray.empty,ByteArray.emptyWithCapacity];rfl
theorem Zpj {m:Nat}:∀{xs:List (List CT)}{l:List Int}{cs:List Value}{L:List Nat},ZgJ xs=some l->REs w m xs cs L->cs=l.map (fun n=>Value.int .u8 n)/\xs.length=l.length
 | [],_,_,_,h,⟨h1,_⟩=>by simp [ZgJ]at h;subst h h1;simp
 |x::r,l,_,_,h,⟨c1,c2,L1,L2,rfl,rfl,h3,h4⟩=>by
  unfold ZgJ at h;split at h
  .rename_i A;simp at A
  .rename_i n H A;simp only[Ba]at A;obtain ⟨rfl,rfl⟩:=A;obtain ⟨I,D,rfl⟩:=AA.1 h;obtain ⟨C,B⟩:=Zpj D h4;obtain ⟨v,E,_,_,rfl,rfl,G,F⟩:=h3.1;obtain ⟨rfl,_⟩:=F;rw [G.1,C];exact ⟨rfl,by simp [B]⟩
  .simp at h
theorem ZuV (l:List Int):(Ql l).size=l.length:=by simp [Ql,Bg]
theorem ZAy [NW] (E:∀t i,tt t=some i->TOk P t i) (hI:HI W g st.ob w) {s t:Nat}{x v:SV}{N:Value}(y:Zd6 (tt t)=true) (f:Zpx (ZrA tt (tt s))=true) (h:Zkn st x=some v) (O:SVR g w x N):∃cv,(convert s t N).run P w=.ok cv w/\SVR g w v cv/\svU U v:=by
 have ht:=ZjO E y;have hs:∃e,P.underlying s=some (.slice e)/\P.underlying e=some (.int .u8):=by
  unfold ZrA at f;split at f
  .rename_i e m b z B;have h1:=(E _ _ B).1;unfold Zpx at f;split at f
   .rename_i C;obtain ⟨d,zv,i,G,D,_⟩:=E _ _ C;cases d<;>simp [Zkl]at D
    subst D;exact ⟨e,h1,G⟩
   .simp at f
  .simp [Zpx]at f
 obtain ⟨e,hs,he⟩:=hs;have go:∀A n c,(convert s t (.slice A n c)).run P w=(Conv.bytesToString (.slice A n c)).run P w:=fun A n c=>by
  unfold convert;simp only[Sem.run_bind,Xk hs,Xk ht,Xk he,Result.andThen_ok]
 have fin:∀(A:Option Addr) (n cap:Nat) (cs:List Value) (L:List Nat) (xs:List (List CT)) (l:List Int) (m:Nat),n=xs.length->0<m->ZgJ xs=some l->REs w m xs cs L->n<=9223372036854775807->(n=0\/∃b o,A=some ⟨b,o,none⟩/\Zal w b o cs)->∃cv,(convert s t (.slice A n cap)).run P w=.ok cv w/\SVR g w (.p false [.c (.str (Ql l))]) cv/\svU U (.p false [.c (.str (Ql l))]):=by
  intro A n cap cs L xs l m hn I F hR aa hA;obtain ⟨i1,V⟩:=Zpj F hR;have q:(Ql l).size<=9223372036854775807:=by rw [ZuV];omega
  refine ⟨.string (Ql l),?_,ZnN q,QN _⟩;rw [go];rcases hA with H|⟨b,o,rfl,K⟩
  .have:l=[]:=List.eq_nil_of_length_eq_zero yE;subst this;cases A with
   |none=>rfl
   |some a=>
    have h1:=run_loadCells_list (P:=P) w a [] yG;rw [H];unfold Conv.bytesToString;simp only[Ah]at h1;simp only[Sem.run_bind,h1,Result.andThen_ok];rfl
  .rw [hn,V];exact Zxh l fun j u J=>K j u (by rw [i1];exact J)
 unfold Zkn at h;split at h
 .split at h
  .rename_i k _ e' m xs d hk;obtain ⟨l,F,rfl⟩:=AA.1 h;have hv:=ZhR O;have ho:=hI.obs k;rw [hk]at ho;obtain ⟨I,cs,L,h1,G,_⟩:=ho;rw [hv];rcases h1.2 with ⟨D,h4⟩|⟨b,o,cap,ab,D,h4,T,S,M,R,h9⟩
   .rw [D];exact fin _ _ _ cs L xs l m yE I F G yE (.inl rfl)
   .rw [D];refine fin _ _ _ cs L xs l m rfl I F G (by unfold maxLen at M;omega) (.inr ⟨b,o,rfl,fun j u J=>?_⟩);exact ZlW h1 D j u J
  .simp at h
 .obtain ⟨l,F,rfl⟩:=AA.1 h;obtain ⟨A,cap,cs,L0,L1,rfl,G,D,T,S,M,_⟩:=ZjE O;rename_i e' m' xs _;refine fin _ _ _ cs L1 xs l _ rfl T F M (by unfold maxLen at D;omega) ?_;rcases Nat.eq_zero_or_pos xs.length with H|H
  .exact .inl H
  .obtain ⟨b,off,R,h9,K⟩:=S.at_ H;exact .inr ⟨b,off,R,K⟩
 .simp at h
theorem ZAz [NW] (A:∀t i,tt t=some i->TOk P t i) (E:HI W g st.ob w) {s t:Nat}{x v:SV}{C:Value}(h:ZiN tt st s t x=some v) (D:SVR g w x C):∃cv,(convert s t C).run P w=.ok cv w/\SVR g w v cv/\svU U v:=by
 unfold ZiN at h;split at h
 .rename_i B;simp only[AD]at B;exact ZAy A E B.1 B.2 h D
 .exact ZAQ A h D
theorem RCs.avr [NW] {e:List CT}{cs:List Value}{L:List Nat}:RCs w e cs L->(∀b∈L,¬g.own b)->ZN (AVR g w) (e.map .c) cs:=by
 induction e generalizing cs L with
 |nil=>intro h _;obtain ⟨rfl,rfl⟩:=h;trivial
 |cons x r ih=>
  rintro ⟨v,D,L1,L2,rfl,rfl,C,B⟩ A;exact ⟨⟨L1,C,fun b m=>A b (by simp [m])⟩,ih B fun b m=>A b (by simp [m])⟩
theorem Zmf (a:Bool) (e:List CT):QK U (e.map AV.c):=fun y m=>by
 obtain ⟨x,_,rfl⟩:=AW.1 m;trivial
theorem Zr1 [NW] (A:∀t i,tt t=some i->TOk P t i) {t b E off:Nat}{cs:List AV}{vs:List Value}{v:SV}(h:cut (tt t) cs off=some v) (J:Zal w b E vs) (G:ZN (AVR g w) cs vs) (I:QK U cs):
  ∃cv,(Instr.loadAt t (.pointer (some ⟨b,E+off,none⟩))).run P w=.ok cv w/\SVR g w v cv/\svU U v:=by
 have hlen:=G.len;have c:∀d,P.underlying t=some d->ZsK d=false->∀x,cs[off]?=some x->∃cv,(Instr.loadAt t (.pointer (some ⟨b,E+off,none⟩))).run P w=.ok cv w/\SVR g w (.p false [x]) cv/\svU U (.p false [x]):=fun d L M x C=>by
  obtain ⟨u,B,D⟩:=G.at C;refine ⟨u,?_,⟨x,rfl,D⟩,fun y m=>by simp at m;subst m;exact I y (AZ C)⟩;simp [Instr.loadAt,Instr.sureAddr,loadVar,Zj0 L,M,load,Sem.run,J off u B]
 unfold cut at h;split at h
 .rename_i N n z k;split at h<;>simp at h
  rename_i T;subst h;obtain ⟨F,i,zvs,B,D,V,_⟩:=A t _ k;refine ⟨.agg ((vs.drop off).take n).toArray,?_,⟨_,rfl,(G.drop off).take n⟩,fun y m=>I y (Au (At m))⟩;have K:((vs.drop off).take n).length=i.size:=by simp;omega
  have a:=run_loadCells_list (P:=P) w ⟨b,E+off,none⟩ ((vs.drop off).take n) (fun j u H=>by
   rw [Zea,AO];refine J _ u ?_;have l:j<n:=by
    have:=(AC.1 H).1;simp at this;omega
   rw [Bp,yp l,BC]at H;exact H)
  rw [K]at a;simp [Instr.loadAt,Instr.sureAddr,loadVar,Zj0 B,ZsK,X1 D,a]
 .simp at h
 .rename_i i k o f;obtain ⟨x,C,rfl⟩:=AA.1 h;cases i with
  |atom z=>obtain ⟨d,O,i,B,D,_⟩:=A t _ f;exact c d B (ZzI D) x C
  |strct N n z=>exact absurd rfl (k _ _ _)
  |slice e m b z=>exact c _ (A t _ f).1 rfl x C
  |map kk vk=>
   obtain ⟨S,W,_,_,_,_,B,_⟩:=A t _ f;exact c _ B rfl x C
  |ifc=>obtain ⟨R,B⟩:=A t _ f;exact c _ B rfl x C
  |eqs ks=>exact absurd rfl (o _)
 .simp at h
end
end
section
open Go.RowKit
section
variable {P:Program} {W:ZbW} {U:Nat->Prop} {key:Nat} {st:St} {g:Gh} {w:World} {a:Act} {tt:Nat->Option TI}
theorem HI.deep [NW] {ob:Nat->Ob}{k e m:Nat}{xs:List (List CT)}{d:Nat}(C:HI W g ob w) (M:ob k=.row e m xs d):0<m/\∃cs L,w.ownsV 0 e m (g.val k) xs.length cs/\REs w m xs cs L/\(∀b∈L,¬g.own b)/\((d=2/\g.O k=(g.val k).ownBlock.toList/\g.D k=L)\/(d=1/\g.O k=(g.val k).ownBlock.toList/\g.D k=[])\/(d=0/\g.O k=[]/\g.D k=[]/\∀b∈(g.val k).ownBlock.toList,¬g.own b)):=by
 have ho:=C.obs k;rw [M]at ho;obtain ⟨K,cs,L,P,N,A⟩:=ho;refine ⟨K,cs,L,P,N,?_,?_⟩
 .rcases A with ⟨_,_,A⟩|⟨_,_,_,A⟩|⟨_,_,_,A⟩
  .rintro b B (⟨j,H⟩|J)
   .by_cases a:j=k
    .subst a;have:=C.nodup j;rw [List.nodup_append]at this;exact this.2.2 b H b (A ▸ B) rfl
    .exact C.apart j k a b (by simp [H]) (by simp [A,B])
   .exact C.nz (k:=k) (by simp [A,B]) J
  .exact A
  .exact fun b B=>A b (by simp [B])
 .rcases A with A|⟨G,F,E,_⟩|⟨G,F,E,I⟩
  .exact .inl A
  .exact .inr (.inl ⟨G,F,E⟩)
  .exact .inr (.inr ⟨G,F,E,fun b B=>I b (by simp [B])⟩)
theorem HI.deepO [NW] {ob:Nat->Ob}{k e m:Nat}{xs:List (List CT)}{d:Nat}(H:HI W g ob w) (F:ob k=.row e m xs d) (G:¬d=0):0<m/\∃cs L,w.ownsV 0 e m (g.val k) xs.length cs/\REs w m xs cs L/\(∀b∈L,¬g.own b)/\g.O k=(g.val k).ownBlock.toList/\((d=2/\g.D k=L)\/(d=1/\g.D k=[])):=by
 obtain ⟨E,cs,L,M,K,J,I⟩:=H.deep F;refine ⟨E,cs,L,M,K,J,?_⟩;rcases I with ⟨A,C,B⟩|⟨A,C,B⟩|⟨A,_⟩
 .exact ⟨C,.inl ⟨A,B⟩⟩
 .exact ⟨C,.inr ⟨A,B⟩⟩
 .exact absurd A G
theorem REs.at {m:Nat}:∀{xs:List (List CT)}{cs:List Value}{L:List Nat}{i:Nat}{e:List CT},REs w m xs cs L->xs[i]?=some e->
  ∃c L',RCs w e c L'/\c.length=m/\(∀b∈L',b∈L)/\∀j u,c[j]?=some u->cs[i*m+j]?=some u
 | [],_,_,_,_,_,h=>by simp at h
 |x::r,_,_,0,e,⟨c1,c2,L1,L2,rfl,rfl,h3,h4⟩,h=>by
  simp at h;subst h;exact ⟨c1,L1,h3.1,h3.2,fun b B=>by simp [B],fun j u A=>by
   rw [Nat.zero_mul,AM,AT (AC.1 A).1];exact A⟩
 |x::r,_,_,i+1,e,⟨c1,c2,L1,L2,rfl,rfl,h3,h4⟩,h=>by
  obtain ⟨c,L',F,E,D,C⟩:=REs.at h4 (i:=i) (e:=e) (by simpa using h);refine ⟨c,L',F,E,fun b B=>by simp [D b B],fun j u A=>?_⟩;have hl:=h3.2;rw [BB (by rw [AS];omega)];rw [<-C j u A];congr 1
  rw [hl,AS];omega
theorem REs.len {m:Nat}:∀{xs:List (List CT)}{cs:List Value}{L:List Nat},REs w m xs cs L->cs.length=xs.length*m
 | [],_,_,h=>by simp [h.1]
 |x::r,_,_,⟨c1,c2,L1,L2,rfl,rfl,h3,h4⟩=>by simp [h3.2,REs.len h4,AS];omega
theorem ZC8 [NW] (G:∀t i,tt t=some i->TOk P t i) (hI:HI W g st.ob w) (hU:StU U st) {t e m a:Nat}{z:List AV}(p:tt t=some (.slice e m a z)) {x i v:SV}{J vi:Value}(h:Za1 st m x i=some v) (K:SVR g w x J) (B:svU U x) (hi:SVR g w i vi):
  ∃cv,(Instr.indexAt t J vi).run P w=.ok cv w/\SVR g w v cv/\svU U v:=by
 obtain ⟨R,hm,_,⟨ie,zv,C,D,_⟩,_⟩:=G t _ p;have f:∀(b o n c:Nat) (k:IntKind) (q:Int),0<=q->q<n->(Instr.indexAt t (.slice (some ⟨b,o,none⟩) n c) (.int k q)).run P w=.ok (.pointer (some ⟨b,o+q.toNat*m,none⟩)) w:=fun b o n c k q E I=>by
  simp [Instr.indexAt,asIntOf,Xk R,E,I,X1 C,D,Zea]
 unfold Za1 at h;split at h
 .have ei:=Zdl hi;subst ei;split at h
  .rename_i H;obtain ⟨x,l,rfl⟩:=AA.1 h;obtain ⟨A,cap,cs,L0,L1,rfl,h2,h3,h5,N,h7,M⟩:=ZjE K;obtain ⟨E,rfl⟩:=H;have hlt:=(AC.1 l).1;obtain ⟨b,off,rfl,rfl,V⟩:=N.at_ yE;obtain ⟨c,L',a1,a2,a3,a4⟩:=h7.at l;refine ⟨_,f b off _ _ _ _ E yE,⟨b,off+_,c,L',by rw [BD],fun j u T=>?_,a1,fun y F=>?_,?_⟩,trivial⟩
   .rw [AO];exact V _ u (a4 j u T)
   .rcases AR.1 F with rfl|F
    .exact M _ yG
    .exact M _ (by simp [a3 y F])
   .exact N.lt h5 b yG
  .simp at h
 .rename_i k _ _;have ei:=Zdl hi;subst ei;split at h
  .rename_i e' m' xs d S;split at h
   .rename_i H;obtain ⟨E,I,rfl⟩:=H;simp only[AB]at h;subst h;have hv:=ZhR K;subst hv;obtain ⟨_,cs,L,O,_⟩:=hI.deep S;rcases O.2 with ⟨_,hn⟩|⟨b,o,cap,aa,hv,_⟩
    .omega
    .refine ⟨_,by rw [hv];exact f b o _ _ _ _ E I,⟨b,o,_,_,hv,yG⟩,by have:=B (.row k) yG;exact this⟩
   .simp at h
  .simp at h
 .simp at h
theorem ZBd [NW] (A:∀t i,tt t=some i->TOk P t i) {t:Nat}{x i v:SV}{B vi:Value}(h:Zor (tt t) x i=some v) (D:SVR g w x B) (hi:SVR g w i vi):
  ∃cv,(Instr.index t B vi).run P w=.ok cv w/\SVR g w v cv/\svU U v:=by
 unfold Zor at h;split at h
 .have ei:=Zdl hi;subst ei;obtain ⟨rfl,_⟩:=Zk4 D;split at h
  .rename_i C;obtain ⟨b,E,rfl⟩:=AA.1 h;refine ⟨_,?_,ZcT _ _,QN _⟩;simp [Instr.index,asIntOf,Xk (ZjO A C.2),C.1,E]
  .simp at h
 .simp at h
theorem Zwi [NW] {e:List CT}{v:Value}(h:SVR g w (.p false [.c (.pt e)]) v):∃b cs L,v=.pointer (some ⟨b,0,none⟩)/\b<w.heap.size/\Zal w b 0 cs/\RCs w e cs L/\∀x∈b::L,¬g.own x:=by
 obtain ⟨x,A,h⟩:=h;simp at A;subst A;obtain ⟨_,⟨b,cs,L,F,E,rfl,D,C⟩,B⟩:=h;exact ⟨b,cs,L,F,E,D,C,B⟩
theorem Zwy [NW] (A:∀t i,tt t=some i->TOk P t i) (R:HI W g st.ob w) (hU:StU U st) {t:Nat}{x v:SV}{M:Value}(h:Zap st (tt t) x=some v) (C:SVR g w x M):
  ∃cv,(Instr.loadAt t M).run P w=.ok cv w/\SVR g w v cv/\svU U v:=by
 unfold Zap at h;split at h
 .rename_i k off;split at h
  .rename_i V cs D;obtain ⟨b,E,rfl⟩:=C;have ho:=R.obs k;rw [D]at ho;obtain ⟨b',vs,F,O,N,o4,o5⟩:=ho;have hb:b=b':=by rw [F]at E;simpa using E.symm
   subst hb;have hu:=hU.ob k;rw [D]at hu;have H:Zal w b 0 vs:=fun j u G=>by
    rw [AM,cell_of_row w b j vs.toArray V (0,0) o4];simpa using G
   have:=Zr1 (P:=P) A h H o5 hu;simpa using this
  .simp at h
 .rename_i k m i off;split at h
  .rename_i e m' xs d D;obtain ⟨x,a,K⟩:=AN.1 h;obtain ⟨b,o,n,c,E,rfl⟩:=C;obtain ⟨hm,cs,L,F,O,N,_⟩:=R.deep D;split at K
   .rename_i f;subst f;obtain ⟨c',L',a1,a2,a3,a4⟩:=O.at a;have H:Zal w b (o+i*m) c':=fun j u G=>by
     rw [AO];exact ZlW F E (i*m+j) u (a4 j u G)
    rw [<-AO];exact Zr1 A K H (a1.avr fun y B=>N y (a3 y B)) (Zmf true _)
   .simp at K
  .simp at h
 .obtain ⟨b,lo,cs,L,rfl,T,J,I,S⟩:=C;exact Zr1 A h T (J.avr fun y B=>I y (by simp [B])) (Zmf true _)
 .obtain ⟨b,cs,L,rfl,T,J,I,S⟩:=Zwi C;have:=Zr1 (P:=P) (U:=U) A h J (I.avr fun y B=>S y (by simp [B])) (Zmf true _);simpa using this
 .simp at h
theorem ZDH [NW] {d:Nat}{x v:SV}{C:Value}(h:Zmg d x=some v) (A:SVR g w x C) (D:svU U x):∃b o,C=.pointer (some ⟨b,o,none⟩)/\SVR g w v (.pointer (some ⟨b,o+d,none⟩))/\svU U v:=by
 unfold Zmg at h;split at h<;>simp at h<;>subst h
 .obtain ⟨b,B,rfl⟩:=A;exact ⟨b,_,rfl,⟨b,B,rfl⟩,D⟩
 .obtain ⟨b,o,n,c,B,rfl⟩:=A;exact ⟨b,_,rfl,⟨b,o,n,c,B,by simp only[AO]⟩,D⟩
 .obtain ⟨b,E,cs,L,rfl,h⟩:=A;exact ⟨b,_,rfl,⟨b,E,cs,L,by rw [AO],h⟩,trivial⟩
 .obtain ⟨b,cs,L,rfl,I,H,G,F⟩:=Zwi A;exact ⟨b,0,rfl,⟨b,0,cs,L,rfl,H,G,F,I⟩,trivial⟩
theorem ZFm [NW] (A:∀t i,tt t=some i->TOk P t i) {t f n:Nat}{C:List FI}{z:List AV}(c:tt t=some (.strct C n z)) {D:FI}(I:C[f]?=some D) {x v:SV}{B:Value}(h:Zmg D.off x=some v) (G:SVR g w x B) (H:svU U x):
  ∃cv,(Instr.fieldAt t B f).run P w=.ok cv w/\SVR g w v cv/\svU U v:=by
 obtain ⟨b,o,rfl,K,J⟩:=ZDH h G H;obtain ⟨a,i,zvs,F,_,_,_,_,E⟩:=A t _ c;obtain ⟨fl,R,O,N,j,d,M,L,_⟩:=E.at I;have e:a[f]?=some fl:=by simpa using R
 refine ⟨_,?_,K,J⟩;simp [Instr.fieldAt,Xk F,e,Instr.sureAddr,fieldPlace,X1 M,L,N,Zea,O]
theorem ZEv [NW] (A:∀t i,tt t=some i->TOk P t i) {t f n:Nat}{I:List FI}{z:List AV}(c:tt t=some (.strct I n z)) {x v:SV}{D:Value}(h:Zoq I f x=some v) (O:SVR g w x D) (H:svU U x):
  ∃cv,(Instr.field t D f).run P w=.ok cv w/\SVR g w v cv/\svU U v:=by
 unfold Zoq at h;split at h
 .rename_i cs;obtain ⟨J,R,h⟩:=AN.1 h;obtain ⟨vs,rfl,B⟩:=O;obtain ⟨a,i,zvs,E,_,_,_,_,N⟩:=A t _ c;obtain ⟨fl,V,M,e3,j,d,T,S,L,K⟩:=N.at R;have b:a[f]?=some fl:=by simpa using V
  have hlen:=B.len;split at h
  .rename_i C;split at h<;>simp at h
   rename_i hn;subst h;refine ⟨.agg ((vs.drop J.off).take J.size).toArray,?_,⟨_,rfl,(B.drop _).take _⟩,fun y m=>H y (Au (At m))⟩;simp [Instr.field,Xk E,b,asAgg,part,Zj0 L,K,C,X1 T,S,M]
  .rename_i C;obtain ⟨y,G,rfl⟩:=AA.1 h;obtain ⟨u,b1,W⟩:=B.at G;refine ⟨u,?_,⟨y,rfl,W⟩,fun z F=>by simp at F;subst F;exact H z (AZ G)⟩;simp [Instr.field,Xk E,b,asAgg,part,Zj0 L,K,C,M,b1]
 .simp at h
theorem ZBx [NW] {c:Bool}{x y:SV}{C B A:Value}(F:SVR g w (.p false [.c (.bool c)]) C) (E:SVR g w x B/\svU U x) (D:SVR g w y A/\svU U y):
  ∃cv,(do pure (Next.value (if <-asBool C then B else A)):Sem Next).run P w=.ok (.value cv) w/\SVR g w (if c=true then x else y) cv/\svU U (if c=true then x else y):=by
 have:=ZhT F;subst this;cases c
 .exact ⟨A,by simp [asBool],by simpa using D.1,by simpa using D.2⟩
 .exact ⟨B,by simp [asBool],by simpa using E.1,by simpa using E.2⟩
theorem ZCz [NW] {i:Nat}{x v:SV}{A:Value}(h:Zzv i x=some v) (C:SVR g w x A) (D:svU U x):∃cv,(Instr.extract A i).run P w=.ok cv w/\SVR g w v cv/\svU U v:=by
 unfold Zzv at h;split at h
 .obtain ⟨y,B,rfl⟩:=AA.1 h;obtain ⟨vs,rfl,E⟩:=C;obtain ⟨u,G,F⟩:=E.at B;exact ⟨u,by simp [Instr.extract,G],F,D y (AZ B)⟩
 .simp at h
theorem ZyM [NW] {C:Bool}{x y v:SV}{B A:Value}{ts:Array TypeId}{ty:TypeId}(h:Zzq C x y=some v) (E:SVR g w x B) (D:SVR g w y A):
  ∃cv,((if C then Builtin.min_ ts ty #[B,A] else Builtin.max_ ts ty #[B,A]):Sem Value).run P w=.ok cv w/\SVR g w v cv/\svU U v:=by
 unfold Zzq at h;split at h
 .have ex:=Zdl E;have ey:=Zdl D;subst ex ey;simp only[AB]at h;subst h;refine ⟨_,?_,ZcT _ _,QN _⟩;cases C
  .simp [Builtin.max_,Builtin.max2]
  .simp [Builtin.min_,Builtin.min2]
 .simp at h
end
end
section
open Go.RowKit
theorem Zbn {α:Type}(l:List α) (off:Nat) (vs:List α) (h:off+vs.length<=l.length):(splice l off vs).length=l.length:=by
 simp [splice];omega
theorem ZtC {α:Type}(l:List α) (n:Nat) (v:α) (r:List α) (h:n+(r.length+1)<=l.length):splice (l.set n v) (n+1) r=splice l n (v::r):=by
 unfold splice;have B:(l.set n v).take (n+1)=l.take n++[v]:=by
  rw [List.take_succ_eq_append_getElem (by simp;omega)];simp [List.take_set_of_le]
 have A:(l.set n v).drop (n+1+r.length)=l.drop (n+(v::r).length):=by
  rw [List.drop_set_of_lt yE];congr 1
  simp;omega
 rw [B,A];simp
theorem Zrn [NW] (off:Nat):∀(vs:List Value) (k:Nat) (a:Array Value),off+k+vs.length<=a.size->
  (vs.zipIdx k).foldl (fun (cs:Array Value) (p:Value×Nat)=>cs.setIfInBounds (off+p.2) p.1) a=(splice a.toList (off+k) vs).toArray
 | [],k,a,h=>by simp [splice]
 |v::r,k,a,h=>by
  rw [List.zipIdx_cons,AP,Zrn off r (k+1) _ (by simp at h ⊢;omega)];have:=ZtC a.toList (off+k) v r (by simpa using h);rw [<-this];simp [AO]
theorem Zph [NW] (off:Nat) (v:Value) (vs:List Value) (A:v.cells=vs.toArray) (a:Array Value) (h:off+vs.length<=a.size):
  v.cells.zipIdx.foldl (fun cs (c,j)=>cs.setIfInBounds (off+j) c) a=(splice a.toList off vs).toArray:=by
 have:=Zrn off vs 0 a (by simpa using h);rw [A,<-Array.foldl_toList];simpa using this
section
variable {P:Program} {W:ZbW} {U:Nat->Prop} {key:Nat} {st:St} {g:Gh} {w:World} {a:Act} {tt:Nat->Option TI}
theorem ZN.splice {α β:Type}{R:α->β->Prop}{l vs:List α}{r A:List β}(h:ZN R l r) (B:ZN R vs A) (off:Nat):ZN R (splice l off vs) (splice r off A):=by
 unfold Go.Proofs.YtfdjdgdipgfmeaaGreatDoor.splice;rw [B.len];exact (h.take _).append (B.append (h.drop _))
theorem Zm2 {l vs:List AV}(h:QK U l) (A:QK U vs) (off:Nat):QK U (splice l off vs):=by
 intro y m;unfold splice at m;rcases AK.1 m with m|m
 .exact h y (At m)
 .rcases AK.1 m with m|m
  .exact A y m
  .exact h y (Au m)
theorem ZwD [NW] {a:Nat->Option (Nat×Nat)}{D:List FI}(C:∀i B,D[i]?=some B->a i=some (B.off,B.size)):
  ∀{b:List (Nat×SV)} {A:List (Nat×Value)} {cs c:List AV} {vs:List Value},ZlI D cs b=some c->ZN (fun p q=>p.1=q.1/\SVR g w p.2 q.2/\svU U p.2) b A->ZN (AVR g w) cs vs->QK U cs->
   ∃d:List Value,Instr.fill a vs.toArray A=some d.toArray/\ZN (AVR g w) c d/\QK U c
 | [],[],cs,c,vs,h,_,hr,hu=>by simp [ZlI]at h;subst h;exact ⟨vs,rfl,hr,hu⟩
 | [],_::_,_,_,_,_,h,_,_=>h.elim
 |_::_,[],_,_,_,_,h,_,_=>h.elim
 |(i,s)::r,(j,v)::A,cs,c,vs,h,⟨⟨e,hs,hsu⟩,hps⟩,hr,hu=>by
  simp only at e hs hsu;subst e;cases s with
  |p ag us=>
   simp only[ZlI]at h;obtain ⟨f,F,h⟩:=AN.1 h;split at h
   .rename_i J;obtain ⟨k,E,c2⟩:=PVR.cells hs;have hlen:=c2.len;have hlen2:=hr.len;obtain ⟨d,I,H,G⟩:=ZwD C h hps (hr.splice c2 f.off) (Zm2 hu hsu f.off);refine ⟨d,?_,H,G⟩;have l:v.cells.size=k.length:=by simp [E]
    rw [Instr.fill,C i f F];simp only;rw [yn (by simp [l];omega),Zph f.off v k E _ (by simp;omega)];simpa using I
   .simp at h
  |_=>simp [ZlI]at h
theorem ZN.of_map {α β γ:Type}{R:β->γ->Prop}(f:α->β) (h:α->γ):∀{l:List α},(∀x∈l,R (f x) (h x))->ZN R (l.map f) (l.map h)
 | [],_=>trivial
 |x::l,hh=>⟨hh x yG,ZN.of_map f h fun y m=>hh y (by simp [m])⟩
theorem ZkV [NW]:∀{z:List AV}{zvs:List Value},ZN (fun a v=>Zb3 a v=true) z zvs->ZN (AVR g w) z zvs/\QK U z
 | [],[],_=>⟨trivial,fun _ m=>by simp at m⟩
 |x::z,v::zvs,h=>by
  obtain ⟨B,A⟩:=ZkV (z:=z) (zvs:=zvs) h.2;refine ⟨⟨Zg8 h.1,B⟩,fun y m=>?_⟩;rcases AR.1 m with rfl|m
  .have:=h.1;cases y<;>first|trivial|simp [Zb3]at this
  .exact A y m
 | [],_::_,h=>h.elim
 |_::_,[],h=>h.elim
theorem ZqV:∀{B:List FI}{a:List Field},ZN (fun (A:FI) (f:Field)=>f.offset=A.off/\A.size≠0/\∃j d,P.info? f.type=some j/\j.size=A.size/\P.underlying f.type=some d/\ZsK d=A.agg) B a->
  a.mapM (fun f=>(P.info? f.type).map fun i=>(f.offset,i.size))=some (B.map fun A=>(A.off,A.size))
 | [],[],_=>rfl
 |A::B,f::a,⟨⟨h1,_,j,d,h2,h3,_⟩,h⟩=>by
  simp [List.mapM_cons,h2,h3,h1,ZqV h]
 | [],_::_,h=>h.elim
 |_::_,[],h=>h.elim
theorem ZAd [NW] (C:∀t i,tt t=some i->TOk P t i) (N:∀t,SVR g w (st.sl t) (a.tmps.getD t undef)) (M:StU U st) {t n:Nat}{B:List FI}{z:List AV}(f:tt t=some (.strct B n z)) {b:Array (Nat×Operand)}{cs:List AV}(h:ZlI B z (b.toList.map (Zh5 tt st B z))=some cs):
  ∃cv,(Instr.build t (b.map fun (i,x)=>(i,a.eval x))).run P w=.ok cv w/\SVR g w (.p true cs) cv/\svU U (.p true cs):=by
 obtain ⟨D,i,zvs,I,H,V,G,F,E⟩:=C t _ f;obtain ⟨J,j⟩:=ZkV (g:=g) (w:=w) (U:=U) F;have c:ZN (fun (p:Nat×SV) (q:Nat×Value)=>p.1=q.1/\SVR g w p.2 q.2/\svU U p.2) (b.toList.map (Zh5 tt st B z)) (b.toList.map fun p=>(p.1,a.eval p.2)):=by
  refine ZN.of_map _ _ fun p _=>?_;unfold Zh5;split
  .rename_i L;rw [L];refine ⟨rfl,?_⟩;dsimp only;split
   .exact ⟨⟨_,rfl,rfl⟩,fun y m=>by simp at m;subst m;trivial⟩
   .exact ⟨trivial,trivial⟩
  .have:=ZmW C N M 0 p.2;exact ⟨rfl,this⟩
 have k:∀(i:Nat) (A:FI),B[i]?=some A->((B.map fun (A:FI)=>(A.off,A.size)).toArray[i]?)=some (A.off,A.size):=fun i A K=>by simp [K]
 obtain ⟨d,T,S,R⟩:=ZwD k h c J j;refine ⟨.agg d.toArray,run_build w t _ _ ?_,⟨d,rfl,S⟩,R⟩;unfold Program.built;simp only[I,H,G,ZqV E];have e:(b.map fun (x:Nat×Operand)=>(x.1,a.eval x.2)).toList=b.toList.map fun p=>(p.1,a.eval p.2):=by simp
 have O:(b.map fun x=>match x with|(i,x)=>(i,a.eval x))=b.map fun (x:Nat×Operand)=>(x.1,a.eval x.2):=rfl;rw [O,e];exact T
theorem Sl.sub {m n:Nat}{A:Option Addr}{cs:List Value}{L:List Nat}(h:Sl w m A n cs L) (l q cap:Nat) (H:0<m) (E:l+q<=n) (D:n<=cap):
  ∃A' L',A'=(if cap=l then A else A.map (·.add (l*m)))/\Sl w m A' q ((cs.drop (l*m)).take (q*m)) L'/\∀b∈L',b∈L:=by
 have hlen:=h.1;have F:l*m+q*m<=n*m:=by rw [<-AS];exact Nat.mul_le_mul_right m E
 refine ⟨_,if q=0 then [] else L,rfl,⟨by simp;omega,?_⟩,fun b B=>?_⟩
 .by_cases a:q=0
  .exact .inl ⟨a,by simp [a]⟩
  .rcases h.2 with ⟨I,_⟩|⟨_,b,off,rfl,rfl,G⟩
   .omega
   .refine .inr ⟨yE,b,off+l*m,by rw [yn yE];simp [Zea],by simp [a],fun j u C=>?_⟩;rw [AO];refine G _ u ?_;have c:j<q*m:=by
     have:=(AC.1 C).1;simp at this;omega
    rw [Bp,yp c,BC]at C;exact C
 .split at B
  .simp at B
  .exact B
theorem REs.drop {m:Nat}:∀{xs:List (List CT)}{cs:List Value}{L:List Nat}(l:Nat),REs w m xs cs L->∃L',REs w m (xs.drop l) (cs.drop (l*m)) L'/\∀b∈L',b∈L
 |xs,cs,L,0,h=>⟨L,by simpa using h,fun _ A=>A⟩
 | [],cs,L,l+1,h=>⟨[],by obtain ⟨rfl,rfl⟩:=h;simp [REs],yG⟩
 |x::r,_,_,l+1,⟨c1,c2,L1,L2,rfl,rfl,h3,h4⟩=>by
  obtain ⟨L',C,B⟩:=REs.drop l h4;refine ⟨L',?_,fun b A=>by simp [B b A]⟩;have e:(l+1)*m=c1.length+l*m:=by rw [h3.2,AS];omega
  have D:(c1++c2).drop (c1.length+l*m)=c2.drop (l*m):=by
   rw [List.drop_append,List.drop_of_length_le (Nat.le_add_right _ _),AJ,Nat.add_sub_cancel_left]
  rw [e,D];simpa using C
theorem REs.take {m:Nat}:∀{xs:List (List CT)}{cs:List Value}{L:List Nat}(l:Nat),REs w m xs cs L->∃L',REs w m (xs.take l) (cs.take (l*m)) L'/\∀b∈L',b∈L
 |xs,cs,L,0,h=>⟨[],by simp [REs],yG⟩
 | [],cs,L,l+1,h=>⟨[],by obtain ⟨rfl,rfl⟩:=h;simp [REs],yG⟩
 |x::r,_,_,l+1,⟨c1,c2,L1,L2,rfl,rfl,h3,h4⟩=>by
  obtain ⟨L',C,B⟩:=REs.take l h4;refine ⟨L1++L',?_,fun b A=>by
   rcases AK.1 A with A|A
   .simp [A]
   .simp [B b A]⟩
  have e:(l+1)*m=c1.length+l*m:=by rw [h3.2,AS];omega
  rw [e,List.take_length_add_append];exact ⟨c1,_,L1,L',rfl,rfl,h3,C⟩
theorem Zq4 {k:IntKind}{i:Int}{y:Nat}{a:BoundsCode}(B:0<=i) (A:i<=y):(Instr.sliceBound (.int k i) y a).run P w=.ok i.toNat w:=by
 simp [Instr.sliceBound,asIntOf,B,A]
def Zo1 [NW] (g:Gh) (w:World):Option SV->Option Value->Prop
 |none,none=>True
 |some s,some u=>SVR g w s u
 |_,_=>False
theorem ZkR [NW] {lo hi:Option SV}{vlo vhi:Option Value}{len cap l h:Nat}{b:Bool}(hh:hiB len hi=some h) (hl:loB h lo=some l) (hlo:Zo1 g w lo vlo) (hhi:Zo1 g w hi vhi) (hc:len<=cap):
  (Instr.sliceBounds b len cap vlo vhi none).run P w=.ok (l,h,cap) w/\l<=h/\h<=len:=by
 have e1 : ((match vhi, (none : Option Value) with | some v, some _ => Instr.sliceBound v cap .slice3B | some v, none => Instr.sliceBound v cap (if b then .sliceAcap else .sliceAlen) | none, none => pure len | none, some _ => stuck "Slice: max without high") : Sem Nat).run P w = .ok h w ∧ h ≤ len := by
  unfold hiB at hh
  split at hh
  .simp only[AB]at hh
   subst hh
   cases vhi with
   |none=>exact ⟨rfl,AG _⟩
   |some v=>exact hhi.elim
  .split at hh<;>simp only[AB,reduceCtorEq]at hh
   rename_i hq
   subst hh
   cases vhi with
   |none=>exact hhi.elim
   |some v=>
    have e:=Zdl hhi
    subst e
    exact ⟨Zq4 hq.1 yE,yE⟩
  .simp at hh
 have e2:((match vlo with|some v=>Instr.sliceBound v h .sliceB|none=>pure 0):Sem Nat).run P w=.ok l w/\l<=h:=by
  unfold loB at hl
  split at hl
  .simp only[AB]at hl
   subst hl
   cases vlo with
   |none=>exact ⟨rfl,BL _⟩
   |some v=>exact hlo.elim
  .split at hl<;>simp only[AB,reduceCtorEq]at hl
   rename_i hq
   subst hl
   cases vlo with
   |none=>exact hlo.elim
   |some v=>
    have e:=Zdl hlo
    subst e
    exact ⟨Zq4 hq.1 hq.2,yE⟩
  .simp at hl
 refine ⟨?_,e2.2,e1.2⟩
 unfold Instr.sliceBounds
 simp only[Sem.run_bind,Sem.run_pure,Result.andThen_ok,Option.isSome_none,Bool.false_eq_true,if_false]
 have e1':=e1.1
 have e2':=e2.1
 cases vhi<;>cases vlo<;>simp_all
theorem Zs9 [NW] (C:∀t i,tt t=some i->TOk P t i) {t:Nat}{x v:SV}{J hi:Option SV}{H:Value}{vlo vhi:Option Value}(h:ZoB (tt t) J hi x=some v) (K:SVR g w x H)
  (f:Zo1 g w J vlo) (j:Zo1 g w hi vhi):∃cv,(Instr.sliceAt t H vlo vhi none).run P w=.ok cv w/\SVR g w v cv/\svU U v:=by
 unfold ZoB at h;split at h
 .rename_i s;split at h
  .rename_i k;have hu:=ZjO C k;obtain ⟨q,D,h⟩:=AN.1 h;obtain ⟨l,E,rfl⟩:=AA.1 h;obtain ⟨rfl,hs⟩:=Zk4 K;obtain ⟨F,b2,b3⟩:=ZkR (P:=P) (b:=false) D E f j (AG _);refine ⟨_,?_,ZnN (by rw [Bn];omega),QN _⟩;simp [Instr.sliceAt,Xk hu,Instr.slice,F]
  .simp at h
 .rename_i e m xs;split at h
  .rename_i d;obtain ⟨q,D,h⟩:=AN.1 h;obtain ⟨l,E,rfl⟩:=AA.1 h;obtain ⟨A,cap,cs,L0,L1,rfl,N,h3,M,h6,h7,L⟩:=ZjE K;obtain ⟨F,b2,b3⟩:=ZkR (P:=P) (b:=true) D E f j N;obtain ⟨O,R,G,o⟩:∃O R G,tt t=some (.slice O m R G):=by
    unfold ZmD at d;split at d
    .rename_i h1;subst d;exact ⟨_,_,_,h1⟩
    .omega
   obtain ⟨hu,_,_,⟨ie,zv,u,y,_⟩,_⟩:=C t _ o;have fin:SVR g w (.p false [.c (.sl e m ((xs.take q).drop l))]) (.slice (if cap=l then A else A.map (·.add (l*m))) (q - l) (cap - l)):=by
    obtain ⟨A',L',rfl,I,S⟩:=h6.sub l (q - l) cap M yE N;obtain ⟨M1,r1,W⟩:=h7.take q;obtain ⟨M2,V,T⟩:=r1.drop l;have a:((xs.take q).drop l).length=q - l:=by simp;omega
    have e1:(cs.drop (l*m)).take ((q - l)*m)=(cs.take (q*m)).drop (l*m):=by
     rw [List.drop_take,Nat.sub_mul]
    rw [e1]at I;refine ⟨_,rfl,L'++M2,⟨_,_,_,L',M2,by rw [a],by rw [a];omega,yE,rfl,M,by rw [a];exact I,V⟩,fun b B=>?_⟩;rcases AK.1 B with B|B
    .exact L b (by simp [S b B])
    .exact L b (by simp [W b (T b B)])
   refine ⟨_,?_,fin,QN _⟩;simp [Instr.sliceAt,Xk hu,Instr.slice,F,X1 u,y]
  .simp at h
 .simp at h
end
end
section
open Go.RowKit
theorem ZI {α:Type}(f:Nat->α) (k:Nat) (v:α):upd f k v k=v:=by simp [upd]
theorem Z2 {α:Type}(f:Nat->α) {k j:Nat}(v:α) (h:j≠k):upd f k v j=f j:=by simp [upd,h]
theorem YL (ob:Nat->Ob) (u v:List (Nat×Ob)):Zl ob (u++v)=Zl (Zl ob u) v:=by
 induction u generalizing ob with
 |nil=>rfl
 |cons p r ih=>exact ih _
theorem Zgo:∀(ks:List Nat) (ob:Nat->Ob) (k:Nat),Zl ob (YE ks) k=if k∈ks then .gone else ob k
 | [],ob,k=>by simp [YE,Zl]
 |x::ks,ob,k=>by
  have:YE (x::ks)=(x,Ob.gone)::YE ks:=rfl;rw [this,Zl,Zgo ks];by_cases B:k∈ks
  .simp [B]
  .by_cases A:k=x
   .subst A;simp [upd]
   .simp [B,A,upd]
theorem ZbG [NW] (ks:List Nat) (ob:Nat->Ob) (key:Nat) (o:Ob) (k:Nat):Zl ob (YE ks++[(key,o)]) k=if k=key then o else if k∈ks then .gone else ob k:=by
 rw [YL];simp only[Zl,upd,Zgo]
def Gh.turn (g:Gh) (ks:List Nat) (key:Nat) (v:Value) (O D:List Nat):Gh:=
 ⟨upd g.val key v,fun k=>if k=key then O else if k∈ks then [] else g.O k,fun k=>if k=key then D else if k∈ks then [] else g.D k,g.Z⟩
section
variable {P:Program} {W:ZbW} {U:Nat->Prop} {key:Nat} {st:St} {g:Gh} {w w':World} {a:Act} {tt:Nat->Option TI}
theorem Zg7 {ks:List Nat}{v:Value}{O D:List Nat}{b:Nat}(h:(g.turn ks key v O D).own b):b∈O\/(∃k,k∉ks/\k≠key/\b∈g.O k)\/g.Z b:=by
 rcases h with ⟨k,A⟩|h
 .simp only[Gh.turn]at A;split at A
  .exact .inl A
  .rename_i C;split at A
   .simp at A
   .rename_i B;exact .inr (.inl ⟨k,B,C,A⟩)
 .exact .inr (.inr h)
theorem ZqL {n:Nat}{ks:List Nat}{v:Value}{O D:List Nat}(F:∀b∈O,(∃k∈ks,b∈g.O k)\/n<=b) (G:∀b∈D,(∃k∈ks,b∈g.O k++g.D k)\/n<=b):Zai g (g.turn ks key v O D) n:=by
 refine .of (fun b E=>?_) fun j b A=>?_
 .rcases Zg7 E with m|⟨k,_,_,m⟩|m
  .rcases F b m with ⟨k,_,m⟩|m
   .exact .inl (.inl ⟨k,m⟩)
   .exact .inr m
  .exact .inl (.inl ⟨k,m⟩)
  .exact .inl (.inr m)
 .simp only[Gh.turn]at A;split at A
  .refine (G b A).imp (fun ⟨k,_,C⟩=>?_) id;rcases AK.1 C with B|B
   .exact .inl (.inl ⟨k,B⟩)
   .exact .inr ⟨k,B⟩
  .split at A
   .simp at A
   .exact .inl (.inr ⟨j,A⟩)
theorem HI.turn [NW] {ob:Nat->Ob}(h:HI W g ob w) (i:∀k,obU U (ob k)) (c:¬U key) (ks:List Nat) (z:∀k∈ks,U k)
  (l:Bel W w') (A:w.heap.size<=w'.heap.size) (N:∀b,b<w.heap.size->(∀k∈ks,b∉g.O k)->w'.heap[b]?=w.heap[b]?)
  {v:Value} {O D:List Nat} {o:Ob} (P:∀b∈O,(∃k∈ks,b∈g.O k)\/w.heap.size<=b) (R:∀b∈D,(∃k∈ks,b∈g.O k++g.D k)\/w.heap.size<=b)
  (B:(O++D).Nodup) (C:∀b∈O++D,(W.heap.size<=b\/W.x b\/W.y b)/\Qb w' o b)
  (E:Zai g (g.turn ks key v O D) w.heap.size->ObR (g.turn ks key v O D) w' key o):
  HI W (g.turn ks key v O D) (Zl ob (YE ks++[(key,o)])) w'/\∀x u,svU U x->SVR g w x u->SVR (g.turn ks key v O D) w' x u:=by
 have aa:key∉ks:=fun m=>c (z key m);have d:∀k,U k->(g.turn ks key v O D).val k=g.val k:=fun k H=>Z2 _ _ fun e=>c (e ▸ H);have a:Zai g (g.turn ks key v O D) w.heap.size:=ZqL P R;have f:∀b∈O++D,(∃k∈ks,b∈g.O k++g.D k)\/w.heap.size<=b:=fun b m=>by
  rcases AK.1 m with m|m
  .exact (P b m).imp (fun ⟨k,G,F⟩=>⟨k,G,by simp [F]⟩) id
  .exact R b m
 refine ⟨h.step (fun k=>k=key\/k∈ks) l rfl (fun b L K=>N b L fun k H=>K k (.inr H)) (fun k H=>?_) i d a (fun k H=>?_),fun x u V hu=>hu.move V d (fun b L K=>N b L fun k _ m=>K (.inl ⟨k,m⟩)) a A⟩
 .have G:k≠key:=fun e=>H (.inl e);have F:k∉ks:=fun e=>H (.inr e);rw [ZbG];simp [Gh.turn,G,F,upd]
 .rw [ZbG];by_cases G:k=key
  .subst G;have I:(g.turn ks k v O D).O k=O:=by simp [Gh.turn]
   have J:(g.turn ks k v O D).D k=D:=by simp [Gh.turn]
   rw [yp rfl,I,J];refine ⟨E a,B,C,fun j hj b m M=>?_⟩;have p:¬j=k:=fun e=>hj e.symm;by_cases F:j∈ks
   .simp [Gh.turn,p,F]at M
   .have t:b∈g.O j++g.D j:=by simpa [Gh.turn,p,F]using M
    rcases f b m with ⟨q,T,S⟩|q
    .exact h.apart q j (fun e=>F (e ▸ T)) b S t
    .have:=h.lt j b t;omega
  .have F:k∈ks:=H.resolve_left G;have I:(g.turn ks key v O D).O k=[]:=by simp [Gh.turn,G,F]
   have J:(g.turn ks key v O D).D k=[]:=by simp [Gh.turn,G,F]
   rw [yn G,yp F,I,J];exact ⟨⟨I,J⟩,yG,yG,yG⟩
theorem Zlk [NW] (B:StU U st) (ks:List Nat) {o:Ob}(C:obU (Uk U key) o):(∀k,obU (Uk U key) (Zl st.ob (YE ks++[(key,o)]) k))/\∀k,¬Uk U key k->Zl st.ob (YE ks++[(key,o)]) k=.gone:=by
 constructor
 .intro k;rw [ZbG];split
  .exact C
  .split
   .trivial
   .exact (B.ob k).mono fun _=>.inl
 .intro k A;rw [ZbG,yn (fun e=>A (.inr yE))];split
  .rfl
  .exact B.gone k fun h=>A (.inl h)
theorem Zmj:Uk U key key:=.inr yE
theorem ZAx [NW] (B:HI W g st.ob w) (E:StU U st) (a:¬U key) {t:TypeId}{cs:List AV}{vs:List Value}(F:ZN (AVR g w) cs vs) (C:QK U cs) {s:Sem Next}
  (d:s.run P w=.ok (.value (.pointer (some ⟨w.heap.size,0,none⟩))) (w.alloc (.cells vs.toArray t))):Fin P W U key st g w s (.bp key 0,[(key,.box t cs)]):=by
 have A:Below w.heap.size w (w.alloc (.cells vs.toArray t)):=(Below.refl _ _).alloc (AG _) _;obtain ⟨I,H⟩:=B.turn (key:=key) (U:=U) (w':=w.alloc (.cells vs.toArray t)) (v:=.pointer (some ⟨w.heap.size,0,none⟩)) (O:=[w.heap.size]) (D:=[]) (o:=.box t cs) E.ob a [] yG
  (B.below.trans A) A.size (fun b c _=>A.block b c) yG yG yG (fun b m=>by
   simp at m;subst m;exact ⟨.inl B.below.size,_,_,heap_alloc_new w _⟩) (fun f=>⟨w.heap.size,vs,by simp [Gh.turn,upd],by simp [Gh.turn],by simp [Gh.turn],heap_alloc_new w _,
    AVRs.move F C (fun k G=>Z2 _ _ fun e=>a (e ▸ G)) (fun b c _=>A.block b c) f⟩)
 have i:=Zlk (key:=key) (o:=.box t cs) E [] (QK.mono (fun _=>.inl) C);exact ⟨_,_,_,.inl d,I,⟨w.heap.size,by simp [Gh.turn,upd],rfl⟩,H,Zmj,i.1,i.2⟩
theorem ZmE (b:Nat) (cs a:Array Value) (t:TypeId) (B:w.heap[b]?=some (.cells cs t (0,0))):(w.setRow b a).heap[b]?=some (.cells a t (0,0))/\(∀k,k≠b->(w.setRow b a).heap[k]?=w.heap[k]?)/\(w.setRow b a).heap.size=w.heap.size/\(w.setRow b a).os=w.os/\(w.setRow b a).tape=w.tape/\(w.setRow b a).output=w.output:=by
 refine ⟨setRow_heap w b cs a t _ B,fun k A=>?_,?_,rfl,rfl,rfl⟩
 .have c:¬b=k:=fun e=>A e.symm;simp [World.setRow,Array.getElem?_modify,c]
 .simp [World.setRow]
theorem ZAf [NW] (H:∀t i,tt t=some i->TOk P t i) (D:HI W g st.ob w) (J:StU U st) {t k off M:Nat}{cs vs:List AV}{V T:Value}{ag:Bool}(S:st.ob k=.box M cs) (G:vs.length=ZhE (tt t)) (ho:off+vs.length<=cs.length)
  (ha:SVR g w (.bp k off) V) (hv:SVR g w (.p ag vs) T) (o:QK U vs) (a:0<vs.length) {s:Sem Next} (hs:s=(do Instr.storeAt t V T;pure .skip)):Fin P W U key st g w s (.und,[(k,.box M (splice cs off vs))]):=by
 obtain ⟨b,h1,rfl⟩:=ha;have v:=D.obs k;rw [S]at v;obtain ⟨b',E,o1,I,o3,o4,o5⟩:=v;have hb:b=b':=by rw [o1]at h1;simpa using h1.symm
 subst hb;have hlen:=o5.len;obtain ⟨xs,c1,c2⟩:=PVR.cells hv;have C:=c2.len;have c:=J.ob k;rw [S]at c;obtain ⟨r1,O,r3,r4,r5,r6⟩:=ZmE b E.toArray (splice E off xs).toArray M o4;have f:(sizeOf t).run P w=.ok xs.length w:=by
  rw [<-C,G];unfold ZhE at G ⊢;cases hti:tt t with
  |none=>rw [hti]at G;simp at G;simp [G]at a
  |some i=>
   cases i with
   |atom z=>obtain ⟨d,zv,i,_,_,L,_,K,_⟩:=H t _ hti;rw [X1 L,K]
   |strct fs n z=>obtain ⟨_,i,_,_,L,K,_⟩:=H t _ hti;rw [X1 L,K]
   |slice e m b z=>obtain ⟨_,_,_,_,j,L,K,_⟩:=H t _ hti;rw [X1 L,K]
   |_=>rw [hti]at G;simp at G;simp [G]at a
 have y:=run_storeCells_at (P:=P) b off M xs 0 E.toArray w o4 (by simp;omega) (AVRs.one c2);have A:s.run P w=.ok .skip (w.setRow b (splice E off xs).toArray):=by
  subst hs;have e:(E.toArray.toList.take (off+0)++xs++E.toArray.toList.drop (off+0+xs.length)).toArray=(splice E off xs).toArray:=by simp [splice]
  rw [e]at y;simp [Instr.storeAt,Instr.sureAddr,storeVar,c1,f,y]
 have l:∀b',b'<w.heap.size->¬g.own b'->(w.setRow b (splice E off xs).toArray).heap[b']?=w.heap[b']?:=fun b' _ R=>O b' fun e=>R (.inl ⟨k,by simp [I,e]⟩);have B:W.heap.size<=b\/W.x b:=D.oy k b (by simp [I]);refine ⟨g,undef,_,.inr ⟨A,rfl⟩,?_,rfl,fun x u N hu=>hu.move N (fun _ _=>rfl) l (Zai.refl _ _) yE,trivial,fun q=>?_,fun q F=>?_⟩
 .refine D.step (U:=U) (fun q=>q=k) ?_ rfl (fun b' _ R=>O b' fun e=>R k rfl (by simp [I,e])) (fun q F=>⟨Z2 _ _ F,rfl,rfl,rfl⟩) J.ob (fun _ _=>rfl) (Zai.refl _ _) (fun q F=>?_)
  .exact ⟨r4.trans D.below.os,r5.trans D.below.tape,r6.trans D.below.output,by have:=D.below.size;omega,fun q F N=>by rw [O q (fun e=>by subst e;rcases B with h|h;omega;exact N h)];exact D.below.block q F N⟩
  .subst F;refine ⟨?_,D.nodup q,fun b' m=>?_,D.apart q⟩
   .simp only[Zl,ZI];exact ⟨b,_,o1,I,o3,r1,(AVRs.move o5 c (fun _ _=>rfl) l (Zai.refl _ _)).splice (AVRs.move c2 o (fun _ _=>rfl) l (Zai.refl _ _)) off⟩
   .simp [I,o3]at m;subst m;refine ⟨B.imp_right .inl,?_⟩;simp only[Zl,ZI];exact ⟨_,_,r1⟩
 .simp only[Zl,upd];split
  .exact QK.mono (fun _=>.inl) (Zm2 c o off)
  .exact (J.ob q).mono fun _=>.inl
 .simp only[Zl,upd];split
  .rename_i e;subst e;exact absurd (J.gone q fun h=>F (.inl h)) (by simp [S])
  .exact J.gone q fun h=>F (.inl h)
end
end
end
end Go.Proofs.YtfdjdgdipgfmeaaGreatDoor
