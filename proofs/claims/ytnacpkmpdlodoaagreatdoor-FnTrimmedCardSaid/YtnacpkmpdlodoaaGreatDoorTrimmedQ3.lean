/- Parts of this proof, joined; what they hold is said at the theorems. -/
import Derived.Test.YtnacpkmpdlodoaaGreatDoorTrimmedQ2
import Derived.Test.YtnacpkmpdlodoaaGreatDoorTrimmedQ1
open Bool renaming and_eq_true→A9,false_eq_true→AC,eq_iff_iff→AM,true_and→Am,false_or→Ax,or_eq_true→BF,not_true→BI,and_self→BS
open Int renaming le_trans→AI,le_refl→AP,toNat_natCast→Ad,toNat→Ae,toNat_of_nonneg→B4,le_antisymm→Bh
open List renaming mem_append→AA,mem_cons→AB,getElem?_eq_getElem→AD,length_cons→AE,length_append→AH,replicate→AJ,range→AK,foldl_cons→AL,all_eq_true→AN,getElem?_eq_none→AQ,foldl_append→AT,mem_flatMap→AU,getElem?_eq_some_iff→AX,mem_singleton→AY,range'→AZ,mem_filterMap→Ab,mem_of_getElem?→Ac,pairwise_cons→Ah,eq_nil_of_length_eq_zero→Aj,mem_range→Ak,length_singleton→Ap,countP_cons→Aq,getElem?_append_left→As,length_map→Aw,countP_le_length→Ay,mem_map→Az,countP_eq_zero→B3,dropLast_concat_getLast→B9,flatMap_cons→BA,flatMap_append→BB,ext_getElem?→BD,getElem?_set→BE,append_nil→BG,length_filterMap_le→BH,nil_append→BJ,mem_filter→BL,any_eq_true→BM,filterMap_cons→BN,map_append→BP,eq_nil_iff_forall_not_mem→BR,length_nil→BY,take_length→Ba,nodup_cons→Bb,length_filter_le→Bc,map_cons→Bd,mergeSort_perm→Be,filter_cons→Bf,map_flatMap→Bg,length_range→Bi,set_cons_succ→Bj,set_set→Bk,range_eq_range'→Bl
open List.Pairwise renaming nil→BC
open Nat renaming zero_add→AS,le_trans→AW,le_refl→An,zero_le→BK,mul_le_mul_left→BV,add_sub_cancel→BX
open Option renaming bind_some→A0,map_eq_some_iff→B5,bind_eq_some_iff→BU,isSome_some→BZ
open Option.some renaming inj→Aa,injEq→BT
open Prod renaming fst→BO
set_option linter.unusedSimpArgs false
set_option linter.unusedVariables false
set_option maxRecDepth 1000000
set_option maxHeartbeats 4000000
namespace Go.Proofs.YtnacpkmpdlodoaaGreatDoor
open Go.IntKind
noncomputable section
theorem ZkH{v:BYT}(h:Yu v=true):Z2 v=false:=by
 cases ha:Z2 v with
 |false=>rfl
 |true=>
  have h1:=Zk7 ha;rw [Za5]at h1;unfold Yu at h;simp only[A9,decide_eq_true_iff]at h;omega
def X3:List Zx->BYT->Option BYT
 | [],_=>none
 |x::b,v=>if x.var=v then some x.value else X3 b v
def Xn(b:List Zx)(t:BYT):Option BYT:=if Z2 t=true then some t else if Yu t=true then X3 b t else none
theorem ZgG{b:List Zx}{v:BYT}(h:Yu v=true):Xn b v=X3 b v:=by
 unfold Xn;rw [yn (by rw [ZkH h];simp),yp h]
def ZgP(x:Zx):Bool:=Yu x.var&&Z2 x.value
def ZjR:Option BYT->BYT->Bool
 |none,_=>true
 |some p,v=>sLt p v
def Xb:Option BYT->List Zx->Bool
 |_,[]=>true
 |prev,x::r=>ZgP x&&ZjR prev x.var&&Xb (some x.var) r
def Ye(b:List Zx):Bool:=decide (b.length<=6)&&Xb none b
theorem ZxR{a:Option BYT}{b:List Zx}(h:Xb a b=true):∀x∈b,ZgP x=true/\∀p,a=some p->sLt p x.var=true:=by
 induction b generalizing a with
 |nil=>simp
 |cons y r ih=>
  simp only[Xb,A9]at h;obtain ⟨⟨G,C⟩,F⟩:=h;intro x A;rcases AB.1 A with rfl|A
  .exact ⟨G,fun p B=>by subst B;exact C⟩
  .obtain ⟨E,D⟩:=ih F x A;exact ⟨E,fun p B=>by subst B;exact Zf4 C (D _ rfl)⟩
theorem Zx7{b:List Zx}{v:BYT}(h:X3 b v=none):∀x∈b,¬x.var=v:=by
 induction b with
 |nil=>simp
 |cons y r ih=>
  simp only[X3]at h;split at h
  .simp at h
  .rename_i B;intro x A;rcases AB.1 A with rfl|A
   .exact B
   .exact ih h x A
theorem ZxP{b:List Zx}{v w:BYT}(h:X3 b v=some w):∃x∈b,x.var=v/\x.value=w:=by
 induction b with
 |nil=>simp [X3]at h
 |cons y r ih=>
  simp only[X3]at h;split at h
  .rename_i B;exact ⟨y,yG,B,Aa h⟩
  .obtain ⟨x,A,C⟩:=ih h;exact ⟨x,by simp [A],C⟩
def ZgN:List Zx->BYT->BYT->List Zx
 | [],v,w=>[⟨v,w⟩]
 |x::b,v,w=>if sLt v x.var=true then ⟨v,w⟩::x::b else x::ZgN b v w
theorem Zu2(v w:BYT):∀b:List Zx,(ZgN b v w).length=b.length+1
 | []=>rfl
 |x::b=>by
  simp only[ZgN];split
  .rfl
  .rw [AE,Zu2 v w b];rfl
theorem Zl0{v w u:BYT}:∀{b:List Zx},X3 b v=none->X3 (ZgN b v w) u=if v=u then some w else X3 b u
 | [],_=>by simp [ZgN,X3]
 |x::b,h=>by
  simp only[X3]at h;split at h
  .simp at h
  .rename_i B;simp only[ZgN];split
   .simp [X3]
   .simp only[X3];rw [Zl0 h];by_cases A:x.var=u
    .rw [yp A,yp A,yn (fun e=>B (A.trans e.symm))]
    .rw [yn A,yn A]
theorem Zrr{v w:BYT}(B:Yu v=true)(A:Z2 w=true):∀{b:List Zx}{a:Option BYT},Xb a b=true->X3 b v=none->(∀p,a=some p->sLt p v=true)->Xb a (ZgN b v w)=true
 | [],a,_,_,hp=>by
  simp only[ZgN,Xb,ZgP,B,A,BS,Am,Bool.and_true];cases a with
  |none=>rfl
  |some p=>exact hp p rfl
 |x::b,a,h,hg,hp=>by
  have hx:=Zx7 hg x yG;simp only[X3,hx,if_false]at hg;simp only[Xb,A9]at h;obtain ⟨⟨D,F⟩,C⟩:=h;simp only[ZgN];by_cases c:sLt v x.var=true
  .rw [yp c];have E:ZjR a v=true:=by
    cases a with
    |none=>rfl
    |some p=>exact hp p rfl
   simp only[Xb,A9];exact ⟨⟨by simp [ZgP,B,A],E⟩,⟨⟨D,c⟩,C⟩⟩
  .rw [yn c];simp only[Xb,A9];refine ⟨⟨D,F⟩,Zrr B A C hg fun p d=>?_⟩;obtain rfl:=Aa d;exact Zgp (by simpa using c) (fun e=>hx e.symm)
def Zhi(b:List Zx)(v w:BYT):Option (List Zx):=
 if Ye b=true/\Yu v=true/\Z2 w=true then
  (match X3 b v with
  |some old=>if old=w then some b else none
  |none=>if b.length=6 then none else some (ZgN b v w))
 else none
theorem Zxc{b C:List Zx}{v w:BYT}(h:Zhi b v w=some C):Ye C=true/\X3 C v=some w/\∀u z,X3 b u=some z->X3 C u=some z:=by
 unfold Zhi at h;split at h
 .rename_i E;obtain ⟨B,G,F⟩:=E;cases hg:X3 b v with
  |some old=>
   rw [hg]at h;simp only at h;split at h
   .rename_i D;obtain rfl:=Aa h;exact ⟨B,by rw [hg,D],fun u z A=>A⟩
   .simp at h
  |none=>
   rw [hg]at h;simp only at h;split at h
   .simp at h
   .rename_i H;obtain rfl:=Aa h;unfold Ye at B ⊢;rw [A9,decide_eq_true_iff]at B;refine ⟨?_,by rw [Zl0 hg,yp rfl],fun u z A=>?_⟩
    .rw [A9,decide_eq_true_iff,Zu2];exact ⟨yE,Zrr G F B.2 hg yG⟩
    .rw [Zl0 hg,yn (fun e=>by rw [<-e,hg]at A;simp at A)];exact A
 .simp at h
def Zci:List BYT->List BYT->List Zx->Option (List Zx)
 | [],_,b=>some b
 |_::_,[],_=>none
 |a::p,w::f,b=>if Z2 a=true then (if a=w then Zci p f b else none) else (Zhi b a w).bind (Zci p f)
theorem Zl1:∀{p f:List BYT}{b B:List Zx},Ye b=true->Zci p f b=some B->Ye B=true/\(∀a∈p,Yu a=true->∃z,X3 B a=some z)/\∀u z,X3 b u=some z->X3 B u=some z
 | [],_,b,B,hb,h=>by
  simp only[Zci,BT]at h;subst h;exact ⟨hb,yG,fun u z h=>h⟩
 |_::_,[],_,_,_,h=>by simp [Zci]at h
 |a::p,w::f,b,B,hb,h=>by
  simp only[Zci]at h;by_cases ha:Z2 a=true
  .rw [yp ha]at h;split at h
   .obtain ⟨F,E,D⟩:=Zl1 hb h;refine ⟨F,fun x A C=>?_,D⟩;rcases AB.1 A with rfl|A
    .rw [ZkH C]at ha;simp at ha
    .exact E x A C
   .simp at h
  .rw [yn ha]at h;obtain ⟨L,K,h⟩:=BU.1 h;obtain ⟨I,H,G⟩:=Zxc K;obtain ⟨F,E,D⟩:=Zl1 I h;refine ⟨F,fun x A C=>?_,fun u z J=>D u z (G u z J)⟩;rcases AB.1 A with rfl|A
   .exact ⟨w,D _ _ H⟩
   .exact E x A C
def ZdG(p:Zo)(f:Za)(b:List Zx):Bool:=Z0 p&&Yt f&&Ye b&&decide (p.rel=f.rel)&&decide (p.args.length=f.args.length)
def ZaC(p:Zo)(f:Za)(b:List Zx):Option (List Zx):=if ZdG p f b=true then Zci p.args f.args b else none
theorem Zl9{p:Zo}{f:Za}{b A:List Zx}(h:ZaC p f b=some A):Ye A=true/\(∀a∈p.args,Yu a=true->∃z,X3 A a=some z)/\∀u z,X3 b u=some z->X3 A u=some z:=by
 unfold ZaC at h;split at h
 .rename_i B;unfold ZdG at B;simp only[A9]at B;exact Zl1 B.1.1.2 h
 .simp at h
def ZbU:List BYT->List Zx->Option (List BYT)
 | [],_=>some []
 |a::p,b=>(Xn b a).bind fun v=>(ZbU p b).map fun l=>v::l
theorem ZeZ{b:List Zx}:∀{p:List BYT},p.all YI=true->(∀a∈p,Yu a=true->∃z,X3 b a=some z)->∃l,ZbU p b=some l/\l.length=p.length
 | [],_,_=>⟨[],rfl,rfl⟩
 |a::p,h,A=>by
  simp only[List.all_cons,A9]at h;obtain ⟨l,e,D⟩:=ZeZ h.2 fun x B=>A x (by simp [B]);have:∃v,Xn b a=some v:=by
   have ht:=h.1;unfold YI at ht;rw [BF]at ht;rcases ht with ht|ht
   .exact ⟨a,by unfold Xn;rw [yp ht]⟩
   .obtain ⟨z,C⟩:=A a yG ht;exact ⟨z,by rw [ZgG ht];exact C⟩
  obtain ⟨v,A⟩:=this;exact ⟨v::l,by simp only[ZbU,A,e,A0,Option.map_some],by simp [D]⟩
def YW(p:Zo)(b:List Zx):Option Za:=if Z0 p=true/\Ye b=true then (ZbU p.args b).map fun l=>{ rel:=p.rel,args:=l } else none
def Zc5(p:Zo)(b:List Zx)(F:List Za):List Za:=F.filter fun f=>(ZaC p f b).isSome
def ZzN(l r:BYT):Bool:=match Zaw l,Zaw r with|some m,some n=>decide (m<n)|_,_=>false
def ZuA(k:Int)(l r:BYT):Bool:=if k=3 then decide (l=r) else if k=4 then !decide (l=r) else ZzN l r
def Zpk(x:Zu)(b:List Zx):Bool:=
 if YC x=true/\3<=x.kind/\Ye b=true then (match Xn b x.left,Xn b x.right with|some l,some r=>ZuA x.kind l r|_,_=>false) else false
def Zbj(x:Zu)(b:List Zx)(F:List Za):Bool:=
 if YC x=true/\Ye b=true then (if x.kind=1 then decide (0<(Zc5 x.pattern b F).length) else if x.kind=2 then decide ((Zc5 x.pattern b F).length=0) else Zpk x b) else false
def ZbT(x:Zu)(F:List Za)(t:Zw):List Zw:=
 if x.kind=1 then F.filterMap fun f=>(ZaC x.pattern f t.binding).map fun b=>{ facts:=t.facts++[f],binding:=b } else if Zbj x t.binding F=true then [t] else []
def ZhE(x:Zu)(F:List Za)(l:List Zw):List Zw:=l.flatMap (ZbT x F)
def ZAT:Zw:={ facts:=[],binding:=[] }
def ZD(l:List Zu)(F:List Za):List Zw:=l.foldl (fun ts x=>ZhE x F ts) [ZAT]
theorem Xx(p:List Zu)(x:Zu)(F:List Za):ZD (p++[x]) F=ZhE x F (ZD p F):=by
 unfold ZD;rw [AT];rfl
structure ZoY (p:List Zu) (F:List Za) (t:Zw):Prop where
 bind:Ye t.binding=true
 len:t.facts.length<=p.length
 sub:∀f∈t.facts,f∈F
 vars:∀v∈YR p,∃z,X3 t.binding v=some z
theorem ZC0{p:List Zu}{x:Zu}{F:List Za}{t u:Zw}(h:ZoY p F t)(B:u∈ZbT x F t):ZoY (p++[x]) F u:=by
 unfold ZbT at B;have E:YR (p++[x])=YR p++(if x.kind=1 then Xw x.pattern.args else []):=by simp [YR]
 by_cases D:x.kind=1
 .rw [yp D]at B;obtain ⟨f,G,e⟩:=Ab.1 B;obtain ⟨b,N,rfl⟩:=B5.1 e;obtain ⟨M,L,K⟩:=Zl9 N;refine ⟨M,by have:=h.len;simp;omega,fun g C=>?_,fun v A=>?_⟩
  .rcases AA.1 C with C|C
   .exact h.sub g C
   .simp at C;subst C;exact G
  .rw [E,yp D]at A;rcases AA.1 A with A|A
   .obtain ⟨z,J⟩:=h.vars v A;exact ⟨z,K v z J⟩
   .obtain ⟨I,H⟩:=Zc1.1 A;exact L v I H
 .rw [yn D]at B;split at B
  .simp at B;subst B;refine ⟨h.bind,by have:=h.len;simp;omega,h.sub,fun v A=>?_⟩;rw [E,yn D,BG]at A;exact h.vars v A
  .simp at B
theorem ZB0(F:List Za):ZoY [] F ZAT:=⟨rfl,An _,by simp [ZAT],by simp [YR]⟩
theorem QL(F:List Za)(l:List Zu):∀t∈ZD l F,ZoY l F t:=by
 have:∀n (l:List Zu),l.length=n->∀t∈ZD l F,ZoY l F t:=by
  intro n;induction n with
  |zero=>
   intro l h;rw [Aj h];intro t A;simp [ZD]at A;subst A;exact ZB0 F
  |succ n ih=>
   intro l h;obtain ⟨p,x,rfl⟩:∃p x,l=p++[x]:=⟨l.dropLast,l.getLast (by intro e;simp [e]at h),(B9 _).symm⟩
   intro t A;rw [Xx]at A;obtain ⟨s,B,A⟩:=AU.1 A;exact ZC0 (ih p (by simpa using h) s B) A
 exact this _ l rfl
theorem ZnE(x:Zu)(F:List Za)(A:F.length<=24):∀l:List Zw,(ZhE x F l).length<=24*l.length
 | []=>An _
 |t::l=>by
  have ih:=ZnE x F A l;have B:(ZbT x F t).length<=24:=by
   unfold ZbT;split
   .exact AW (BH _ _) A
   .split<;>simp
  unfold ZhE at *;rw [BA,AH,AE];omega
theorem Zg9(F:List Za)(B:F.length<=24)(l:List Zu)(A:l.length<=4):(ZD l F).length<=331776:=by
 have key:∀(l:List Zu) (ts:List Zw),(l.foldl (fun ts x=>ZhE x F ts) ts).length<=24 ^ l.length*ts.length:=by
  intro l;induction l with
  |nil=>intro ts;simp
  |cons x l ih=>
   intro ts;rw [AL,AE,Nat.pow_succ];have h1:=ih (ZhE x F ts);have h2:=ZnE x F B ts;refine AW h1 (AW (BV _ h2) ?_);rw [<-Nat.mul_assoc];exact An _
 have h1:=key l [ZAT];have h2:24 ^ l.length<=24 ^ 4:=Nat.pow_le_pow_right yE A;unfold ZD;simp only[Ap,Nat.mul_one]at h1;omega
def ZgK(b:List Zx)(i:Nat):Option BYT:=if i=0 then none else (b[i - 1]?).map (·.var)
theorem ZlM{b:List Zx}{body:Nat->Zx->Unit->Option (Unit ⊕ Bool)}{fin:Unit->Option Bool}(C:∀i x,b[i]?=some x->body i x ()=if (ZgP x&&ZjR (ZgK b i) x.var)=true then some (.inl ()) else some (.inr false)):
  ∀(l:List Zx) (i:Nat),b.drop i=l->forL body fin l i ()=if Xb (ZgK b i) l=true then fin () else some false
 | [],i,_=>by simp [forL,Xb]
 |x::l,i,h=>by
  have B:b[i]?=some x:=by rw [<-List.head?_drop,h];rfl
  have E:b.drop (i+1)=l:=by rw [<-List.tail_drop,h];rfl
  have D:ZgK b (i+1)=some x.var:=by unfold ZgK;rw [yn yE,BX,B];rfl
  by_cases A:(ZgP x&&ZjR (ZgK b i) x.var)=true
  .rw [ZO (by rw [C i x B,yp A]),ZlM C l (i+1) E,D];simp only[Xb,A,Am]
  .rw [Z5 (by rw [C i x B,yn A])];simp only[Xb,eq_false_of_ne_true A,Bool.false_and,AC,if_false]
theorem Zqo{b:List Zx}(D:b.length<=1048576){i:Nat}{x:Zx}(B:b[i]?=some x):
  (if Yu x.var=true then (if Z2 x.value=true then (if (decide (0<(i:Int)))=true then (atI b (i64.wrap ((i:Int) - 1))).bind fun a=>if (sLt a.var x.var)=true then some (.inl ()) else some (.inr false) else some (.inl ())) else some (.inr false)) else some (.inr false):Option (Unit ⊕ Bool))
   = if (ZgP x&&ZjR (ZgK b i) x.var)=true then some (.inl ()) else some (.inr false):=by
 have hi:=(AX.1 B).1;unfold ZgP;cases Yu x.var with
 |false=>simp
 |true=>
  cases Z2 x.value with
  |false=>simp
  |true=>
   rw [yp rfl,yp rfl];by_cases A:i=0
   .subst A;rw [yn yG];simp [ZgK,ZjR]
   .have C:ZgK b i=some (b[i - 1]).var:=by unfold ZgK;rw [yn A,AD yE];rfl
    rw [yp (by simp;omega),show (i:Int) - 1=((i - 1:Nat):Int) by omega,ZfB yE yE,Zar,AD yE,A0,C];simp [ZjR]
theorem Za1(b:List Zx):Qb b=some (Ye b):=by
 unfold Qb Ye;by_cases A:b.length<=6
 .rw [yn (by simp;omega),ZlM (b:=b) (fun i x B=>by
   rw [Zfb,A0,QX];exact Zqo yE B) b 0 rfl,decide_eq_true A]
  show (if Xb none b=true then some true else some false)=_
  cases Xb none b<;>rfl
 .rw [yp (by simp;omega),decide_eq_false A];rfl
theorem ZaG(b:List Zx)(B:b.length<=1048576):Qn b=some (Ye b):=by
 unfold Qn Ye;rw [ZlM (b:=b) (fun i x A=>by
   rw [XO,A0,QW];exact Zqo B A) b 0 rfl]
 show (if Xb none b=true then some (decide ((b.length:Int)<=6)) else some false)=_
 have:decide ((b.length:Int)<=6)=decide (b.length<=6):=by rw [AM];simp;omega
 rw [this];cases Xb none b<;>simp
def ZBO(b:List Zx)(t:BYT):BYT×Bool:=match Xn b t with|some v=>(v,true)|none=>(⟨#[]⟩,false)
def ZBs:Option BYT->BYT×Bool
 |some v=>(v,true)
 |none=>(⟨#[]⟩,false)
theorem Zdc(b:List Zx)(t:BYT):ZBO b t=ZBs (Xn b t):=by unfold ZBO ZBs;cases Xn b t<;>rfl
theorem Znv{t:BYT}{body:Nat->Zx->Unit->Option (Unit ⊕ (BYT×Bool))}(B:∀i x,body i x ()=if x.var=t then some (.inr (x.value,true)) else some (.inl ())):
  ∀(b:List Zx) (i:Nat),forL body (fun _=>some ((⟨#[]⟩),false)) b i ()=some (ZBs (X3 b t))
 | [],_=>rfl
 |x::b,i=>by
  by_cases A:x.var=t
  .rw [Z5 (by rw [B,yp A])];simp [X3,A,ZBs]
  .rw [ZO (by rw [B,yn A]),Znv B b (i+1)];simp [X3,A]
theorem Zd6(b:List Zx)(t:BYT):Zb0 b t=some (ZBO b t):=by
 unfold Zb0;rw [Zdc,QX,A0];unfold Xn;by_cases ha:Z2 t=true
 .rw [yp ha,yp ha];rfl
 .rw [yn ha,yn ha,Zfb,A0];by_cases B:Yu t=true
  .rw [yp B,yp B,Znv];intro i x;by_cases A:x.var=t
   .rw [yp (ZV.2 A),yp A]
   .rw [yn (by rw [ZV];exact A),yn A]
  .rw [yn B,yn B];rfl
theorem Zd0(b:List Zx)(t:BYT):Zb6 b t=some (ZBO b t):=by
 unfold Zb6;rw [Zdc,QW,A0];unfold Xn;by_cases ha:Z2 t=true
 .rw [yp ha,yp ha];rfl
 .rw [yn ha,yn ha];by_cases B:Yu t=true
  .rw [yp B,Znv];intro i x;by_cases A:x.var=t
   .rw [yp (ZV.2 A),yp A,XO,A0,yp B]
   .rw [yn (by rw [ZV];exact A),yn A]
  .rw [yn B,Yb (p:=fun _=>true) (r:=((⟨#[]⟩:BYT),false))]
   .simp [ZBs]
   .intro i x _;rw [XO,A0,yn B];split<;>rfl
theorem ZtL{a v:BYT}:((sLt a v||sEq a v)=true)↔¬sLt v a=true:=by
 rw [BF,ZV];constructor
 .rintro (h|h)
  .rw [ZlH h];simp
  .rw [h,ZjX];simp
 .intro h;by_cases e:a=v
  .exact .inr e
  .exact .inl (Zgp (by simpa using h) (fun A=>e A.symm))
theorem Zvp{ρ:Type}{v w:BYT}{K:List Zx->Option ρ}{body:Nat->Zx->(List Zx×Bool)->Option ((List Zx×Bool) ⊕ ρ)}{fin:(List Zx×Bool)->Option ρ}
  (E:∀i x row,row.length<=1000->body i x (row,true)=some (.inl (row++[x],true)))
  (D:∀i x row,row.length<=1000->body i x (row,false)=if (sLt x.var v||sEq x.var v)=true then some (.inl (row++[x],false)) else some (.inl ((row++[{ var:=v,value:=w }])++[x],true)))
  (C:∀row,row.length<=1000->fin (row,true)=K row) (B:∀row,row.length<=1000->fin (row,false)=K (row++[{ var:=v,value:=w }])) (b:List Zx) (F:b.length<=100):forL body fin b 0 ([],false)=K (ZgN b v w):=by
 rw [Zbt (fun l _ s=>K (s.1++(if s.2=true then l else ZgN l v w))) (fun l _ s=>s.1.length+2*l.length<=900) ?_ ?_ b 0 ([],false) (by simp;omega)]
 .simp
 .rintro i ⟨row,a⟩ A;simp only[BY]at A;cases a with
  |true=>rw [C row yE];simp
  |false=>rw [B row yE];simp [ZgN]
 .rintro x l i ⟨row,a⟩ A;simp only[AE]at A;left
  cases a with
  |true=>exact ⟨_,E i x row yE,by simp;omega,yG⟩
  |false=>
   rw [D i x row yE];by_cases hs:sLt v x.var=true
   .rw [yn (by rw [ZtL];simpa using hs)];exact ⟨_,rfl,by simp;omega,by simp [ZgN,hs]⟩
   .rw [yp (ZtL.2 hs)];exact ⟨_,rfl,by simp;omega,by simp [ZgN,hs]⟩
def Zmp:Option (List Zx)->List Zx×Bool
 |some b=>(b,true)
 |none=>([],false)
theorem Zi2{b:List Zx}{v w:BYT}(h:¬(Ye b=true/\Yu v=true/\Z2 w=true)):Zmp (Zhi b v w)=([],false):=by
 unfold Zhi;rw [yn h];rfl
theorem Zkk{b:List Zx}{v w:BYT}(C:Ye b=true)(B:Yu v=true)(A:Z2 w=true):Zhi b v w=match X3 b v with|some a=>if a=w then some b else none|none=>if b.length=6 then none else some (ZgN b v w):=by
 unfold Zhi;exact yp ⟨C,B,A⟩
theorem QT{b:List Zx}(h:Ye b=true):b.length<=6:=by
 unfold Ye at h;rw [A9,decide_eq_true_iff]at h;exact h.1
theorem Zvz(b:List Zx)(v w:BYT):ZhR b v w=some (Zmp (Zhi b v w)):=by
 unfold ZhR;rw [Za1,A0];by_cases B:Ye b=true
 .rw [yp B,Zfb,A0];by_cases A:Yu v=true
  .rw [yp A,QX,A0];by_cases C:Z2 w=true
   .have h6:=QT B;rw [yp C,Zd6,A0,Zdc,ZgG A];cases hg:X3 b v with
    |some a=>
     have E:Zhi b v w=if a=w then some b else none:=by rw [Zkk B A C,hg]
     rw [E];show (if true=true then (if sEq a w=true then _ else _) else _)=_
     rw [yp rfl];by_cases D:a=w
     .rw [yp (ZV.2 D),yp D];unfold ZbZ;rw [Zj _ yE];rfl
     .rw [yn (by rw [ZV];exact D),yn D];rfl
    |none=>
     have E:Zhi b v w=if b.length=6 then none else some (ZgN b v w):=by rw [Zkk B A C,hg]
     rw [E];show (if false=true then _ else _)=_
     rw [yn yG];by_cases G:b.length=6
     .rw [yp (by simp;omega),yp G];rfl
     .rw [yn (by simp;omega),yn G];refine Zvp (K:=fun r=>some (r,true)) (fun i x row F=>?_) (fun i x row F=>?_) (fun row F=>?_) (fun row F=>?_) b yE
      .show (if true=true then _ else _)=_
       rw [yp rfl,Zj _ yE]
      .show (if false=true then _ else _)=_
       rw [yn yG];split
       .rw [Zj _ yE]
       .rw [Zj _ yE,Zj _ yE]
      .show (if true=true then _ else _)=_
       rw [yp rfl]
      .show (if false=true then _ else _)=_
       rw [yn yG,Zj _ yE]
   .rw [yn C,Zi2 (fun h=>C h.2.2)]
  .rw [yn A,Zi2 (fun h=>A h.2.1)]
 .rw [yn B,Zi2 (fun h=>B h.1)]
theorem Zwq(b:List Zx)(v w:BYT)(B:b.length<=100):Zkl b v w=some (ZgN b v w):=by
 unfold Zkl;refine Zvp (K:=fun r=>some r) (fun i x row A=>?_) (fun i x row A=>?_) (fun row A=>?_) (fun row A=>?_) b B
 .show (if true=true then _ else _)=_
  rw [yp rfl,Zj _ yE]
 .show (if false=true then _ else _)=_
  rw [yn yG];split
  .rw [Zj _ yE]
  .rw [Zj _ yE,Zj _ yE]
 .show (if true=true then _ else _)=_
  rw [yp rfl]
 .show (if false=true then _ else _)=_
  rw [yn yG,Zj _ yE]
theorem Zvq(b:List Zx)(v w:BYT)(G:b.length<=1048576):Zio b v w=some (Zmp (Zhi b v w)):=by
 unfold Zio;rw [ZaG b G,A0];by_cases B:Ye b=true
 .rw [yp B,XO,A0];by_cases A:Yu v=true
  .rw [yp A,QW,A0];by_cases C:Z2 w=true
   .have h6:=QT B;rw [yp C,Zd0,A0,Zdc,ZgG A];cases hg:X3 b v with
    |some a=>
     have E:Zhi b v w=if a=w then some b else none:=by rw [Zkk B A C,hg]
     rw [E];show (if true=true then (if sEq a w=true then _ else _) else _)=_
     rw [yp rfl];by_cases D:a=w
     .rw [yp (ZV.2 D),yp D];unfold ZdO;rw [Zj _ yE];rfl
     .rw [yn (by rw [ZV];exact D),yn D];rfl
    |none=>
     have E:Zhi b v w=if b.length=6 then none else some (ZgN b v w):=by rw [Zkk B A C,hg]
     rw [E];show (if false=true then _ else _)=_
     rw [yn yG];by_cases F:b.length=6
     .rw [yp (by simp;omega),yp F];rfl
     .rw [yn (by simp;omega),yn F,Zwq _ _ _ yE];rfl
   .rw [yn C,Zi2 (fun h=>C h.2.2)]
  .rw [yn A,Zi2 (fun h=>A h.2.1)]
 .rw [yn B,Zi2 (fun h=>B h.1)]
theorem ZgJ{fa:List BYT}{body:Nat->BYT->List Zx->Option (List Zx ⊕ (List Zx×Bool))}
  (A:∀i a w row,fa[i]?=some w->Ye row=true->body i a row=if Z2 a=true then (if a=w then some (.inl row) else some (.inr ([],false))) else (match Zhi row a w with|some r=>some (.inl r)|none=>some (.inr ([],false)))):
  ∀(l:List BYT) (i:Nat) (row:List Zx),i+l.length=fa.length->Ye row=true->forL body (fun row=>some (row,true)) l i row=some (Zmp (Zci l (fa.drop i) row))
 | [],i,row,_,_=>by simp [forL,Zci,Zmp]
 |a::l,i,row,h,hr=>by
  simp only[AE]at h;have hi:i<fa.length:=by omega
  have C:fa[i]?=some fa[i]:=AD hi;rw [List.drop_eq_getElem_cons hi];simp only[Zci];have e:=A i a _ row C hr;by_cases ha:Z2 a=true
  .rw [yp ha]at e ⊢;by_cases B:a=fa[i]
   .rw [yp B]at e ⊢;rw [ZO e];exact ZgJ A l (i+1) row yE hr
   .rw [yn B]at e ⊢;rw [Z5 e];rfl
  .rw [yn ha]at e ⊢;cases hx:Zhi row a fa[i]with
   |none=>
    rw [hx]at e;rw [Z5 e];rfl
   |some r=>
    rw [hx]at e;rw [ZO e,A0];exact ZgJ A l (i+1) r yE (Zxc hx).1
theorem Zh7(p:Zo)(f:Za)(b:List Zx):Zb3 p f b=some (Zmp (ZaC p f b)):=by
 unfold Zb3 ZaC ZdG;rw [ZcB,A0];cases h1:Z0 p with
 |false=>rfl
 |true=>
  rw [yp rfl,ZmM,A0];cases h2:Yt f with
  |false=>rfl
  |true=>
   rw [yp rfl,Za1,A0];cases h3:Ye b with
   |false=>rfl
   |true=>
    rw [yp rfl];by_cases B:p.rel=f.rel
    .rw [yp (ZV.2 B),decide_eq_true B];by_cases C:p.args.length=f.args.length
     .have h6:=QT h3;rw [yn (by simp;omega),decide_eq_true C];unfold ZbZ;rw [Zj _ yE,A0];rw [ZgJ (fa:=f.args) (fun i a w row D E=>?_) p.args 0 b yE h3]
      .rfl
      .rw [QX,A0,Zar,D,A0,A0];split
       .by_cases A:a=w
        .rw [yp (ZV.2 A),yp A]
        .rw [yn (by rw [ZV];exact A),yn A]
       .rw [Zvz,A0];cases Zhi row a w<;>rfl
     .rw [yp (by simp;omega),decide_eq_false C];rfl
    .rw [yn (by rw [ZV];exact B),decide_eq_false B];rfl
theorem ZiJ(p:Zo)(f:Za)(b:List Zx)(F:b.length<=1048576):Zb5 p f b=some (Zmp (ZaC p f b)):=by
 unfold Zb5 ZaC ZdG;rw [QJ,A0];cases h1:Z0 p with
 |false=>rfl
 |true=>
  rw [yp rfl,ZmO,A0];cases h2:Yt f with
  |false=>rfl
  |true=>
   rw [yp rfl,ZaG b F,A0];cases h3:Ye b with
   |false=>rfl
   |true=>
    rw [yp rfl];by_cases B:p.rel=f.rel
    .rw [yp (ZV.2 B),decide_eq_true B];by_cases C:p.args.length=f.args.length
     .have h6:=QT h3;rw [yn (by simp;omega),decide_eq_true C];unfold ZdO;rw [Zj _ yE,A0];rw [ZgJ (fa:=f.args) (fun i a w row D E=>?_) p.args 0 b yE h3]
      .rfl
      .have hr6:=QT E;rw [QW,A0,Zar,D,A0,A0];split
       .by_cases A:a=w
        .rw [yp (ZV.2 A),yp A]
        .rw [yn (by rw [ZV];exact A),yn A]
       .rw [Zvq _ _ _ yE,A0];cases Zhi row a w<;>rfl
     .rw [yp (by simp;omega),decide_eq_false C];rfl
    .rw [yn (by rw [ZV];exact B),decide_eq_false B];rfl
def XJ:Option Za->Za×Bool
 |some f=>(f,true)
 |none=>({ rel:=⟨#[]⟩,args:=[] },false)
theorem ZqA{b:List Zx}{rel:BYT}{body:Nat→BYT→List BYT→Option (List BYT ⊕ (Za × Bool))}(A:∀i a row,row.length≤1048576→body i a row=match Xn b a with | some v=>some (.inl (row++[v])) | none=>some (.inr ({ rel:=⟨#[]⟩,args:=[] },false)))(l:List BYT)(C:l.length≤1000000):
  forL body (fun row=>some ({ rel:=rel,args:=row },true)) l 0 []=some (XJ ((ZbU l b).map fun l=>{ rel:=rel,args:=l })):=by
 rw [Zbt (fun l _ row=>some (XJ ((ZbU l b).map fun l=>{ rel:=rel,args:=row++l }))) (fun l _ row=>row.length+l.length≤1048576) ?_ ?_ l 0 [] (by simp;omega)]
 ·simp
 ·intro i row _
  simp [ZbU,XJ]
 ·intro a l i row B
  simp only[AE] at B;have e:=A i a row (by omega);cases hv:Xn b a with
  | none=>
   rw [hv] at e;exact .inr ⟨_,e,by simp [ZbU,hv,XJ]⟩
  | some v=>
   rw [hv] at e;refine .inl ⟨_,e,by simp;omega,?_⟩;simp only[ZbU,hv,A0,Option.map_map];cases ZbU l b<;>simp
theorem Zbm(p:Zo)(b:List Zx):Xu p b=some (XJ (YW p b)):=by
 unfold Xu YW;rw [ZcB,A0];cases h1:Z0 p with
 |false=>rfl
 |true=>
  rw [yp rfl,Za1,A0];cases h3:Ye b with
  |false=>rfl
  |true=>
   have B:p.args.length<=3:=by unfold Z0 at h1;simp at h1;exact h1.1.2
   rw [yp rfl,yp ⟨rfl,rfl⟩,ZqA (b:=b) (fun i a row A=>?_) p.args yE];rw [Zd6,A0,Zdc];cases Xn b a with
   |none=>rfl
   |some v=>
    show (if true=true then _ else _)=_
    rw [yp rfl,Zj _ yE];rfl
theorem ZfJ(p:Zo)(b:List Zx)(A:b.length<=1048576):Xr p b=some (XJ (YW p b)):=by
 unfold Xr YW;rw [QJ,A0];cases h1:Z0 p with
 |false=>rfl
 |true=>
  rw [yp rfl,ZaG b A,A0];cases h3:Ye b with
  |false=>rfl
  |true=>
   have C:p.args.length<=3:=by unfold Z0 at h1;simp at h1;exact h1.1.2
   rw [yp rfl,yp ⟨rfl,rfl⟩,ZqA (b:=b) (fun i a row B=>?_) p.args yE];rw [Zd0,A0,Zdc];cases Xn b a with
   |none=>rfl
   |some v=>
    show (if true=true then _ else _)=_
    rw [yp rfl,Zj _ yE];rfl
theorem Zg4(o:Option (List Zx)):(Zmp o).2=o.isSome:=by cases o<;>rfl
theorem Ze8(p:Zo)(b:List Zx)(F:List Za)(B:F.length<=1048576)(ha:∀f∈F,f.args.length<=1048576):X9 p b F=some (Zc5 p b F):=by
 unfold X9 Zc5;rw [ZfE (p:=fun f=>(ZaC p f b).isSome)]
 .simp
 .intro j f s A hs;rw [Zh7,A0,Zg4];split
  .rw [Xl f (ha f A),A0,Zj _ (by simp at hs;omega)]
  .rfl
theorem ZeN(p:Zo)(b:List Zx)(F:List Za)(B:b.length<=1048576)(C:F.length<=1048576)(ha:∀f∈F,f.args.length<=1048576):X6 p b F=some (Zc5 p b F):=by
 unfold X6 Zc5;rw [ZfE (p:=fun f=>(ZaC p f b).isSome)]
 .simp
 .intro j f s A hs;rw [ZiJ _ _ _ B,A0,Zg4];split
  .rw [Y6 f (ha f A),A0,Zj _ (by simp at hs;omega)]
  .rfl
theorem ZoT(x:Zu)(b:List Zx):ZdB x b=some (Zpk x b):=by
 unfold ZdB Zpk Zks;rw [ZiF,A0];cases h1:YC x with
 |false=>rfl
 |true=>
  rw [yp rfl,A0];by_cases C:3<=x.kind
  .rw [yp (by simpa using C),Za1,A0];cases h3:Ye b with
   |false=>simp
   |true=>
    rw [yp rfl,yp ⟨rfl,C,rfl⟩,Zd6,A0,Zd6,A0,Zdc,Zdc];cases Xn b x.left with
    |none=>rfl
    |some l=>
     cases Xn b x.right with
     |none=>rfl
     |some r=>
      show (if true=true then (if true=true then (if (x.kind==3)=true then some (sEq l r) else _) else _) else _)=some (ZuA x.kind l r)
      rw [yp rfl,yp rfl];unfold ZuA;by_cases B:x.kind=3
      .rw [yp (by simpa using B),yp B];rfl
      .rw [yn (by simpa using B),yn B];by_cases A:x.kind=4
       .rw [yp (by simpa using A),yp A];rfl
       .rw [yn (by simpa using A),yn A,Zdg,A0,Zdg,A0];show (if (Zd1 l).2=true then (if (Zd1 r).2=true then some (decide ((Zd1 l).1<(Zd1 r).1)) else some false) else some false)=_
        unfold Zd1 ZzN;cases Zaw l<;>cases Zaw r<;>simp
  .rw [yn (by simpa using C),yn (fun h=>C h.2.1)]
theorem Zn9(x:Zu)(b:List Zx)(H:b.length<=1048576):ZdD x b=some (Zpk x b):=by
 unfold ZdD Zpk Zcr;rw [ZbW,A0];cases h1:YC x with
 |false=>rfl
 |true=>
  rw [yp rfl,A0];by_cases C:3<=x.kind
  .rw [yp (by simpa using C),ZaG b H,A0];cases h3:Ye b with
   |false=>simp
   |true=>
    rw [yp rfl,yp ⟨rfl,C,rfl⟩,Zd0,A0,Zd0,A0,Zdc,Zdc];cases Xn b x.left with
    |none=>rfl
    |some l=>
     cases Xn b x.right with
     |none=>rfl
     |some r=>
      show (if true=true then (if true=true then (if (x.kind==3)=true then some (sEq l r) else _) else _) else _)=some (ZuA x.kind l r)
      rw [yp rfl,yp rfl];unfold ZuA;by_cases B:x.kind=3
      .rw [yp (by simpa using B),yp B];rfl
      .rw [yn (by simpa using B),yn B];by_cases A:x.kind=4
       .rw [yp (by simpa using A),yp A];rfl
       .rw [yn (by simpa using A),yn A];unfold ZeT;rw [Zam,A0,A0];show (if (Zd1 l).2=true then ((Qw r).bind fun v1=>some v1.2).bind (fun E=>if E=true then (XZ l r).bind fun D=>some (decide (D<0)) else some false) else some false)=_
        unfold ZzN;cases hl:Zaw l with
        |none=>simp [Zd1,hl]
        |some m=>
         rw [yp (by simp [Zd1,hl]),Zam,A0,A0];cases hr:Zaw r with
         |none=>simp [Zd1,hr]
         |some n=>
          have F:decide (Zhw l r<0)=decide (m<n):=by
           have G:Zhw l r=Zm2 m n:=by unfold Zhw;rw [hl,hr]
           rw [G,AM,decide_eq_true_iff,decide_eq_true_iff];unfold Zm2;split
           .omega
           .split<;>omega
          rw [yp (by simp [Zd1,hr]),ZfF,A0,F]
  .rw [yn (by simpa using C),yn (fun h=>C h.2.1)]
theorem Zns(x:Zu)(b:List Zx)(F:List Za)(C:F.length<=1048576)(ha:∀f∈F,f.args.length<=1048576):Zdz x b F=some (Zbj x b F):=by
 unfold Zdz Zbj;rw [ZiF,A0];cases h1:YC x with
 |false=>rfl
 |true=>
  rw [yp rfl,Za1,A0];cases h3:Ye b with
  |false=>rfl
  |true=>
   rw [yp rfl,yp (show true=true/\true=true from ⟨rfl,rfl⟩)];by_cases B:x.kind=1
   .rw [yp (by simpa using B),yp B,Ze8 _ _ _ C ha,A0];congr 1
    rw [AM];simp
   .rw [yn (by simpa using B),yn B];by_cases A:x.kind=2
    .rw [yp (by simpa using A),yp A,Ze8 _ _ _ C ha,A0,Zym]
    .rw [yn (by simpa using A),yn A,ZoT];rfl
theorem ZnY(x:Zu)(b:List Zx)(F:List Za)(C:b.length<=1048576)(D:F.length<=1048576)(ha:∀f∈F,f.args.length<=1048576):ZdN x b F=some (Zbj x b F):=by
 unfold ZdN Zbj;rw [ZbW,A0];cases h1:YC x with
 |false=>rfl
 |true=>
  rw [yp rfl,ZaG b C,A0];cases h3:Ye b with
  |false=>rfl
  |true=>
   rw [yp rfl,yp (show true=true/\true=true from ⟨rfl,rfl⟩)];by_cases B:x.kind=1
   .rw [yp (by simpa using B),yp B,ZeN _ _ _ C D ha,A0];congr 1
    rw [AM];simp
   .rw [yn (by simpa using B),yn B];by_cases A:x.kind=2
    .rw [yp (by simpa using A),yp A,ZeN _ _ _ C D ha,A0,Zym]
    .rw [yn (by simpa using A),yn A,Zn9 _ _ C];rfl
theorem ZaV{r:Zf}(h:YA r=true):r.cond.length<=4/\r.thn.length<=2:=by
 simp only[YA,A9,decide_eq_true_eq]at h;omega
def Ztf(r:Zf):Bool:=r.thn.all fun a=>decide (a.kind=1)
def ZiO(r:Zf)(i:Nat)(x:Zu):Bool:=!decide (x.kind=2)||(Y1 x).all (YT (YU r i))
def ZY(r:Zf):Bool:=YA r&&Zav (ZiO r) r.cond 0&&Ztf r
theorem Zqf(a b:List BYT):Zeq a b=some (a.all (YT b)):=by
 unfold Zeq;rw [Yb (p:=YT b) (r:=false)]
 .cases a.all (YT b)<;>rfl
 .intro i x _;rw [YL,A0];cases YT b x<;>simp
theorem Zrl{fin:Unit->Option Bool}{l:List Zy}:forL (σ:=Unit) (fun (_:Nat) (x:Zy) _=>if (x.kind != 1)=true then some (.inr false) else some (.inl ())) fin l 0 ()=if (l.all fun a=>decide (a.kind=1))=true then fin () else some false:=by
 refine Yb fun i x _=>?_;by_cases h:x.kind=1
 .simp [h]
 .have:(x.kind != 1)=true:=by simpa using h
  simp [this,h]
theorem ZpC(r:Zf):Zex r=some (Ztf r):=by
 unfold Zex Ztf;rw [Zrl];cases r.thn.all fun a=>decide (a.kind=1)<;>rfl
theorem ZoW(r:Zf)(h:Q6 r):Zdt r=some (ZY r):=by
 unfold Zdt ZY;rw [Zb9 r h,A0];cases hr:YA r with
 |false=>simp
 |true=>
  have h4:=(ZaV hr).1;simp only[if_true,Am];rw [XM (p:=ZiO r) (r:=false),Zrl]
  .unfold Ztf;cases Zav (ZiO r) r.cond 0<;>cases r.thn.all fun a=>decide (a.kind=1)<;>simp
  .intro j x B;rw [AS,Zdi x (by have:=h.ca x (Ac B);omega),ZcC r _ h h4,Ad];simp only[A0,Zqf,ZiO];by_cases A:x.kind=2
   .simp only[A,beq_self_eq_true,if_true,decide_true,BI,Ax];cases (Y1 x).all (YT (YU r j))<;>simp
   .simp [A]
theorem Zn2(r:Zf)(h:Q6 r):ZdJ r=some (ZY r):=by
 unfold ZdJ ZY;rw [Zh2 r h,A0,ZpC];cases hr:YA r with
 |false=>simp
 |true=>
  have h4:=(ZaV hr).1;simp only[if_true,Am,A0];rw [XM (p:=ZiO r) (r:=false)]
  .cases Zav (ZiO r) r.cond 0<;>cases Ztf r<;>simp
  .intro j x B;rw [AS,Zdh x (by have:=h.ca x (Ac B);omega),Ze9 r _ h h4,Ad];simp only[A0,ZiO];by_cases A:x.kind=2
   .simp only[A,bne_self_eq_false,AC,if_false,decide_true,BI,Ax];rw [Yb (p:=YT (YU r j)) (r:=.inr false)]
    .cases (Y1 x).all (YT (YU r j))<;>simp
    .intro k v _;rw [Zbc,A0];cases YT (YU r j) v<;>simp
   .have:(x.kind != 2)=true:=by simpa using A
    simp [A,this]
section
section
variable {α σ ρ:Type} {body:Nat->α->σ->Option (σ ⊕ ρ)}
theorem Zra(I:List α->σ->Prop)(Q:ρ->Prop):∀(l a:List α) (s:σ),I a s->(∀p x s,x∈l->p.length<a.length+l.length->I p s->(∃s',body p.length x s=some (.inl s')/\I (p++[x]) s')\/∃r,body p.length x s=some (.inr r)/\Q r)->
  (∃s',(∀fin:σ->Option ρ,forL body fin l a.length s=fin s')/\I (a++l) s')\/∃r,(∀fin:σ->Option ρ,forL body fin l a.length s=some r)/\Q r
 | [],a,s,h,_=>.inl ⟨s,fun _=>rfl,by simpa using h⟩
 |x::l,a,s,h,hs=>by
  rcases hs a x s yG yG h with ⟨s',e,B⟩|⟨r,e,B⟩
  .rcases Zra I Q l (a++[x]) s' B fun p y s m E F=>hs p y s (by simp [m]) (by simp at E ⊢;omega) F with ⟨D,C,A⟩|⟨r,C,A⟩
   .refine .inl ⟨D,fun fin=>?_,by simpa using A⟩;rw [ZO e];simpa using C fin
   .refine .inr ⟨r,fun fin=>?_,A⟩;rw [ZO e];simpa using C fin
  .exact .inr ⟨r,fun fin=>Z5 e,B⟩
theorem Zc8(I:List α->σ->Prop)(Q:ρ->Prop)(l:List α)(s:σ)(h:I [] s)(hs:∀p x s,x∈l->p.length<l.length->I p s->(∃s',body p.length x s=some (.inl s')/\I (p++[x]) s')\/∃r,body p.length x s=some (.inr r)/\Q r):
  (∃s',(∀fin:σ->Option ρ,forL body fin l 0 s=fin s')/\I l s')\/∃r,(∀fin:σ->Option ρ,forL body fin l 0 s=some r)/\Q r:=by
 have:=Zra I Q l [] s h fun p x s m A B=>hs p x s m (by simpa using A) B;simpa using this
theorem Zgh(I:List α->σ->Prop)(l:List α)(s:σ)(h:I [] s)(hs:∀p x s,x∈l->p.length<l.length->I p s->∃s',body p.length x s=some (.inl s')/\I (p++[x]) s'):∃s',(∀fin:σ->Option ρ,forL body fin l 0 s=fin s')/\I l s':=by
 rcases Zc8 I (fun _=>False) l s h fun p x s m A B=>.inl (hs p x s m A B) with h|⟨_,_,h⟩
 .exact h
 .exact h.elim
end
def X2(r:Zf):List BYT:=r.thn.filterMap fun x=>if x.kind=1\/x.kind=2 then some x.pattern.rel else none
def YO(r:Zf):List BYT:=r.cond.filterMap fun x=>if x.kind=1\/x.kind=2 then some x.pattern.rel else none
theorem ZuF(r:Zf):(X2 r).length<=r.thn.length:=BH _ _
theorem ZoU(r:Zf):(YO r).length<=r.cond.length:=BH _ _
theorem ZjJ(r:Zf)(h:r.thn.length<=1048576):Q7 r=some (Z9 (X2 r)):=by
 unfold Q7;rw [Y0 (g:=fun x:Zy=>if x.kind=1\/x.kind=2 then some x.pattern.rel else none)]
 .have:=ZuF r;simp only[BJ];show (YM (X2 r)).bind _=_
  rw [QP _ yE];rfl
 .intro j x s _ hs;simp at hs;by_cases B:x.kind=1
  .simp only[B,beq_self_eq_true,if_true];rw [Zj _ yE];rfl
  .by_cases A:x.kind=2
   .have:((2:Int)==1)=false:=by decide
    simp only[A,this,AC,if_false,beq_self_eq_true,if_true];rw [Zj _ yE];rfl
   .simp [B,A]
theorem Zsm(r:Zf)(h:r.cond.length<=1048576):ZcR r=some (Z9 (YO r)):=by
 unfold ZcR;rw [Y0 (g:=fun x:Zu=>if x.kind=1\/x.kind=2 then some x.pattern.rel else none)]
 .have:=ZoU r;simp only[BJ];show (YM (YO r)).bind _=_
  rw [QP _ yE];rfl
 .intro j x s _ hs;simp at hs;by_cases B:x.kind=1
  .simp only[B,beq_self_eq_true,if_true];rw [Zj _ yE];rfl
  .by_cases A:x.kind=2
   .have:((2:Int)==1)=false:=by decide
    simp only[A,this,AC,if_false,beq_self_eq_true,if_true];rw [Zj _ yE];rfl
   .simp [B,A]
theorem ZlL{α:Type}(A:α->Int)(f:α->BYT):∀(l:List α) (acc:List BYT),l.foldl (fun s x=>if A x=1\/A x=2 then Zae s (f x) else s) acc=(l.filterMap fun x=>if A x=1\/A x=2 then some (f x) else none).foldl Zae acc
 | [],_=>rfl
 |x::l,acc=>by
  rw [AL,ZlL A f l];by_cases h:A x=1\/A x=2<;>simp [h]
theorem ZjF(r:Zf)(h:r.thn.length<=1048576):ZaD r=some (Z9 (X2 r)):=by
 unfold ZaD;rw [Xf (f:=fun s (x:Zy)=>if x.kind=1\/x.kind=2 then Zae s x.pattern.rel else s) (fun j s=>s.length<=j) yG]
 .congr 1
  exact ZlL (fun x:Zy=>x.kind) (fun x=>x.pattern.rel) r.thn []
 .intro j x s _ _ C D;have:=Ze7 x.pattern.rel s;by_cases B:x.kind=1
  .simp only[B,beq_self_eq_true,if_true,true_or];rw [Zac _ _ yE];exact ⟨rfl,yE⟩
  .by_cases A:x.kind=2
   .have:((2:Int)==1)=false:=by decide
    simp only[A,this,AC,if_false,beq_self_eq_true,if_true,or_true];rw [Zac _ _ yE];exact ⟨rfl,yE⟩
   .simp [B,A];omega
theorem ZrO(r:Zf)(h:r.cond.length<=1048576):Zc7 r=some (Z9 (YO r)):=by
 unfold Zc7;rw [Xf (f:=fun s (x:Zu)=>if x.kind=1\/x.kind=2 then Zae s x.pattern.rel else s) (fun j s=>s.length<=j) yG]
 .congr 1
  exact ZlL (fun x:Zu=>x.kind) (fun x=>x.pattern.rel) r.cond []
 .intro j x s _ _ C D;have:=Ze7 x.pattern.rel s;by_cases B:x.kind=1
  .simp only[B,beq_self_eq_true,if_true,true_or];rw [Zac _ _ yE];exact ⟨rfl,yE⟩
  .by_cases A:x.kind=2
   .have:((2:Int)==1)=false:=by decide
    simp only[A,this,AC,if_false,beq_self_eq_true,if_true,or_true];rw [Zac _ _ yE];exact ⟨rfl,yE⟩
   .simp [B,A];omega
def Zhu(R:List Zf)(x y:BYT):Prop:=∃r∈R,x∈X2 r/\y∈YO r
inductive XN (R:List Zf) (a:BYT):BYT->Prop
 |one {y:BYT}:Zhu R a y->XN R a y
 |next {x y:BYT}:XN R a x->Zhu R x y->XN R a y
theorem XN.step{R:List Zf}{a x y:BYT}(A:x=a\/XN R a x)(h:Zhu R x y):XN R a y:=by
 rcases A with rfl|A
 .exact .one h
 .exact .next A h
structure XD (R:List Zf):Prop where
 s:∀r∈R,Q6 r
 n:(R.flatMap YO).length<=1048576
theorem ZhT{m:List (BYT×Bool)}{k y:BYT}:Zbi (ZgQ m k true) y false=if y=k then true else Zbi m y false:=by
 unfold Zbi;induction m with
 |nil=>
  by_cases h:y=k<;>simp [ZgQ,Zhv,h]
 |cons p r ih=>
  simp only[ZgQ];by_cases h:k=p.1
  .subst h;rw [yp rfl];by_cases A:y=p.1
   .simp [Zhv,A]
   .simp [Zhv,A]
  .rw [yn h];by_cases A:y=p.1
   .subst A;have:¬p.1=k:=fun e=>h e.symm;simp [Zhv,this]
   .simp only[Zhv,yn A];exact ih
def ZdQ(m:List (BYT×Bool))(y:BYT):Prop:=Zbi m y false=true
def Zh0(U:List BYT)(m:List (BYT×Bool)):Nat:=U.countP fun y=>!Zbi m y false
theorem Zgm{α:Type}{p q:α->Bool}:∀{l:List α},(∀x∈l,p x=true->q x=true)->∀y∈l,p y=false->q y=true->l.countP p+1<=l.countP q
 |x::l,h,y,B,h1,h2=>by
  rw [Aq,Aq];have C:l.countP p<=l.countP q:=List.countP_mono_left fun z A=>h z (by simp [A]);have hx:=h x yG;rcases AB.1 B with rfl|B
  .simp [h1,h2];omega
  .have ih:=Zgm (p:=p) (q:=q) (l:=l) (fun z A=>h z (by simp [A])) y B h1 h2;cases hp:p x with
   |true=>simp [hx hp];omega
   |false=>cases q x<;>simp<;>omega
structure ZuI (U:List BYT) (P:BYT->Prop) (s0 s:List (BYT×Bool)×List BYT):Prop where
 mono:∀y,ZdQ s0.1 y->ZdQ s.1 y
 fresh:∀y,ZdQ s.1 y->ZdQ s0.1 y\/(P y/\y∈s.2)
 sub:∀y∈s0.2,y∈s.2
 row:∀y∈s.2,y∈s0.2\/ZdQ s.1 y
 cnt:Zh0 U s.1+s.2.length<=Zh0 U s0.1+s0.2.length
theorem ZuI.refl(U:List BYT)(P:BYT->Prop)(s:List (BYT×Bool)×List BYT):ZuI U P s s:=⟨fun _ h=>h,fun _ h=>.inl h,fun _ h=>h,fun _ h=>.inl h,An _⟩
theorem ZuI.push{U:List BYT}{P:BYT->Prop}{C:List (BYT×Bool)×List BYT}{m:List (BYT×Bool)}{row:List BYT}(h:ZuI U P C (m,row)){y:BYT}(D:Zbi m y false=false)(F:y∈U)(G:P y):ZuI U P C (ZgQ m y true,row++[y]):=by
 have B:∀z,ZdQ (ZgQ m y true) z↔z=y\/ZdQ m z:=fun z=>by
  unfold ZdQ;rw [ZhT];by_cases e:z=y<;>simp [e]
 refine ⟨fun z A=>(B z).2 (.inr (h.mono z A)),fun z A=>?_,fun z A=>AA.2 (.inl (h.sub z A)),fun z A=>?_,?_⟩
 .rcases (B z).1 A with rfl|A
  .exact .inr ⟨G,yG⟩
  .exact (h.fresh z A).imp id fun ⟨a,b⟩=>⟨a,AA.2 (.inl b)⟩
 .rcases AA.1 A with A|A
  .exact (h.row z A).imp id fun E=>(B z).2 (.inr E)
  .exact .inr ((B z).2 (.inl (by simpa using A)))
 .have h1:=h.cnt;have H:Zh0 U (ZgQ m y true)+1<=Zh0 U m:=Zgm (fun z _ A=>by
   rw [ZhT]at A;by_cases e:z=y
   .simp [e]at A
   .simpa [e]using A) y F (by rw [ZhT];simp) (by simp [D])
  show _+(row++[y]).length<=_
  rw [AH];simp only at h1 ⊢;simp;omega
theorem Z6{σ ρ:Type}{body:σ->Option (σ ⊕ ρ)}{s s':σ}(h:body s=some (.inl s')):iter body s=iter body s':=by rw [ZkI,h]
theorem ZU{σ ρ:Type}{body:σ->Option (σ ⊕ ρ)}{s:σ}{r:ρ}(h:body s=some (.inr r)):iter body s=some r:=by rw [ZkI,h]
theorem Zpx{R:List Zf}(hR:XD R)(a:BYT):∃m,ZeO R a=some m/\∀y,ZdQ m y↔XN R a y:=by
 have hU:∀r∈R,∀y∈YO r,y∈R.flatMap YO:=fun r N y M=>AU.2 ⟨r,N,M⟩;have key:∀(n:Nat) (m:List (BYT×Bool)) (row:List BYT),Zh0 (R.flatMap YO) m+row.length<=n->n<=1048577->(∀y,ZdQ m y->XN R a y)->(∀y∈row,y=a\/ZdQ m y)->(∀z,(z=a\/ZdQ m z)->z∈row\/∀y,Zhu R z y->ZdQ m y)->
   ∃S,iter (σ:=(List (BYT×Bool))×(List BYT)) (fun s=>
   match s with
   |(mp_42,row_43)=>
   if (decide (0<(row_43.length:Int)))=true then
    chk (0<=0/\0<(row_43.length:Int)) <|
    (row_43[(Ae 0)]?).bind fun C=>
    chk (0<=1/\1<=(row_43.length:Int)) <|
    forL (σ:=(List (BYT×Bool))×(List BYT))
     (fun (D:Nat) (d:Zf) s=>
      match s with
      |(mp_57,row_58)=>
      (Q7 d).bind fun j=>
      (XL j C).bind fun k=>
      if k=true then
       (ZcR d).bind fun l=>
       forL (σ:=(List (BYT×Bool))×(List BYT))
        (fun (t:Nat) (b:BYT) s=>
         match s with
         |(mp_80,row_81)=>
         if (Zbi mp_80 b false)=true then
          some (.inl (mp_80,row_81))
         else
          chk (row_81.length+1<=1073741824) <|
          some (.inl ((ZgQ mp_80 b true),(row_81++[b]))))
        (fun s=>
         match s with
         |(mp_80,row_81)=>
         some (.inl (mp_80,row_81)))
        l 0 (mp_57,row_58)
      else
       some (.inl (mp_57,row_58)))
     (fun s=>
      match s with
      |(mp_57,row_58)=>
      some (.inl (mp_57,row_58)))
     R 0 (mp_42,(List.drop (Ae 1) row_43))
   else
    some (.inr mp_42)) (m,row)=some S/\∀y,ZdQ S y↔XN R a y:=by
  intro n;induction n with
  |zero=>
   intro m row hn _ T V P;have hr:row=[]:=Aj yE;subst hr;refine ⟨m,by rw [ZkI];rfl,fun y=>⟨T y,fun G=>?_⟩⟩;induction G with
   |one h=>exact ((P _ (.inl rfl)).resolve_left yG) _ h
   |next _ h ih=>exact ((P _ (.inr ih)).resolve_left yG) _ h
  |succ n ih=>
   intro m row hn hN T V P;cases row with
   |nil=>
    refine ⟨m,by rw [ZkI];rfl,fun y=>⟨T y,fun G=>?_⟩⟩;induction G with
    |one h=>exact ((P _ (.inl rfl)).resolve_left yG) _ h
    |next _ h ih=>exact ((P _ (.inr ih)).resolve_left yG) _ h
   |cons x c=>
    have hx:x=a\/XN R a x:=(V x yG).imp id (T x);have aa:Zh0 (R.flatMap YO) m+c.length<=n:=by simp at hn;omega
    obtain ⟨s',e,J,U⟩:=Zgh (ρ:=((List (BYT×Bool))×(List BYT)) ⊕ (List (BYT×Bool))) (body:=fun (D:Nat) (d:Zf) (s:(List (BYT×Bool))×(List BYT))=>
      match s with
      |(mp_57,row_58)=>
      (Q7 d).bind fun j=>
      (XL j x).bind fun k=>
      if k=true then
       (ZcR d).bind fun l=>
       forL (σ:=(List (BYT×Bool))×(List BYT))
        (fun (t:Nat) (b:BYT) s=>
         match s with
         |(mp_80,row_81)=>
         if (Zbi mp_80 b false)=true then
          some (.inl (mp_80,row_81))
         else
          chk (row_81.length+1<=1073741824) <|
          some (.inl ((ZgQ mp_80 b true),(row_81++[b]))))
        (fun s=>
         match s with
         |(mp_80,row_81)=>
         some (.inl (mp_80,row_81)))
        l 0 (mp_57,row_58)
      else
       some (.inl (mp_57,row_58))) (fun o s=>ZuI (R.flatMap YO) (XN R a) (m,c) s/\∀r∈o,x∈X2 r->∀y∈YO r,ZdQ s.1 y) R (m,c) ⟨ZuI.refl _ _ _,yG⟩ fun p r s N hp hI=>by
     obtain ⟨W,u⟩:=s;obtain ⟨J,U⟩:=hI;have v:=hR.s r N;show ∃s',(Q7 r).bind _=_/\_
     rw [ZjJ r v.tl];simp only[A0];rw [Zbc];simp only[A0];by_cases O:x∈X2 r
     .have hh:YT (Z9 (X2 r)) x=true:=by rw [Qi,Z3];exact O
      rw [yp hh,Zsm r v.cl];simp only[A0];obtain ⟨s2,e2,E,w⟩:=Zgh (ρ:=((List (BYT×Bool))×(List BYT)) ⊕ (((List (BYT×Bool))×(List BYT)) ⊕ (List (BYT×Bool)))) (body:=fun (t:Nat) (b:BYT) (s:(List (BYT×Bool))×(List BYT))=>
         match s with
         |(mp_80,row_81)=>
         if (Zbi mp_80 b false)=true then
          some (.inl (mp_80,row_81))
         else
          chk (row_81.length+1<=1073741824) <|
          some (.inl ((ZgQ mp_80 b true),(row_81++[b])))) (fun o s=>ZuI (R.flatMap YO) (XN R a) (m,c) s/\(∀y,ZdQ W y->ZdQ s.1 y)/\∀y∈o,ZdQ s.1 y) (Z9 (YO r)) (W,u) ⟨J,fun _ h=>h,yG⟩ fun p y s M hp hI=>by
       obtain ⟨K,g⟩:=s;obtain ⟨g2,g3,g4⟩:=hI;have A:y∈YO r:=Z3.1 M;by_cases hs:Zbi K y false=true
       .refine ⟨(K,g),by simp only[hs,if_true],g2,g3,fun z H=>?_⟩;rcases AA.1 H with H|H
        .exact g4 z H
        .rw [AY.1 H];exact hs
       .have hf:Zbi K y false=false:=by simpa using hs
        have hc:=g2.cnt;have hG:=g2.push hf (hU r N y A) (XN.step hx ⟨r,N,O,A⟩);have f:∀z,ZdQ K z->ZdQ (ZgQ K y true) z:=fun z F=>by
         unfold ZdQ at *;rw [ZhT];by_cases e:z=y<;>simp [e,F]
        refine ⟨(ZgQ K y true,g++[y]),?_,hG,fun z F=>f z (g3 z F),fun z H=>?_⟩
        .simp only[hf,AC,if_false];rw [Zj _ (by simp only at hc;omega)]
        .rcases AA.1 H with H|H
         .exact f z (g4 z H)
         .rw [AY.1 H];unfold ZdQ;rw [ZhT];simp
      refine ⟨s2,by rw [e2],E,fun q I L y M=>?_⟩;rcases AA.1 I with I|I
      .exact w.1 y (U q I L y M)
      .rw [AY.1 I]at M;exact w.2 y (Z3.2 M)
     .have hh:YT (Z9 (X2 r)) x=false:=by
       cases L:YT (Z9 (X2 r)) x with
       |false=>rfl
       |true=>rw [Qi,Z3]at L;exact absurd L O
      refine ⟨(W,u),by rw [yn (by rw [hh];simp)],J,fun q I L=>?_⟩;rcases AA.1 I with I|I
      .exact U q I L
      .rw [AY.1 I]at L;exact absurd L O
    obtain ⟨S,i⟩:=s';obtain ⟨K,r1,r2⟩:=ih S i (by have:=J.cnt;simp only at this;omega) yE
     (fun y G=>(J.fresh y G).elim (T y) fun h=>h.1)
     (fun y G=>by
      rcases J.row y G with h|h
      .exact (V y (by simp [show y∈c from h])).imp id (J.mono y)
      .exact .inr h)
     (fun z F=>by
      have B:(z=a\/ZdQ m z)->z∈i\/∀y,Zhu R z y->ZdQ S y:=fun F=>by
       rcases P z F with h|h
       .rcases AB.1 h with rfl|h
        .exact .inr fun y ⟨r,N,O,G⟩=>U r N O y G
        .exact .inl (J.sub z h)
       .exact .inr fun y G=>J.mono y (h y G)
      rcases F with F|F
      .exact B (.inl F)
      .rcases J.fresh z F with h|⟨_,h⟩
       .exact B (.inr h)
       .exact .inl h)
    refine ⟨K,(Z6 ?_).trans r1,r2⟩;show (if decide (0<(((x::c).length:Nat):Int))=true then _ else _)=_
    rw [yp (decide_eq_true (by simp only[AE];omega)),Zj _ (by simp only[AE];omega)];show chk _ (forL _ _ R 0 (m,c))=_
    rw [Zj _ (by simp only[AE];omega)];exact e _
 unfold ZeO;refine key (Zh0 (R.flatMap YO) []+1) [] [a] yG ?_ (fun y G=>by simp [ZdQ,Zbi,Zhv]at G) (fun y G=>.inl (by simpa using G)) (fun z F=>.inl ?_)
 .have:=hR.n;have V:Zh0 (R.flatMap YO) []<=(R.flatMap YO).length:=Ay;omega
 .rcases F with rfl|F
  .simp
  .simp [ZdQ,Zbi,Zhv]at F
def ZlS(U row:List BYT):Nat:=U.countP fun y=>!YT row y
theorem Zqz{row:List BYT}{y z:BYT}:YT (row++[y]) z=true↔YT row z=true\/z=y:=by
 rw [Qi,Qi,AA,AY]
theorem Ztr{U row:List BYT}{y:BYT}(C:y∈U)(B:YT row y=false):ZlS U (row++[y])+1<=ZlS U row:=
 Zgm (fun z _ A=>by
  cases h:YT row z with
  |false=>rfl
  |true=>have:=Zqz (y:=y).2 (.inl h);rw [this]at A;simp at A) y C (by have:=Zqz (row:=row) (y:=y) (z:=y).2 (.inr rfl);rw [this];rfl) (by rw [B];rfl)
open Classical
theorem Zm5{R:List Zf}(hR:XD R)(a b:BYT):ZcJ R a b=some (decide (XN R a b)):=by
 have hU:∀r∈R,∀y∈YO r,y∈R.flatMap YO:=fun r mr y my=>AU.2 ⟨r,mr,my⟩;unfold ZcJ;have key:∀(n u:Nat) (row:List BYT),ZlS (R.flatMap YO) row+row.length<=n+u->n+u<=1048577->u<=row.length->(∀y∈row,y=a\/XN R a y)->a∈row->(∀i x,i<u->row[i]?=some x->∀y,Zhu R x y->y∈row/\y≠b)->
   iter (σ:=(List BYT)×Int)
  (fun s=>
   match s with
   |(row_55,u_56)=>
   if (decide (u_56<(row_55.length:Int)))=true then
    forL (σ:=(List BYT))
     (fun (J:Nat) (k:Zf) d=>
      (ZaD k).bind fun v=>
      chk (0<=u_56/\u_56<(d.length:Int)) <|
      (d[(Ae u_56)]?).bind fun w=>
      (Z4 v w).bind fun A=>
      if A=true then
       (Zc7 k).bind fun l=>
       (Z4 l b).bind fun B=>
       if B=true then
        some (.inr (.inr true))
       else
        forL (σ:=(List BYT))
         (fun (o:Nat) (f:BYT) c=>
          (Z4 c f).bind fun j=>
          if j=true then
           some (.inl c)
          else
           chk (c.length+1<=1073741824) <|
           some (.inl (c++[f])))
         (fun c=>
          some (.inl c))
         l 0 d
      else
       some (.inl d))
     (fun d=>
      some (.inl (d,(i64.wrap (u_56+1)))))
     R 0 row_55
   else
    some (.inr false))
  (row,(u:Int))=some (decide (XN R a b)):=by
  intro n;have fin:∀(u:Nat) (row:List BYT),u=row.length->a∈row->(∀i x,i<u->row[i]?=some x->∀y,Zhu R x y->y∈row/\y≠b)->¬XN R a b:=fun u row hu ha hc hb=>by
   have all:∀y,XN R a y->y∈row/\y≠b:=fun y hy=>by
    have one:∀x,x∈row->∀y,Zhu R x y->y∈row/\y≠b:=fun x mx y h=>by
     obtain ⟨i,hi⟩:=List.mem_iff_getElem?.1 mx;exact hc i x (by rw [hu];exact (AX.1 hi).1) hi y h
    induction hy with
    |one h=>exact one a ha _ h
    |next _ h ih=>exact one _ ih.1 _ h
   exact (all b hb).2 rfl
  have t:∀(u:Nat) (row:List BYT),u=row.length->a∈row->(∀i x,i<u->row[i]?=some x->∀y,Zhu R x y->y∈row/\y≠b)->decide (XN R a b)=false:=fun u row h1 h2 h3=>decide_eq_false (fin u row h1 h2 h3);induction n with
  |zero=>
   intro u row hn _ hu h1 ha hc;have C:u=row.length:=by omega
   rw [t u row C ha hc];refine ZU ?_;show (if decide ((u:Int)<(row.length:Int))=true then _ else _)=_
   rw [yn (by rw [decide_eq_true_iff];omega)]
  |succ n ih=>
   intro u row hn hN hu h1 ha hc;by_cases D:u<row.length
   .have hx:row[u]?=some row[u]:=AD D;generalize row[u]=x at hx
    have F:x=a\/XN R a x:=h1 x (Ac hx);rcases Zc8 (ρ:=((List BYT)×Int) ⊕ Bool) (body:=fun (J:Nat) (k:Zf) (d:List BYT)=>
      (ZaD k).bind fun v=>
      chk (0<=(u:Int)/\(u:Int)<(d.length:Int)) <|
      (d[(Ae (u:Int))]?).bind fun w=>
      (Z4 v w).bind fun A=>
      if A=true then
       (Zc7 k).bind fun l=>
       (Z4 l b).bind fun B=>
       if B=true then
        some (.inr (.inr true))
       else
        forL (σ:=(List BYT))
         (fun (o:Nat) (f:BYT) c=>
          (Z4 c f).bind fun j=>
          if j=true then
           some (.inl c)
          else
           chk (c.length+1<=1073741824) <|
           some (.inl (c++[f])))
         (fun c=>
          some (.inl c))
         l 0 d
      else
       some (.inl d)) (fun E r2=>(∃q,r2=row++q)/\ZlS (R.flatMap YO) r2+r2.length<=n+1+u/\(∀y∈r2,y=a\/XN R a y)/\∀r∈E,x∈X2 r->∀y∈YO r,y∈r2/\y≠b) (fun z=>z=.inr true/\XN R a b) R row ⟨⟨[],yG⟩,hn,h1,yG⟩ fun p r r2 mr hp hI=>by
     obtain ⟨⟨q,rfl⟩,g1,g2,g3⟩:=hI;have G:=hR.s r mr;have K:(row++q)[u]?=some x:=by rw [As D];exact hx
     rw [ZjF r G.tl,A0,Zj _ (by simp;omega),Ad,K,A0,YL,A0];by_cases hw:x∈X2 r
     .have hh:YT (Z9 (X2 r)) x=true:=by rw [Qi,Z3];exact hw
      rw [yp hh,ZrO r G.cl,A0,YL,A0];by_cases hb:b∈YO r
      .have hh:YT (Z9 (YO r)) b=true:=by rw [Qi,Z3];exact hb
       rw [yp hh];exact .inr ⟨_,rfl,rfl,XN.step F ⟨r,mr,hw,hb⟩⟩
      .have hh:¬YT (Z9 (YO r)) b=true:=by rw [Qi,Z3];exact hb
       rw [yn hh];obtain ⟨r3,e3,⟨q3,H⟩,k1,k2,k3⟩:=Zgh (ρ:=(List BYT) ⊕ (((List BYT)×Int) ⊕ Bool)) (body:=fun (o:Nat) (f:BYT) (c:List BYT)=>
          (Z4 c f).bind fun j=>
          if j=true then
           some (.inl c)
          else
           chk (c.length+1<=1073741824) <|
           some (.inl (c++[f]))) (fun E r3=>(∃q',r3=(row++q)++q')/\ZlS (R.flatMap YO) r3+r3.length<=n+1+u/\(∀y∈r3,y=a\/XN R a y)/\∀y∈E,y∈r3) (Z9 (YO r)) (row++q) ⟨⟨[],yG⟩,g1,g2,yG⟩ fun p y r3 my hp hI=>by
        obtain ⟨⟨q',rfl⟩,k1,k2,k3⟩:=hI;have I:y∈YO r:=Z3.1 my;rw [YL,A0];by_cases hh:YT (row++q++q') y=true
        .rw [yp hh];refine ⟨_,rfl,⟨q',rfl⟩,k1,k2,fun z mz=>?_⟩;rcases AA.1 mz with mz|mz
         .exact k3 z mz
         .rw [AY.1 mz];exact Qi.1 hh
        .have hf:YT (row++q++q') y=false:=by simpa using hh
         have hab:=Ztr (hU r mr y I) hf;rw [yn hh,Zj _ yE];refine ⟨_,rfl,⟨q'++[y],yG⟩,by rw [AH];simp only[Ap];omega,fun z mz=>?_,fun z mz=>?_⟩
         .rcases AA.1 mz with mz|mz
          .exact k2 z mz
          .rw [AY.1 mz];exact .inr (XN.step F ⟨r,mr,hw,I⟩)
         .rcases AA.1 mz with mz|mz
          .exact AA.2 (.inl (k3 z mz))
          .exact AA.2 (.inr mz)
       refine .inl ⟨r3,e3 _,⟨q++q3,by rw [H];simp⟩,k1,k2,fun r' g m y my=>?_⟩;rcases AA.1 g with g|g
       .have:=g3 r' g m y my;exact ⟨by rw [H];exact AA.2 (.inl this.1),this.2⟩
       .rw [AY.1 g]at my;exact ⟨k3 y (Z3.2 my),fun e=>hb (e ▸ my)⟩
     .have hh:¬YT (Z9 (X2 r)) x=true:=by rw [Qi,Z3];exact hw
      rw [yn hh];refine .inl ⟨_,rfl,⟨q,rfl⟩,g1,g2,fun r' g m=>?_⟩;rcases AA.1 g with g|g
      .exact g3 r' g m
      .rw [AY.1 g]at m;exact absurd m hw
    with ⟨r2,e,⟨q,rfl⟩,k1,k2,k3⟩|⟨z,e,rfl,hb⟩
    .refine (Z6 ?_).trans (ih (u+1) (row++q) yE yE (by rw [AH];omega) k2 (AA.2 (.inl ha)) fun i y hi hy z hz=>?_)
     .show (if decide ((u:Int)<(row.length:Int))=true then _ else _)=_
      rw [yp (decide_eq_true yE),e,Yo yE yE];rfl
     .by_cases L:i<u
      .rw [As yE]at hy;have:=hc i y L hy z hz;exact ⟨AA.2 (.inl this.1),this.2⟩
      .have:i=u:=by omega
       subst this;rw [As D,hx]at hy;obtain rfl:=Aa hy;obtain ⟨r,mr,hw,hr⟩:=hz;exact k3 r mr hw z hr
    .rw [decide_eq_true hb];refine ZU ?_;show (if decide ((u:Int)<(row.length:Int))=true then _ else _)=_
     rw [yp (decide_eq_true yE),e]
   .have C:u=row.length:=by omega
    rw [t u row C ha hc];refine ZU ?_;show (if decide ((u:Int)<(row.length:Int))=true then _ else _)=_
    rw [yn (by rw [decide_eq_true_iff];omega)]
 refine key 1048577 0 [a] ?_ yE yG (fun y hy=>.inl (by simpa using hy)) yG (fun i x hi=>by omega);have h1:=hR.n;have h2:ZlS (R.flatMap YO) [a]<=(R.flatMap YO).length:=Ay;simp only[Ap];omega
end
section
theorem Zze(l:List Zf)(n:BYT):∃z,Qz l n=some z:=by
 unfold Qz;rcases Zc8 (ρ:=Int) (body:=fun (B:Nat) (A:Zf) (_:Unit)=>
   if (sEq A.name n)=true then
    some (.inr (B:Int))
   else
    some (.inl ())) (fun _ _=>True) (fun _=>True) l () trivial (fun p x s C D _=>by
  cases h:sEq x.name n with
  |true=>exact .inr ⟨_,by rw [yp rfl],trivial⟩
  |false=>exact .inl ⟨(),by rw [yn yG],trivial⟩) with ⟨s,e,_⟩|⟨z,e,_⟩
 .exact ⟨-1,e _⟩
 .exact ⟨z,e _⟩
def Zgw(l:List Zf)(n:BYT):Int:=(Qz l n).getD 0
theorem Zao(l:List Zf)(n:BYT):Qz l n=some (Zgw l n):=by
 obtain ⟨z,h⟩:=Zze l n;unfold Zgw;rw [h];rfl
theorem ZjM(l:List Zf)(n:BYT):Ze3 l n=some (Zgw l n):=Zao l n
def ZhL(R:List Zf)(j:Nat)(r:Zf):Bool:=YA r&&(Zgw R r.name==(j:Int))
def YK(R:List Zf):Bool:=decide (R.length<=6)&&Zav (ZhL R) R 0
theorem Zp5{R:List Zf}(h:∀r∈R,Q6 r):ZeK R=some (YK R):=by
 unfold ZeK YK;by_cases B:R.length<=6
 .rw [yn (by simp;omega),decide_eq_true B,Am,XM (p:=ZhL R) (r:=false)]
  .cases Zav (ZhL R) R 0<;>rfl
  .intro j r C;rw [Zh2 r (h r (Ac C)),A0,Zao];unfold ZhL;simp only[A0,AS];cases YA r with
   |false=>rfl
   |true=>
    by_cases A:Zgw R r.name=(j:Int)
    .simp [A]
    .have e:(Zgw R r.name==(j:Int))=false:=by simpa using A
     simp [e,A]
 .rw [yp (by simp;omega),decide_eq_false B];rfl
theorem ZpP{R:List Zf}(h:∀r∈R,Q6 r):Zen R=some (YK R):=by
 unfold Zen YK;rw [XM (p:=ZhL R) (r:=false)]
 .have:decide ((R.length:Int)<=6)=decide (R.length<=6):=by rw [AM];simp;omega
  rw [this];cases Zav (ZhL R) R 0<;>simp
 .intro j r B;rw [Zb9 r (h r (Ac B)),A0,ZjM];unfold ZhL;simp only[A0,AS];cases YA r with
  |false=>rfl
  |true=>
   by_cases A:Zgw R r.name=(j:Int)
   .simp [A]
   .have e:(Zgw R r.name==(j:Int))=false:=by simpa using A
    simp [e,A]
open Classical
def ZkQ(R:List Zf)(rel w:BYT):Bool:=!sEq w rel&&!decide (XN R rel w)
def Zil(R:List Zf)(r:Zf)(x:Zu):Bool:=!(x.kind==2)||(Z9 (X2 r)).all (ZkQ R x.pattern.rel)
def Xm(R:List Zf)(r:Zf):Bool:=ZY r&&r.cond.all (Zil R r)
theorem Zhl{R:List Zf}(B:XD R):Zcn R=some (YK R&&R.all (Xm R)):=by
 unfold Zcn;rw [Zp5 B.s,A0];cases YK R with
 |false=>rfl
 |true=>
  rw [yp rfl,Yb (p:=Xm R) (r:=false)]
  .cases R.all (Xm R)<;>rfl
  .intro i r C;have a:=B.s r C;rw [Zn2 r a,A0];unfold Xm;cases ZY r with
   |false=>rfl
   |true=>
    rw [yp rfl,Yb (p:=Zil R r) (r:=.inr false)]
    .cases r.cond.all (Zil R r)<;>rfl
    .intro i x E;unfold Zil;by_cases A:x.kind=2
     .obtain ⟨m,e,D⟩:=Zpx B x.pattern.rel;rw [yn (by simp [A]),e,A0,ZjJ r a.tl,A0,Yb (p:=ZkQ R x.pattern.rel) (r:=.inr (.inr false))]
      .rw [show (!(x.kind==2))=false by simp [A],Ax];cases (Z9 (X2 r)).all (ZkQ R x.pattern.rel)<;>rfl
      .intro i w F;unfold ZkQ;have:Zbi m w false=decide (XN R x.pattern.rel w):=by
        rw [AM,decide_eq_true_iff];exact D w
       rw [this];cases sEq w x.pattern.rel<;>cases decide (XN R x.pattern.rel w)<;>rfl
     .rw [yp (by simp [A]),show (!(x.kind==2))=true by simp [A]];rfl
theorem Zyk{α ρ:Type}{r:ρ}:∀(l:List α),forL (σ:=Unit) (fun (_:Nat) (_:α) _=>some (.inr r)) (fun _=>some r) l 0 ()=some r
 | []=>rfl
 |_::_=>rfl
theorem ZzJ(x y:BYT):sEq x y=sEq y x:=by
 rw [AM,ZV,ZV];exact eq_comm
theorem Zhn{R:List Zf}(B:XD R):ZcE R=some (YK R&&R.all (Xm R)):=by
 unfold ZcE;rw [Yb (p:=Xm R) (r:=false)]
 .rw [ZpP B.s,A0];cases R.all (Xm R)<;>simp
 .intro i r C;have a:=B.s r C;rw [ZoW r a,A0];unfold Xm;cases ZY r with
  |false=>rfl
  |true=>
   rw [yp rfl,ZjF r a.tl,A0,Yb (p:=Zil R r) (r:=.inr false)]
   .cases r.cond.all (Zil R r)<;>rfl
   .intro i x E;unfold Zil;by_cases A:x.kind=2
    .rw [Yb (p:=ZkQ R x.pattern.rel) (r:=.inr (.inr false))]
     .rw [show (!(x.kind==2))=false by simp [A],Ax];cases (Z9 (X2 r)).all (ZkQ R x.pattern.rel)<;>rfl
     .intro i w F;rw [yp (by simp [A]),Zm5 B,ZzJ];unfold ZkQ;cases sEq w x.pattern.rel<;>cases decide (XN R x.pattern.rel w)<;>rfl
    .have D:(x.kind==2)=false:=by simp [A]
     simp only[D,AC,if_false];rw [Zyk];rfl
end
section
open Classical
theorem Zmt(a b:Za):Zfa a b=some (decide (a=b)):=Xj a b
def ZeY(F:List Za)(i:Nat)(x:Za):Bool:=Yt x&&(if i=0 then true else match F[i - 1]? with|some y=>decide (Zfk y x<0)|none=>true)
def Z7(F:List Za):Bool:=decide (F.length<=24)&&Zav (ZeY F) F 0
theorem ZnB{α:Type}{p:Nat->α->Bool}{q:α->Bool}(h:∀i x,p i x=true->q x=true):∀{l:List α}{i:Nat},Zav p l i=true->∀x∈l,q x=true
 | [],_,_=>by simp
 |y::l,i,ha=>by
  simp only[Zav,A9]at ha;intro x A;rcases AB.1 A with rfl|A
  .exact h i _ ha.1
  .exact ZnB h ha.2 x A
theorem Qk{F:List Za}(h:Z7 F=true):F.length<=24/\∀f∈F,Yt f=true:=by
 unfold Z7 at h;rw [A9,decide_eq_true_iff]at h;refine ⟨h.1,ZnB (fun i x A=>?_) h.2⟩;unfold ZeY at A;rw [A9]at A;exact A.1
theorem Xh{f:Za}(h:Yt f=true):f.args.length<=3:=by
 unfold Yt at h;simp only[A9,decide_eq_true_iff]at h;exact h.1.2
theorem ZqQ{F:List Za}(E:F.length<=1048576){i:Nat}{x:Za}(C:F[i]?=some x):
  (if Yt x=true then (if (decide (0<(i:Int)))=true then (atI F (i64.wrap ((i:Int) - 1))).bind fun a=>(some (Zfk a x)).bind fun b=>if (decide (0<=b))=true then some (.inr false) else some (.inl ()) else some (.inl ())) else some (.inr false):Option (Unit ⊕ Bool))
   = some (bif ZeY F i x then .inl () else .inr false):=by
 have hi:=(AX.1 C).1;unfold ZeY;cases Yt x with
 |false=>rfl
 |true=>
  rw [yp rfl];by_cases B:i=0
  .subst B;rw [yn yG];simp
  .have D:F[i - 1]?=some F[i - 1]:=AD yE;rw [yp (by simp;omega),show (i:Int) - 1=((i - 1:Nat):Int) by omega,ZfB yE yE,Zar,D,A0,A0,yn B];by_cases A:Zfk F[i - 1] x<0
   .rw [yn (by simpa using A)];simp [A]
   .rw [yp (by simpa using A)];simp [A]
theorem ZfS(F:List Za):Zc3 F=some (Z7 F):=by
 unfold Zc3 Z7;by_cases h:F.length<=24
 .rw [yn (by simp;omega),decide_eq_true h,XM (p:=ZeY F) (r:=false)]
  .cases Zav (ZeY F) F 0<;>rfl
  .intro j x A;rw [AS,ZmM,A0];simp only[Zfx];exact ZqQ yE A
 .rw [yp (by simp;omega),decide_eq_false h];rfl
theorem ZfR(F:List Za)(B:F.length<=1048576):ZcZ F=some (Z7 F):=by
 unfold ZcZ Z7;rw [XM (p:=ZeY F) (r:=false)]
 .have:decide ((F.length:Int)<=24)=decide (F.length<=24):=by rw [AM];simp;omega
  rw [this];cases Zav (ZeY F) F 0<;>simp
 .intro j x A;rw [AS,ZmO,A0];simp only[Zfm];exact ZqQ B A
theorem ZhN(l:List Za)(B:l.length<=1048576)(h:∀f∈l,f.args.length<=1048576):Zb7 l=some l:=by
 unfold Zb7;rw [Zlo (g:=fun y=>y)]
 .simp
 .intro j y s A hs;rw [Xl y (h y A),A0,Zj _ (by simp at hs;omega)]
theorem ZfQ(l:List Za)(B:l.length<=1048576)(h:∀f∈l,f.args.length<=1048576):ZbL l=some l:=by
 unfold ZbL;rw [Zlo (g:=fun y=>y)]
 .simp
 .intro j y s A hs;rw [Y6 y (h y A),A0,Zj _ (by simp at hs;omega)]
structure Zzy (F:List Za) (t:Zw):Prop where
 bind:t.binding.length<=6
 len:t.facts.length<=4
 args:∀f∈t.facts,f.args.length<=3
theorem ZoY.s{p:List Zu}{F:List Za}{t:Zw}(h:ZoY p F t)(C:p.length<=4)(B:∀f∈F,f.args.length<=3):Zzy F t:=
 ⟨QT h.bind,by have:=h.len;omega,fun f A=>B f (h.sub f A)⟩
theorem Zre{ρ:Type}{x:Zu}{F:List Za}{body:Nat->Zw->List Zw->Option (List Zw ⊕ ρ)}{fin:List Zw->Option ρ}(C:F.length<=24)(ts:List Zw)(A:ts.length<=331776)
  (B:∀i t row,t∈ts->row.length<=10000000->body i t row=some (.inl (row++ZbT x F t))):forL body fin ts 0 []=fin (ZhE x F ts):=by
 have a:ZhE x F []=[]:=rfl;rw [<-a,Zbg (fun p=>ZhE x F p) ts];intro p t q e;have hl:=ZnE x F C p;have D:p.length<=ts.length:=by rw [e];simp
 rw [B _ _ _ (by rw [e];simp) yE];unfold ZhE;rw [BB];simp
theorem ZfI(l:List Zu)(F:List Za)(K:l.length<=4)(D:F.length<=24)(C:∀f∈F,f.args.length<=3):Q3 l F=some (ZD l F):=by
 unfold Q3;have I:ZD [] F=[({ facts:=[],binding:=[] }:Zw)]:=rfl;rw [<-I,Zbg (fun p=>ZD p F) l];intro p x q e;have H:p.length+(q.length+1)=l.length:=by rw [e,AH,AE]
 rw [Xx];refine Zre (fin:=fun r=>(some (Sum.inl r):Option (List Zw ⊕ List Zw))) D (ZD p F) (Zg9 F D p yE) (fun i t row E J=>?_);have ht:=(QL F p t E).s yE C;unfold ZbT;by_cases A:x.kind=1
 .rw [yn (by simpa using A),yp A,Y0 (g:=fun f=>(ZaC x.pattern f t.binding).map fun b=>({ facts:=t.facts++[f],binding:=b }:Zw))];intro j f s B hs;rw [Zh7,A0,Zg4];cases hm:ZaC x.pattern f t.binding with
  |none=>simp
  |some b=>
   simp only[BZ,if_true];rw [ZhN _ (by have:=ht.len;omega) (fun g G=>by have:=ht.args g G;omega),A0,Xl f (by have:=C f B;omega),A0,Zj _ (by have:=ht.len;omega),Zj _ yE];rfl
 .rw [yp (by simpa using A),yn A,Zns _ _ _ yE (fun f B=>by have:=C f B;omega),A0];split
  .rw [Zj _ yE]
  .simp
theorem Zt8{F:List Za}{t:Zw}(A:Zzy F t):Ziv t=some t:=by
 unfold Ziv ZdO;rw [ZfQ _ (by have:=A.len;omega) (fun g B=>by have:=A.args g B;omega),A0,Zj _ (by have:=A.bind;omega)];rfl
theorem Zuc(ts:List Zw)(x:Zu)(F:List Za)(a:ts.length<=331776)(G:F.length<=24)(C:∀f∈F,f.args.length<=3)(ht:∀t∈ts,Zzy F t):Zie ts x F=some (ZhE x F ts):=by
 unfold Zie;refine Zre (fin:=fun r=>some r) G ts a (fun i t row D H=>?_);have ht:=ht t D;have htb:=ht.bind;unfold ZbT;by_cases A:x.kind=1
 .rw [yn (by simpa using A),yp A,Y0 (g:=fun f=>(ZaC x.pattern f t.binding).map fun b=>({ facts:=t.facts++[f],binding:=b }:Zw))];intro j f s B hs;rw [ZiJ _ _ _ yE,A0,Zg4];cases hm:ZaC x.pattern f t.binding with
  |none=>simp
  |some b=>
   simp only[BZ,if_true];rw [ZfQ _ (by have:=ht.len;omega) (fun g E=>by have:=ht.args g E;omega),A0,Y6 f (by have:=C f B;omega),A0,Zj _ (by have:=ht.len;omega),Zj _ yE];rfl
 .rw [yp (by simpa using A),yn A,ZnY _ _ _ yE yE (fun f B=>by have:=C f B;omega),A0];split
  .rw [Zt8 ht,A0,Zj _ yE]
  .simp
theorem ZfY(l:List Zu)(F:List Za)(G:l.length<=4)(A:F.length<=24)(B:∀f∈F,f.args.length<=3):QY l F=some (ZD l F):=by
 unfold QY;have E:ZD [] F=[({ facts:=[],binding:=[] }:Zw)]:=rfl;rw [<-E,Zbg (fun p=>ZD p F) l];intro p x q e;have D:p.length+(q.length+1)=l.length:=by rw [e,AH,AE]
 rw [Xx,Zuc _ _ _ (Zg9 F A p yE) A B (fun t C=>(QL F p t C).s yE B)];rfl
theorem ZpG(r:Zf)(F:List Za)(B:Q6 r)(C:F.length<=1048576):ZeP r (r.cond.length:Int) F=some (if (YA r&&Z7 F)=true then ZD r.cond F else []):=by
 unfold ZeP;rw [Zb9 r B,A0];cases h1:YA r with
 |false=>rfl
 |true=>
  rw [yp rfl,ZfR F C,A0];cases h2:Z7 F with
  |false=>rfl
  |true=>
   obtain ⟨a,b⟩:=Qk h2;have hc:=(ZaV h1).1;rw [yp rfl,Zvf,A0,yp yG,Zj _ yE,Ad,Ba,List.drop_zero,ZfY _ _ hc a (fun f A=>Xh (b f A))];rfl
theorem Zlx{R:List Zf}(h:YK R=true):R.length<=6/\∀r∈R,YA r=true:=by
 unfold YK at h;rw [A9,decide_eq_true_iff]at h;refine ⟨h.1,ZnB (fun i x A=>?_) h.2⟩;unfold ZhL at A;rw [A9]at A;exact A.1
theorem Zyz{r:Zf}(h:YA r=true):∀a∈r.thn,a.kind=1->Z0 a.pattern=true/\∀v∈a.pattern.args,Yu v=true->v∈YR r.cond:=by
 intro a C E;unfold YA at h;simp only[A9]at h;have ha:=AN.1 h.1.2 a C;rw [A9]at ha;obtain ⟨A,F⟩:=ha;unfold X7 at A;rw [yp (.inl E)]at A;refine ⟨A,fun v B D=>?_⟩;have:=AN.1 F v (Zc1.2 ⟨B,D⟩);rw [Qi]at this;unfold YU at this;rw [Z3,Ba]at this;exact this
end
section
open Classical
theorem ZgD{α:Type}:∀{l m:List α},l.Nodup->(∀x∈l,x∈m)->l.length<=m.length
 | [],_,_,_=>BK _
 |x::l,m,h,hs=>by
  rw [Bb]at h;have B:x∈m:=hs x yG;have h2:=ZgD (m:=m.erase x) h.2 (fun y A=>(List.mem_erase_of_ne (fun e=>h.1 (by rw [<-e];exact A))).2 (hs y (by simp [A])));rw [List.length_erase_of_mem B]at h2;have:=List.length_pos_of_mem B;simp only[AE];omega
theorem ZwE{α:Type}{l m:List α}(D:l.Nodup)(hs:∀x∈l,x∈m)(E:m.length<=l.length):∀x∈m,x∈l:=fun x B=>by
 refine Classical.byContradiction fun C=>?_;have:=ZgD (l:=x::l) (m:=m) (Bb.2 ⟨C,D⟩) (fun y A=>by
  rcases AB.1 A with rfl|A
  .exact B
  .exact hs y A)
 simp only[AE]at this;omega
theorem ZkB(x:Za):¬Zfk x x<0:=by rw [(Zdl.eq x x).2 rfl];omega
theorem Zkd{l:List Za}(h:ZfX l):l.Nodup:=List.Pairwise.imp (fun {a b} c e=>by subst e;exact ZkB a c) h
theorem ZoD:∀{a b:List Za},ZfX a->ZfX b->(∀x,x∈a↔x∈b)->a=b
 | [],[],_,_,_=>rfl
 | [],y::b,_,_,h=>by have:=(h y).2 yG;simp at this
 |x::a,[],_,_,h=>by have:=(h x).1 yG;simp at this
 |x::a,y::b,ha,hb,h=>by
  unfold ZfX at ha hb;rw [Ah]at ha hb;have e:x=y:=by
   rcases AB.1 ((h x).1 yG) with e|C
   .exact e
   .rcases AB.1 ((h y).2 yG) with e|B
    .exact e.symm
    .exact absurd (Zdl.tr _ _ _ (ha.1 y B) (hb.1 x C)) (ZkB x)
  subst e;rw [ZoD ha.2 hb.2 fun z=>?_];constructor
  .intro A;rcases AB.1 ((h z).1 (by simp [A])) with e|c
   .subst e;exact absurd (ha.1 z A) (ZkB z)
   .exact c
  .intro A;rcases AB.1 ((h z).2 (by simp [A])) with e|c
   .subst e;exact absurd (hb.1 z A) (ZkB z)
   .exact c
theorem ZkP{f:Za}:∀{l:List Za},f∉l->(Zbe l f).length=l.length+1
 | [],_=>rfl
 |x::l,h=>by
  simp only[AB,not_or]at h;simp only[Zbe];split
  .rw [AE,ZkP h.2];rfl
  .rw [yn (fun e=>h.1 ((Zdl.eq _ _).1 e).symm)];rfl
def QB(r:Zf):List Zu:=r.cond.filter fun x=>x.kind != 2
theorem Zq5{r:Zf}:∀x∈QB r,¬x.kind=2:=fun x A=>by
 have:=(BL.1 A).2;simpa using this
theorem Zey(r:Zf):(QB r).length<=r.cond.length:=Bc _ _
theorem Zvu(l:List Zu):YR (l.filter fun x=>x.kind != 2)=YR l:=by
 induction l with
 |nil=>rfl
 |cons x l ih=>
  by_cases A:x.kind=2
  .rw [List.filter_cons_of_neg (by simpa using A),ih];simp [YR,A]
  .rw [List.filter_cons_of_pos (by simpa using A)];unfold YR at ih ⊢;rw [BA,BA,ih]
theorem ZcM(r:Zf)(h:r.cond.length<=1048576):YX r=some (QB r):=by
 unfold YX QB;rw [ZfE (p:=fun x:Zu=>x.kind != 2)]
 .simp
 .intro j x s A hs;split
  .rw [Zj _ (by simp at hs;omega)]
  .rfl
theorem ZgB(r:Zf)(h:r.cond.length<=1048576):XG r=some (QB r):=ZcM r h
theorem ZtX{F G:List Za}(h:∀f∈F,f∈G):∀{l:List Zu},(∀x∈l,¬x.kind=2)->∀t∈ZD l F,t∈ZD l G:=by
 have:∀n (l:List Zu),l.length=n->(∀x∈l,¬x.kind=2)->∀t∈ZD l F,t∈ZD l G:=by
  intro n;induction n with
  |zero=>intro l B _ t A;rw [Aj B]at A ⊢;exact A
  |succ n ih=>
   intro l B C;obtain ⟨p,x,rfl⟩:∃p x,l=p++[x]:=⟨l.dropLast,l.getLast (by intro e;simp [e]at B),(B9 _).symm⟩
   intro t A;rw [Xx]at A ⊢;obtain ⟨s,H,A⟩:=AU.1 A;refine AU.2 ⟨s,ih p (by simpa using B) (fun y E=>C y (by simp [E])) s H,?_⟩;unfold ZbT at A ⊢;by_cases D:x.kind=1
   .rw [yp D]at A ⊢;obtain ⟨f,I,e⟩:=Ab.1 A;exact Ab.2 ⟨f,h f I,e⟩
   .have h2:=C x yG;have e:Zbj x s.binding G=Zbj x s.binding F:=by unfold Zbj;simp only[yn D,yn h2]
    rw [yn D]at A ⊢;rw [e];exact A
 intro l C;exact this _ l rfl C
theorem Zle{F:List Za}(h:Z7 F=true):ZfX F:=by
 unfold Z7 at h;rw [A9]at h;have c:∀i y x,F[i]?=some y->F[i+1]?=some x->Zfk y x<0:=fun i y x B C=>by
  have:=Zi0 h.2 (i+1) x C;unfold ZeY at this;rw [A9,AS,yn yE,BX,B]at this;simpa using this.2
 have key:∀(l:List Za),(∀i y x,l[i]?=some y->l[i+1]?=some x->Zfk y x<0)->ZfX l:=by
  intro l;induction l with
  |nil=>intro _;exact BC
  |cons a l ih=>
   intro D;have hp:=ih (fun i y x B C=>D (i+1) y x (by simpa using B) (by simpa using C));unfold ZfX at hp ⊢;rw [Ah];refine ⟨fun x A=>?_,hp⟩;cases l with
   |nil=>simp at A
   |cons b l=>
    have d:=D 0 a b rfl rfl;rcases AB.1 A with rfl|A
    .exact d
    .rw [Ah]at hp;exact Zdl.tr _ _ _ d (hp.1 x A)
 exact key F c
def Yn(a:Zy)(t:Zw):Za:=(XJ (YW a.pattern t.binding)).1
def Zlw(R:List Zf)(G:List Za):Prop:=∀r∈R,∀t∈ZD (QB r) G,∀a∈r.thn,Yn a t∈G
structure Cl (R:List Zf) (base G:List Za):Prop where
 asc:ZfX G
 base:∀f∈base,f∈G
 closed:Zlw R G
structure ZgF (R:List Zf) (base F:List Za):Prop where
 asc:ZfX F
 ok:∀f∈F,Yt f=true
 inc:∀f∈base,f∈F
 low:∀G,Cl R base G->∀f∈F,f∈G
def ZpR(R:List Zf)(base:List Za):Prop:=∀G,Cl R base G->25<=G.length
theorem ZgF.over{R:List Zf}{base F:List Za}(h:ZgF R base F)(A:25<=F.length):ZpR R base:=fun G B=>AW A (ZgD (Zkd h.asc) (h.low G B))
theorem ZgF.add{R:List Zf}{base F:List Za}(h:ZgF R base F){f:Za}(C:Yt f=true)(a:∀G,Cl R base G->f∈G):ZgF R base (Zbe F f) where
 asc:=Zpv h.asc
 ok:=fun g A=>by
  rcases XR.1 A with rfl|A
  .exact C
  .exact h.ok g A
 inc:=fun g A=>XR.2 (.inr (h.inc g A))
 low:=fun G B g A=>by
  rcases XR.1 A with rfl|A
  .exact a G B
  .exact h.low G B g A
theorem Zmu{b:List Zx}(B:Ye b=true):∀{p l:List BYT},ZbU p b=some l->l.all Z2=true/\l.length=p.length
 | [],l,h=>by
  simp only[ZbU,BT]at h;subst h;simp
 |a::p,l,h=>by
  simp only[ZbU]at h;obtain ⟨v,A,h⟩:=BU.1 h;obtain ⟨F,c,rfl⟩:=B5.1 h;obtain ⟨E,D⟩:=Zmu B c;have ha:Z2 v=true:=by
   unfold Xn at A;split at A
   .rename_i ha;obtain rfl:=Aa A;exact ha
   .split at A
    .obtain ⟨x,C,_,rfl⟩:=ZxP A;unfold Ye at B;rw [A9]at B;have:=(ZxR B.2 x C).1;unfold ZgP at this;rw [A9]at this;exact this.2
    .simp at A
  simp [ha,E,D]
theorem Zw0{r:Zf}{F:List Za}{t:Zw}(A:ZY r=true)(G:t∈ZD (QB r) F){a:Zy}(B:a∈r.thn):Yt (Yn a t)=true:=by
 unfold ZY at A;simp only[A9]at A;have H:a.kind=1:=by
  have:=AN.1 A.2 a B;simpa using this
 have c:=QL F _ t G;obtain ⟨C,J⟩:=Zyz A.1.1 a B H;have hp:=C;unfold Z0 at hp;simp only[A9,decide_eq_true_iff]at hp;obtain ⟨l,e,_⟩:=ZeZ (b:=t.binding) hp.2 (fun v D E=>c.vars v (by
  unfold QB;rw [Zvu];exact J v D E))
 obtain ⟨I,K⟩:=Zmu c.bind e;have:YW a.pattern t.binding=some { rel:=a.pattern.rel,args:=l }:=by
  unfold YW;rw [yp ⟨C,c.bind⟩,e];rfl
 unfold Yn;rw [this];show Yt { rel:=a.pattern.rel,args:=l }=true
 unfold Yt;simp only[A9,decide_eq_true_iff];exact ⟨⟨hp.1.1,yE⟩,I⟩
theorem ZgF.derived{R:List Zf}{base F:List Za}(h:ZgF R base F){r:Zf}(C:r∈R){t:Zw}(B:t∈ZD (QB r) F){a:Zy}(D:a∈r.thn):∀G,Cl R base G->Yn a t∈G:=
 fun G A=>A.closed r C t (ZtX (h.low G A) Zq5 t B) a D
def Res(R:List Zf)(base:List Za)(x:List Za×Bool):Prop:=
 (x.2=true/\ZgF R base x.1/\x.1.length<=24/\Zlw R x.1)\/(x.2=false/\x.1=[]/\ZpR R base)
theorem Res.uniq{R:List Zf}{base:List Za}{x y:List Za×Bool}(M:Res R base x)(L:Res R base y):x=y:=by
 obtain ⟨F,b⟩:=x;obtain ⟨G,c⟩:=y;rcases M with ⟨I,B,H,K⟩|⟨I,B,H⟩<;>rcases L with ⟨D,A,C,J⟩|⟨D,A,C⟩<;>simp only at I B H D A C<;>subst I<;>subst D
 .have e:F=G:=ZoD B.asc A.asc fun f=>⟨fun E=>B.low G ⟨A.asc,A.inc,J⟩ f E,fun E=>A.low F ⟨B.asc,B.inc,K⟩ f E⟩
  rw [e]
 .have:=C F ⟨B.asc,B.inc,K⟩;omega
 .have:=H G ⟨A.asc,A.inc,J⟩;omega
 .rw [B,A]
structure Zkw (R:List Zf) (base row0:List Za) (s:List Za×Bool):Prop where
 good:ZgF R base s.1
 len:s.1.length<=24
 sub:∀f∈row0,f∈s.1
 grow:s.2=true->row0.length<s.1.length
 same:s.2=false->s.1=row0
theorem Zyo{ρ:Type}{R:List Zf}{base c:List Za}{r:Zf}(H:r∈R)(J:ZY r=true){d:List Za}(L:ZgF R base d){t:Zw}(E:t∈ZD (QB r) d){q:ρ}
  {body:Nat->Zy->(List Za×Bool)->Option ((List Za×Bool) ⊕ ρ)}
  (K:∀i a s,body i a s=(Yl s.1 (Yn a t)).bind fun g=>if (decide (0<=g))=true then some (.inl s) else if (decide (24<=(s.1.length:Int)))=true then some (.inr q) else (X8 s.1 (Yn a t)).bind fun j=>some (.inl (j,true)))
  (s:List Za×Bool) (h:Zkw R base c s):
  (∃s',(∀fin:(List Za×Bool)->Option ρ,forL body fin r.thn 0 s=fin s')/\Zkw R base c s'/\(s'.2=false->s.2=false/\∀a∈r.thn,Yn a t∈c))\/((∀fin:(List Za×Bool)->Option ρ,forL body fin r.thn 0 s=some q)/\ZpR R base):=by
 rcases Zc8 (body:=body) (fun p s'=>Zkw R base c s'/\(s'.2=false->s.2=false/\∀a∈p,Yn a t∈c)) (fun x=>x=q/\ZpR R base) r.thn s ⟨h,fun hs=>⟨hs,yG⟩⟩ (fun p a s' F O M=>by
  obtain ⟨A,G⟩:=M;rw [K];obtain ⟨z,I,k⟩:=ZfP s'.1 (Yn a t);rw [I,A0];have hok:=Zw0 J E F;have o:=L.derived H E F;by_cases B:Yn a t∈s'.1
  .left
   have u:¬z<0:=fun h=>k.1 h B;rw [yp (by simp;omega)];refine ⟨s',rfl,A,fun hs=>⟨(G hs).1,fun b C=>?_⟩⟩;rcases AA.1 C with C|C
   .exact (G hs).2 b C
   .simp at C;subst C;rw [<-A.same hs];exact B
  .have u:=k.2 B;rw [yn (by simp;omega)];by_cases N:24<=s'.1.length
   .right
    rw [yp (by simp;omega)];refine ⟨q,rfl,rfl,(A.good.add hok o).over ?_⟩;rw [ZkP B];omega
   .left
    rw [yn (by simp;omega),ZkK _ _ B yE (fun f D=>by have:=Xh (A.good.ok f D);omega) (by have:=Xh hok;omega),A0];refine ⟨_,rfl,⟨A.good.add hok o,by rw [ZkP B];omega,fun f D=>XR.2 (.inr (A.sub f D)),fun _=>?_,fun h=>by simp at h⟩,fun h=>by simp at h⟩;rw [ZkP B];have:=ZgD (l:=c) (m:=s'.1);cases hs:s'.2 with
    |true=>have:=A.grow hs;omega
    |false=>rw [A.same hs];omega) with ⟨s',e,h'⟩|⟨x,e,rfl,h'⟩
 .exact .inl ⟨s',e,h'⟩
 .exact .inr ⟨e,h'⟩
theorem ZyQ{ρ:Type}{R:List Zf}{base b:List Za}{r:Zf}(I:r∈R)(L:ZY r=true){q:ρ}
  {ab:Zw->Nat->Zy->(List Za×Bool)->Option ((List Za×Bool) ⊕ ((List Za×Bool) ⊕ ρ))} {body:Nat->Zw->(List Za×Bool)->Option ((List Za×Bool) ⊕ ρ)}
  (f:∀t i a s,ab t i a s=(Yl s.1 (Yn a t)).bind fun c=>if (decide (0<=c))=true then some (.inl s) else if (decide (24<=(s.1.length:Int)))=true then some (.inr (.inr q)) else (X8 s.1 (Yn a t)).bind fun d=>some (.inl (d,true)))
  (N:∀i t s,body i t s=forL (ab t) (fun s=>some (.inl s)) r.thn 0 s)
  (s:List Za×Bool) (h:Zkw R base b s):
  (∃s',(∀fin:(List Za×Bool)->Option ρ,forL body fin (ZD (QB r) s.1) 0 s=fin s')/\Zkw R base b s'/\(s'.2=false->s.2=false/\∀t∈ZD (QB r) b,∀a∈r.thn,Yn a t∈b))\/((∀fin:(List Za×Bool)->Option ρ,forL body fin (ZD (QB r) s.1) 0 s=some q)/\ZpR R base):=by
 rcases Zc8 (body:=body) (fun p s'=>Zkw R base b s'/\(s'.2=false->s.2=false/\∀t∈p,∀a∈r.thn,Yn a t∈b)) (fun x=>x=q/\ZpR R base) (ZD (QB r) s.1) s ⟨h,fun hs=>⟨hs,yG⟩⟩ (fun p t s' H P O=>by
  obtain ⟨D,E⟩:=O;rw [N];rcases Zyo I L h.good H (f t) s' D with ⟨G,F,g,j⟩|⟨F,M⟩
  .left
   refine ⟨G,F _,g,fun hs=>?_⟩;obtain ⟨C,B⟩:=j hs;obtain ⟨K,J⟩:=E C;refine ⟨K,fun u A=>?_⟩;rcases AA.1 A with A|A
   .exact J u A
   .simp at A;subst A;exact B
  .exact .inr ⟨q,F _,rfl,M⟩) with ⟨s',e,D,E⟩|⟨x,e,rfl,h'⟩
 .refine .inl ⟨s',e,D,fun hs=>?_⟩;obtain ⟨C,B⟩:=E hs;exact ⟨C,by rw [h.same C]at B;exact B⟩
 .exact .inr ⟨e,h'⟩
theorem ZDv{ρ:Type}{R:List Zf}{base b:List Za}(L:∀r∈R,ZY r=true)(N:ZgF R base b)(g:b.length<=24){q:ρ}
  {ab:Zw->Nat->Zy->(List Za×Bool)->Option ((List Za×Bool) ⊕ ((List Za×Bool) ⊕ ((List Za×Bool) ⊕ ρ)))} {tb:Zf->Nat->Zw->(List Za×Bool)->Option ((List Za×Bool) ⊕ ((List Za×Bool) ⊕ ρ))} {body:Nat->Zf->(List Za×Bool)->Option ((List Za×Bool) ⊕ ρ)}
  (j:∀t i a s,ab t i a s=(Yl s.1 (Yn a t)).bind fun c=>if (decide (0<=c))=true then some (.inl s) else if (decide (24<=(s.1.length:Int)))=true then some (.inr (.inr (.inr q))) else (X8 s.1 (Yn a t)).bind fun d=>some (.inl (d,true)))
  (k:∀r i t s,tb r i t s=forL (ab t) (fun s=>some (.inl s)) r.thn 0 s)
  (K:∀i r s,r∈R->s.1.length<=24->(∀f∈s.1,Yt f=true)->body i r s=forL (tb r) (fun s=>some (.inl s)) (ZD (QB r) s.1) 0 s):
  (∃s',(∀fin:(List Za×Bool)->Option ρ,forL body fin R 0 (b,false)=fin s')/\Zkw R base b s'/\(s'.2=false->Zlw R b))\/((∀fin:(List Za×Bool)->Option ρ,forL body fin R 0 (b,false)=some q)/\ZpR R base):=by
 rcases Zc8 (body:=body) (fun p s'=>Zkw R base b s'/\(s'.2=false->∀r∈p,∀t∈ZD (QB r) b,∀a∈r.thn,Yn a t∈b)) (fun x=>x=q/\ZpR R base) R (b,false) ⟨⟨N,g,fun f G=>G,fun h=>by simp at h,fun _=>rfl⟩,yG⟩ (fun p r s' C O M=>by
  obtain ⟨B,D⟩:=M;rw [K _ _ _ C B.len B.good.ok];rcases ZyQ (q:=.inr q) C (L r C) (j) (k r) s' B with ⟨F,E,l,m⟩|⟨E,J⟩
  .left
   refine ⟨F,E _,l,fun hs=>?_⟩;obtain ⟨I,H⟩:=m hs;intro u A;rcases AA.1 A with A|A
   .exact D I u A
   .simp at A;subst A;exact H
  .exact .inr ⟨q,E _,rfl,J⟩) with ⟨s',e,B,D⟩|⟨x,e,rfl,h'⟩
 .exact .inl ⟨s',e,B,D⟩
 .exact .inr ⟨e,h'⟩
theorem ZAa{R:List Zf}{base:List Za}{body:(List Za×Bool)->Option ((List Za×Bool) ⊕ (List Za×Bool))}(b:∀row,body (row,false)=some (.inr (row,true)))
  (c:∀row,ZgF R base row->row.length<=24->(∃s',body (row,true)=some (.inl s')/\Zkw R base row s'/\(s'.2=false->Zlw R row))\/(body (row,true)=some (.inr ([],false))/\ZpR R base)) (a:ZgF R base base) (d:base.length<=24):∃x,iter body (base,true)=some x/\Res R base x:=by
 have key:∀n row,ZgF R base row->row.length<=24->25<=row.length+n->∃x,iter body (row,true)=some x/\Res R base x:=by
  intro n;induction n with
  |zero=>intro row _ H G;omega
  |succ n ih=>
   intro row D C F;rcases c row D C with ⟨⟨f,u⟩,e,A,E⟩|⟨e,B⟩
   .rw [Z6 e];cases u with
    |true=>
     have:=A.grow rfl;exact ih f A.good A.len (by simp only at this;omega)
    |false=>
     have hs:=A.same rfl;simp only at hs;subst hs;exact ⟨_,ZU (b _),.inl ⟨rfl,A.good,A.len,E rfl⟩⟩
   .exact ⟨_,ZU e,.inr ⟨rfl,rfl,B⟩⟩
 exact key 25 base a d yE
theorem Zji{R:List Zf}(E:XD R)(base:List Za):(¬(YK R&&R.all (Xm R))=true\/¬Z7 base=true->YB R base=some ([],false))/\((YK R&&R.all (Xm R))=true->Z7 base=true->∃x,YB R base=some x/\Res R base x):=by
 constructor
 .intro h;unfold YB;rw [Zhl E,A0];split
  .rename_i C;rw [ZfS,A0,yn (h.resolve_left (fun h=>h C))]
  .rfl
 .intro C D;have F:∀r∈R,ZY r=true:=fun r B=>by
   rw [A9]at C;have:=AN.1 C.2 r B;unfold Xm at this;rw [A9]at this;exact this.1
  have j:∀r∈R,r.cond.length<=4:=fun r B=>by
   have:=F r B;unfold ZY at this;simp only[A9]at this;exact (ZaV this.1.1).1
  obtain ⟨k,l⟩:=Qk D;have g:ZgF R base base:=⟨Zle D,l,fun f A=>A,fun G L f A=>L.base f A⟩
  unfold YB;rw [Zhl E,A0,yp C,ZfS,A0,yp D,ZhN _ yE (fun f A=>by have:=Xh (l f A);omega),A0];refine ZAa (fun row=>rfl) (fun row J I=>?_) g k;have m:=ZDv (ρ:=(List Za×Bool) ⊕ (List Za×Bool)) (q:=.inr ([],false)) F J I
   (ab:=fun t _ a s=>(Yl s.1 (Yn a t)).bind fun b=>if (decide (0<=b))=true then some (.inl s) else if (decide (24<=(s.1.length:Int)))=true then some (.inr (.inr (.inr (.inr ([],false))))) else (X8 s.1 (Yn a t)).bind fun c=>some (.inl (c,true)))
   (tb:=fun r _ t s=>forL (fun _ a s=>(Yl s.1 (Yn a t)).bind fun b=>if (decide (0<=b))=true then some (.inl s) else if (decide (24<=(s.1.length:Int)))=true then some (.inr (.inr (.inr (.inr ([],false))))) else (X8 s.1 (Yn a t)).bind fun c=>some (.inl (c,true))) (fun s=>some (.inl s)) r.thn 0 s)
   (body:=fun _ r s=>(YX r).bind fun o=>(Q3 o s.1).bind fun p=>forL (fun _ t s=>forL (fun _ a s=>(Xu a.pattern t.binding).bind fun d=>(Yl s.1 d.1).bind fun b=>if (decide (0<=b))=true then some (.inl s) else if (decide (24<=(s.1.length:Int)))=true then some (.inr (.inr (.inr (.inr ([],false))))) else (X8 s.1 d.1).bind fun c=>some (.inl (c,true))) (fun s=>some (.inl s)) r.thn 0 s) (fun s=>some (.inl s)) p 0 s)
   (fun _ _ _ _=>rfl) (fun _ _ _ _=>rfl) (fun i r s B hs hok=>by
    show (YX r).bind _=_
    rw [ZcM r (by have:=j r B;omega),A0,ZfI _ _ (by have:=Zey r;have:=j r B;omega) hs (fun f A=>Xh (hok f A)),A0];simp only[Zbm,A0];rfl)
  rcases m with ⟨s',e,K,M⟩|⟨e,H⟩
  .exact .inl ⟨s',e (fun s=>some (.inl s)),K,M⟩
  .exact .inr ⟨e (fun s=>some (.inl s)),H⟩
structure Zo6 (R:List Zf) (base l:List Za) (row:List Za):Prop where
 good:ZgF R base row
 sub:∀f∈l,f∈row
theorem ZGB{ρ:Type}{R:List Zf}{base l:List Za}{r:Zf}(H:r∈R)(J:ZY r=true)(L:ZgF R base l){t:Zw}(F:t∈ZD (QB r) l){N:Nat}(S:N<=1000000)(I:r.thn.length<=2)
  {body:Nat->Zy->List Za->Option (List Za ⊕ ρ)} (K:∀i a row,body i a row=(YS row (Yn a t)).bind fun v=>some (.inl v)) (row:List Za) (h:Zo6 R base l row) (d:row.length<=N):
  ∃c,(∀fin:List Za->Option ρ,forL body fin r.thn 0 row=fin c)/\Zo6 R base l c/\c.length<=N+2/\(∀f∈row,f∈c)/\∀a∈r.thn,Yn a t∈c:=by
 obtain ⟨c,e,C,O,E,D⟩:=Zgh (body:=body) (fun p c=>Zo6 R base l c/\c.length<=N+p.length/\(∀f∈row,f∈c)/\∀a∈p,Yn a t∈c) r.thn row ⟨h,by simpa using d,fun f A=>A,yG⟩ (fun p a c G P M=>by
  obtain ⟨C,O,E,D⟩:=M;have hok:=Zw0 J F G;rw [K,Zg7 _ _ yE (fun f A=>by have:=Xh (C.good.ok f A);omega) (by have:=Xh hok;omega),A0];refine ⟨_,rfl,⟨C.good.add hok (L.derived H F G),fun f A=>XR.2 (.inr (C.sub f A))⟩,?_,fun f A=>XR.2 (.inr (E f A)),fun b B=>?_⟩
  .have:=Zkv (Yn a t) c;simp only[AH,Ap];omega
  .rcases AA.1 B with B|B
   .exact XR.2 (.inr (D b B))
   .simp at B;subst B;exact XR.2 (.inl rfl))
 exact ⟨c,e,C,yE,E,D⟩
theorem ZFO{ρ:Type}{R:List Zf}{base l:List Za}{r:Zf}(J:r∈R)(M:ZY r=true)(S:ZgF R base l)(c:l.length<=24)(O:r.cond.length<=4)(j:r.thn.length<=2)
  {body:Nat->Zw->List Za->Option (List Za ⊕ ρ)} (P:∀i t row,t∈ZD (QB r) l->body i t row=forL (fun (_:Nat) (a:Zy) row=>(YS row (Yn a t)).bind fun v=>(some (.inl v):Option (List Za ⊕ (List Za ⊕ ρ)))) (fun row=>some (.inl row)) r.thn 0 row) (row:List Za) (h:Zo6 R base l row) (d:row.length<=24):
  ∃b,(∀fin:List Za->Option ρ,forL body fin (ZD (QB r) l) 0 row=fin b)/\Zo6 R base l b/\(∀f∈row,f∈b)/\∀t∈ZD (QB r) l,∀a∈r.thn,Yn a t∈b:=by
 have hn:=Zg9 l c (QB r) (by have:=Zey r;omega);obtain ⟨b,e,E,I,D,C⟩:=Zgh (body:=body) (fun p b=>Zo6 R base l b/\b.length<=24+2*p.length/\(∀f∈row,f∈b)/\∀t∈p,∀a∈r.thn,Yn a t∈b) (ZD (QB r) l) row ⟨h,by simpa using d,fun f B=>B,yG⟩ (fun p t b F W T=>by
  obtain ⟨E,I,D,C⟩:=T;rw [P _ _ _ F];obtain ⟨g,U,L,V,H,K⟩:=ZGB (ρ:=List Za ⊕ ρ) (body:=fun (_:Nat) (a:Zy) row=>(YS row (Yn a t)).bind fun v=>some (.inl v)) J M S F (N:=24+2*p.length) yE j (fun _ _ _=>rfl) b E I;refine ⟨g,U _,L,by simp only[AH,Ap];omega,fun f B=>H f (D f B),fun u A a G=>?_⟩;rcases AA.1 A with A|A
  .exact H _ (C u A a G)
  .simp at A;subst A;exact K a G)
 exact ⟨b,e,E,D,C⟩
theorem Zjm{R:List Zf}(O:XD R)(base:List Za)(g:base.length<=1048576):(¬(YK R&&R.all (Xm R))=true\/¬Z7 base=true->Yw R base=some ([],false))/\((YK R&&R.all (Xm R))=true->Z7 base=true->∃x,Yw R base=some x/\Res R base x):=by
 constructor
 .intro h;unfold Yw;rw [Zhn O,A0];split
  .rename_i I;rw [ZfR _ g,A0,yn (h.resolve_left (fun h=>h I))]
  .rfl
 .intro I M;have P:∀r∈R,ZY r=true:=fun r C=>by
   rw [A9]at I;have:=AN.1 I.2 r C;unfold Xm at this;rw [A9]at this;exact this.1
  have y:∀r∈R,r.cond.length<=4/\r.thn.length<=2:=fun r C=>by
   have:=P r C;unfold ZY at this;simp only[A9]at this;exact ZaV this.1.1
  obtain ⟨m,o⟩:=Qk M;have j:ZgF R base base:=⟨Zle M,o,fun f D=>D,fun G hG f D=>hG.base f D⟩
  unfold Yw;rw [Zhn O,A0,yp I,ZfR _ g,A0,yp M,ZfQ _ yE (fun f D=>by have:=Xh (o f D);omega),A0];refine ZAa (fun row=>rfl) (fun l H K=>?_) j m;rcases Zc8 (σ:=List Za) (ρ:=(List Za×Bool) ⊕ (List Za×Bool)) (body:=fun (_:Nat) (r:Zf) row=>(XG r).bind fun q=>(QY q l).bind fun v=>forL (fun _ t row=>forL (fun _ a row=>(Xr a.pattern t.binding).bind fun b=>(YS row b.1).bind fun c=>some (.inl c)) (fun row=>some (.inl row)) r.thn 0 row) (fun row=>if (decide (24<(row.length:Int)))=true then some (.inr (.inr ([],false))) else some (.inl row)) v 0 row)
   (fun p row=>Zo6 R base l row/\row.length<=24/\∀r∈p,∀t∈ZD (QB r) l,∀a∈r.thn,Yn a t∈row) (fun x=>x=.inr ([],false)/\ZpR R base) R l ⟨⟨H,fun f D=>D⟩,K,yG⟩ (fun p r row C hp hI=>by
    obtain ⟨W,V,U⟩:=hI;obtain ⟨z,A⟩:=y r C;obtain ⟨w,e,N,T,S⟩:=ZFO (ρ:=List Za ⊕ ((List Za×Bool) ⊕ (List Za×Bool))) (body:=fun (_:Nat) (t:Zw) row=>forL (fun _ a row=>(Xr a.pattern t.binding).bind fun b=>(YS row b.1).bind fun c=>some (.inl c)) (fun row=>some (.inl row)) r.thn 0 row) C (P r C) H K z A (fun i t row F=>by
     have hb6:=QT (QL l _ t F).bind;have e1:∀p,Xr p t.binding=some (XJ (YW p t.binding)):=fun p=>ZfJ p t.binding yE;simp only[e1,A0];rfl) row W V
    simp only[ZgB r yE,A0,ZfY (QB r) l (by have:=Zey r;omega) K (fun f D=>Xh (H.ok f D)),e];by_cases aa:24<w.length
    .rw [yp (by simp;omega)];exact .inr ⟨_,rfl,rfl,N.good.over yE⟩
    .rw [yn (by simp;omega)];refine .inl ⟨_,rfl,N,yE,fun u E t F a J=>?_⟩;rcases AA.1 E with E|E
     .exact T _ (U u E t F a J)
     .simp at E;subst E;exact S t F a J) with ⟨row,e,hP,hlen,hC⟩|⟨x,e,rfl,ho⟩
  .left
   refine ⟨_,e (fun row=>some (.inl (row,decide ((l.length:Int)<(row.length:Int))))),?_⟩;by_cases k:l.length<row.length
   .have L:decide ((l.length:Int)<(row.length:Int))=true:=by simpa using k
    rw [L];exact ⟨⟨hP.good,hlen,hP.sub,fun _=>k,fun h=>by simp at h⟩,fun h=>by simp at h⟩
   .have L:decide ((l.length:Int)<(row.length:Int))=false:=by simpa using k
    have d:=ZwE (Zkd H.asc) hP.sub yE;have B:row=l:=ZoD hP.good.asc H.asc fun f=>⟨d f,hP.sub f⟩
    rw [L];exact ⟨⟨hP.good,hlen,hP.sub,fun h=>by simp at h,fun _=>B⟩,fun _ r C t F a J=>d _ (hC r C t F a J)⟩
  .exact .inr ⟨e (fun row=>some (.inl (row,decide ((l.length:Int)<(row.length:Int))))),ho⟩
theorem ZeC{R:List Zf}(F:XD R)(base:List Za)(a:base.length<=1048576):∃x,Yw R base=some x/\YB R base=some x/\(x=([],false)\/(YK R&&R.all (Xm R))=true/\Z7 base=true/\Res R base x):=by
 obtain ⟨C,H⟩:=Zjm F base a;obtain ⟨E,J⟩:=Zji F base;by_cases B:(YK R&&R.all (Xm R))=true
 .by_cases A:Z7 base=true
  .obtain ⟨x,K,D⟩:=H B A;obtain ⟨y,G,I⟩:=J B A;rw [<-D.uniq I]at G;exact ⟨x,K,G,.inr ⟨B,A,D⟩⟩
  .exact ⟨_,C (.inr A),E (.inr A),.inl rfl⟩
 .exact ⟨_,C (.inl B),E (.inl B),.inl rfl⟩
theorem ZsE{α:Type}{f:α->Nat}{N:Nat}:∀{l:List α},(∀x∈l,f x<=N)->(l.map f).sum<=l.length*N
 | [],_=>by simp
 |x::l,h=>by
  have h1:=h x yG;have h2:=ZsE (l:=l) fun y A=>h y (by simp [A]);simp only[Bd,List.sum_cons,AE,Nat.add_mul];omega
theorem ZrC{f:Za}(h:Yt f=true):ZaK f<=64:=by
 unfold Yt X0 at h;simp only[A9,decide_eq_true_eq,AN]at h;obtain ⟨⟨⟨C,_⟩,E⟩,B⟩:=h;have h4:=(Qe C).2;have D:(f.args.map ByteArray.size).sum<=f.args.length*8:=ZsE fun x A=>(Qe (B x A)).2;unfold ZaK Zkn;omega
end
def ZvL(l:List Int)(x:Int):Bool:=l.any fun y=>y==x
theorem Zki{l:List Int}{x:Int}:ZvL l x=true↔x∈l:=by simp [ZvL]
theorem ZmG(l:List Int)(x:Int):ZhO l x=some (ZvL l x):=by
 unfold ZhO ZvL;rw [ZaJ (p:=fun y=>y==x) (r:=true)]
 .cases l.any fun y=>y==x<;>simp
 .intro i y _;cases y==x<;>simp
theorem ZxV{l:List Int}{x:Int}:x∈Zmx l↔x∈l:=(Be l _).mem_iff
theorem Zzk{l:List Int}(h:l.Nodup):(Zmx l).Pairwise (·<·):=by
 have B:(Zmx l).Pairwise fun x y=>decide (x<=y)=true:=List.pairwise_mergeSort (fun a b c B A=>by simp at *;omega) (fun a b=>by simp;omega) l;have A:(Zmx l).Nodup:=(Be l _).nodup_iff.2 h;have C:(Zmx l).Pairwise (·≠·):=A;exact (B.and C).imp fun ⟨a,b⟩=>by simp at a;omega
def Zfj:List Int->Int->List Int
 | [],x=>[x]
 |y::l,x=>if y<x then y::Zfj l x else if y=x then y::l else x::y::l
theorem Zvg(l:List Int)(x:Int)(h:l.length+1<=1073741824):ZiL l x=some (Zfj l x):=by
 unfold ZiL;refine (Zbt (fun l _ (st:List Int×Bool)=>some (if st.2=true then st.1++l else st.1++Zfj l x)) (fun l _ (st:List Int×Bool)=>st.1.length+l.length+(if st.2=true then 0 else 1)<=1073741824) ?_ ?_ l 0 ([],false) (by simpa using h)).trans yG
 .rintro i ⟨row,d⟩ A;cases d with
  |true=>simp
  |false=>simp only[AC,if_false,Zfj];simp at A;rw [Zj _ yE]
 .rintro y l i ⟨row,d⟩ A;left
  cases d with
  |true=>
   simp at A;exact ⟨(row++[y],true),by simp only[if_true];rw [Zj _ yE],by simp;omega,yG⟩
  |false=>
   simp at A;by_cases C:x<=y
   .by_cases B:y=x
    .subst B;exact ⟨(row++[y],true),by simp;rw [Zj _ yE],by simp;omega,by simp [Zfj]⟩
    .exact ⟨(row++[x]++[y],true),by simp [C,B];rw [Zj _ yE,Zj _ yE],by simp;omega,by simp [Zfj,B,show ¬y<x by omega]⟩
   .exact ⟨(row++[y],false),by simp [C];rw [Zj _ yE],by simp;omega,by simp [Zfj,show y<x by omega]⟩
theorem Zn6{x y:Int}:∀{l:List Int},y∈Zfj l x↔y=x\/y∈l
 | []=>by simp [Zfj]
 |z::l=>by
  simp only[Zfj];split
  .rw [AB,Zn6,AB];constructor
   .rintro (h|h|h)<;>simp [h]
   .rintro (h|h|h)<;>simp [h]
  .split
   .rename_i h;subst h;simp
   .simp
theorem ZtC{x:Int}:∀{l:List Int},l.Pairwise (·<·)->(Zfj l x).Pairwise (·<·)
 | [],_=>by simp [Zfj]
 |z::l,h=>by
  rw [Ah]at h;simp only[Zfj];split
  .rw [Ah];refine ⟨fun y A=>?_,ZtC h.2⟩;rcases Zn6.1 A with rfl|A
   .assumption
   .exact h.1 y A
  .split
   .rw [Ah];exact h
   .rw [Ah,Ah];refine ⟨fun y A=>?_,h⟩;rcases AB.1 A with rfl|A
    .omega
    .have:=h.1 y A;omega
theorem Zty(x:Int):∀l:List Int,(Zfj l x).length<=l.length+1
 | []=>by simp [Zfj]
 |z::l=>by
  simp only[Zfj];split
  .have:=Zty x l;simp;omega
  .split<;>simp
section
open Classical
section
variable {α σ ρ:Type} {body:Nat->α->σ->Option (σ ⊕ ρ)} {fin:σ->Option ρ}
theorem ZoK(st:List α->σ)(A:List α->Prop)[DecidablePred A](q:ρ)(l:List α)(F:A [])(b:∀p r,l=p++r->A l->A p)
  (h:∀p x r,l=p++x::r->A p->body p.length x (st p)=if A (p++[x]) then some (.inl (st (p++[x]))) else some (.inr q)):forL body fin l 0 (st [])=if A l then fin (st l) else some q:=by
 have key:∀(r a:List α),l=a++r->A a->forL body fin r a.length (st a)=if A l then fin (st l) else some q:=by
  intro r;induction r with
  |nil=>intro a e C;rw [BG]at e;subst e;rw [yp C];rfl
  |cons x r ih=>
   intro a e C;have hx:=h a x r e C;have D:l=(a++[x])++r:=by rw [e];simp
   by_cases B:A (a++[x])
   .rw [yp B]at hx;rw [ZO hx];simpa using ih (a++[x]) D B
   .rw [yn B]at hx;rw [Z5 hx,yn fun E=>B (b _ _ D E)]
 exact key l [] rfl F
end
def ZwO:List Za->Za->Nat->Int
 | [],_,_=>-1
 |x::l,f,i=>if x=f then (i:Int) else ZwO l f (i+1)
def Yd(l:List Za)(f:Za):Int:=ZwO l f 0
theorem Zbn(l:List Za)(f:Za):Yl l f=some (Yd l f):=by
 unfold Yl Yd;generalize 0=i
 induction l generalizing i with
 |nil=>rfl
 |cons x l ih=>
  by_cases A:x=f
  .rw [Z5 (r:=(i:Int)) (by rw [Xj,A0,yp (decide_eq_true A)])];simp [ZwO,A]
  .rw [ZO (s':=()) (by rw [Xj,A0,yn (by simpa using A)]),ih (i+1)];simp [ZwO,A]
theorem Zaq(l:List Za)(f:Za):Xs l f=some (Yd l f):=Zbn l f
theorem Zq1{f:Za}:∀{l:List Za}{i:Nat},(f∉l/\ZwO l f i=-1)\/∃j,ZwO l f i=((i+j:Nat):Int)/\l[j]?=some f
 | [],i=>.inl ⟨yG,rfl⟩
 |x::l,i=>by
  unfold ZwO;by_cases A:x=f
  .rw [yp A];exact .inr ⟨0,yG,by simp [A]⟩
  .rw [yn A];rcases Zq1 (f:=f) (l:=l) (i:=i+1) with ⟨C,B⟩|⟨j,C,B⟩
   .exact .inl ⟨by simp only[AB,not_or];exact ⟨fun e=>A e.symm,C⟩,B⟩
   .exact .inr ⟨j+1,by rw [C];congr 1;omega,by simpa using B⟩
theorem ZgY(l:List Za)(f:Za):(f∉l/\Yd l f=-1)\/∃j,Yd l f=((j:Nat):Int)/\l[j]?=some f:=by
 have:=Zq1 (f:=f) (l:=l) (i:=0)
 simpa [Yd]using this
theorem Za6{l:List Za}{f:Za}(h:f∈l):∃j,Yd l f=((j:Nat):Int)/\l[j]?=some f:=(ZgY l f).resolve_left fun A=>A.1 h
def Zay(F l:List Za):List Int:=l.foldl (fun row f=>if 0<=Yd F f then Zfj row (Yd F f) else row) []
theorem Zkf(F:List Za):∀(l:List Za) (row:List Int),row.Pairwise (·<·)->(l.foldl (fun row f=>if 0<=Yd F f then Zfj row (Yd F f) else row) row).Pairwise (·<·)/\(∀x,x∈l.foldl (fun row f=>if 0<=Yd F f then Zfj row (Yd F f) else row) row↔x∈row\/∃f∈l,Yd F f=x/\0<=x)/\(l.foldl (fun row f=>if 0<=Yd F f then Zfj row (Yd F f) else row) row).length<=row.length+l.length
 | [],row,h=>⟨h,yG,yG⟩
 |f::l,row,h=>by
  rw [AL];by_cases B:0<=Yd F f
  .rw [yp B];obtain ⟨E,D,G⟩:=Zkf F l (Zfj row (Yd F f)) (ZtC h);have:=Zty (Yd F f) row;refine ⟨E,fun x=>?_,by simp only[AE];omega⟩;rw [D,Zn6];constructor
   .rintro ((rfl|h)|⟨g,A,e⟩)
    .exact .inr ⟨f,yG,rfl,B⟩
    .exact .inl h
    .exact .inr ⟨g,by simp [A],e⟩
   .rintro (h|⟨g,A,e,C⟩)
    .exact .inl (.inr h)
    .rcases AB.1 A with rfl|A
     .exact .inl (.inl e.symm)
     .exact .inr ⟨g,A,e,C⟩
  .rw [yn B];obtain ⟨E,D,G⟩:=Zkf F l row h;refine ⟨E,fun x=>?_,by simp only[AE];omega⟩;rw [D];constructor
   .rintro (h|⟨g,A,e⟩)
    .exact .inl h
    .exact .inr ⟨g,by simp [A],e⟩
   .rintro (h|⟨g,A,e,C⟩)
    .exact .inl h
    .rcases AB.1 A with rfl|A
     .rw [e]at B;exact absurd C B
     .exact .inr ⟨g,A,e,C⟩
theorem Y4(F l:List Za):(Zay F l).Pairwise (·<·)/\(∀x,x∈Zay F l↔∃f∈l,Yd F f=x/\0<=x)/\(Zay F l).length<=l.length:=by
 obtain ⟨C,B,A⟩:=Zkf F l [] BC;exact ⟨C,fun x=>by rw [Zay,B];simp,by simpa [Zay]using A⟩
theorem Zvk(F p:List Za)(f:Za):Zay F (p++[f])=if 0<=Yd F f then Zfj (Zay F p) (Yd F f) else Zay F p:=by rw [Zay,AT];rfl
theorem Zjz(F l:List Za)(h:l.length<=1000000):ZcQ F l=some (Zay F l):=by
 unfold ZcQ;have A:Zay F []=[]:=rfl;rw [<-A,Zbg (fun p=>Zay F p) l];intro p f q e;have B:p.length<=l.length:=by rw [e];simp
 have:=(Y4 F p).2.2;rw [Zaq,A0,Zvk];by_cases A:0<=Yd F f
 .rw [yp (by simpa using A),yp A,Zvg _ _ yE];rfl
 .rw [yn (by simpa using A),yn A]
def ZcA(F l:List Za):List Int:=l.foldl (fun row f=>if 0<=Yd F f/\Yd F f∉row then row++[Yd F f] else row) []
theorem ZmJ(F p:List Za)(f:Za):ZcA F (p++[f])=if 0<=Yd F f/\Yd F f∉ZcA F p then ZcA F p++[Yd F f] else ZcA F p:=by rw [ZcA,AT];rfl
theorem Zme(F:List Za):∀n (l:List Za),l.length=n->(ZcA F l).Nodup/\(∀x,x∈ZcA F l↔∃f∈l,Yd F f=x/\0<=x)/\(ZcA F l).length<=l.length:=by
 intro n;induction n with
 |zero=>intro l C;rw [Aj C];simp [ZcA]
 |succ n ih=>
  intro l C;obtain ⟨p,f,rfl⟩:∃p f,l=p++[f]:=⟨l.dropLast,l.getLast (by intro e;simp [e]at C),(B9 _).symm⟩
  obtain ⟨H,E,J⟩:=ih p (by simpa using C);rw [ZmJ];by_cases B:0<=Yd F f/\Yd F f∉ZcA F p
  .rw [yp B];refine ⟨by rw [List.nodup_append];exact ⟨H,yG,fun a ha b G e=>by simp at G;subst G;subst e;exact B.2 ha⟩,fun x=>?_,by simp;omega⟩;rw [AA,E];constructor
   .rintro (⟨g,A,e⟩|h)
    .exact ⟨g,by simp [A],e⟩
    .simp at h;subst h;exact ⟨f,yG,rfl,B.1⟩
   .rintro ⟨g,A,e,D⟩;rcases AA.1 A with A|A
    .exact .inl ⟨g,A,e,D⟩
    .simp at A;subst A;exact .inr (by simp [e])
  .rw [yn B];refine ⟨H,fun x=>?_,by simp;omega⟩;rw [E];constructor
   .rintro ⟨g,A,e⟩;exact ⟨g,by simp [A],e⟩
   .rintro ⟨g,A,e,D⟩;rcases AA.1 A with A|A
    .exact ⟨g,A,e,D⟩
    .simp at A;subst A;have:Yd F g∈ZcA F p:=Classical.byContradiction fun I=>B ⟨by rw [e];exact D,I⟩;rw [e]at this;exact (E x).1 this
theorem Zlr(F l:List Za)(h:l.length<=1000000):Zcc F l=some (Zay F l):=by
 unfold Zcc;have A:ZcA F []=[]:=rfl;rw [<-A,Zbg (fun p=>ZcA F p) l]
 .obtain ⟨G,E,h3⟩:=Zme F _ l rfl;obtain ⟨D,C,_⟩:=Y4 F l;simp only[ZgH];rw [Zj _ yE,A0,Zt6 (Zzk G) D fun x=>by rw [ZxV,E,C]]
 .intro p f q e;have H:p.length<=l.length:=by rw [e];simp
  have h3:=(Zme F _ p rfl).2.2;rw [Zbn,A0,ZmJ];by_cases A:0<=Yd F f
  .rw [yp (by simpa using A),ZmG,A0];by_cases B:Yd F f∈ZcA F p
   .rw [yp (Zki.2 B),yn (fun h=>h.2 B)]
   .rw [yn (by rw [Zki];exact B),yp ⟨A,B⟩,Zj _ yE];rfl
  .rw [yn (by simpa using A),yn (fun h=>A h.1)]
theorem ZfN(a b:List Int):Zc4 a b=some (decide (a=b)):=by
 unfold Zc4;by_cases h:a.length=b.length
 .rw [yn (by simp;omega),XM (p:=fun i x=>decide (b[i]?=some x)) (r:=false)]
  .have:Zav (fun i x=>decide (b[i]?=some x)) a 0=decide (a=b):=by
    rw [AM,decide_eq_true_iff];constructor
    .intro ha;apply BD;intro i;by_cases hi:i<a.length
     .have hx:=AD hi;have:=Zi0 ha i _ hx;simp only[AS,decide_eq_true_eq]at this;rw [hx,this]
     .rw [AQ yE,AQ yE]
    .rintro rfl;have:∀(l c:List Int),Zav (fun i x=>decide ((c++l)[i]?=some x)) l c.length=true:=by
      intro l;induction l with
      |nil=>intro c;rfl
      |cons x l ih=>
       intro c;simp only[Zav,A9,decide_eq_true_eq];refine ⟨yG,?_⟩;have:=ih (c++[x]);simpa using this
     simpa using this a []
   rw [this];cases decide (a=b)<;>rfl
  .intro j x hx;have hj:=(AX.1 hx).1;have B:b[j]?=some b[j]:=AD yE;rw [AS,Zar,B,A0];by_cases A:x=b[j]
   .simp [A]
   .have:¬b[j]=x:=fun e=>A e.symm;simp [A,this]
 .rw [yp (by simp;omega),decide_eq_false (fun e=>h (by rw [e]))]
theorem ZbC(a b:List Int):Zch a b=some (decide (a=b)):=ZfN a b
theorem ZoM{a b:Zh}(C:a.for_=b.for_)(B:a.inn=b.inn)(A:a.outs=b.outs):a=b:=by
 cases a;cases b;simp only at C B A;subst C B A;rfl
theorem Zm1(a b:Zh):Zcj a b=some (decide (a=b)):=by
 unfold Zcj;by_cases B:a.for_=b.for_
 .rw [yp (by simpa using B),ZfN,A0];by_cases A:a.inn=b.inn
  .rw [yp (decide_eq_true A),ZfN,A0];congr 1
   rw [AM,decide_eq_true_iff,decide_eq_true_iff];exact ⟨ZoM B A,fun e=>by rw [e]⟩
  .rw [yn (by simpa using A),decide_eq_false (fun e=>A (by rw [e]))]
 .rw [yn (by simpa using B),decide_eq_false (fun e=>B (by rw [e]))]
theorem Zn8(l:List Zh)(r:Zh):ZaH l r=some (decide (r∈l)):=by
 unfold ZaH;rw [ZaJ (p:=fun x=>decide (x=r)) (r:=true)]
 .have:l.any (fun x=>decide (x=r))=decide (r∈l):=by
   rw [AM,BM,decide_eq_true_iff];exact ⟨fun ⟨x,A,e⟩=>by rw [decide_eq_true_iff]at e;rw [<-e];exact A,fun h=>⟨r,h,yG⟩⟩
  rw [this];cases decide (r∈l)<;>rfl
 .intro i x A;rw [Zm1,A0];cases decide (x=r)<;>rfl
theorem ZsJ(l:List Zh)(r:Zh):∃z,Zel l r=some z/\(0<=z↔r∈l):=by
 unfold Zel;generalize 0=i
 induction l generalizing i with
 |nil=>exact ⟨-1,rfl,yG⟩
 |cons x l ih=>
  by_cases A:x=r
  .subst A;refine ⟨(i:Int),Z5 ?_,yG⟩;rw [yp yG,ZbC,A0,yp yG,ZbC,A0,yp yG]
  .obtain ⟨z,e,D⟩:=ih (i+1);refine ⟨z,(ZO ?_).trans e,by rw [D,AB];exact ⟨.inr,fun h=>h.resolve_left fun e=>A e.symm⟩⟩;by_cases C:x.for_=r.for_
   .rw [yp (by simpa using C),ZbC,A0];by_cases B:x.inn=r.inn
    .rw [yp (decide_eq_true B),ZbC,A0,yn (by simpa using fun e=>A (ZoM C B e))]
    .rw [yn (by simpa using B)]
   .rw [yn (by simpa using C)]
def Zli(r:Zf)(t:Zw):List Za:=(r.cond.filter fun x=>x.kind==2).map fun x=>(XJ (YW x.pattern t.binding)).1
def Yy(F:List Za)(r:Zf)(t:Zw)(a:Zy):Zh:={ for_:=Yd F (Yn a t),inn:=Zay F t.facts,outs:=Zay F (Zli r t) }
theorem Zvm{ρ:Type}{r:Zf}{t:Zw}(D:r.cond.length<=1000000){fin:List Za->Option ρ}{body:Nat->Zu->List Za->Option (List Za ⊕ ρ)}
  (B:∀i x row,row.length<=1000000->body i x row=if (x.kind==2)=true then some (.inl (row++[(XJ (YW x.pattern t.binding)).1])) else some (.inl row)):forL body fin r.cond 0 []=fin (Zli r t):=by
 rw [Y0 (g:=fun x:Zu=>if (x.kind==2)=true then some (XJ (YW x.pattern t.binding)).1 else none)]
 .rw [BJ];congr 1
  unfold Zli;induction r.cond with
  |nil=>rfl
  |cons x l ih=>
   by_cases A:(x.kind==2)=true
   .simp only[BN,Bf,A,if_true,Bd,ih]
   .simp only[BN,Bf,A,if_false,ih];simp
 .intro j x s C hs;rw [B _ _ _ (by simp at hs;omega)];by_cases A:(x.kind==2)=true
  .rw [yp A,yp A];rfl
  .rw [yn A,yn A];simp
theorem Zpc(r:Zf)(t:Zw):(Zli r t).length<=r.cond.length:=by
 rw [Zli,Aw];exact Bc _ _
theorem Znn{F:List Za}{r:Zf}{t:Zw}(D:r.cond.length<=4)(A:Zzy F t){j:Nat}{a:Zy}(ha:r.thn[j]?=some a):ZaB r (j:Int) t F=some (Yy F r t a):=by
 have hb:=A.bind;have hl:=A.len;have C:∀p,Xr p t.binding=some (XJ (YW p t.binding)):=fun p=>ZfJ p t.binding yE;unfold ZaB;rw [Zar,ha,A0,C,A0,Zvm (t:=t) yE (fun i x row B=>by rw [C,A0,Zj _ yE])];have:=Zpc r t;rw [Zaq,A0,Zjz _ _ yE,A0,Zjz _ _ yE,A0];rfl
def ZlE(l:List Zh)(r:Zh):List Zh:=if r∈l then l else l++[r]
theorem ZzO(l:List Zh)(r:Zh):l.length<=(ZlE l r).length/\(ZlE l r).length<=l.length+1:=by
 unfold ZlE;split<;>simp
theorem Zqx:∀(c l:List Zh),l.length<=(c.foldl ZlE l).length/\(c.foldl ZlE l).length<=l.length+c.length
 | [],l=>by simp
 |r::c,l=>by
  have h1:=Zqx c (ZlE l r);have h2:=ZzO l r;simp only[AL,AE];omega
theorem Zph{α β:Type}{g:α->List β}{N:Nat}:∀{l:List α},(∀x∈l,(g x).length<=N)->(l.flatMap g).length<=N*l.length
 | [],_=>by simp
 |x::l,h=>by
  have h1:=h x yG;have h2:=Zph (l:=l) fun y A=>h y (by simp [A]);rw [BA,AH,AE,Nat.mul_add];omega
def XC{β:Type}(s:List Zh×List β)(p:Zh×β):List Zh×List β:=if p.1∈s.1 then s else (s.1++[p.1],s.2++[p.2])
theorem Ze1{β:Type}:∀(c:List (Zh×β)) (s:List Zh×List β),(c.foldl XC s).1=(c.map BO).foldl ZlE s.1/\(s.2.length=s.1.length->(c.foldl XC s).2.length=(c.foldl XC s).1.length)
 | [],s=>⟨rfl,fun h=>h⟩
 |p::c,s=>by
  obtain ⟨B,A⟩:=Ze1 c (XC s p);have e:(XC s p).1=ZlE s.1 p.1:=by unfold XC ZlE;split<;>rfl
  refine ⟨by rw [AL,B,e];rfl,fun h=>A ?_⟩;unfold XC;split
  .exact h
  .simp [h]
theorem ZkV{β:Type}(c:List (Zh×β))(s:List Zh×List β):s.1.length<=(c.foldl XC s).1.length/\(c.foldl XC s).1.length<=s.1.length+c.length:=by
 have:=Zqx (c.map BO) s.1;rw [(Ze1 c s).1];simpa using this
section
variable {β:Type} (o:Zf->Zw->β) (F:List Za)
def Zoq(r:Zf)(t:Zw):List (Zh×β):=r.thn.map fun a=>(Yy F r t a,o r t)
def Zf7(r:Zf):List (Zh×β):=(ZD (QB r) F).flatMap (Zoq o F r)
def Zcv(base:List Za):List Zh:=base.map fun f=>{ for_:=Yd F f,inn:=[],outs:=[] }
def YP(z:β)(R:List Zf)(base:List Za):List Zh×List β:=(R.flatMap (Zf7 o F)).foldl XC (Zcv F base,base.map fun _=>z)
theorem Zux(r:Zf)(t:Zw):(Zoq o F r t).length=r.thn.length:=by simp [Zoq]
end
def ZHs(F:List Za)(r:Zf)(t:Zw):List Zh:=r.thn.map (Yy F r t)
def ZAe(F:List Za)(r:Zf):List Zh:=(ZD (QB r) F).flatMap (ZHs F r)
def Yg(R:List Zf)(F base:List Za):List Zh:=(R.flatMap (ZAe F)).foldl ZlE (Zcv F base)
theorem Zfo{β:Type}(o:Zf->Zw->β)(F:List Za)(z:β)(R:List Zf)(base:List Za):(YP o F z R base).1=Yg R F base/\(YP o F z R base).2.length=(Yg R F base).length:=by
 obtain ⟨C,B⟩:=Ze1 (R.flatMap (Zf7 o F)) (Zcv F base,base.map fun _=>z);have e:(R.flatMap (Zf7 o F)).map BO=R.flatMap (ZAe F):=by
  rw [Bg];congr 1
  funext r
  rw [Zf7,ZAe,Bg];congr 1
  funext t
  simp [Zoq,ZHs]
 have A:(YP o F z R base).1=Yg R F base:=by unfold YP Yg;rw [C,e]
 refine ⟨A,?_⟩;rw [<-A];exact B (by simp [Zcv])
section
variable {β ρ:Type} {o:Zf->Zw->β} {F:List Za}
theorem Zql{base:List Za}(D:base.length<=1000000){z:β}{fin:List Zh×List β->Option ρ}{body:Nat->Za->List Zh×List β->Option ((List Zh×List β) ⊕ ρ)}
  (A:∀i f a b,a.length<=1000000->b.length<=1000000->body i f (a,b)=some (.inl (a++[{ for_:=Yd F f,inn:=[],outs:=[] }],b++[z]))):forL body fin base 0 ([],[])=fin (Zcv F base,base.map fun _=>z):=by
 have B:(([],[]):List Zh×List β)=(Zcv F [],([]:List Za).map fun _=>z):=rfl;rw [B,Zbg (fun p=>(Zcv F p,p.map fun _=>z)) base];intro p f q e;have C:p.length<=base.length:=by rw [e];simp
 rw [A _ _ _ _ (by rw [Zcv,Aw];omega) (by rw [Aw];omega)];simp [Zcv]
theorem ZD6{r:Zf}{t:Zw}(B:r.thn.length<=2){fin:List Zh×List β->Option ρ}{body:Nat->Zy->List Zh×List β->Option ((List Zh×List β) ⊕ ρ)}{s:List Zh×List β}(G:s.1.length<=99999998)(hs:s.2.length=s.1.length)
  (C:∀i a c d,c.length<=100000000->d.length<=100000000->body i a (c,d)=if decide (Yy F r t a∈c)=true then some (.inl (c,d)) else some (.inl (c++[Yy F r t a],d++[o r t]))):forL body fin r.thn 0 s=fin ((Zoq o F r t).foldl XC s):=by
 have D:s=((([]:List Zy).map fun a=>(Yy F r t a,o r t))).foldl XC s:=rfl
 conv=>lhs;rw [D]
 rw [Zbg (fun p:List Zy=>(p.map fun a=>(Yy F r t a,o r t)).foldl XC s) r.thn]
 .rfl
 .intro p a q e;have E:p.length<=r.thn.length:=by rw [e];simp
  have h1:=ZkV (p.map fun a=>(Yy F r t a,o r t)) s;have h2:=(Ze1 (p.map fun a=>(Yy F r t a,o r t)) s).2 hs;rw [Aw]at h1;rw [BP,AT];generalize (p.map fun a=>(Yy F r t a,o r t)).foldl XC s=u at h1 h2 ⊢
  obtain ⟨c,d⟩:=u;simp only at h1 h2;rw [C _ _ _ _ yE yE];show _=some (Sum.inl (XC (c,d) (Yy F r t a,o r t)))
  unfold XC;by_cases A:Yy F r t a∈c
  .rw [yp (decide_eq_true A),yp A]
  .rw [yn (by simpa using A),yn A]
theorem ZAx{α:Type}{g:α->List (Zh×β)}{L:List α}{M N:Nat}(C:∀x∈L,(g x).length<=N){fin:List Zh×List β->Option ρ}{body:Nat->α->List Zh×List β->Option ((List Zh×List β) ⊕ ρ)}{s:List Zh×List β}(F:s.1.length+N*L.length<=M)(hs:s.2.length=s.1.length)
  (D:∀i x u,x∈L->u.1.length<=M->u.2.length=u.1.length->body i x u=some (.inl ((g x).foldl XC u))):forL body fin L 0 s=fin ((L.flatMap g).foldl XC s):=by
 have E:s=(([]:List α).flatMap g).foldl XC s:=rfl
 conv=>lhs;rw [E]
 rw [Zbg (fun p=>(p.flatMap g).foldl XC s) L];intro p x q e;have B:p.length<=L.length:=by rw [e];simp
 have h1:=ZkV (p.flatMap g) s;have h2:=(Ze1 (p.flatMap g) s).2 hs;have h3:=Zph (l:=p) (g:=g) (N:=N) fun y A=>C y (by rw [e];simp [A]);have h4:=BV N B;rw [D _ _ _ (by rw [e];simp) yE h2,BB,AT];simp
theorem ZDL{r:Zf}{t:Zw}{q:ρ}{fin:List Zh×List β->Option ρ}{body:Nat->Zy->List Zh×List β->Option ((List Zh×List β) ⊕ ρ)}{s:List Zh×List β}(C:s.1.length<=60)(hs:s.2.length=s.1.length)
  (D:∀j a c d,r.thn[j]?=some a->c.length<=60->d.length<=60->body j a (c,d)=if Yy F r t a∈c then some (.inl (c,d)) else if 60<=c.length then some (.inr q) else some (.inl (c++[Yy F r t a],d++[o r t]))):forL body fin r.thn 0 s=if ((Zoq o F r t).foldl XC s).1.length<=60 then fin ((Zoq o F r t).foldl XC s) else some q:=by
 have E:s=((([]:List Zy).map fun a=>(Yy F r t a,o r t))).foldl XC s:=rfl
 conv=>lhs;rw [E]
 rw [ZoK (fun p:List Zy=>(p.map fun a=>(Yy F r t a,o r t)).foldl XC s) (fun p=>((p.map fun a=>(Yy F r t a,o r t)).foldl XC s).1.length<=60) q r.thn (by simpa using C) (fun p c e h=>by
  rw [e,BP,AT]at h;exact AW (ZkV _ _).1 h)]
 .rfl
 .intro p a c e b;have h2:=(Ze1 (p.map fun a=>(Yy F r t a,o r t)) s).2 hs;rw [BP,AT];generalize (p.map fun a=>(Yy F r t a,o r t)).foldl XC s=u at b h2 ⊢
  obtain ⟨x,y⟩:=u;simp only at b h2;rw [D _ _ _ _ (by rw [e];simp) b yE];show _=if (XC (x,y) (Yy F r t a,o r t)).1.length<=60 then some (Sum.inl (XC (x,y) (Yy F r t a,o r t))) else some (Sum.inr q)
  unfold XC;by_cases A:Yy F r t a∈x
  .rw [yp A,yp A,yp b]
  .rw [yn A,yn A];by_cases B:60<=x.length
   .rw [yp B,yn (by simp;omega)]
   .rw [yn B,yp (by simp;omega)]
theorem ZBA{α:Type}{g:α->List (Zh×β)}{L:List α}{q:ρ}{fin:List Zh×List β->Option ρ}{body:Nat->α->List Zh×List β->Option ((List Zh×List β) ⊕ ρ)}{s:List Zh×List β}(A:s.1.length<=60)(hs:s.2.length=s.1.length)
  (B:∀i x u,x∈L->u.1.length<=60->u.2.length=u.1.length->body i x u=if ((g x).foldl XC u).1.length<=60 then some (.inl ((g x).foldl XC u)) else some (.inr q)):forL body fin L 0 s=if ((L.flatMap g).foldl XC s).1.length<=60 then fin ((L.flatMap g).foldl XC s) else some q:=by
 have C:s=(([]:List α).flatMap g).foldl XC s:=rfl
 conv=>lhs;rw [C]
 rw [ZoK (fun p=>(p.flatMap g).foldl XC s) (fun p=>((p.flatMap g).foldl XC s).1.length<=60) q L (by simpa using A) (fun p c e h=>by
  rw [e,BB,AT]at h;exact AW (ZkV _ _).1 h)]
 intro p x c e a;have h2:=(Ze1 (p.flatMap g) s).2 hs;rw [B _ _ _ (by rw [e];simp) a h2,BB,AT];simp
end
def noB:Zl:={ nodes:=0,reasons:=[] }
def Zfg(r:Zf)(t:Zw):Yz:={ rule:=r.name,facts:=t.facts }
def Zk5(r:Zf)(t:Zw):Yc:={ rule:=r.name,token:=t }
def noI:Yz:={ rule:=⟨#[]⟩,facts:=[] }
def noS:Yc:={ rule:=⟨#[]⟩,token:={ facts:=[],binding:=[] } }
def ZpW{β:Type}(F:List Za)(g:List Zh×List β):List Za×Zl×List β×Bool:=if 60<g.1.length then ([],noB,[],false) else (F,{ nodes:=(F.length:Int),reasons:=g.1 },g.2,true)
structure Ya (R:List Zf) (base F:List Za):Prop where
 logical:(YK R&&R.all (Xm R))=true
 facts:Z7 base=true
 good:ZgF R base F
 len:F.length<=24
 closed:Zlw R F
theorem Ya.rule{R:List Zf}{base F:List Za}(h:Ya R base F){r:Zf}(A:r∈R):ZY r=true/\r.cond.length<=4/\r.thn.length<=2:=by
 have h1:=h.logical;rw [A9]at h1;have h2:=AN.1 h1.2 r A;unfold Xm at h2;rw [A9]at h2;have h3:=h2.1;unfold ZY at h3;simp only[A9]at h3;exact ⟨h2.1,ZaV h3.1.1⟩
theorem Ya.toks{R:List Zf}{base F:List Za}(h:Ya R base F){r:Zf}(A:r∈R):(ZD (QB r) F).length<=331776:=Zg9 F h.len (QB r) (by have:=Zey r;have:=(h.rule A).2.1;omega)
theorem Ya.tokS{R:List Zf}{base F:List Za}(h:Ya R base F){r:Zf}(B:r∈R){t:Zw}(A:t∈ZD (QB r) F):Zzy F t:=(QL F _ t A).s (by have:=Zey r;have:=(h.rule B).2.1;omega) fun f C=>Xh (h.good.ok f C)
theorem Zu9{R:List Zf}{base F:List Za}(h:Ya R base F)(J:YB R base=some (F,true)):Zbv R base=some (ZpW F (YP Zfg F noI R base)):=by
 have T:R.length<=6:=by have:=h.logical;rw [A9]at this;exact (Zlx this.1).1
 have hb24:=(Qk h.facts).1;unfold Zbv;rw [J,A0,yp rfl,Zql (F:=F) (z:=noI) yE]
 .show forL _ _ R 0 (Zcv F base,base.map fun _=>noI)=_
  rw [ZAx (g:=Zf7 Zfg F) (N:=663552) (M:=90000000)]
  .show (if decide (60<(((YP Zfg F noI R base).1.length:Nat):Int))=true then _ else _)=_
   unfold ZpW;by_cases e:60<(YP Zfg F noI R base).1.length
   .rw [yp (decide_eq_true yE),yp e];rfl
   .rw [yn (fun h=>e (by have:=of_decide_eq_true h;omega)),yn e];rfl
  .intro r A;obtain ⟨_,_,C⟩:=h.rule A;have h3:=h.toks A;have:=Zph (l:=ZD (QB r) F) (g:=Zoq Zfg F r) (N:=2) fun x _=>by rw [Zux];omega
   unfold Zf7;omega
  .simp only[Zcv,Aw];omega
  .simp [Zcv]
  .intro i r u A I m;obtain ⟨c,d⟩:=u;obtain ⟨_,U,C⟩:=h.rule A;have h3:=h.toks A;simp only at I m;show (YX r).bind _=_
   rw [ZcM r yE,A0,ZfI _ _ (by have:=Zey r;omega) h.len (fun f H=>Xh (h.good.ok f H)),A0,ZAx (g:=Zoq Zfg F r) (N:=2) (M:=99999998)]
   .rfl
   .intro t D;rw [Zux];exact C
   .simp only;omega
   .exact m
   .intro j t v D E p;obtain ⟨L,K⟩:=v;simp only at E p;have ht:=h.tokS A D;have hl:=ht.len;have ha:=Zpc r t;show forL _ _ r.cond 0 []=_
    rw [Zvm (t:=t) yE (fun i x row G=>by rw [Zbm,A0,Zj _ yE])];rw [ZD6 (o:=Zfg) (F:=F) (t:=t) C (s:=(L,K)) E p]
    .intro k a x y P O;show (Xu a.pattern t.binding).bind _=_
     rw [Zbm,A0,Zbn,A0,Zlr _ _ yE,A0,Zlr _ _ yE,A0];show (ZaH x (Yy F r t a)).bind _=_
     rw [Zn8,A0];by_cases B:Yy F r t a∈x
     .rw [yp (decide_eq_true B),yp (decide_eq_true B)]
     .rw [yn (by simpa using B),yn (by simpa using B),Zj _ yE,Zj _ yE];rfl
 .intro i f a b ha S;show (Yl F f).bind _=_
  rw [Zbn,A0,Zj _ yE,Zj _ yE];rfl
theorem Zva{R:List Zf}{base F:List Za}(h:Ya R base F)(K:Yw R base=some (F,true)):XI R base=some (ZpW F (YP Zk5 F noS R base)):=by
 have S:R.length<=6:=by have:=h.logical;rw [A9]at this;exact (Zlx this.1).1
 have hb24:=(Qk h.facts).1;unfold XI;rw [K,A0,yp rfl,Zql (F:=F) (z:=noS) yE]
 .show forL _ _ R 0 (Zcv F base,base.map fun _=>noS)=_
  rw [ZBA (g:=Zf7 Zk5 F) (q:=([],noB,[],false))]
  .show (if (YP Zk5 F noS R base).1.length<=60 then _ else _)=_
   unfold ZpW;by_cases e:60<(YP Zk5 F noS R base).1.length
   .rw [yn yE,yp e]
   .rw [yp yE,yn e];rfl
  .simp only[Zcv,Aw];omega
  .simp [Zcv]
  .intro i r u B D l;obtain ⟨c,d⟩:=u;obtain ⟨_,L,T⟩:=h.rule B;simp only at D l;show (XG r).bind _=_
   rw [ZgB r yE,A0,ZfY _ _ (by have:=Zey r;omega) h.len (fun f I=>Xh (h.good.ok f I)),A0,ZBA (g:=Zoq Zk5 F r) (q:=.inr ([],noB,[],false)) (s:=(c,d)) D l]
   .rfl
   .intro j t v H C m;obtain ⟨G,E⟩:=v;simp only at C m;have ht:=h.tokS B H;show forL _ _ r.thn 0 (G,E)=_
    rw [ZDL (o:=Zk5) (F:=F) (t:=t) (q:=.inr (.inr ([],noB,[],false))) (s:=(G,E)) C m]
    .intro k a x y ha O N;show (ZaB r (k:Int) t F).bind _=_
     rw [Znn L ht ha,A0];obtain ⟨z,J,p⟩:=ZsJ x (Yy F r t a);rw [J,A0];by_cases A:Yy F r t a∈x
     .rw [yp (by simpa using p.2 A),yp A]
     .rw [yn (by simpa using fun M=>A (p.1 M)),yn A];by_cases e:60<=x.length
      .rw [yp (by simp;omega),yp e];rfl
      .rw [yn (by simp;omega),yn e,Zj _ yE,Zj _ yE];rfl
 .intro i f a b ha P;show (Xs F f).bind _=_
  rw [Zaq,A0,Zj _ yE,Zj _ yE];rfl
theorem ZmH{R:List Zf}(H:XD R)(base:List Za)(a:base.length<=1048576):(Zbv R base=some ([],noB,[],false)/\XI R base=some ([],noB,[],false))\/∃F,Ya R base F/\Zbv R base=some (ZpW F (YP Zfg F noI R base))/\XI R base=some (ZpW F (YP Zk5 F noS R base)):=by
 obtain ⟨⟨F,b⟩,G,E,A⟩:=ZeC H base a;have D:b=false->(Zbv R base=some ([],noB,[],false)/\XI R base=some ([],noB,[],false)):=fun e=>by
  subst e;unfold Zbv XI;rw [G,E];exact ⟨rfl,rfl⟩
 rcases A with A|⟨A,L,⟨B,K,J,I⟩|⟨B,_⟩⟩
 .simp only[Prod.mk.injEq]at A;exact .inl (D A.2)
 .simp only at B;subst B;have C:Ya R base F:=⟨A,L,K,J,I⟩
  exact .inr ⟨F,C,Zu9 C E,Zva C G⟩
 .exact .inl (D B)
def ZCw(R:List Zf)(base F:List Za)(b:Zl)(ok:Bool):Prop:=(ok=false/\F=[]/\b=noB)\/(ok=true/\Ya R base F/\b={ nodes:=(F.length:Int),reasons:=Yg R F base }/\(Yg R F base).length<=60)
theorem Zeo{R:List Zf}(C:XD R)(base:List Za)(c:base.length<=1048576):∃F b ok,Zai R base=some (F,b,ok)/\Zaj R base=some (F,b,ok)/\ZCw R base F b ok:=by
 unfold Zai Zaj;rcases ZmH C base c with ⟨B,A⟩|⟨F,D,B,A⟩
 .rw [B,A];exact ⟨_,_,_,rfl,rfl,.inl ⟨rfl,rfl,rfl⟩⟩
 .obtain ⟨G,_⟩:=Zfo Zfg F noI R base;obtain ⟨E,_⟩:=Zfo Zk5 F noS R base;rw [B,A];unfold ZpW;rw [G,E];by_cases a:60<(Yg R F base).length
  .rw [yp a,yp a];exact ⟨_,_,_,rfl,rfl,.inl ⟨rfl,rfl,rfl⟩⟩
  .rw [yn a,yn a];exact ⟨_,_,_,rfl,rfl,.inr ⟨rfl,D,rfl,Nat.le_of_not_lt a⟩⟩
theorem ZuN{r:Zh}:∀{c l:List Zh},r∈c.foldl ZlE l↔r∈l\/r∈c
 | [],l=>by simp
 |x::c,l=>by
  rw [AL,ZuN];have:r∈ZlE l x↔r∈l\/r=x:=by
   unfold ZlE;split
   .rename_i h;exact ⟨.inl,fun A=>A.elim id fun e=>e ▸ h⟩
   .simp
  rw [this,AB,or_assoc]
theorem ZjS{R:List Zf}{F base:List Za}{x:Zh}:x∈Yg R F base↔(∃f∈base,x={ for_:=Yd F f,inn:=[],outs:=[] })\/∃r∈R,∃t∈ZD (QB r) F,∃a∈r.thn,x=Yy F r t a:=by
 unfold Yg;rw [ZuN];constructor
 .rintro (h|h)
  .obtain ⟨f,C,e⟩:=Az.1 h;exact .inl ⟨f,C,e.symm⟩
  .obtain ⟨r,B,h⟩:=AU.1 h;obtain ⟨t,A,h⟩:=AU.1 h;obtain ⟨a,D,e⟩:=Az.1 h;exact .inr ⟨r,B,t,A,a,D,e.symm⟩
 .rintro (⟨f,C,e⟩|⟨r,B,t,A,a,D,e⟩)
  .exact .inl (Az.2 ⟨f,C,e.symm⟩)
  .exact .inr (AU.2 ⟨r,B,AU.2 ⟨t,A,Az.2 ⟨a,D,e.symm⟩⟩⟩)
theorem ZsF{R:List Zf}{base F:List Za}(h:Ya R base F){x:Zh}(B:x∈Yg R F base):x.inn.length<=4/\x.outs.length<=4:=by
 rcases ZjS.1 B with ⟨f,_,rfl⟩|⟨r,A,t,C,a,_,rfl⟩
 .exact ⟨BK _,BK _⟩
 .have h1:=(h.tokS A C).len;have h2:=Zpc r t;have h3:=(h.rule A).2.1;exact ⟨AW (Y4 F t.facts).2.2 h1,AW (Y4 F (Zli r t)).2.2 yE⟩
end
section
open Classical
def mx(a b:Int):Int:=if a<b then b else a
theorem Zzx(a b:Int):a<=mx a b/\b<=mx a b:=by unfold mx;split<;>omega
theorem ZDa{a b c:Int}(B:a<=c)(A:b<=c):mx a b<=c:=by unfold mx;split<;>omega
theorem ZwS(g:Int->Int):∀(l:List Int) (m:Int),m<=l.foldl (fun m y=>mx m (g y)) m/\∀y∈l,g y<=l.foldl (fun m y=>mx m (g y)) m
 | [],m=>⟨AP _,yG⟩
 |x::l,m=>by
  obtain ⟨C,B⟩:=ZwS g l (mx m (g x));have h3:=Zzx m (g x);refine ⟨by rw [AL];omega,fun y A=>?_⟩;rw [AL];rcases AB.1 A with rfl|A
  .omega
  .exact B y A
theorem ZvV{g:Int->Int}{T:Int}:∀{l:List Int}{m:Int},m<=T->(∀y∈l,g y<=T)->l.foldl (fun m y=>mx m (g y)) m<=T
 | [],_,h,_=>h
 |x::l,m,h,hl=>ZvV (l:=l) (ZDa h (hl x yG)) fun y A=>hl y (by simp [A])
def OkN(n:Nat)(r:Zh):Prop:=(0<=r.for_/\r.for_.toNat<n)/\(∀y∈r.inn,0<=y/\y.toNat<n)/\∀y∈r.outs,0<=y/\y.toNat<n
def lvN(row:List Int)(i:Nat):Int:=(row[i]?).getD 0
theorem Zbh(row:List Int)(i j:Nat)(v:Int):lvN (row.set i v) j=if j=i/\i<row.length then v else lvN row j:=by
 unfold lvN;rw [BE];by_cases h:i=j
 .subst h;by_cases A:i<row.length
  .simp [A]
  .simp [A]
 .have:¬j=i:=fun e=>h e.symm;simp [h,this]
theorem ZgO{a b:List Int}(A:a.length=b.length)(h:∀i,i<a.length->lvN a i=lvN b i):a=b:=by
 apply BD;intro i;by_cases hi:i<a.length
 .have:=h i hi;unfold lvN at this;rw [AD hi,AD yE]at this ⊢;simpa using this
 .rw [AQ yE,AQ yE]
def Zkb(row:List Int)(r:Zh):Int:=r.outs.foldl (fun m y=>mx m (lvN row y.toNat+1)) (r.inn.foldl (fun m y=>mx m (lvN row y.toNat)) (lvN row r.for_.toNat))
theorem ZsK(row:List Int)(r:Zh):lvN row r.for_.toNat<=Zkb row r/\(∀y∈r.inn,lvN row y.toNat<=Zkb row r)/\∀y∈r.outs,lvN row y.toNat+1<=Zkb row r:=by
 obtain ⟨E,D⟩:=ZwS (fun y=>lvN row y.toNat) r.inn (lvN row r.for_.toNat);obtain ⟨A,C⟩:=ZwS (fun y=>lvN row y.toNat+1) r.outs (r.inn.foldl (fun m y=>mx m (lvN row y.toNat)) (lvN row r.for_.toNat));exact ⟨AI E A,fun y B=>AI (D y B) A,C⟩
theorem ZBN{row:List Int}{r:Zh}{T:Int}(C:lvN row r.for_.toNat<=T)(B:∀y∈r.inn,lvN row y.toNat<=T)(A:∀y∈r.outs,lvN row y.toNat+1<=T):Zkb row r<=T:=
 ZvV (g:=fun y=>lvN row y.toNat+1) (ZvV (g:=fun y=>lvN row y.toNat) C B) A
def QN(row:List Int)(r:Zh):List Int:=row.set r.for_.toNat (Zkb row r)
def QA(R:List Zh)(row:List Int):List Int:=R.foldl QN row
theorem Zek(row:List Int)(r:Zh):(QN row r).length=row.length:=by simp [QN]
theorem Zgg:∀(R:List Zh) (row:List Int),(QA R row).length=row.length
 | [],_=>rfl
 |r::R,row=>(Zgg R (QN row r)).trans (Zek row r)
theorem Zis(row:List Int)(r:Zh)(i:Nat):lvN row i<=lvN (QN row r) i:=by
 unfold QN;rw [Zbh];split
 .rename_i h;rw [h.1];exact (ZsK row r).1
 .exact AP _
theorem ZcG:∀(R:List Zh) (row:List Int) (i:Nat),lvN row i<=lvN (QA R row) i
 | [],_,_=>AP _
 |r::R,row,i=>AI (Zis row r i) (ZcG R (QN row r) i)
theorem Znq{row:List Int}{r:Zh}(h:¬lvN row r.for_.toNat<Zkb row r):QN row r=row:=by
 have e:Zkb row r=lvN row r.for_.toNat:=by have:=(ZsK row r).1;omega
 refine ZgO (Zek row r) fun i _=>?_;unfold QN;rw [Zbh];split
 .rename_i h;rw [h.1,e]
 .rfl
structure Zjj (R:List Zh) (t:Nat->Int):Prop where
 pos:∀i,0<=t i
 inn:∀r∈R,∀y∈r.inn,t y.toNat<=t r.for_.toNat
 outs:∀r∈R,∀y∈r.outs,t y.toNat+1<=t r.for_.toNat
theorem Zob{R:List Zh}{t:Nat->Int}(C:Zjj R t){r:Zh}(B:r∈R){row:List Int}(h:∀i,lvN row i<=t i)(i:Nat):lvN (QN row r) i<=t i:=by
 unfold QN;rw [Zbh];split
 .rename_i hi;rw [hi.1];exact ZBN (h _) (fun y A=>AI (h _) (C.inn r B y A)) fun y A=>by have:=h y.toNat;have:=C.outs r B y A;omega
 .exact h i
theorem Ze2{R:List Zh}{t:Nat->Int}(A:Zjj R t):∀{l:List Zh},(∀r∈l,r∈R)->∀{row:List Int},(∀i,lvN row i<=t i)->∀i,lvN (QA l row) i<=t i
 | [],_,_,h=>h
 |r::l,hl,row,h=>Ze2 A (l:=l) (fun x B=>hl x (by simp [B])) (Zob A (hl r yG) h)
theorem ZiX{n:Nat}:∀{R:List Zh}{row:List Int},row.length=n->(∀r∈R,OkN n r)->∀r∈R,(∀y∈r.inn,lvN row y.toNat<=lvN (QA R row) r.for_.toNat)/\∀y∈r.outs,lvN row y.toNat+1<=lvN (QA R row) r.for_.toNat
 | [],_,_,_,r,B=>by simp at B
 |q::R,row,hl,hR,r,B=>by
  have hs:=ZcG R (QN row q);show (∀y∈r.inn,lvN row y.toNat<=lvN (QA R (QN row q)) r.for_.toNat)/\∀y∈r.outs,lvN row y.toNat+1<=lvN (QA R (QN row q)) r.for_.toNat
  rcases AB.1 B with rfl|B
  .have h0:=(hR r yG).1.2;have e:lvN (QN row r) r.for_.toNat=Zkb row r:=by
    unfold QN;rw [Zbh,yp ⟨rfl,yE⟩]
   have h1:=hs r.for_.toNat;rw [e]at h1;obtain ⟨_,D,C⟩:=ZsK row r;exact ⟨fun y A=>AI (D y A) h1,fun y A=>AI (C y A) h1⟩
  .obtain ⟨D,C⟩:=ZiX (n:=n) (R:=R) (row:=QN row q) (by rw [Zek,hl]) (fun x E=>hR x (by simp [E])) r B;refine ⟨fun y A=>AI (Zis row q _) (D y A),fun y A=>?_⟩;have:=Zis row q y.toNat;have:=C y A;omega
structure ZbR (n:Nat) (R:List Zh) (L:List Int):Prop where
 len:L.length=n
 sol:Zjj R (lvN L)
 least:∀t,Zjj R t->∀i,lvN L i<=t i
theorem ZbR.uniq{n:Nat}{R:List Zh}{L M:List Int}(h:ZbR n R L)(k:ZbR n R M):L=M:=
 ZgO (h.len.trans k.len.symm) fun i _=>Bh (h.least _ k.sol i) (k.least _ h.sol i)
theorem Zyd{n:Nat}{R:List Zh}{row:List Int}(B:row.length=n)(C:∀r∈R,OkN n r)(D:∀i,0<=lvN row i)(a:∀t,Zjj R t->∀i,lvN row i<=t i)(h:QA R row=row):ZbR n R row:=by
 have:=ZiX B C;rw [h]at this;exact ⟨B,⟨D,fun r A=>(this r A).1,fun r A=>(this r A).2⟩,a⟩
def ZjV(n:Nat)(L row:List Int):Nat:=(AK n).countP fun i=>decide (¬lvN row i=lvN L i)
theorem ZoG{n:Nat}{R:List Zh}{L row:List Int}(B:ZbR n R L)(H:row.length=n)(D:∀r∈R,OkN n r)(N:∀i,0<=lvN row i)(a:∀i,lvN row i<=lvN L i):ZjV n L row=0\/ZjV n L (QA R row)+1<=ZjV n L row:=by
 have hs:=Ze2 B.sol (l:=R) (fun _ h=>h) a;have b:=ZcG R row;by_cases G:∃i,i<n/\¬lvN row i=lvN L i/\lvN (QA R row) i=lvN L i
 .right
  obtain ⟨i,hi,h1,h2⟩:=G;refine Zgm (fun j _ K=>?_) i (Ak.2 hi) (by simpa using h2) (by simpa using h1);simp only[decide_eq_true_eq]at K ⊢;intro e;have:=hs j;have:=b j;omega
 .left
  have c:∀i,i<n->¬lvN row i=lvN L i->lvN (QA R row) i<=lvN L i - 1:=fun i hi h1=>by
   have h2:¬lvN (QA R row) i=lvN L i:=fun h=>G ⟨i,hi,h1,h⟩;have:=hs i;omega
  let t:Nat->Int:=fun i=>if i<n/\¬lvN row i=lvN L i then lvN L i - 1 else lvN L i
  have f:∀i,t i<=lvN L i:=fun i=>by simp only[t];split<;>omega
  have key:∀(x y:Nat) (d:Int),0<=d->x<n->lvN L y+d<=lvN L x->lvN row y+d<=lvN (QA R row) x->t y+d<=t x:=fun x y d S P h1 h2=>by
   by_cases E:x<n/\¬lvN row x=lvN L x
   .have e:t x=lvN L x - 1:=yp E;have h3:=c x E.1 E.2;by_cases F:y<n/\¬lvN row y=lvN L y
    .have O:t y=lvN L y - 1:=yp F;omega
    .have O:t y=lvN L y:=yn F;by_cases I:y<n
     .have M:lvN row y=lvN L y:=Classical.byContradiction fun h=>F ⟨I,h⟩;omega
     .have M:lvN row y=0:=by unfold lvN;rw [AQ yE];rfl
      have T:lvN L y=0:=by unfold lvN;rw [AQ (by rw [B.len];omega)];rfl
      omega
   .have e:t x=lvN L x:=yn E;have:=f y;omega
  have J:Zjj R t:=⟨fun i=>by
   simp only[t];split
   .rename_i h;have:=N i;have:=a i;have:=h.2;omega
   .exact B.sol.pos i,fun r A y C=>by
    have h1:=B.sol.inn r A y C;have h2:=(ZiX H D r A).1 y C;have:=key r.for_.toNat y.toNat 0 (AP _) (D r A).1.2 yE yE;omega,fun r A y C=>key r.for_.toNat y.toNat 1 yE (D r A).1.2 (B.sol.outs r A y C) ((ZiX H D r A).2 y C)⟩
  unfold ZjV;rw [B3];intro i hi;simp only[decide_eq_true_eq,Classical.not_not];refine Classical.byContradiction fun h=>?_;have h1:=B.least t J i;have e:t i=lvN L i - 1:=yp ⟨Ak.1 hi,h⟩;omega
def ZvQ(R:List Zh):Nat->List Int->List Int
 |0,row=>row
 |k+1,row=>ZvQ R k (QA R row)
theorem Znw{n:Nat}{R:List Zh}{L:List Int}(A:ZbR n R L)(B:∀r∈R,OkN n r):∀(k:Nat) (row:List Int),row.length=n->(∀i,0<=lvN row i)->(∀i,lvN row i<=lvN L i)->ZjV n L row<=k->ZvQ R k row=L
 |0,row,hl,h0,hle,hk=>by
  show row=L
  refine ZgO (hl.trans A.len.symm) fun i hi=>?_;have:ZjV n L row=0:=by omega
  unfold ZjV at this;rw [B3]at this;simpa using this i (Ak.2 yE)
 |k+1,row,hl,h0,hle,hk=>by
  refine Znw A B k (QA R row) (by rw [Zgg,hl]) (fun i=>AI (h0 i) (ZcG R row i)) (Ze2 A.sol (fun _ h=>h) hle) ?_;rcases ZoG A hl B h0 hle with h|h
  .have:ZjV n L (QA R row)=0:=by
    have e:row=L:=by
     refine ZgO (hl.trans A.len.symm) fun i hi=>?_;unfold ZjV at h;rw [B3]at h;simpa using h i (Ak.2 yE)
    unfold ZjV;rw [B3];intro i hi;have h1:=Ze2 A.sol (l:=R) (fun _ h=>h) hle i;have h2:=ZcG R row i;rw [e]at h1 h2 ⊢;simp only[decide_eq_true_eq,Classical.not_not];omega
   omega
  .omega
def Zom(R:List Zh)(x y:Int):Prop:=∃r∈R,r.for_=x/\(y∈r.inn\/y∈r.outs)
inductive Zcf (R:List Zh) (x:Int):Int->Prop
 |one {y:Int}:Zom R x y->Zcf R x y
 |step {y z:Int}:Zcf R x y->Zom R y z->Zcf R x z
theorem Zcf.head{R:List Zh}{x y z:Int}(h:Zom R x y)(k:Zcf R y z):Zcf R x z:=by
 induction k with
 |one h1=>exact .step (.one h) h1
 |step _ h1 ih=>exact .step ih h1
def ZsZ(R:List Zh):Prop:=∀r∈R,∀y∈r.outs,y≠r.for_/\¬Zcf R y r.for_
def ZiQ(n:Nat)(R:List Zh)(i:Nat):Int:=if i<n then (((AK n).countP fun j=>decide (j=i\/Zcf R (i:Int) (j:Int)):Nat):Int) - 1 else 0
theorem Zqs{α:Type}{p q:α->Bool}:∀{l:List α},(∀x∈l,p x=true->q x=true)->l.countP p<=l.countP q
 | [],_=>An _
 |x::l,h=>by
  have ih:=Zqs (l:=l) fun y A=>h y (by simp [A]);have hx:=h x yG;simp only[Aq];cases hp:p x with
  |true=>rw [hx hp];simpa using ih
  |false=>simp;omega
theorem ZvP{n:Nat}{R:List Zh}(L:∀r∈R,OkN n r)(O:ZsZ R):Zjj R (ZiQ n R)/\∀i,ZiQ n R i<n\/ZiQ n R i=0:=by
 have E:∀i,i<n->ZiQ n R i=(((AK n).countP fun j=>decide (j=i\/Zcf R (i:Int) (j:Int)):Nat):Int) - 1:=fun i hi=>yp hi;refine ⟨⟨fun i=>?_,fun r D y C=>?_,fun r D y C=>?_⟩,fun i=>?_⟩
 .by_cases hi:i<n
  .rw [E i hi];have:0<(AK n).countP fun j=>decide (j=i\/Zcf R (i:Int) (j:Int)):=List.countP_pos_iff.2 ⟨i,Ak.2 hi,yG⟩;omega
  .unfold ZiQ;rw [yn hi];exact AP _
 .obtain ⟨⟨K,H⟩,S,_⟩:=L r D;obtain ⟨J,I⟩:=S y C;rw [E _ I,E _ H];have B:(y.toNat:Int)=y:=B4 J;have G:(r.for_.toNat:Int)=r.for_:=B4 K;have F:Zom R r.for_ y:=⟨r,D,rfl,.inl C⟩
  have:=Zqs (l:=AK n) (p:=fun j=>decide (j=y.toNat\/Zcf R (y.toNat:Int) (j:Int))) (q:=fun j=>decide (j=r.for_.toNat\/Zcf R (r.for_.toNat:Int) (j:Int))) (fun j _ A=>by
   simp only[decide_eq_true_eq,B,G]at A ⊢;rcases A with rfl|A
   .exact .inr (by rw [B];exact .one F)
   .exact .inr (.head F A))
  omega
 .obtain ⟨⟨K,H⟩,_,P⟩:=L r D;obtain ⟨J,I⟩:=P y C;rw [E _ I,E _ H];have B:(y.toNat:Int)=y:=B4 J;have G:(r.for_.toNat:Int)=r.for_:=B4 K;have F:Zom R r.for_ y:=⟨r,D,rfl,.inr C⟩
  obtain ⟨N,M⟩:=O r D y C;have:=Zgm (l:=AK n) (p:=fun j=>decide (j=y.toNat\/Zcf R (y.toNat:Int) (j:Int))) (q:=fun j=>decide (j=r.for_.toNat\/Zcf R (r.for_.toNat:Int) (j:Int))) (fun j _ A=>by
   simp only[decide_eq_true_eq,B,G]at A ⊢;rcases A with rfl|A
   .exact .inr (by rw [B];exact .one F)
   .exact .inr (.head F A)) r.for_.toNat (Ak.2 H) (by
    simp only[decide_eq_false_iff_not,B,G,not_or];exact ⟨fun e=>N (by rw [<-B,<-G,e]),M⟩) yG
  omega
 .by_cases hi:i<n
  .left
   rw [E i hi];have:=Ay (p:=fun j=>decide (j=i\/Zcf R (i:Int) (j:Int))) (l:=AK n);rw [Bi]at this;omega
  .right;unfold ZiQ;rw [yn hi]
end
section
open Classical
def rdN(row:List Int)(y:Int):Int:=(row[y.toNat]?).getD (-1)
def Zin(row:List Int)(k:Nat)(r:Zh):Prop:=(∀y∈r.inn,0<=rdN row y/\rdN row y<(k:Int))/\∀y∈r.outs,rdN row y<0
def ZdT(row l:List Int)(k:Int):List Int:=l.foldl (fun s x=>s.set x.toNat k) row
theorem Zuk(k:Int):∀(l row:List Int),(ZdT row l k).length=row.length
 | [],_=>rfl
 |x::l,row=>(Zuk k l (row.set x.toNat k)).trans yG
theorem Zlu(k:Int):∀(l row:List Int) (i:Nat),(ZdT row l k)[i]?=if (∃x∈l,x.toNat=i)/\i<row.length then some k else row[i]?
 | [],row,i=>by simp [ZdT]
 |x::l,row,i=>by
  have ih:=Zlu k l (row.set x.toNat k) i;show (ZdT (row.set x.toNat k) l k)[i]?=_
  rw [ih,List.length_set,BE];by_cases B:i<row.length
  .by_cases C:∃y∈l,y.toNat=i
   .have:∃y∈x::l,y.toNat=i:=by obtain ⟨y,m,e⟩:=C;exact ⟨y,by simp [m],e⟩
    rw [yp ⟨C,B⟩,yp ⟨this,B⟩]
   .rw [yn (fun h=>C h.1)];by_cases A:x.toNat=i
    .rw [yp A,yp yE,yp ⟨⟨x,yG,A⟩,B⟩]
    .rw [yn A,yn];rintro ⟨⟨y,m,e⟩,_⟩;rcases AB.1 m with rfl|m
     .exact A e
     .exact C ⟨y,m,e⟩
  .have e:row[i]?=none:=AQ yE;by_cases A:x.toNat=i
   .have:¬x.toNat<row.length:=by omega
    simp [B,e,A]
   .simp [B,e,A]
theorem ZwT{row l m:List Int}{k:Int}(h:∀i,(∃x∈l,x.toNat=i)↔∃x∈m,x.toNat=i):ZdT row l k=ZdT row m k:=by
 apply BD;intro i;rw [Zlu,Zlu];by_cases A:(∃x∈l,x.toNat=i)/\i<row.length
 .rw [yp A,yp ⟨(h i).1 A.1,A.2⟩]
 .rw [yn A,yn fun B=>A ⟨(h i).2 B.1,B.2⟩]
def ZfM(row:List Int):Nat:=row.countP fun v=>decide (v<0)
theorem Zoa{k:Int}(C:0<=k):∀(row:List Int) (i:Nat),ZfM (row.set i k)<=ZfM row/\(∀v,row[i]?=some v->v<0->ZfM (row.set i k)+1<=ZfM row)
 | [],i=>by simp [ZfM]
 |v::row,0=>by
  simp only[List.set_cons_zero,ZfM,Aq];have:¬k<0:=by omega
  refine ⟨by simp [this],fun u A B=>?_⟩;simp at A;subst A;simp [this,B]
 |v::row,i+1=>by
  obtain ⟨E,D⟩:=Zoa C row i;simp only[Bj,ZfM,Aq]at *;refine ⟨yE,fun u A B=>?_⟩;have:=D u (by simpa using A) B;omega
theorem ZrG{k:Int}(A:0<=k):∀(l row:List Int),ZfM (ZdT row l k)<=ZfM row
 | [],_=>An _
 |x::l,row=>AW (ZrG A l (row.set x.toNat k)) (Zoa A row _).1
def YV(R:List Zh)(L:List Int)(s:Int)(row:List Int)(k:Nat):List Int:=R.filterMap fun r=>if lvN L r.for_.toNat=s/\rdN row r.for_<0/\Zin row k r then some r.for_ else none
theorem ZcP{R:List Zh}{L:List Int}{s:Int}{row:List Int}{k:Nat}{x:Int}:x∈YV R L s row k↔∃r∈R,r.for_=x/\lvN L x.toNat=s/\rdN row x<0/\Zin row k r:=by
 unfold YV;rw [Ab];constructor
 .rintro ⟨r,A,h⟩;split at h
  .rename_i B;obtain rfl:=Aa h;exact ⟨r,A,rfl,B⟩
  .simp at h
 .rintro ⟨r,A,rfl,h⟩;exact ⟨r,A,by rw [yp h]⟩
structure RIn (n:Nat) (row:List Int) (k:Nat):Prop where
 len:row.length=n
 val:∀i,i<n->∃v,row[i]?=some v/\(v=-1\/(0<=v/\v<(k:Int)))
 few:k+ZfM row<=n
theorem RIn.next{n:Nat}{R:List Zh}{L row:List Int}{s:Int}{k:Nat}(G:∀r∈R,OkN n r)(h:RIn n row k)(F:YV R L s row k≠[]):RIn n (ZdT row (YV R L s row k) (k:Int)) (k+1)/\ZfM (ZdT row (YV R L s row k) (k:Int))+1<=ZfM row:=by
 have E:ZfM (ZdT row (YV R L s row k) (k:Int))+1<=ZfM row:=by
  cases e:YV R L s row k with
  |nil=>exact absurd e F
  |cons x l=>
   have C:x∈YV R L s row k:=by rw [e];simp
   obtain ⟨r,D,rfl,_,B,_⟩:=ZcP.1 C;obtain ⟨v,A,_⟩:=h.val r.for_.toNat (G r D).1.2;have H:v<0:=by unfold rdN at B;rw [A]at B;exact B
   have h4:=(Zoa (k:=(k:Int)) yE row r.for_.toNat).2 v A H;have h5:=ZrG (k:=(k:Int)) yE l (row.set r.for_.toNat (k:Int));exact AW (Nat.succ_le_succ h5) h4
 refine ⟨⟨by rw [Zuk,h.len],fun i hi=>?_,by have:=h.few;omega⟩,E⟩;rw [Zlu];obtain ⟨v,A,a⟩:=h.val i hi;split
 .exact ⟨_,rfl,.inr ⟨yE,yE⟩⟩
 .refine ⟨v,A,?_⟩;rcases a with a|⟨I,B⟩
  .exact .inl a
  .exact .inr ⟨I,yE⟩
def Xg(R:List Zh)(L:List Int)(s:Int):Nat->List Int->Nat->List Int×Nat
 |0,row,k=>(row,k)
 |f+1,row,k=>if YV R L s row k=[] then (row,k) else Xg R L s f (ZdT row (YV R L s row k) (k:Int)) (k+1)
theorem ZeF{n:Nat}{R:List Zh}{L:List Int}{s:Int}(B:∀r∈R,OkN n r):∀(f:Nat) (row:List Int) (k:Nat),RIn n row k->ZfM row<=f->RIn n (Xg R L s f row k).1 (Xg R L s f row k).2/\YV R L s (Xg R L s f row k).1 (Xg R L s f row k).2=[]
 |0,row,k,h,hf=>by
  refine ⟨h,Classical.byContradiction fun A=>?_⟩;have:=(h.next B A).2;omega
 |f+1,row,k,h,hf=>by
  unfold Xg;by_cases A:YV R L s row k=[]
  .rw [yp A];exact ⟨h,A⟩
  .rw [yn A];obtain ⟨C,D⟩:=h.next B A
   exact ZeF B f _ _ C yE
theorem Zzl{R:List Zh}{L:List Int}{s:Int}(hs:∀r∈R,¬lvN L r.for_.toNat=s)(f:Nat)(row:List Int)(k:Nat):Xg R L s f row k=(row,k):=by
 cases f with
 |zero=>rfl
 |succ f=>
  unfold Xg;rw [yp];rw [BR];intro x A;obtain ⟨r,B,rfl,h,_⟩:=ZcP.1 A;exact hs r B h
def X1(R:List Zh)(L:List Int)(n:Nat)(l:List Nat)(st:List Int×Nat):List Int×Nat:=l.foldl (fun st s=>Xg R L ((s:Nat):Int) n st.1 st.2) st
theorem Znt{n:Nat}{R:List Zh}{L:List Int}(A:∀r∈R,OkN n r):∀(l:List Nat) (st:List Int×Nat),RIn n st.1 st.2->RIn n (X1 R L n l st).1 (X1 R L n l st).2
 | [],_,h=>h
 |s::l,st,h=>Znt A l _ (ZeF A n st.1 st.2 h (by have:=h.few;omega)).1
theorem ZrN(R:List Zh)(L:List Int)(n:Nat)(l:List Nat)(s:Nat)(st:List Int×Nat):X1 R L n (l++[s]) st=Xg R L (s:Int) n (X1 R L n l st).1 (X1 R L n l st).2:=by
 unfold X1;rw [AT];rfl
theorem ZuE{n:Nat}{R:List Zh}{L:List Int}{a b:Nat}(C:∀r∈R,lvN L r.for_.toNat<(a:Int))(B:∀r∈R,lvN L r.for_.toNat<(b:Int))(st:List Int×Nat):X1 R L n (AK a) st=X1 R L n (AK b) st:=by
 have key:∀(a d:Nat),(∀r∈R,lvN L r.for_.toNat<(a:Int))->X1 R L n (AK (a+d)) st=X1 R L n (AK a) st:=by
  intro a d ha;induction d with
  |zero=>rfl
  |succ d ih=>
   rw [show a+(d+1)=(a+d)+1 by omega,List.range_succ,ZrN,ih,Zzl];intro r A e;have:=ha r A;omega
 rcases Nat.le_total a b with h|h
 .have:=key a (b - a) C;rw [show a+(b - a)=b by omega]at this;exact this.symm
 .have:=key b (a - b) B;rw [show b+(a - b)=a by omega]at this;exact this
end
section
open Classical
theorem ZBD(F:List Za):∀n (l:List Zu),l.length=n->∀t∈ZD l F,∀f∈t.facts,∃x∈l,x.kind=1/\x.pattern.rel=f.rel:=by
 intro n;induction n with
 |zero=>
  intro l h t A f B;rw [Aj h]at A;simp [ZD]at A;subst A;simp [ZAT]at B
 |succ n ih=>
  intro l h;obtain ⟨p,x,rfl⟩:∃p x,l=p++[x]:=⟨l.dropLast,l.getLast (by intro e;simp [e]at h),(B9 _).symm⟩
  intro t A f B;rw [Xx]at A;obtain ⟨s,H,A⟩:=AU.1 A;have a:f∈s.facts->∃y∈p++[x],y.kind=1/\y.pattern.rel=f.rel:=fun K=>by
   obtain ⟨y,G,I⟩:=ih p (by simpa using h) s H f K;exact ⟨y,by simp [G],I⟩
  unfold ZbT at A;by_cases D:x.kind=1
  .rw [yp D]at A;obtain ⟨g,L,J⟩:=Ab.1 A;obtain ⟨b,E,rfl⟩:=B5.1 J;simp only[AA,AY]at B;rcases B with B|rfl
   .exact a B
   .refine ⟨x,yG,D,?_⟩;unfold ZaC at E;split at E
    .rename_i C;unfold ZdG at C;simp only[A9,decide_eq_true_eq,ZV]at C;first|exact C.1.2|exact C.2|exact C.1.1.2|exact C.2.1|exact C.1.2.1
    .simp at E
  .rw [yn D]at A;split at A
   .simp at A;subst A;exact a B
   .simp at A
def Zhy(F:List Za)(x:Int):BYT:=match F[x.toNat]? with|some f=>f.rel|none=>⟨#[]⟩
theorem ZlT{F:List Za}{f:Za}{x:Int}(e:Yd F f=x)(C:0<=x):(0<=x/\x.toNat<F.length)/\Zhy F x=f.rel/\f∈F:=by
 rcases ZgY F f with ⟨_,A⟩|⟨j,D,A⟩
 .omega
 .have B:x.toNat=j:=by omega
  refine ⟨⟨C,?_⟩,?_,Ac A⟩
  .rw [B];exact (AX.1 A).1
  .unfold Zhy;rw [B,A]
structure ZI3 (R:List Zf) (F:List Za) (x:Zh):Prop where
 node:0<=x.for_/\x.for_.toNat<F.length
 inn:∀y∈x.inn,(0<=y/\y.toNat<F.length)/\Zhu R (Zhy F x.for_) (Zhy F y)
 outs:∀y∈x.outs,(0<=y/\y.toNat<F.length)/\Zhu R (Zhy F x.for_) (Zhy F y)/\Zhy F y≠Zhy F x.for_/\¬XN R (Zhy F y) (Zhy F x.for_)
 up:x.inn.Pairwise (·<·)/\x.outs.Pairwise (·<·)
theorem Zfp{R:List Zf}{base F:List Za}(h:Ya R base F){x:Zh}(N:x∈Yg R F base):ZI3 R F x:=by
 rcases ZjS.1 N with ⟨f,D,rfl⟩|⟨r,C,t,L,a,G,rfl⟩
 .obtain ⟨j,h1,h2⟩:=Za6 (h.good.inc f D)
  have:=(AX.1 h2).1
  exact ⟨⟨by simp only;omega,by simp only;omega⟩,yG,yG,BC,BC⟩
 .have o:Yn a t∈F:=h.closed r C t L a G
  obtain ⟨j,h1,h2⟩:=Za6 o
  have hr:=(h.rule C).1
  have k:=hr
  unfold ZY at k
  simp only[A9]at k
  have T:a.kind=1:=by
   have:=AN.1 k.2 a G
   simpa using this
  obtain ⟨S,q,_⟩:=ZlT (F:=F) (f:=Yn a t) rfl (by rw [h1];omega)
  have hok:=h.good.ok _ o
  have A:∀p b,Yt (XJ (YW p b)).1=true->(XJ (YW p b)).1.rel=p.rel:=fun p b M=>by
   cases hi:YW p b with
   |none=>
    rw [hi]at M
    exact absurd M yF
   |some g=>
    unfold YW at hi
    split at hi
    .obtain ⟨l,_,rfl⟩:=B5.1 hi
     rfl
    .simp at hi
  have i:Zhy F (Yd F (Yn a t))=a.pattern.rel:=q.trans (A a.pattern t.binding hok)
  have J:a.pattern.rel∈X2 r:=Ab.2 ⟨a,G,by rw [yp (.inl T)]⟩
  refine ⟨S,fun y E=>?_,fun y E=>?_,(Y4 F _).1,(Y4 F _).1⟩
  .obtain ⟨f,D,e,K⟩:=((Y4 F t.facts).2.1 y).1 E
   obtain ⟨I,H,_⟩:=ZlT e K
   obtain ⟨c,B,ck,cr⟩:=ZBD F _ (QB r) rfl t L f D
   refine ⟨I,r,C,?_,?_⟩
   .show Zhy F (Yd F (Yn a t))∈_
    rw [i];exact J
   .rw [H,<-cr]
    exact Ab.2 ⟨c,(BL.1 B).1,by rw [yp (.inl ck)]⟩
  .obtain ⟨f,D,e,K⟩:=((Y4 F (Zli r t)).2.1 y).1 E
   obtain ⟨I,H,O⟩:=ZlT e K
   obtain ⟨c,B,rfl⟩:=Az.1 D
   obtain ⟨B,ck⟩:=BL.1 B
   have cr:=A c.pattern t.binding (h.good.ok _ O)
   have P:Zhy F y=c.pattern.rel:=H.trans cr
   have m:Zhy F (Yy F r t a).for_=a.pattern.rel:=i
   have d:ZkQ R c.pattern.rel a.pattern.rel=true:=by
    have h1:=h.logical
    rw [A9]at h1
    have h2:=AN.1 h1.2 r C
    unfold Xm at h2
    rw [A9]at h2
    have h3:=AN.1 h2.2 c B
    unfold Zil at h3
    rw [ck]at h3
    simp only[BI,Ax]at h3
    exact AN.1 h3 _ (Z3.2 J)
   unfold ZkQ at d
   simp only[A9,Bool.not_eq_true',decide_eq_false_iff_not]at d
   rw [m,P]
   refine ⟨I,⟨r,C,J,Ab.2 ⟨c,B,by rw [yp (.inr (by simpa using ck))]⟩⟩,fun e=>?_,d.2⟩
   have:=Zye.1 d.1
   exact this e.symm
theorem Zza{R:List Zf}{base F:List Za}(h:Ya R base F):∀x∈Yg R F base,OkN F.length x:=fun x B=>by
 have hf:=Zfp h B;exact ⟨hf.node,fun y A=>(hf.inn y A).1,fun y A=>(hf.outs y A).1⟩
theorem ZsQ{R:List Zf}{base F:List Za}(h:Ya R base F):ZsZ (Yg R F base):=by
 have a:∀x y,Zom (Yg R F base) x y->Zhu R (Zhy F x) (Zhy F y):=fun x y ⟨r,B,e,A⟩=>by
  have hf:=Zfp h B;subst e;rcases A with A|A
  .exact (hf.inn y A).2
  .exact (hf.outs y A).2.1
 have b:∀x y,Zcf (Yg R F base) x y->XN R (Zhy F x) (Zhy F y):=fun x y C=>by
  induction C with
  |one h1=>exact .one (a _ _ h1)
  |step _ h1 ih=>exact .next ih (a _ _ h1)
 intro r B y D;obtain ⟨_,_,G,E⟩:=(Zfp h B).outs y D;exact ⟨fun e=>G (by rw [e]),fun C=>E (b _ _ C)⟩
end
theorem ZkJ(x a b:Int):XV x a b=some (decide (a<=x)&&decide (x<=b)):=by
 unfold XV;cases decide (a<=x)<;>simp
def Zys(l:List Int)(n:Int)(i:Nat)(x:Int):Bool:=decide (0<=x)&&(decide (x<n)&&(decide (i=0)||(match l[i - 1]? with|some y=>decide (y<x)|none=>false)))
def ZmZ(l:List Int)(n:Int):Bool:=Zav (Zys l n) l 0
theorem ZCP{l:List Int}{j:Nat}{x:Int}(D:l.length<=1000000000)(C:l[j]?=some x)(E:0<j):∃y,l[j - 1]?=some y/\atI l (i64.wrap ((j:Int) - 1))=some y:=by
 have hlt:=(AX.1 C).1;have A:l[j - 1]?=some l[j - 1]:=AD yE;refine ⟨l[j - 1],A,?_⟩;have B:i64.wrap ((j:Int) - 1)=((j - 1:Nat):Int):=by rw [Yo yE yE];omega
 rw [B];unfold atI;rw [yp yE,Ad,A]
theorem Zj1(l:List Int)(n:Int)(C:l.length<=1000000000):Zc6 l n=some (ZmZ l (i64.wrap (n - 1)+1)):=by
 unfold Zc6 ZmZ;generalize i64.wrap (n - 1)=m
 rw [XM (p:=Zys l (m+1)) (r:=false)]
 .cases Zav (Zys l (m+1)) l 0<;>rfl
 .intro j x D;rw [AS,ZkJ,A0];unfold Zys;by_cases H:x<0
  .rw [show decide (0<=x)=false by simp;omega];rfl
  .rw [show decide (0<=x)=true by simp;omega];by_cases G:m<x
   .rw [show decide (x<=m)=false by simp;omega,show decide (x<m+1)=false by simp;omega];rfl
   .rw [show decide (x<=m)=true by simp;omega,show decide (x<m+1)=true by simp;omega];by_cases A:j=0
    .subst A;rfl
    .obtain ⟨y,F,E⟩:=ZCP C D yE;rw [show (true&&true)=true from rfl,yp rfl,yp (by simp;omega),E,A0,F];by_cases B:x<=y
     .rw [yp (by simpa using B)];simp [A,show ¬y<x by omega]
     .rw [yn (by simpa using B)];simp [A,show y<x by omega]
theorem Zq6(l:List Int)(n:Int)(A:l.length<=1000000000)(C:0<=n)(B:n<=1000000000):Zc6 l n=some (ZmZ l n):=by
 rw [Zj1 l n A,Yo yE yE];congr 2
 omega
theorem ZAy{l:List Int}{n:Int}(C:∀x∈l,0<=x/\x<n)(A:l.Pairwise (·<·)):ZmZ l n=true:=by
 have key:∀(q a:List Int),l=a++q->Zav (Zys l n) q a.length=true:=by
  intro q;induction q with
  |nil=>intro _ _;rfl
  |cons x q ih=>
   intro a e;simp only[Zav,A9];refine ⟨?_,?_⟩
   .have hx:=C x (by rw [e];simp);simp only[Zys,A9,decide_eq_true_eq,BF];refine ⟨hx.1,hx.2,?_⟩;by_cases D:a.length=0
    .exact .inl D
    .right
     have b:a.length - 1<a.length:=by omega
     have B:l[a.length - 1]?=some a[a.length - 1]:=by rw [e,As b,AD b]
     rw [B];rw [e,List.pairwise_append]at A;simpa using A.2.2 _ (List.getElem_mem b) x yG
   .have:=ih (a++[x]) (by rw [e];simp);simpa using this
 exact key l [] rfl
def ZyE(n:Int)(r:Zh):Bool:=decide (0<=r.for_)&&(decide (r.for_<n)&&(ZmZ r.inn n&&ZmZ r.outs n))
def Zg0(b:Zl):Bool:=decide (0<=b.nodes)&&(decide (b.nodes<=24)&&(decide (b.reasons.length<=60)&&b.reasons.all (ZyE b.nodes)))
def ZAo(b:Zl):Prop:=∀r∈b.reasons,r.inn.length<=1000000000/\r.outs.length<=1000000000
theorem Zpi{b:Zl}(h:ZAo b)(H:b.reasons.length<=1000000000):ZdK b=some (Zg0 b):=by
 unfold ZdK Zg0;by_cases E:0<=b.nodes/\b.nodes<=24
 .have F:i64.wrap (b.nodes - 1)=b.nodes - 1:=Yo yE yE;rw [Yb (p:=ZyE b.nodes) (r:=false)]
  .rw [ZkJ,show decide (0<=b.nodes)=true by simp;omega,show decide (b.nodes<=24)=true by simp;omega];simp only[A0,BS,if_true,Am];have D:decide ((b.reasons.length:Int)<=60)=decide (b.reasons.length<=60):=by rw [AM];simp;omega
   rw [D];cases b.reasons.all (ZyE b.nodes)<;>cases decide (b.reasons.length<=60)<;>rfl
  .intro i r C;obtain ⟨B,A⟩:=h r C;rw [ZkJ,F,Zq6 _ _ B E.1 yE,Zq6 _ _ A E.1 yE];unfold ZyE;have D:decide (r.for_<=b.nodes - 1)=decide (r.for_<b.nodes):=by rw [AM];simp;omega
   rw [D];simp only[A0];cases decide (0<=r.for_)<;>cases decide (r.for_<b.nodes)<;>cases ZmZ r.inn b.nodes<;>cases ZmZ r.outs b.nodes<;>rfl
 .have G:(decide (0<=b.nodes)&&(decide (b.nodes<=24)&&(decide (b.reasons.length<=60)&&b.reasons.all (ZyE b.nodes))))=false:=by
   by_cases I:0<=b.nodes
   .have:decide (b.nodes<=24)=false:=by simp;omega
    rw [this];simp
   .have:decide (0<=b.nodes)=false:=by simp;omega
    rw [this];simp
  rw [G,Yb (p:=fun r=>decide (0<=r.for_)&&(decide (r.for_<=i64.wrap (b.nodes - 1))&&(ZmZ r.inn (i64.wrap (b.nodes - 1)+1)&&ZmZ r.outs (i64.wrap (b.nodes - 1)+1)))) (r:=false)]
  .rw [ZkJ];have:(decide (0<=b.nodes)&&decide (b.nodes<=24))=false:=by
    cases h1:decide (0<=b.nodes)<;>cases h2:decide (b.nodes<=24)<;>simp at h1 h2 ⊢
    omega
   rw [this];split<;>rfl
  .intro i r C;obtain ⟨B,A⟩:=h r C;rw [ZkJ,Zj1 _ _ B,Zj1 _ _ A];simp only[A0];cases decide (0<=r.for_)<;>cases decide (r.for_<=i64.wrap (b.nodes - 1))<;>cases ZmZ r.inn (i64.wrap (b.nodes - 1)+1)<;>cases ZmZ r.outs (i64.wrap (b.nodes - 1)+1)<;>rfl
section
open Classical
def Zzd(row:List Bool):Nat:=row.countP fun v=>!v
theorem Zuw:∀(row:List Bool) (i:Nat),row[i]?=some false->Zzd (row.set i true)+1=Zzd row
 | [],i,h=>by simp at h
 |v::row,0,h=>by
  simp at h;subst h;simp [Zzd]
 |v::row,i+1,h=>by
  have ih:=Zuw row i (by simpa using h);simp only[Zzd,Bj,Aq]at *;omega
def Zgz(s:List Bool×List Int)(y:Int):List Bool×List Int:=if s.1[y.toNat]?=some true then s else (s.1.set y.toNat true,s.2++[y])
structure Q8 (n:Nat) (R:List Zh) (x:Int) (s:List Bool×List Int):Prop where
 len:s.1.length=n
 row:∃t,s.2=x::t/\(∀y∈t,(0<=y/\y.toNat<n)/\Zcf R x y/\s.1[y.toNat]?=some true)/\(∀y:Int,0<=y->s.1[y.toNat]?=some true->y∈t)/\t.length+Zzd s.1=n
structure ZhC (s u:List Bool×List Int):Prop where
 mono:∀i:Nat,s.1[i]?=some true->u.1[i]?=some true
 more:∃v,u.2=s.2++v
theorem ZhC.refl(s:List Bool×List Int):ZhC s s:=⟨fun _ h=>h,[],yG⟩
theorem ZhC.trans{s t u:List Bool×List Int}(h:ZhC s t)(k:ZhC t u):ZhC s u:=⟨fun i hi=>k.mono i (h.mono i hi),by
 obtain ⟨a,ha⟩:=h.more;obtain ⟨b,A⟩:=k.more;exact ⟨a++b,by rw [A,ha,List.append_assoc]⟩⟩
theorem ZzU{row:List Bool}{j:Nat}(A:j<row.length)(i:Nat):(row.set j true)[i]?=if j=i then some true else row[i]?:=by
 rw [BE];by_cases e:j=i
 .rw [yp e,yp e,yp A]
 .rw [yn e,yn e]
theorem Zxo{n:Nat}{R:List Zh}{x y:Int}{s:List Bool×List Int}(h:Q8 n R x s)(C:0<=y/\y.toNat<n)(J:Zcf R x y):Q8 n R x (Zgz s y)/\ZhC s (Zgz s y)/\(Zgz s y).1[y.toNat]?=some true:=by
 unfold Zgz;by_cases hs:s.1[y.toNat]?=some true
 .rw [yp hs];exact ⟨h,.refl s,hs⟩
 .rw [yn hs];have D:y.toNat<s.1.length:=by rw [h.len];exact C.2
  have I:s.1[y.toNat]?=some false:=by
   rw [AD D]at hs ⊢;cases hv:s.1[y.toNat]with
   |true=>rw [hv]at hs;exact absurd rfl hs
   |false=>rfl
  have d:=ZzU D;obtain ⟨t,H,G,F,K⟩:=h.row;have f:∀i:Nat,s.1[i]?=some true->(s.1.set y.toNat true)[i]?=some true:=fun i hi=>by
   rw [d];split
   .rfl
   .exact hi
  refine ⟨⟨by simp [h.len],t++[y],by simp [H],fun z A=>?_,fun z E B=>?_,?_⟩,⟨f,[y],rfl⟩,by rw [d,yp rfl]⟩
  .rcases AA.1 A with A|A
   .obtain ⟨a,b,c⟩:=G z A;exact ⟨a,b,f _ c⟩
   .simp at A;subst A;exact ⟨C,J,by rw [d,yp rfl]⟩
  .rw [d]at B;by_cases e:y.toNat=z.toNat
   .have:z=y:=by omega
    simp [this]
   .rw [yn e]at B;exact AA.2 (.inl (F z E B))
  .have:=Zuw s.1 y.toNat I;simp only[AH,Ap];omega
theorem Zrh{n:Nat}{R:List Zh}{x:Int}:∀{l:List Int}{s:List Bool×List Int},Q8 n R x s->(∀y∈l,(0<=y/\y.toNat<n)/\Zcf R x y)->Q8 n R x (l.foldl Zgz s)/\ZhC s (l.foldl Zgz s)/\∀y∈l,(l.foldl Zgz s).1[y.toNat]?=some true
 | [],s,h,_=>⟨h,.refl s,yG⟩
 |y::l,s,h,hl=>by
  obtain ⟨G,F,E⟩:=Zxo h (hl y yG).1 (hl y yG).2;obtain ⟨D,B,C⟩:=Zrh (l:=l) G fun z A=>hl z (by simp [A]);exact ⟨D,F.trans B,fun z A=>by
   rcases AB.1 A with rfl|A
   .exact B.mono _ E
   .exact C z A⟩
def ZiE(z:Int)(s:List Bool×List Int)(r:Zh):List Bool×List Int:=if r.for_=z then (r.inn++r.outs).foldl Zgz s else s
theorem ZAb{n:Nat}{R:List Zh}{x z:Int}(D:∀r∈R,OkN n r)(B:z=x\/Zcf R x z){r:Zh}(A:r∈R)(e:r.for_=z):∀y∈r.inn++r.outs,(0<=y/\y.toNat<n)/\Zcf R x y:=fun y E=>by
 have hy:=AA.1 E;have C:Zom R z y:=⟨r,A,e,hy⟩
 refine ⟨hy.elim ((D r A).2.1 y) ((D r A).2.2 y),?_⟩;rcases B with rfl|B
 .exact .one C
 .exact .step B C
theorem Zxu{n:Nat}{R:List Zh}{x z:Int}(C:∀r∈R,OkN n r)(B:z=x\/Zcf R x z){s:List Bool×List Int}(h:Q8 n R x s){r:Zh}(A:r∈R):Q8 n R x (ZiE z s r)/\ZhC s (ZiE z s r)/\(r.for_=z->∀y∈r.inn++r.outs,(ZiE z s r).1[y.toNat]?=some true):=by
 unfold ZiE;by_cases e:r.for_=z
 .rw [yp e];obtain ⟨F,E,D⟩:=Zrh h (ZAb C B A e);exact ⟨F,E,fun _=>D⟩
 .rw [yn e];exact ⟨h,.refl s,fun h=>absurd h e⟩
theorem ZuW{n:Nat}{R:List Zh}{x z:Int}(D:∀r∈R,OkN n r)(C:z=x\/Zcf R x z):∀{l:List Zh}{s:List Bool×List Int},(∀r∈l,r∈R)->Q8 n R x s->Q8 n R x (l.foldl (ZiE z) s)/\ZhC s (l.foldl (ZiE z) s)/\∀r∈l,r.for_=z->∀y∈r.inn++r.outs,(l.foldl (ZiE z) s).1[y.toNat]?=some true
 | [],s,_,h=>⟨h,.refl s,yG⟩
 |r::l,s,hl,h=>by
  obtain ⟨J,I,H⟩:=Zxu D C h (hl r yG);obtain ⟨G,E,F⟩:=ZuW D C (l:=l) (fun q A=>hl q (by simp [A])) J;exact ⟨G,I.trans E,fun q A e y B=>by
   rcases AB.1 A with rfl|A
   .exact E.mono _ (H e y B)
   .exact F q A e y B⟩
theorem Q8.at{n:Nat}{R:List Zh}{x:Int}{s:List Bool×List Int}(h:Q8 n R x s){i:Nat}{z:Int}(hi:s.2[i]?=some z):z=x\/Zcf R x z:=by
 obtain ⟨t,B,A,_⟩:=h.row;have:=Ac hi;rw [B]at this;exact (AB.1 this).imp id fun m=>(A z m).2.1
theorem Q8.fin{n:Nat}{R:List Zh}{x:Int}(F:∀r∈R,OkN n r){d:List Bool}{c:List Int}(G:Q8 n R x (d,c))(O:∀j z,j<c.length->c[j]?=some z->∀y,Zom R z y->d[y.toNat]?=some true):d.length=n/\∀y:Int,0<=y->(d[y.toNat]?=some true↔Zcf R x y):=by
 obtain ⟨t,A,K,C,J⟩:=G.row;simp only at A J;refine ⟨G.len,fun y I=>⟨fun B=>(K y (C y I B)).2.1,fun B=>?_⟩⟩;have f:∀z∈c,∀y,Zom R z y->d[y.toNat]?=some true:=fun z L=>by
  obtain ⟨j,E,e⟩:=List.getElem_of_mem L;exact O j z E (by rw [AD E,e])
 have H:∀a b,Zom R a b->0<=b:=fun a b ⟨r,D,_,N⟩=>N.elim (fun h=>((F r D).2.1 b h).1) fun h=>((F r D).2.2 b h).1;have:∀y,Zcf R x y->0<=y/\d[y.toNat]?=some true:=fun y M=>by
  induction M with
  |one h=>exact ⟨H _ _ h,f x (by rw [A];simp) _ h⟩
  |step _ h ih=>exact ⟨H _ _ h,f _ (by rw [A];exact List.mem_cons_of_mem _ (C _ ih.1 ih.2)) _ h⟩
 exact (this y B).2
theorem ZwL{σ ρ:Type}{n:Nat}{R:List Zh}{x:Int}(G:∀r∈R,OkN n r)(st:List Bool->List Int->Nat->σ)(g:List Bool->ρ){body:σ->Option (σ ⊕ ρ)}
  (S:∀b a i z,Q8 n R x (b,a)->i<n+1->a[i]?=some z->(z=x\/Zcf R x z)->body (st b a i)=some (.inl (st (R.foldl (ZiE z) (b,a)).1 (R.foldl (ZiE z) (b,a)).2 (i+1))))
  (I:∀b a,Q8 n R x (b,a)->body (st b a a.length)=some (.inr (g b))):
  ∀m b a i,Q8 n R x (b,a)->i<=a.length->n+1 - i<=m->(∀j z,j<i->a[j]?=some z->∀y,Zom R z y->b[y.toNat]?=some true)->∃row,iter body (st b a i)=some (g row)/\row.length=n/\∀y:Int,0<=y->(row[y.toNat]?=some true↔Zcf R x y):=by
 intro m;induction m with
 |zero=>
  intro b a i A hi P D;obtain ⟨t,B,L,K,E⟩:=A.row;simp only at B E;have:a.length=t.length+1:=by rw [B];simp
  have c:i=a.length:=by omega
  subst c;exact ⟨b,ZU (I b a A),A.fin G D⟩
 |succ m ih=>
  intro b a i A hi P D;by_cases c:i=a.length
  .subst c;exact ⟨b,ZU (I b a A),A.fin G D⟩
  .have f:i<a.length:=by omega
   obtain ⟨z,hz⟩:∃z,a[i]?=some z:=⟨_,AD f⟩
   have d:=A.at (i:=i) (z:=z) hz;obtain ⟨t,B,L,K,E⟩:=A.row;simp only at B E;have O:a.length=t.length+1:=by rw [B];simp
   have k:i<n+1:=by omega
   rw [Z6 (S b a i z A k hz d)];obtain ⟨U,J,T⟩:=ZuW G d (l:=R) (fun _ h=>h) A;obtain ⟨v,F⟩:=J.more;simp only at F;refine ih _ _ (i+1) U (by rw [F,AH];omega) yE fun j u V C y H=>?_;rw [F]at C;rw [As yE]at C;by_cases o:j<i
   .exact J.mono _ (D j u o C y H)
   .obtain rfl:j=i:=by omega
    rw [hz]at C;obtain rfl:=Aa C;obtain ⟨r,M,e,N⟩:=H;exact T r M e y (AA.2 N)
end
section
open Classical
theorem ZFl{P:Nat->Prop}:∀v,P v->∃v,P v/\∀u,P u->v<=u:=by
 intro v;induction v using Nat.strongRecOn with
 |ind v ih=>
  intro C;by_cases h:∃u,P u/\u<v
  .obtain ⟨u,A,B⟩:=h;exact ih u B A
  .exact ⟨v,C,fun u A=>by
    by_cases B:u<v
    .exact absurd ⟨u,A,B⟩ h
    .omega⟩
theorem ZBf{n:Nat}{R:List Zh}(J:∀r∈R,OkN n r){H:Nat->Int}(K:Zjj R H):∃L,ZbR n R L:=by
 have E:∀i:Nat,∃v:Nat,(∃t,Zjj R t/\(t i).toNat=v)/\∀u,(∃t,Zjj R t/\(t i).toNat=u)->v<=u:=fun i=>ZFl _ ⟨H,K,rfl⟩;let m:Nat->Nat:=fun i=>Classical.choose (E i)
 have I:∀i,∃t,Zjj R t/\(t i).toNat=m i:=fun i=>(Classical.choose_spec (E i)).1;have F:∀i t,Zjj R t->((m i:Nat):Int)<=t i:=fun i t A=>by
  have:=(Classical.choose_spec (E i)).2 _ ⟨t,A,rfl⟩;have:=A.pos i;show ((Classical.choose (E i):Nat):Int)<=t i
  omega
 let L:List Int:=(AK n).map fun i=>((m i:Nat):Int)
 have B:∀i,i<n->lvN L i=((m i:Nat):Int):=fun i hi=>by
  have:L[i]?=some ((m i:Nat):Int):=by simp [L,hi]
  unfold lvN;rw [this];rfl
 have a:∀i,¬i<n->lvN L i=0:=fun i hi=>by
  unfold lvN;rw [AQ (by simp [L];omega)];rfl
 refine ⟨L,by simp [L],⟨fun i=>?_,fun r D y C=>?_,fun r D y C=>?_⟩,fun t A i=>?_⟩
 .by_cases hi:i<n
  .rw [B i hi];omega
  .rw [a i hi];exact AP _
 .obtain ⟨G,N,_⟩:=J r D;rw [B _ G.2,B _ (N y C).2];obtain ⟨t,A,e⟩:=I r.for_.toNat;have:=F y.toNat t A;have:=A.inn r D y C;have:=A.pos r.for_.toNat;omega
 .obtain ⟨G,_,M⟩:=J r D;rw [B _ G.2,B _ (M y C).2];obtain ⟨t,A,e⟩:=I r.for_.toNat;have:=F y.toNat t A;have:=A.outs r D y C;have:=A.pos r.for_.toNat;omega
 .by_cases hi:i<n
  .rw [B i hi];exact F i t A
  .rw [a i hi];exact A.pos i
theorem ZBo{n:Nat}{R:List Zh}(B:∀r∈R,OkN n r)(D:ZsZ R):∃L,ZbR n R L/\∀i,lvN L i<n\/lvN L i=0:=by
 obtain ⟨C,E⟩:=ZvP B D;obtain ⟨L,A⟩:=ZBf B C;refine ⟨L,A,fun i=>?_⟩;have:=A.least _ C i;have:=A.sol.pos i;rcases E i with h|h<;>omega
def ZdU(s:List Int×Bool)(r:Zh):List Int×Bool:=if lvN s.1 r.for_.toNat<Zkb s.1 r then (QN s.1 r,true) else s
theorem Zi6{n:Nat}:∀{R:List Zh}{s:List Int×Bool},s.1.length=n->(∀r∈R,OkN n r)->(R.foldl ZdU s).1=QA R s.1/\((R.foldl ZdU s).2=true↔s.2=true\/QA R s.1≠s.1)
 | [],s,_,_=>by simp [QA]
 |r::R,s,hl,hR=>by
  have a:∀q∈R,OkN n q:=fun q D=>hR q (by simp [D]);rw [AL];show _/\(_↔s.2=true\/QA R (QN s.1 r)≠s.1)
  by_cases A:lvN s.1 r.for_.toNat<Zkb s.1 r
  .have e:ZdU s r=(QN s.1 r,true):=yp A;rw [e];obtain ⟨C,B⟩:=Zi6 (R:=R) (s:=(QN s.1 r,true)) (by rw [Zek];exact hl) a;refine ⟨C,iff_of_true (B.2 (.inl rfl)) (.inr fun E=>?_)⟩;have h3:=ZcG R (QN s.1 r) r.for_.toNat;rw [E]at h3;have:lvN (QN s.1 r) r.for_.toNat=Zkb s.1 r:=by
    unfold QN;rw [Zbh,yp ⟨rfl,by have:=(hR r yG).1.2;omega⟩]
   omega
  .have e:ZdU s r=s:=yn A;rw [e,Znq A];obtain ⟨C,B⟩:=Zi6 hl a;refine ⟨C.trans ?_,B⟩;show QA R s.1=QA R (QN s.1 r)
   rw [Znq A]
theorem Zms{n:Nat}{R:List Zh}{L:List Int}(A:ZbR n R L):QA R L=L:=
 ZgO (Zgg R L) fun i _=>Bh (Ze2 A.sol (fun _ h=>h) (fun _=>AP _) i) (ZcG R L i)
theorem Zrx{n:Nat}{L row:List Int}(A:row.length=n)(B:L.length=n)(h:ZjV n L row=0):row=L:=by
 refine ZgO (A.trans B.symm) fun i hi=>?_;unfold ZjV at h;rw [B3]at h;simpa using h i (Ak.2 yE)
theorem ZxK(n:Nat)(L row:List Int):ZjV n L row<=n:=by
 have:=Ay (p:=fun i=>decide (¬lvN row i=lvN L i)) (l:=AK n);rw [Bi]at this;exact this
theorem Zui{σ ρ:Type}{n:Nat}{R:List Zh}{L:List Int}(C:ZbR n R L)(D:∀r∈R,OkN n r)(st:List Int->Bool->σ)(g:List Int->ρ){body:σ->Option (σ ⊕ ρ)}
  (G:∀row,row.length=n->(∀i,0<=lvN row i/\lvN row i<=lvN L i)->body (st row true)=some (.inl (st (R.foldl ZdU (row,false)).1 (R.foldl ZdU (row,false)).2)))
  (J:∀row,body (st row false)=some (.inr (g row))):
  ∀k row,row.length=n->(∀i,0<=lvN row i/\lvN row i<=lvN L i)->ZjV n L row<=k->iter body (st row true)=some (g L):=by
 have a:∀row,row.length=n->(∀i,0<=lvN row i/\lvN row i<=lvN L i)->QA R row=row->iter body (st row true)=some (g L):=fun row A B e=>by
  obtain ⟨F,E⟩:=Zi6 (s:=(row,false)) A D;have K:(R.foldl ZdU (row,false)).2=false:=by
   cases hb:(R.foldl ZdU (row,false)).2 with
   |false=>rfl
   |true=>
    rcases E.1 hb with h|h
    .simp at h
    .exact absurd e h
  rw [Z6 (G row A B),K,F];have b:ZbR n R row:=Zyd A D (fun i=>(B i).1) (fun t H i=>AI (B i).2 (C.least t H i)) e;show iter body (st (QA R row) false)=_
  rw [e,ZU (J row),b.uniq C]
 intro k;induction k with
 |zero=>
  intro row A B I;have e:row=L:=Zrx A C.len yE;exact a row A B (by rw [e];exact Zms C)
 |succ k ih=>
  intro row A B I;by_cases e:QA R row=row
  .exact a row A B e
  .obtain ⟨F,E⟩:=Zi6 (s:=(row,false)) A D;rw [Z6 (G row A B),E.2 (.inr e),F];refine ih _ (by rw [Zgg];exact A) (fun i=>⟨AI (B i).1 (ZcG R row i),Ze2 C.sol (fun _ h=>h) (fun i=>(B i).2) i⟩) ?_;rcases ZoG C A D (fun i=>(B i).1) (fun i=>(B i).2) with h|h
   .exact absurd (by rw [Zrx A C.len h];exact Zms C) e
   .show ZjV n L (QA R row)<=k
    omega
theorem ZAB{row:List Int}{f:Nat}(A:f<row.length):row.set f (lvN row f)=row:=ZgO (by simp) fun i _=>by
 rw [Zbh];split
 .rename_i h;rw [h.1]
 .rfl
theorem Zsk{row:List Int}{f:Nat}(A:f<row.length):∀(l:List Int) (v:Int),lvN row f<=v->l.foldl (fun s y=>s.set f (mx (lvN s f) (lvN s y.toNat))) (row.set f v)=row.set f (l.foldl (fun m y=>mx m (lvN row y.toNat)) v)
 | [],_,_=>rfl
 |y::l,v,hv=>by
  have C:lvN (row.set f v) f=v:=by rw [Zbh,yp ⟨rfl,A⟩]
  have B:mx v (lvN (row.set f v) y.toNat)=mx v (lvN row y.toNat):=by
   rw [Zbh];split
   .rename_i h;rw [h.1];unfold mx;split<;>split<;>omega
   .rfl
  rw [AL,AL,C,B,Bk];exact Zsk A l _ (AI hv (Zzx v _).1)
theorem Ztw{row:List Int}{f:Nat}(A:f<row.length):∀(l:List Int) (v:Int),(∀y∈l,y.toNat≠f)->l.foldl (fun s y=>s.set f (mx (lvN s f) (lvN s y.toNat+1))) (row.set f v)=row.set f (l.foldl (fun m y=>mx m (lvN row y.toNat+1)) v)
 | [],_,_=>rfl
 |y::l,v,hl=>by
  have D:lvN (row.set f v) f=v:=by rw [Zbh,yp ⟨rfl,A⟩]
  have C:lvN (row.set f v) y.toNat=lvN row y.toNat:=by
   rw [Zbh,yn fun h=>hl y yG h.1]
  rw [AL,AL,D,C,Bk];exact Ztw A l _ fun z B=>hl z (by simp [B])
theorem ZwK{row:List Int}{r:Zh}(A:r.for_.toNat<row.length)(B:∀y∈r.outs,y.toNat≠r.for_.toNat):r.outs.foldl (fun s y=>s.set r.for_.toNat (mx (lvN s r.for_.toNat) (lvN s y.toNat+1))) (r.inn.foldl (fun s y=>s.set r.for_.toNat (mx (lvN s r.for_.toNat) (lvN s y.toNat))) row)=QN row r:=by
 have e:=Zsk A r.inn (lvN row r.for_.toNat) (AP _);rw [ZAB A]at e;rw [e,Ztw A _ _ B];rfl
theorem ZuH{σ ρ:Type}{n top:Nat}{R:List Zh}{L:List Int}(C:∀r∈R,OkN n r)(st:List Int->Nat->Nat->σ)(g:List Int->ρ){body:σ->Option (σ ⊕ ρ)}
  (H:∀row k s,RIn n row k->s<=top->YV R L ((s:Nat):Int) row k≠[]->body (st row k s)=some (.inl (st (ZdT row (YV R L ((s:Nat):Int) row k) ((k:Nat):Int)) (k+1) s)))
  (E:∀row k s,RIn n row k->s<=top->YV R L ((s:Nat):Int) row k=[]->body (st row k s)=some (.inl (st row k (s+1))))
  (G:∀row k,RIn n row k->body (st row k (top+1))=some (.inr (g row))):
  ∀d s row k,s+d=top+1->RIn n row k->iter body (st row k s)=some (g (X1 R L n (AZ s d) (row,k)).1):=by
 have c:∀f s row k,s<=top->RIn n row k->ZfM row<=f->iter body (st row k s)=iter body (st (Xg R L ((s:Nat):Int) f row k).1 (Xg R L ((s:Nat):Int) f row k).2 (s+1)):=by
  intro f
  induction f with
  |zero=>
   intro s row k hs A F
   have B:YV R L ((s:Nat):Int) row k=[]:=Classical.byContradiction fun B=>by have:=(A.next C B).2;omega
   exact Z6 (E row k s A hs B)
  |succ f ih=>
   intro s row k hs A F
   unfold Xg
   by_cases B:YV R L ((s:Nat):Int) row k=[]
   .rw [yp B]
    exact Z6 (E row k s A hs B)
   .rw [yn B,Z6 (H row k s A hs B)]
    obtain ⟨a,b⟩:=A.next C B
    exact ih s _ _ hs a yE
 intro d
 induction d with
 |zero=>
  intro s row k hs A
  obtain rfl:s=top+1:=by omega
  exact ZU (G row k A)
 |succ d ih=>
  intro s row k hs A
  have D:ZfM row<=n:=by have:=A.few;omega
  rw [c n s row k yE A D]
  exact ih (s+1) _ _ yE (ZeF C n row k A D).1
theorem ZlV{row:List Int}{R:List Zh}{L:List Int}{s:Int}{k:Nat}{l:List Int}(h:∀x,x∈l↔x∈YV R L s row k):ZdT row l (k:Int)=ZdT row (YV R L s row k) (k:Int)/\(l=[]↔YV R L s row k=[]):=by
 refine ⟨ZwT fun i=>?_,?_⟩
 .constructor
  .rintro ⟨x,A,e⟩;exact ⟨x,(h x).1 A,e⟩
  .rintro ⟨x,A,e⟩;exact ⟨x,(h x).2 A,e⟩
 .rw [BR,BR];exact forall_congr' fun x=>not_congr (h x)
theorem Zwn{σ ρ:Type}{n:Nat}{R:List Zh}{L:List Int}{s:Int}(D:∀r∈R,OkN n r)(st:List Int->Nat->List Int->σ)(g:List Int->Nat->ρ)(C:List Int->Nat->List Int)(a:∀row k x,RIn n row k->(x∈C row k↔x∈YV R L s row k)){body:σ->Option (σ ⊕ ρ)}
  (H:∀row k,RIn n row k->C row k≠[]->RIn n (ZdT row (C row k) (k:Int)) (k+1)->body (st row k (C row k))=some (.inl (st (ZdT row (C row k) (k:Int)) (k+1) (C (ZdT row (C row k) (k:Int)) (k+1)))))
  (E:∀row k,RIn n row k->body (st row k [])=some (.inr (g row k))):
  ∀f row k,RIn n row k->ZfM row<=f->iter body (st row k (C row k))=some (g (Xg R L s f row k).1 (Xg R L s f row k).2):=by
 intro f;induction f with
 |zero=>
  intro row k B G;have A:YV R L s row k=[]:=Classical.byContradiction fun A=>by have:=(B.next D A).2;omega
  rw [(ZlV fun x=>a row k x B).2.2 A,ZU (E row k B)];rfl
 |succ f ih=>
  intro row k B G;unfold Xg;by_cases A:YV R L s row k=[]
  .rw [yp A,(ZlV fun x=>a row k x B).2.2 A,ZU (E row k B)]
  .obtain ⟨F,I⟩:=ZlV fun x=>a row k x B;rw [yn A,Z6 (H row k B (fun h=>A (I.1 h)) (by rw [F];exact (B.next D A).1)),F];exact ih _ _ (B.next D A).1 (by have:=(B.next D A).2;omega)
end
section
open Classical
structure Q4 (b:Zl):Prop where
 n0:0<=b.nodes
 n1:b.nodes<=24
 len:b.reasons.length<=60
 ok:∀r∈b.reasons,OkN b.nodes.toNat r
 up:∀r∈b.reasons,r.inn.Pairwise (·<·)/\r.outs.Pairwise (·<·)
 few:∀r∈b.reasons,r.inn.length<=4/\r.outs.length<=4
 strat:ZsZ b.reasons
theorem Q4.of{R:List Zf}{base F:List Za}(h:Ya R base F)(a:(Yg R F base).length<=60):Q4 { nodes:=(F.length:Int),reasons:=Yg R F base }:=by
 have:=h.len;exact ⟨by simp only;omega,by simp only;omega,a,fun r A=>by simpa using Zza h r A,fun r A=>(Zfp h A).up,fun r A=>ZsF h A,ZsQ h⟩
theorem Q4.valid{b:Zl}(h:Q4 b):Zg0 b=true:=by
 unfold Zg0;have h0:=h.n0;have h1:=h.n1;simp only[A9,decide_eq_true_eq];refine ⟨h.n0,h.n1,h.len,AN.2 fun r B=>?_⟩;obtain ⟨⟨E,F⟩,D,C⟩:=h.ok r B;obtain ⟨u1,u2⟩:=h.up r B;unfold ZyE;simp only[A9,decide_eq_true_eq];exact ⟨E,yE,ZAy (fun y A=>by have:=D y A;omega) u1,ZAy (fun y A=>by have:=C y A;omega) u2⟩
theorem Q4.small{b:Zl}(h:Q4 b):ZAo b:=fun r A=>by have:=h.few r A;omega
def XY:List Za->List Int->List Za
 |f::F,v::l=>if 0<=v then f::XY F l else XY F l
 |_,_=>[]
theorem ZqD:∀{F:List Za}{l:List Int},(XY F l).length<=F.length/\∀f∈XY F l,f∈F
 | [],l=>by simp [XY]
 |f::F,[]=>by simp [XY]
 |f::F,v::l=>by
  obtain ⟨C,B⟩:=ZqD (F:=F) (l:=l);unfold XY;split
  .refine ⟨by simp;omega,fun g A=>?_⟩;rcases AB.1 A with rfl|A
   .simp
   .simp [B g A]
  .exact ⟨by simp;omega,fun g A=>by simp [B g A]⟩
def lvB(b:Zl):List Int:=if h:∃L,ZbR b.nodes.toNat b.reasons L then Classical.choose h else []
def rdB(b:Zl):List Int:=(X1 b.reasons (lvB b) b.nodes.toNat (AK b.nodes.toNat) (AJ b.nodes.toNat (-1),0)).1
theorem Q4.lv{b:Zl}(h:Q4 b):ZbR b.nodes.toNat b.reasons (lvB b)/\∀i,0<=lvN (lvB b) i/\(lvN (lvB b) i<b.nodes.toNat\/lvN (lvB b) i=0):=by
 obtain ⟨L,B,C⟩:=ZBo h.ok h.strat;have a:∃L,ZbR b.nodes.toNat b.reasons L:=⟨L,B⟩
 have e:lvB b=Classical.choose a:=dif_pos a;have A:ZbR b.nodes.toNat b.reasons (lvB b):=by rw [e];exact Classical.choose_spec a
 refine ⟨A,fun i=>⟨A.sol.pos i,?_⟩⟩;rw [A.uniq B];exact C i
theorem Zjd(n:Nat):RIn n (AJ n (-1)) 0:=⟨by simp,fun i hi=>⟨-1,by simp [hi],.inl rfl⟩,by
 have:=Ay (p:=fun v:Int=>decide (v<0)) (l:=AJ n (-1));rw [List.length_replicate]at this;unfold ZfM;omega⟩
theorem Q4.rd{b:Zl}(h:Q4 b):(rdB b).length=b.nodes.toNat:=(Znt h.ok _ _ (Zjd _)).len
end
section
open Classical
theorem ZjK{row:List Int}{i:Nat}(h:i<row.length):row[i]?=some (lvN row i):=by
 unfold lvN;rw [AD h];rfl
theorem Znc{x:Int}(B:-1000000<=x)(A:x<=1000000):i64.wrap x=x:=Yo yE yE
theorem Zjt{k:Nat}(h:k<1000000000):i64.wrap ((k:Int)+1)=((k+1:Nat):Int):=Zm (n:=k+1) yE yE
theorem Zq0(l:List Int)(h:l.length<=1073741824):ZhJ l=some l:=Zj _ h
theorem Zrw{ρ:Type}{n:Nat}{R:List Zh}{x:Int}{l:List Int}{body:List Bool×List Int×Int->Option ((List Bool×List Int×Int) ⊕ ρ)}(g:List Bool×List Int->ρ)
  (E:∀s i y,Q8 n R x s->i<l.length->l[i]?=some y->(0<=y/\y.toNat<n)->body (s.1,s.2,(i:Int))=some (.inl ((Zgz s y).1,(Zgz s y).2,((i+1:Nat):Int))))
  (D:∀s,body (s.1,s.2,(l.length:Int))=some (.inr (g s))) (A:∀y∈l,(0<=y/\y.toNat<n)/\Zcf R x y):
  ∀(b a:List Int) (s:List Bool×List Int),l=a++b->Q8 n R x s->iter body (s.1,s.2,(a.length:Int))=some (g (b.foldl Zgz s))
 | [],a,s,e,_=>by
  rw [BG]at e;subst e;exact ZU (D s)
 |y::b,a,s,e,hI=>by
  have C:l[a.length]?=some y:=by rw [e];simp
  have B:y∈l:=Ac C;have c:=(AX.1 C).1;rw [Z6 (E s a.length y hI c C (A y B).1)];have:=Zrw g E D A b (a++[y]) (Zgz s y) (by rw [e];simp) (Zxo hI (A y B).1 (A y B).2).1;simpa using this
theorem ZpV{b:Zl}(h:Q4 b)(x:Int):∃row,Zfi b x=some row/\row.length=b.nodes.toNat/\∀y:Int,0<=y->(row[y.toNat]?=some true↔Zcf b.reasons x y):=by
 have h0:=h.n0;have h1:=h.n1;have hn:b.nodes.toNat<=24:=by omega
 unfold Zfi;rw [Zj _ ⟨h0,yE⟩];have k:Q8 b.nodes.toNat b.reasons x (AJ b.nodes.toNat false,[x]):=⟨yG,[],rfl,yG,fun y _ E=>by
  by_cases T:y.toNat<b.nodes.toNat
  .simp [T]at E
  .rw [AQ (by simp;omega)]at E;simp at E,by simp [Zzd,List.countP_replicate]⟩
 refine ZwL h.ok (fun g d i=>(g,d,(i:Int))) (fun r=>r) ?_ ?_ (b.nodes.toNat+1) _ _ 0 k yG yE (fun j z hj=>by omega)
 .intro g d i z M hi I o;have D:=(AX.1 I).1;have S:decide ((i:Int)<(d.length:Int))=true:=decide_eq_true yE;simp only[S,if_true];rw [Xf (f:=ZiE z) (fun _ s=>Q8 b.nodes.toNat b.reasons x s/\ZhC (g,d) s) ⟨M,.refl _⟩]
  .rw [Zjt yE]
  .intro j r s G _ _ hs;obtain ⟨p,q⟩:=hs;obtain ⟨P,O,_⟩:=Zxu h.ok o p G;refine ⟨?_,P,q.trans O⟩;obtain ⟨a,c⟩:=s;obtain ⟨v,J⟩:=q.more;simp only at J;have w:c[i]?=some z:=by rw [J,As D];exact I
   have V:i<c.length:=(AX.1 w).1;simp only[Ad];rw [Zj _ ⟨yE,yE⟩,w,A0];unfold ZiE;by_cases e:r.for_=z
   .obtain ⟨f1,f2⟩:=h.few r G;have H:(r.for_ != z)=false:=by simp [e]
    rw [yp e,H];simp only[AC,if_false];rw [Zq0 _ yE,A0,Zj _ yE];have hd:=ZAb h.ok o G e;refine Zrw (n:=b.nodes.toNat) (R:=b.reasons) (x:=x) (l:=r.inn++r.outs) (fun s=>Sum.inl s) ?_ ?_ hd (r.inn++r.outs) [] (a,c) rfl p
    .intro s u y K A E B;have C:decide ((u:Int)<((r.inn.length+r.outs.length:Nat):Int))=true:=decide_eq_true (by rw [AH]at A;omega);simp only[C,if_true,Ad];rw [AH]at A;rw [Zj _ ⟨yE,yE⟩,E,A0];have m:y.toNat<s.1.length:=by rw [K.len];exact B.2
     rw [Zj _ ⟨B.1,yE⟩,AD m,A0,Zjt yE];unfold Zgz;obtain ⟨t,N,_,_,W⟩:=K.row;have L:s.2.length=t.length+1:=by rw [N];simp
     by_cases F:s.1[y.toNat]=true
     .rw [yp F,yp (by rw [AD m,F])]
     .rw [yn F,yn (by rw [AD m];simpa using F),Zj _ yE]
    .intro s;have U:decide ((((r.inn++r.outs).length:Nat):Int)<((r.inn.length+r.outs.length:Nat):Int))=false:=decide_eq_false (by rw [AH];omega);simp only[U,AC,if_false]
   .have H:(r.for_ != z)=true:=by simp [e]
    rw [yn e,H,yp rfl]
 .intro g d M;simp only[ZE,AC,if_false]
theorem Zhq{b:Zl}(h:Q4 b):QO b=some true:=by
 unfold QO;have h60:=h.len;rw [Zpi h.small yE,h.valid,A0,yp rfl,Yb (p:=fun _=>true) (r:=true)]
 .simp
 .intro i r A;rw [Yb (p:=fun _=>true) (r:=.inl ())]
  .simp
  .intro j y C;obtain ⟨E,D⟩:=h.strat r A y C;obtain ⟨row,e,I,G⟩:=ZpV h y;obtain ⟨⟨B,J⟩,_,_⟩:=h.ok r A;have H:(y==r.for_)=false:=by simpa using E
   have a:r.for_.toNat<row.length:=by omega
   have F:row[r.for_.toNat]=false:=by
    cases hb:row[r.for_.toNat]with
    |false=>rfl
    |true=>exact absurd ((G r.for_ B).1 (by rw [AD a,hb])) D
   rw [H];simp only[AC,if_false];rw [e,A0,Zj _ ⟨B,yE⟩,AD a,A0,F];rfl
theorem Znd(n i:Nat):lvN (AJ n 0) i=0:=by
 unfold lvN;by_cases hi:i<n
 .simp [hi]
 .rw [AQ (by simp;omega)];rfl
theorem Zvw{b:Zl}(h:Q4 b):Zff b=some (lvB b):=by
 obtain ⟨J,I⟩:=h.lv;have h0:=h.n0;have h1:=h.n1;unfold Zff;rw [Zhq h,A0,yp rfl,Zj _ ⟨h0,yE⟩];generalize K:b.nodes.toNat=n at *
 have k:∀(body:List Int×Int->Option ((List Int×Int) ⊕ List Int)),(∀row (i:Nat),i<=n->row.length=n->(∀j,0<=lvN row j/\lvN row j<=lvN (lvB b) j)->body (row,(i:Int))=some (.inl (QA b.reasons row,((i+1:Nat):Int))))->(∀row,body (row,((n+1:Nat):Int))=some (.inr row))->
   ∀d i row,i+d=n+1->row.length=n->(∀j,0<=lvN row j/\lvN row j<=lvN (lvB b) j)->iter body (row,(i:Int))=some (ZvQ b.reasons d row):=by
  intro body T S d;induction d with
  |zero=>
   intro i row hi E D;obtain rfl:i=n+1:=by omega
   exact ZU (S row)
  |succ d ih=>
   intro i row hi E D;rw [Z6 (T row i yE E D)];exact ih (i+1) _ yE (by rw [Zgg];exact E) fun j=>⟨AI (D j).1 (ZcG b.reasons row j),Ze2 J.sol (fun _ h=>h) (fun j=>(D j).2) j⟩
 rw [<-Znw J (by have:=h.ok;rw [K]at this;exact this) (n+1) (AJ n 0) yG (fun j=>by rw [Znd];exact AP _) (fun j=>by rw [Znd];exact (I j).1) (by have:=ZxK n (lvB b) (AJ n 0);omega)];refine k _ ?_ ?_ (n+1) 0 _ yE yG (fun j=>by rw [Znd];exact ⟨AP _,(I j).1⟩)
 .intro row i hi E D;have O:decide ((i:Int)<=b.nodes)=true:=decide_eq_true yE;simp only[O,if_true];rw [Xf (f:=QN) (fun _ s=>s.length=n/\∀j,0<=lvN s j/\lvN s j<=lvN (lvB b) j) ⟨E,D⟩]
  .rw [Zjt yE];rfl
  .intro j r s H _ _ hs;obtain ⟨c,g⟩:=hs;have hok:=h.ok r H;rw [K]at hok;obtain ⟨⟨M,U⟩,R,L⟩:=hok;refine ⟨?_,by rw [Zek];exact c,fun j=>⟨AI (g j).1 (Zis s r j),Zob J.sol H (fun j=>(g j).2) j⟩⟩;have a:∀y∈r.outs,y.toNat≠r.for_.toNat:=fun y A e=>(h.strat r H y A).1 (by have:=L y A;omega);rw [Xf (f:=fun u y=>u.set r.for_.toNat (mx (lvN u r.for_.toNat) (lvN u y.toNat))) (fun _ u=>u.length=n/\∀j,j≠r.for_.toNat->lvN u j=lvN s j) ⟨c,fun _ _=>rfl⟩]
   .rw [Xf (f:=fun u y=>u.set r.for_.toNat (mx (lvN u r.for_.toNat) (lvN u y.toNat+1))) (fun _ u=>u.length=n/\∀j,j≠r.for_.toNat->lvN u j=lvN s j)]
    .rw [ZwK yE a]
    .have e:=Zsk (row:=s) (f:=r.for_.toNat) yE r.inn (lvN s r.for_.toNat) (AP _);rw [ZAB yE]at e;rw [e];exact ⟨by simp [c],fun j B=>by rw [Zbh,yn fun F=>B F.1]⟩
    .intro j y u A _ _ C;obtain ⟨G,N⟩:=L y A;have hy:=a y A;have hyv:=C.2 y.toNat hy;have hb1:=g y.toNat;have hb2:=I y.toNat;refine ⟨?_,by simp [C.1],fun j B=>by rw [Zbh,yn fun F=>B F.1];exact C.2 j B⟩;rw [Zj _ ⟨M,yE⟩,ZjK yE,A0,Zj _ ⟨G,yE⟩,ZjK yE,A0,Znc yE yE];rfl
   .intro j y u A _ _ C;obtain ⟨G,N⟩:=R y A;refine ⟨?_,by simp [C.1],fun j B=>by rw [Zbh,yn fun F=>B F.1];exact C.2 j B⟩;rw [Zj _ ⟨M,yE⟩,ZjK yE,A0,Zj _ ⟨G,yE⟩,ZjK yE,A0];rfl
 .intro row;have P:decide (((n+1:Nat):Int)<=b.nodes)=false:=decide_eq_false yE;simp only[P,AC,if_false]
theorem Zyh{b:Zl}(h:Q4 b):ZiK b=some (lvB b):=by
 obtain ⟨F,E⟩:=h.lv;have h0:=h.n0;have h1:=h.n1;unfold ZiK;rw [Zj _ ⟨h0,yE⟩];refine Zui F h.ok (fun row m=>(row,m)) (fun row=>row) ?_ ?_ b.nodes.toNat _ yG (fun j=>by rw [Znd];exact ⟨AP _,(E j).1⟩) (ZxK _ _ _)
 .intro row H I;simp only[if_true];rw [Xf (f:=ZdU) (fun _ s=>s.1.length=b.nodes.toNat/\∀j,0<=lvN s.1 j/\lvN s.1 j<=lvN (lvB b) j) ⟨H,I⟩];intro j r s D _ _ hs;obtain ⟨c,a⟩:=hs;obtain ⟨⟨L,M⟩,K,J⟩:=h.ok r D;obtain ⟨row,m⟩:=s;simp only at c a;refine ⟨?_,?_⟩
  .dsimp only;rw [Zj _ ⟨L,yE⟩,ZjK yE,A0];rw [Zos (f:=fun u y=>mx u (lvN row y.toNat)) fun j y u C=>by
    obtain ⟨B,G⟩:=K y C;rw [Zj _ ⟨B,yE⟩,ZjK yE,A0];rfl]
   rw [Zos (f:=fun u y=>mx u (lvN row y.toNat+1)) fun j y u C=>by
    obtain ⟨B,G⟩:=J y C;have hb1:=a y.toNat;have hb2:=E y.toNat;rw [Zj _ ⟨B,yE⟩,ZjK yE,A0,Znc yE yE];rfl]
   show (if decide (lvN row r.for_.toNat<Zkb row r)=true then some (Sum.inl (row.set r.for_.toNat (Zkb row r),true)) else some (Sum.inl (row,m)))=some (Sum.inl (ZdU (row,m) r))
   unfold ZdU;by_cases A:lvN row r.for_.toNat<Zkb row r
   .rw [yp (decide_eq_true A),yp A];rfl
   .rw [yn (by simpa using A),yn A]
  .unfold ZdU;by_cases A:lvN row r.for_.toNat<Zkb row r
   .rw [yp A];exact ⟨by rw [Zek];exact c,fun j=>⟨AI (a j).1 (Zis row r j),Zob F.sol D (fun j=>(a j).2) j⟩⟩
   .rw [yn A];exact ⟨c,a⟩
 .intro row;rfl
end
section
open Classical
theorem ZxA{n k:Nat}{row:List Int}(h:RIn n row k){y:Int}(C:0<=y)(A:y.toNat<n):atI row y=some (rdN row y)/\row[y.toNat]?=some (rdN row y):=by
 obtain ⟨v,B,_⟩:=h.val y.toNat A;have e:row[y.toNat]?=some (rdN row y):=by unfold rdN;rw [B];rfl
 refine ⟨?_,e⟩;unfold atI;rw [yp C,e]
def Zjl(row:List Int)(k:Nat)(y:Int):Bool:=decide (0<=rdN row y/\rdN row y<(k:Int))
def Zjh(row:List Int)(y:Int):Bool:=decide (rdN row y<0)
theorem Ztz{ρ:Type}{n k:Nat}{row:List Int}(h:RIn n row k){l:List Int}(F:∀y∈l,0<=y/\y.toNat<n){fin:Unit->Option ρ}{z:ρ}{body:Nat->Int->Unit->Option (Unit ⊕ ρ)}
  (G:∀i y u,body i y u=(atI row y).bind fun x=>if decide (x<0)=true then some (.inr z) else if decide ((k:Int)<=x)=true then some (.inr z) else some (.inl ())):forL body fin l 0 ()=if l.all (Zjl row k)=true then fin () else some z:=by
 rw [Yb (p:=Zjl row k) (r:=z)];intro i y E;obtain ⟨D,C⟩:=F y E;rw [G,(ZxA h D C).1,A0];unfold Zjl;by_cases B:rdN row y<0
 .rw [yp (decide_eq_true B),decide_eq_false yE];rfl
 .rw [yn (by simpa using B)];by_cases A:(k:Int)<=rdN row y
  .rw [yp (decide_eq_true A),decide_eq_false yE];rfl
  .rw [yn (by simpa using A),decide_eq_true yE];rfl
theorem Zt9{ρ:Type}{n k:Nat}{row:List Int}(h:RIn n row k){l:List Int}(E:∀y∈l,0<=y/\y.toNat<n){fin:Unit->Option ρ}{z:ρ}{body:Nat->Int->Unit->Option (Unit ⊕ ρ)}
  (F:∀i y u,body i y u=(atI row y).bind fun x=>if decide (0<=x)=true then some (.inr z) else some (.inl ())):forL body fin l 0 ()=if l.all (Zjh row)=true then fin () else some z:=by
 rw [Yb (p:=Zjh row) (r:=z)];intro i y D;obtain ⟨C,B⟩:=E y D;rw [F,(ZxA h C B).1,A0];unfold Zjh;by_cases A:0<=rdN row y
 .rw [yp (decide_eq_true A),decide_eq_false yE];rfl
 .rw [yn (by simpa using A),decide_eq_true yE];rfl
theorem Zcp{row:List Int}{k:Nat}{r:Zh}:(r.inn.all (Zjl row k)=true/\r.outs.all (Zjh row)=true)↔Zin row k r:=by
 simp only[AN,Zjl,Zjh,decide_eq_true_eq];exact Iff.rfl
theorem Zss{n k:Nat}{row:List Int}(h:RIn n row k){r:Zh}(C:OkN n r):ZbS r row (k:Int)=some (decide (Zin row k r)):=by
 unfold ZbS;rw [Ztz h C.2.1 fun i y u=>rfl,Zt9 h C.2.2 fun i y u=>rfl];by_cases B:r.inn.all (Zjl row k)=true
 .rw [yp B];by_cases A:r.outs.all (Zjh row)=true
  .rw [yp A,decide_eq_true (Zcp.1 ⟨B,A⟩)]
  .rw [yn A,decide_eq_false fun h=>A (Zcp.2 h).2]
 .rw [yn B,decide_eq_false fun h=>B (Zcp.2 h).1]
theorem Zsp{n k:Nat}{row:List Int}(h:RIn n row k){l:List Int}(A:∀y∈l,0<=y/\y.toNat<n):Qm l row (k:Int)=some (l.all (Zjl row k)):=by
 unfold Qm;rw [Ztz h A fun i y u=>rfl];cases l.all (Zjl row k)<;>rfl
theorem ZvJ{n k:Nat}{row:List Int}(h:RIn n row k){l:List Int}(A:∀y∈l,0<=y/\y.toNat<n):Zbf l row=some (l.all (Zjh row)):=by
 unfold Zbf;rw [Zt9 h A fun i y u=>rfl];cases l.all (Zjh row)<;>rfl
theorem ZAw{n:Nat}{L:List Int}{ρ:Type}{body:List Int×Int×Int->Option ((List Int×Int×Int) ⊕ ρ)}{r:ρ}(F:∀i,0<=lvN L i/\lvN L i<=(n:Int))
  (I:∀k row u,k<n->row.length=n->body (row,(k:Int),u)=some (.inl (row.set k (-1),((k+1:Nat):Int),mx u (lvN L k))))
  (H:∀u,0<=u->u<=(n:Int)->(∀i,i<n->lvN L i<=u)->body (AJ n (-1),(n:Int),u)=some (.inr r)):
  ∀m k row u,k+m=n->row.length=n->(∀i,i<k->row[i]?=some (-1))->0<=u->u<=(n:Int)->(∀i,i<k->lvN L i<=u)->iter body (row,(k:Int),u)=some r:=by
 intro m;induction m with
 |zero=>
  intro k row u G D B E A C;obtain rfl:k=n:=by omega
  have:row=AJ k (-1):=by
   apply BD;intro i;by_cases hi:i<k
   .rw [B i hi];simp [hi]
   .rw [AQ yE,AQ (by simp;omega)]
  rw [this];exact ZU (H u E A C)
 |succ m ih=>
  intro k row u G D B E A C;rw [Z6 (I k row u yE D)];have hx:=Zzx u (lvN L k);refine ih (k+1) _ _ yE (by simp [D]) (fun i hi=>?_) yE (ZDa A (F k).2) fun i hi=>?_
  .rw [BE];by_cases e:k=i
   .rw [yp e,yp yE]
   .rw [yn e];exact B i yE
  .by_cases e:i=k
   .rw [e];exact hx.2
   .exact AI (C i yE) hx.1
theorem ZCR{b:Zl}(h:Q4 b){t:Nat}(B:∀i,i<b.nodes.toNat->lvN (lvB b) i<=(t:Int)):(X1 b.reasons (lvB b) b.nodes.toNat (AZ 0 (t+1)) (AJ b.nodes.toNat (-1),0)).1=rdB b:=by
 unfold rdB;rw [<-Bl,ZuE (a:=t+1) (b:=b.nodes.toNat)]
 .intro r A;have:=B r.for_.toNat (h.ok r A).1.2;omega
 .intro r A;have:=(h.lv.2 r.for_.toNat).2;have:=(h.ok r A).1.2;omega
theorem Zq4{ρ:Type}{n k:Nat}{row:List Int}(D:row.length=n){l:List Int}(C:∀x∈l,0<=x/\x.toNat<n){fin:List Int->Option ρ}{body:Nat->Int->List Int->Option (List Int ⊕ ρ)}
  (E:∀i x s,body i x s=chk (0<=x/\x<(s.length:Int)) ((s[Ae x]?).bind fun _=>some (.inl (List.set s (Ae x) (k:Int))))):forL body fin l 0 row=fin (ZdT row l (k:Int)):=by
 rw [Xf (f:=fun s x=>s.set x.toNat (k:Int)) (fun _ s=>s.length=n) D]
 .rfl
 .intro j x s B _ _ hs;obtain ⟨A,F⟩:=C x B;refine ⟨?_,by simp [hs]⟩;rw [E,Zj _ ⟨A,yE⟩,AD (show x.toNat<s.length by omega),A0]
theorem ZqO{n:Nat}{R:List Zh}(C:∀r∈R,OkN n r){L:List Int}{s:Int}{row:List Int}{k:Nat}:∀x∈YV R L s row k,0<=x/\x.toNat<n:=fun x A=>by
 obtain ⟨r,B,rfl,_⟩:=ZcP.1 A;exact (C r B).1
theorem Znu{b:Zl}(h:Q4 b){ρ:Type}{row:List Int}{k s:Nat}(E:RIn b.nodes.toNat row k){fin:List Int->Option ρ}{body:Nat->Zh->List Int->Option (List Int ⊕ ρ)}
  (H:∀i r acc,body i r acc=chk (0<=r.for_/\r.for_<(((lvB b).length:Nat):Int)) (((lvB b)[(Ae r.for_)]?).bind fun a=>
         if (a==(s:Int))=true then
          chk (r.for_<(row.length:Int)) <|
          (row[(Ae r.for_)]?).bind fun c=>
          if (decide (c<0))=true then
           (ZbS r row (k:Int)).bind fun d=>
           if d=true then
            chk (acc.length+1<=1073741824) <|
            some (.inl (acc++[r.for_]))
           else
            some (.inl acc)
          else
           some (.inl acc)
         else
          some (.inl acc))):forL body fin b.reasons 0 []=fin (YV b.reasons (lvB b) (s:Int) row k):=by
 have hLl:=h.lv.1.len;have h60:=h.len;rw [Y0 (g:=fun r=>if lvN (lvB b) r.for_.toNat=(s:Int)/\rdN row r.for_<0/\Zin row k r then some r.for_ else none)]
 .rfl
 .intro j r acc G ha;simp only[BY,AS]at ha;have hok:=h.ok r G;obtain ⟨F,I⟩:=hok.1;rw [H,Zj _ ⟨F,yE⟩,ZjK yE,A0];by_cases D:lvN (lvB b) r.for_.toNat=(s:Int)
  .rw [yp (by simpa using D),Zj _ (by rw [E.len];omega),(ZxA E F I).2,A0];by_cases C:rdN row r.for_<0
   .rw [yp (decide_eq_true C),Zss E hok,A0];by_cases B:Zin row k r
    .rw [yp (decide_eq_true B),Zj _ yE,yp ⟨D,C,B⟩];rfl
    .rw [yn (by simpa using B),yn fun A=>B A.2.2];simp
   .rw [yn (by simpa using C),yn fun A=>C A.2.1];simp
  .rw [yn (by simpa using D),yn fun A=>D A.1];simp
theorem ZyN{b:Zl}(h:Q4 b):Zif b=some (rdB b):=by
 obtain ⟨G,E⟩:=h.lv;have h0:=h.n0;have h1:=h.n1;have h60:=h.len;unfold Zif;rw [Zyh h,A0,Zj _ ⟨h0,yE⟩];have a:∀i,0<=lvN (lvB b) i/\lvN (lvB b) i<=(b.nodes.toNat:Int):=fun i=>by have:=E i;omega
 refine ZAw (n:=b.nodes.toNat) (L:=lvB b) a ?_ ?_ b.nodes.toNat 0 _ 0 yE yG (fun i hi=>by omega) (AP _) yE (fun i hi=>by omega)
 .intro k row u J I;have B:decide ((k:Int)<(b.nodes.toNat:Int))=true:=decide_eq_true yE;simp only[B,if_true,Ad];have:=G.len;rw [Zj _ ⟨yE,yE⟩,AD (show k<row.length by omega),A0,Zj _ yE,ZjK yE,A0,Zjt yE];rfl
 .intro u u0 H D;simp only[ZE,AC,if_false];obtain ⟨t,rfl⟩:∃t:Nat,u=(t:Int):=⟨u.toNat,yE⟩
  rw [<-ZCR h D];refine ZuH (top:=t) h.ok (fun row k s=>(row,(k:Int),(s:Int))) (fun row=>Sum.inr row) ?_ ?_ ?_ (t+1) 0 _ 0 yE (Zjd _)
  .intro row k s A hs C;have B:decide ((s:Int)<=(t:Int))=true:=decide_eq_true yE;simp only[B,if_true];rw [Znu h A fun i r acc=>rfl];have c:((((YV b.reasons (lvB b) (s:Int) row k).length:Nat):Int)==0)=false:=by
    have:(YV b.reasons (lvB b) (s:Int) row k).length≠0:=fun e=>C (Aj e);simpa using this
   simp only[c,AC,if_false];rw [Zq4 A.len (ZqO h.ok) fun i x s=>rfl,Zjt (by have:=A.few;omega)]
  .intro row k s A hs C;have B:decide ((s:Int)<=(t:Int))=true:=decide_eq_true yE;simp only[B,if_true];rw [Znu h A fun i r acc=>rfl,C,Zjt yE];rfl
  .intro row k A;have F:decide (((t+1:Nat):Int)<=(t:Int))=false:=decide_eq_false yE;simp only[F,AC,if_false]
def Zly(n:Nat)(R:List Zh)(L:List Int)(s:Int)(row:List Int)(k x:Nat):Option Int:=if lvN L x=s/\rdN row (x:Int)<0/\R.any (fun r=>decide (r.for_=(x:Int)/\Zin row k r))=true then some (x:Int) else none
theorem Zrp{n:Nat}{R:List Zh}(G:∀r∈R,OkN n r){L:List Int}{s:Int}{row:List Int}{k:Nat}{x:Int}:x∈(AZ 0 n).filterMap (Zly n R L s row k)↔x∈YV R L s row k:=by
 rw [ZcP,Ab];constructor
 .rintro ⟨i,J,hi⟩;unfold Zly at hi;split at hi
  .rename_i F;obtain rfl:=Aa hi;obtain ⟨E,D,C⟩:=F;obtain ⟨r,A,B⟩:=BM.1 C;rw [decide_eq_true_iff]at B;exact ⟨r,A,B.1,by simpa using E,D,B.2⟩
  .simp at hi
 .rintro ⟨r,A,rfl,E,D,C⟩;obtain ⟨I,H⟩:=(G r A).1;have e:(r.for_.toNat:Int)=r.for_:=B4 I;refine ⟨r.for_.toNat,List.mem_range'.2 ⟨r.for_.toNat,H,yE⟩,?_⟩;unfold Zly;rw [yp ⟨E,by rw [e];exact D,BM.2 ⟨r,A,by rw [decide_eq_true_iff,e];exact ⟨rfl,C⟩⟩⟩,e]
theorem Zmn{b:Zl}(h:Q4 b){row:List Int}{k s:Nat}(F:RIn b.nodes.toNat row k):ZcU b (lvB b) (s:Int) row (k:Int)=some ((AZ 0 b.nodes.toNat).filterMap (Zly b.nodes.toNat b.reasons (lvB b) (s:Int) row k)):=by
 obtain ⟨N,U⟩:=h.lv;have h0:=h.n0;have h1:=h.n1;unfold ZcU;have a:∀(body:List Int×Int->Option ((List Int×Int) ⊕ List Int)) (G:Nat->Option Int),(∀acc (i:Nat),i<b.nodes.toNat->acc.length<=24->body (acc,(i:Int))=some (.inl (acc++(G i).toList,((i+1:Nat):Int))))->(∀acc,body (acc,(b.nodes.toNat:Int))=some (.inr acc))->
   ∀d i acc,i+d=b.nodes.toNat->acc.length<=i->iter body (acc,(i:Int))=some (acc++(AZ i d).filterMap G):=by
  intro body G T S d;induction d with
  |zero=>
   intro i acc hi ha;obtain rfl:i=b.nodes.toNat:=by omega
   rw [ZU (S acc)];simp
  |succ d ih=>
   intro i acc hi ha;rw [Z6 (T acc i yE yE),ih (i+1) _ yE (by rw [AH];cases G i<;>simp<;>omega),List.range'_succ,BN]
   cases G i<;>simp
 refine a _ (Zly b.nodes.toNat b.reasons (lvB b) (s:Int) row k) ?_ ?_ b.nodes.toNat 0 [] yE yG
 .intro acc i hi ha;have L:decide ((i:Int)<b.nodes)=true:=decide_eq_true yE;have hLl:=N.len;have R:atI (lvB b) (i:Int)=some (lvN (lvB b) i):=by rw [Zar];exact ZjK yE
  have e2:=(ZxA F (y:=(i:Int)) yE (by simpa using hi)).1;simp only[L,if_true];rw [R,A0,e2,Zjt yE];unfold Zly;by_cases E:lvN (lvB b) i=(s:Int)
  .have I:(lvN (lvB b) i != (s:Int))=false:=by simp [E]
   simp only[I,AC,if_false,A0];by_cases J:rdN row (i:Int)<0
   .have H:decide (0<=rdN row (i:Int))=false:=decide_eq_false yE;simp only[H,AC,if_false];rw [ZaJ (p:=fun r=>decide (r.for_=(i:Int)/\Zin row k r)) (r:=.inl (acc++[(i:Int)],((i+1:Nat):Int)))]
    .by_cases B:b.reasons.any (fun r=>decide (r.for_=(i:Int)/\Zin row k r))=true
     .rw [yp B,yp ⟨E,J,B⟩];rfl
     .rw [yn B,yn fun A=>B A.2.2];simp
    .intro j r K;obtain ⟨V,P,O⟩:=h.ok r K;by_cases B:r.for_=(i:Int)
     .rw [yp (by simpa using B),Zsp F P,A0];by_cases D:r.inn.all (Zjl row k)=true
      .rw [yp D,ZvJ F O,A0];by_cases C:r.outs.all (Zjh row)=true
       .rw [yp C,Zj _ yE,decide_eq_true ⟨B,Zcp.1 ⟨D,C⟩⟩];rfl
       .rw [yn C,decide_eq_false fun A=>C (Zcp.2 A.2).2];rfl
      .rw [yn D,decide_eq_false fun A=>D (Zcp.2 A.2).1];rfl
     .rw [yn (by simpa using B),decide_eq_false fun A=>B A.1];rfl
   .have H:decide (0<=rdN row (i:Int))=true:=decide_eq_true yE;simp only[H,if_true];rw [yn fun A=>J A.2.1];simp
  .have I:(lvN (lvB b) i != (s:Int))=true:=by simp [E]
   simp only[I,if_true];rw [yn fun A=>E A.1];simp
 .intro acc;have M:decide ((b.nodes.toNat:Int)<b.nodes)=false:=decide_eq_false yE;simp only[M,AC,if_false]
theorem ZhV{b:Zl}(h:Q4 b):ZbQ b=some (rdB b):=by
 have h0:=h.n0
 have h1:=h.n1
 unfold ZbQ
 rw [Zhq h,A0,yp rfl,Zvw h,A0]
 have c:∀(body:List Int×Int->Option ((List Int×Int) ⊕ List Int)),(∀(i:Nat),i<b.nodes.toNat->body (AJ i (-1),((i:Nat):Int))=some (.inl (AJ i (-1)++[-1],((i+1:Nat):Int))))->body (AJ b.nodes.toNat (-1),((b.nodes.toNat:Nat):Int))=some (.inr (rdB b))->
   ∀d i,i+d=b.nodes.toNat->iter body (AJ i (-1),((i:Nat):Int))=some (rdB b):=by
  intro body D C d
  induction d with
  |zero=>
   intro i hi
   obtain rfl:i=b.nodes.toNat:=by omega
   exact ZU C
  |succ d ih=>
   intro i hi
   rw [Z6 (D i yE),<-ih (i+1) yE,List.replicate_succ']
 refine c _ ?_ ?_ b.nodes.toNat 0 yE
 .intro i hi
  have B:decide (((i:Nat):Int)<b.nodes)=true:=decide_eq_true yE
  simp only[B,if_true]
  rw [Zj _ (by simp;omega),Zjt yE]
 .have E:decide (((b.nodes.toNat:Nat):Int)<b.nodes)=false:=decide_eq_false yE
  simp only[E,AC,if_false]
  have a:∀(body:List Int×Int×Int->Option ((List Int×Int×Int) ⊕ ((List Int×Int) ⊕ List Int))),(∀row (k s:Nat),RIn b.nodes.toNat row k->s<b.nodes.toNat->body (row,((k:Nat):Int),((s:Nat):Int))=some (.inl ((Xg b.reasons (lvB b) ((s:Nat):Int) b.nodes.toNat row k).1,(((Xg b.reasons (lvB b) ((s:Nat):Int) b.nodes.toNat row k).2:Nat):Int),((s+1:Nat):Int))))->(∀row (k:Nat),body (row,((k:Nat):Int),((b.nodes.toNat:Nat):Int))=some (.inr (.inr row)))->
    ∀d s row k,s+d=b.nodes.toNat->RIn b.nodes.toNat row k->iter body (row,((k:Nat):Int),((s:Nat):Int))=some (.inr (X1 b.reasons (lvB b) b.nodes.toNat (AZ s d) (row,k)).1):=by
   intro body D C d
   induction d with
   |zero=>
    intro s row k hs A
    obtain rfl:s=b.nodes.toNat:=by omega
    exact ZU (C row k)
   |succ d ih=>
    intro s row k hs A
    rw [Z6 (D row k s A yE)]
    exact ih (s+1) _ _ yE (ZeF h.ok b.nodes.toNat row k A (by have:=A.few;omega)).1
  have e:rdB b=(X1 b.reasons (lvB b) b.nodes.toNat (AZ 0 b.nodes.toNat) (AJ b.nodes.toNat (-1),0)).1:=by unfold rdB;rw [Bl]
  rw [e]
  refine a _ ?_ ?_ b.nodes.toNat 0 _ 0 yE (Zjd _)
  .intro row k s A hs
   have B:decide (((s:Nat):Int)<b.nodes)=true:=decide_eq_true yE
   simp only[B,if_true]
   rw [Zmn h A,A0,Zjt yE]
   refine Zwn (s:=((s:Nat):Int)) h.ok (fun row k l=>(row,l,((k:Nat):Int))) (fun row k=>Sum.inl (row,((k:Nat):Int),((s+1:Nat):Int))) (fun row k=>(AZ 0 b.nodes.toNat).filterMap (Zly b.nodes.toNat b.reasons (lvB b) ((s:Nat):Int) row k)) (fun row k x _=>Zrp h.ok) ?_ ?_ b.nodes.toNat row k A (by have:=A.few;omega)
   .intro row k A G H
    have f:decide (0<((((AZ 0 b.nodes.toNat).filterMap (Zly b.nodes.toNat b.reasons (lvB b) ((s:Nat):Int) row k)).length:Nat):Int))=true:=by
     have:((AZ 0 b.nodes.toNat).filterMap (Zly b.nodes.toNat b.reasons (lvB b) ((s:Nat):Int) row k)).length≠0:=fun e=>G (Aj e)
     exact decide_eq_true yE
    simp only[f,if_true]
    rw [Zq4 A.len (fun x F=>ZqO h.ok x (Zrp h.ok |>.1 F)) fun i x s=>rfl,Zjt (by have:=A.few;omega),Zmn h H,A0]
   .intro row k A
    rfl
  .intro row k
   simp only[E,AC,if_false]
end
end
end Go.Proofs.YtnacpkmpdlodoaaGreatDoor
