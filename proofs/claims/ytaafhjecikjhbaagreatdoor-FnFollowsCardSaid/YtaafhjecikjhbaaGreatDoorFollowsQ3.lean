/- Texts of this proof, joined: K2, K3, U14, K4, K5, K6, K7, K8, K11, F7, K12, K13, K14, K15, K16, K17, K18, K9, K10, K19, K20, K21, D1, D2, D3. What each holds is said at its theorems. -/
import Derived.Test.YtaafhjecikjhbaaGreatDoorFollowsQ2
import Derived.Test.YtaafhjecikjhbaaGreatDoorFollowsQ1
open Array renaming range→BZ
open Bool renaming and_eq_true→A4,eq_iff_iff→AY,eq_false_iff→Ar,or_eq_true→BG
open ByteArray renaming size_extract→Aj
open Int renaming toNat→AG,toNat_natCast→AI,le_refl→Ac
open List renaming length_cons→A6,getElem?_eq_getElem→A9,length_append→AA,mem_map→AB,getElem?_eq_some_iff→AC,getElem?_map→AD,mem_of_getElem?→AF,mem_append→AH,getElem?_mapIdx→AJ,map_cons→AL,length_map→AN,length_singleton→AP,nil_append→AQ,mem_cons→AR,foldl_cons→AS,getElem?_append_left→AT,getElem?_cons_succ→AU,nodup_cons→AW,length_filter_le→Aa,flatMap_cons→Ad,map_append→Ae,length_take→Ag,getElem?_append_right→Ah,ext_getElem?→Ai,getElem?_cons_zero→Ak,take_add_one→An,map_map→Aq,mem_filterMap→At,all_eq_true→Au,filter_cons_of_neg→Aw,filter_cons_of_pos→Ax,mem_flatMap→Ay,any_eq_true→Az,cons_append→B2,length_nil→B4,append_assoc→B5,getElem_mem→B6,append_nil→B8,getElem_of_mem→B9,take_length→BC,mem_filter→BD,map_id'→BE,mem_map_of_mem→BF,take_of_length_le→BI,pairwise_singleton→BJ,pairwise_cons→BL,drop_succ_cons→BM,drop_zero→BN,length_drop→BP,filter_append→BR,length_mapIdx→BS,filterMap_cons_none→BT,filterMap_cons_some→BU,nodup_append→BV,pairwise_iff_getElem→BW,take_append_of_le_length→BX,getElem?_of_mem→BY
open List.Pairwise renaming nil→BK
open Nat renaming le_refl→A5,zero_add→AO,lt_or_ge→AX,le_trans→AZ,sub_self→Ao,add_zero→B7,zero_le→BB,and_le_right→Ba
open Option renaming bind_some→A0,map_eq_some_iff→AK,map_some→Al,toList_some→BH
open Option.some renaming inj→AE,injEq→Am
open Prod.mk renaming injEq→B1
open UInt8 renaming ofNat→As
set_option linter.unusedSimpArgs false
set_option linter.unusedVariables false
set_option maxRecDepth 1000000
set_option maxHeartbeats 4000000
namespace Go.Proofs.YtaafhjecikjhbaaGreatDoor
section
open Classical
def ZaW (acc:List Zo) (s:ByteArray):List Zo:=if ZS s=true/\ZQ acc s=none then acc++[{ var:=s,value:=(⟨#[63]⟩:ByteArray)++ofL (Lib.itoa ((acc.length:Int)+1)) }] else acc
def ZqG (l:List ByteArray):List Zo:=l.foldl ZaW []
def ZbM (to:List Zo) (s:ByteArray):ByteArray:=(ZQ to s).getD s
def ZgU (to:List Zo) (x:Zj):Zj:={ kind:=x.kind,pattern:={ rel:=x.pattern.rel,args:=x.pattern.args.map (ZbM to) },left:=ZbM to x.left,right:=ZbM to x.right }
def Zbb (p:Zi):Zi:={ rel:=p.rel,args:=p.args.map (ZbM (ZqG p.args)) }
def ZeD (r:Zh):List Zo:=ZqG (r.cond.flatMap YM)
def XV (r:Zh):List Zj:=r.cond.map (ZgU (ZeD r))
theorem ZpU (acc:List Zo) (s:ByteArray):(ZaW acc s).length<=acc.length+1:=by
 unfold ZaW;split<;>simp
theorem Zj8:∀(l:List ByteArray) (acc:List Zo),(l.foldl ZaW acc).length<=acc.length+l.length
 | [],_=>by simp
 |s::l,acc=>by
  have h1:=Zj8 l (ZaW acc s)
  have h2:=ZpU acc s
  simp only[AS,A6]
  omega
noncomputable def Zhq (q:ZV->Prop):List ZV->Nat->Option Nat
 | [],_=>none
 |y::r,i=>if 0<i/\q y then some i else Zhq q r (i+1)
noncomputable def Zk9 (p:Zi):List YR->Nat->Option Nat
 | [],_=>none
 |y::r,i=>if y.shape=p then some i else Zk9 p r (i+1)
noncomputable def XE (n:Ze) (p:Zi):Int×Ze:=
 match Zk9 p n.alphas 0 with
 |some i=>(((i:Nat):Int),n)
 |none=>(((n.alphas.length:Nat):Int),{ n with alphas:=n.alphas++[{ shape:=p,facts:=[] }] })
noncomputable def ZM (n:Ze) (parent:Int) (x:Zj):Int×Ze:=
 match Zhq (fun y=>y.parent=parent/\y.cond=x) n.nodes 0 with
 |some i=>(((i:Nat):Int),n)
 |none=>
  let a:Int×Ze:=if x.kind=1\/x.kind=2 then XE n (Zbb x.pattern) else (-1,n)
  (((n.nodes.length:Nat):Int),{ a.2 with nodes:=n.nodes++[{ parent:=parent,cond:=x,alpha:=a.1,tokens:=[] }] })
noncomputable def YF (l:List Zj) (s:Int×Ze):Int×Ze:=l.foldl (fun s x=>ZM s.2 s.1 x) s
noncomputable def Xl (n:Ze) (r:Zh):Ze:={ (YF (XV r) (0,n)).2 with ends:=n.ends++[(YF (XV r) (0,n)).1] }
def ZAb:Zj:={ kind:=0,pattern:={ rel:=⟨#[]⟩,args:=[] },left:=⟨#[]⟩,right:=⟨#[]⟩ }
def Zag (R:List Zh) (t:List Zs):Ze:={ rules:=R,ends:=[],alphas:=[],nodes:=[{ parent:=-1,cond:=ZAb,alpha:=-1,tokens:=t }],facts:=[],tries:=0 }
noncomputable def Zbd (R:List Zh) (t:List Zs):Ze:=R.foldl Xl (Zag R t)
def Zfi (nodes:List ZV):Nat->Int->List Zj
 |0,_=>[]
 |f+1,i=>if 1<=i then (match nodes[i.toNat]? with|some y=>(if y.parent<i then Zfi nodes f y.parent else [])++[y.cond]|none=>[]) else []
def YW (nodes:List ZV) (i:Int):List Zj:=Zfi nodes i.toNat i
theorem Zfz {a:List ZV}{f:Nat}{i:Int}(h:i<1):Zfi a f i=[]:=by
 cases f with
 |zero=>rfl
 |succ f=>unfold Zfi;rw [if_neg yE]
theorem Zm3 {a:List ZV}:∀(f g:Nat) (i:Int),i.toNat<=f->i.toNat<=g->Zfi a f i=Zfi a g i
 |0,g,i,h,_=>by rw [Zfz yE,Zfz yE]
 |f+1,0,i,_,h=>by rw [Zfz yE,Zfz yE]
 |f+1,g+1,i,h,h'=>by
  unfold Zfi
  split
  .cases a[i.toNat]? with
   |none=>rfl
   |some y=>
    simp only
    split
    .rw [Zm3 f g y.parent yE yE]
    .rfl
  .rfl
theorem ZfT {a:List ZV}{i:Int}{y:ZV}(h1:1<=i) (hy:a[i.toNat]?=some y) (hp:y.parent<i):YW a i=YW a y.parent++[y.cond]:=by
 unfold YW
 obtain ⟨k,hk⟩:∃k,i.toNat=k+1:=⟨i.toNat - 1,yE⟩
 rw [hk]
 show (if 1<=i then (match a[i.toNat]? with|some y=>(if y.parent<i then Zfi a k y.parent else [])++[y.cond]|none=>[]) else [])=_
 rw [if_pos h1,hy]
 simp only[if_pos hp]
 rw [Zm3 k y.parent.toNat y.parent yE (A5 _)]
theorem ZfY {a:List ZV}{i:Int}(h:i<1):YW a i=[]:=Zfz h
def X2 (y:ZV):Int×Zj:=(y.parent,y.cond)
theorem Zn7 {a b:List ZV}(h:a.map X2=b.map X2):∀(f:Nat) (i:Int),Zfi a f i=Zfi b f i
 |0,_=>rfl
 |f+1,i=>by
  have hg:(a[i.toNat]?).map X2=(b[i.toNat]?).map X2:=by rw [<-AD,<-AD,h]
  unfold Zfi
  split
  .cases ha:a[i.toNat]? with
   |none=>rw [ha]at hg;cases hb:b[i.toNat]? with
    |none=>rfl
    |some y=>rw [hb]at hg;simp at hg
   |some x=>rw [ha]at hg;cases hb:b[i.toNat]? with
    |none=>rw [hb]at hg;simp at hg
    |some y=>
     rw [hb]at hg
     simp only[Al,Am,X2,B1]at hg
     obtain ⟨e1,e2⟩:=hg
     simp only[e1,e2,Zn7 h f]
  .rfl
theorem ZeQ {a b:List ZV}(h:a.map X2=b.map X2) (i:Int):YW a i=YW b i:=Zn7 h _ _
theorem Zo7 {a:List ZV}(z:List ZV):∀(f:Nat) (i:Int),i<a.length->Zfi (a++z) f i=Zfi a f i
 |0,_,_=>rfl
 |f+1,i,h=>by
  unfold Zfi
  split
  .rw [AT yE]
   cases ha:a[i.toNat]? with
   |none=>rfl
   |some y=>
    simp only
    split
    .rw [Zo7 z f y.parent yE]
    .rfl
  .rfl
theorem Zh4 {a:List ZV}(z:List ZV) (i:Int) (h:i<a.length):YW (a++z) i=YW a i:=Zo7 z _ _ h
structure ZjF (n:Ze):Prop where
 one:1<=n.nodes.length
 par:∀i y,1<=i->n.nodes[i]?=some y->0<=y.parent/\y.parent<((i:Nat):Int)
 few:∀i:Nat,i<n.nodes.length->(YW n.nodes ((i:Nat):Int)).length<=4
theorem Zhe {q:ZV->Prop}:∀{l:List ZV}{i k:Nat},Zhq q l i=some k->∃y,i<=k/\l[k - i]?=some y/\0<k/\q y
 | [],_,_,h=>by simp [Zhq]at h
 |y::r,i,k,h=>by
  unfold Zhq at h
  split at h
  .rename_i hq
   obtain rfl:=AE h
   exact ⟨y,A5 _,yG,hq.1,hq.2⟩
  .obtain ⟨z,h1,h2,h3⟩:=Zhe h
   refine ⟨z,yE,?_,h3⟩
   rw [show k - i=(k - (i+1))+1 by omega,AU]
   exact h2
theorem Ztm {n:Ze}{p:Int}{x:Zj}(h:ZjF n) (hp:0<=p/\p<n.nodes.length) (hl:(YW n.nodes p).length<=3):
  ZjF (ZM n p x).2/\0<=(ZM n p x).1/\(ZM n p x).1<(ZM n p x).2.nodes.length/\(YW (ZM n p x).2.nodes (ZM n p x).1).length=(YW n.nodes p).length+1/\(ZM n p x).2.nodes.length<=n.nodes.length+1/\(ZM n p x).2.alphas.length<=n.alphas.length+1/\n.nodes.length<=(ZM n p x).2.nodes.length:=by
 unfold ZM
 split
 .rename_i i hi
  obtain ⟨y,h1,h2,h3,h4,h5⟩:=Zhe hi
  rw [Nat.sub_zero]at h2
  have b:=(AC.1 h2).1
  have d:=h.par i y h3 h2
  refine ⟨h,yE,by simp only;omega,?_,by simp only;omega,by simp only;omega,A5 _⟩
  simp only
  rw [ZfT (y:=y) yE (by simpa using h2) d.2,h4]
  simp
 .have ha:∀a:Int×Ze,a=(if x.kind=1\/x.kind=2 then XE n (Zbb x.pattern) else (-1,n))->a.2.nodes=n.nodes/\a.2.alphas.length<=n.alphas.length+1:=by
   rintro a rfl
   split
   .unfold XE
    split
    .exact ⟨rfl,by simp only;omega⟩
    .exact ⟨rfl,yG⟩
   .exact ⟨rfl,by simp only;omega⟩
  generalize (if x.kind=1\/x.kind=2 then XE n (Zbb x.pattern) else (-1,n))=a at *
  obtain ⟨a1,a2⟩:=ha a rfl
  simp only
  have hz:(n.nodes++[({ parent:=p,cond:=x,alpha:=a.1,tokens:=[] }:ZV)])[n.nodes.length]?=some { parent:=p,cond:=x,alpha:=a.1,tokens:=[] }:=by simp
  have c:YW (n.nodes++[({ parent:=p,cond:=x,alpha:=a.1,tokens:=[] }:ZV)]) ((n.nodes.length:Nat):Int)=YW n.nodes p++[x]:=by
   rw [ZfT (y:={ parent:=p,cond:=x,alpha:=a.1,tokens:=[] }) (by have:=h.one;omega) yG hp.2,Zh4 _ _ hp.2]
  refine ⟨⟨yG,fun i y hi hy=>?_,fun i hi=>?_⟩,yE,by simp;omega,by rw [c];simp,yG,by simpa using a2,yG⟩
  .rcases AX i n.nodes.length with b|f
   .rw [AT b]at hy
    exact h.par i y hi hy
   .have e:i=n.nodes.length:=by
     have:=(AC.1 hy).1
     simp at this;omega
    subst e
    rw [hz]at hy
    obtain rfl:=AE hy
    exact ⟨hp.1,hp.2⟩
  .rcases AX i n.nodes.length with b|f
   .rw [Zh4 _ _ yE];exact h.few i b
   .have e:i=n.nodes.length:=by simp at hi;omega
    subst e
    rw [c];simp;omega
theorem ZvK:∀(l:List Zj) (p:Int) (n:Ze),ZjF n->0<=p/\p<n.nodes.length->(YW n.nodes p).length+l.length<=4->
  ZjF (YF l (p,n)).2/\(YF l (p,n)).2.nodes.length<=n.nodes.length+l.length/\(YF l (p,n)).2.alphas.length<=n.alphas.length+l.length/\n.nodes.length<=(YF l (p,n)).2.nodes.length
 | [],p,n,h,_,_=>⟨h,by simp [YF],by simp [YF],by simp [YF]⟩
 |x::l,p,n,h,hp,hl=>by
  simp only[A6]at hl ⊢
  obtain ⟨c1,c2,c3,c4,c5,c6,c7⟩:=Ztm (x:=x) h hp yE
  have e:YF (x::l) (p,n)=YF l ((ZM n p x).1,(ZM n p x).2):=rfl
  rw [e]
  obtain ⟨w1,w2,w3,w4⟩:=ZvK l (ZM n p x).1 (ZM n p x).2 c1 ⟨c2,c3⟩ yE
  exact ⟨w1,yE,yE,yE⟩
theorem ZcW (r:Zh):(XV r).length=r.cond.length:=by simp [XV]
theorem Zrp {n:Ze}{r:Zh}(h:ZjF n) (hr:r.cond.length<=4):ZjF (Xl n r)/\(Xl n r).nodes.length<=n.nodes.length+4/\(Xl n r).alphas.length<=n.alphas.length+4/\(Xl n r).ends.length=n.ends.length+1:=by
 have h1:=h.one
 obtain ⟨w1,w2,w3,_⟩:=ZvK (XV r) 0 n h ⟨yE,yE⟩ (by rw [ZfY yE,ZcW];simpa using hr)
 rw [ZcW]at w2 w3
 exact ⟨⟨w1.one,w1.par,w1.few⟩,by show (YF (XV r) (0,n)).2.nodes.length<=_;omega,by show (YF (XV r) (0,n)).2.alphas.length<=_;omega,by simp [Xl]⟩
theorem Zjz (R:List Zh) (t:List Zs):ZjF (Zag R t):=⟨by simp [Zag],fun i y hi hy=>by
 have:=(AC.1 hy).1
 simp [Zag]at this;omega,fun i hi=>by
 simp [Zag]at hi;subst hi
 rw [ZfY yE];simp⟩
theorem Zmi:∀(l:List Zh) (n:Ze),ZjF n->(∀r∈l,r.cond.length<=4)->ZjF (l.foldl Xl n)/\(l.foldl Xl n).nodes.length<=n.nodes.length+4*l.length/\(l.foldl Xl n).alphas.length<=n.alphas.length+4*l.length
 | [],n,h,_=>⟨h,yG,yG⟩
 |r::l,n,h,hl=>by
  obtain ⟨r1,r2,r3,_⟩:=Zrp h (hl r yG)
  obtain ⟨w1,w2,w3⟩:=Zmi l (Xl n r) r1 fun r mr=>hl r (by simp [mr])
  simp only[AS,A6]
  exact ⟨w1,yE,yE⟩
def rt (t:List Zs) (n:Ze):Ze:={ n with nodes:=match n.nodes with | []=>[]|y::r=>{ y with tokens:=t }::r }
end
section
open Classical
theorem Zz0 {α:Type}{a b:List α}{body:Nat->α->Unit->Option (Unit ⊕ Bool)}{fin:Unit->Option Bool}(h:a.length=b.length) (hb:∀i x y,a[i]?=some x->b[i]?=some y->body i x ()=some (bif decide (x=y) then .inl () else .inr false)):forL body fin a 0 ()=if a=b then fin () else some false:=by
 rw [Zc5 (p:=fun i x=>decide (b[i]?=some x)) (r:=false)]
 .have:=ZzJ (p:=fun i x=>decide (b[i]?=some x)) (b:=b) (fun i x=>by rw [decide_eq_true_iff]) a h
  by_cases e:a=b
  .rw [if_pos (this.2 e),if_pos e]
  .rw [if_neg fun hh=>e (this.1 hh),if_neg e]
 .intro j x hx
  have hj:=(AC.1 hx).1
  have c:b[j]?=some b[j]:=A9 yE
  rw [AO,hb j x b[j] hx c,c]
  congr 2
  rw [AY,decide_eq_true_iff,decide_eq_true_iff]
  exact ⟨fun e=>by rw [e],fun e=>(AE e).symm⟩
theorem ZmC {α:Type}{a b:List α}{body:Nat->α->Unit->Option (Unit ⊕ Bool)}(h:a.length=b.length) (hb:∀i x y,a[i]?=some x->b[i]?=some y->body i x ()=some (bif decide (x=y) then .inl () else .inr false)):forL body (fun _=>some true) a 0 ()=some (decide (a=b)):=by
 rw [Zz0 h hb]
 by_cases e:a=b
 .rw [if_pos e,decide_eq_true e]
 .rw [if_neg e,decide_eq_false e]
theorem Zjm {α:Type}{a b:List α}(h:¬a.length=b.length):((((a.length:Nat):Int)) != ((b.length:Nat):Int))=true:=by simp;omega
theorem Zkd {α:Type}{a b:List α}(h:a.length=b.length):¬((((a.length:Nat):Int)) != ((b.length:Nat):Int))=true:=by simp;omega
theorem ZBD {α:Type}{a b:List α}(h:¬a.length=b.length):decide (a=b)=false:=decide_eq_false fun e=>h (by rw [e])
theorem Zxm (p:Prop) [Decidable p]:(if decide p=true then some (Sum.inl ()) else some (Sum.inr false):Option (Unit ⊕ Bool))=some (bif decide p then .inl () else .inr false):=by
 by_cases h:p<;>simp [h]
theorem QD (a b:Zi):XI a b=some (decide (a=b)):=by
 unfold XI
 by_cases h1:a.rel=b.rel
 .rw [if_pos (ZL.2 h1),ZhD,A0]
  by_cases h2:a.args=b.args
  .rw [decide_eq_true h2,decide_eq_true ((ZBO a b).2 ⟨h1,h2⟩)]
  .rw [decide_eq_false h2,decide_eq_false fun e=>h2 (by rw [e])]
 .rw [if_neg (by rw [ZL];exact h1),decide_eq_false fun e=>h1 (by rw [e])]
theorem Zdf (a b:Zj):Zav a b=some (decide (a=b)):=by
 unfold Zav
 by_cases h:a=b
 .subst h
  rw [if_pos yG,if_pos (ZL.2 rfl),if_pos (ZL.2 rfl),QD,A0]
  simp
 .rw [decide_eq_false h]
  split
  .rename_i h1
   split
   .rename_i h2
    split
    .rename_i h3
     rw [QD,A0,decide_eq_false fun e=>h ((Zyg a b).2 ⟨by simpa using h1,e,ZL.1 h2,ZL.1 h3⟩)]
    .rfl
   .rfl
  .rfl
theorem Zv5 {a b:List ZB}{f:Zi->Zi->Option Bool}(hf:∀x y,f x y=some (decide (x=y))) (h:a.length=b.length):forL (σ:=Unit)
  (fun (g:Nat) (c:ZB) _=>(atI b ((g:Nat):Int)).bind fun d=>if (c.kind != d.kind)=true then some (.inr false) else (f c.pattern d.pattern).bind fun j=>if j=true then some (.inl ()) else some (.inr false)) (fun _=>some true) a 0 ()=some (decide (a=b)):=by
 refine ZmC h fun i x y hx hy=>?_
 rw [YN,hy,A0]
 by_cases hk:x.kind=y.kind
 .rw [if_neg (by simp [hk]),hf,A0]
  by_cases hp:x.pattern=y.pattern
  .rw [decide_eq_true hp,decide_eq_true ((ZBi x y).2 ⟨hk,hp⟩)];rfl
  .rw [decide_eq_false hp,decide_eq_false fun e=>hp (by rw [e])];rfl
 .rw [if_pos (by simp [hk]),decide_eq_false fun e=>hk (by rw [e])];rfl
theorem ZoI (a b:Zh):ZeK a b=some (decide (a=b)):=by
 unfold ZeK
 by_cases h1:a.name=b.name
 .rw [if_pos (ZL.2 h1)]
  by_cases h2:a.priority=b.priority
  .rw [if_neg (by simp [h2])]
   by_cases h3:a.cond.length=b.cond.length
   .rw [if_neg (Zkd h3)]
    by_cases h4:a.thn.length=b.thn.length
    .rw [if_neg (Zkd h4),Zv5 QD h4,Zz0 h3 fun i x y hx hy=>by rw [YN,hy,A0,Zdf,A0,Zxm]]
     by_cases h5:a.cond=b.cond
     .rw [if_pos h5]
      by_cases h6:a.thn=b.thn
      .rw [decide_eq_true h6,decide_eq_true ((ZyA a b).2 ⟨h1,h2,h5,h6⟩)]
      .rw [decide_eq_false h6,decide_eq_false fun e=>h6 (by rw [e])]
     .rw [if_neg h5,decide_eq_false fun e=>h5 (by rw [e])]
    .rw [if_pos (Zjm h4),decide_eq_false fun e=>h4 (by rw [e])]
   .rw [if_pos (Zjm h3),decide_eq_false fun e=>h3 (by rw [e])]
  .rw [if_pos (by simp [h2]),decide_eq_false fun e=>h2 (by rw [e])]
 .rw [if_neg (by rw [ZL];exact h1),decide_eq_false fun e=>h1 (by rw [e])]
theorem Zhy (a b:List Zh):ZbT a b=some (decide (a=b)):=by
 unfold ZbT
 by_cases h:a.length=b.length
 .rw [if_neg (Zkd h),ZmC h fun i x y hx hy=>by rw [YN,hy,A0,ZoI,A0,Zxm]]
 .rw [if_pos (Zjm h),ZBD h]
theorem ZcG (a b:List Zg):QR a b=some (decide (a=b)):=by
 unfold QR
 by_cases h:a.length=b.length
 .rw [if_neg (Zkd h),ZmC h fun i x y hx hy=>by rw [YN,hy,A0,YS,A0,Zxm]]
 .rw [if_pos (Zjm h),ZBD h]
theorem Zjs (a b:List Zg):ZdL a b=some (decide (a=b)):=ZcG a b
theorem ZyI (x y:Zo):x=y↔x.var=y.var/\x.value=y.value:=⟨fun e=>by rw [e];exact ⟨rfl,rfl⟩,fun h=>by cases x;cases y;simp_all⟩
theorem Zjt (a b:List Zo):ZdN a b=some (decide (a=b)):=by
 unfold ZdN
 by_cases h:a.length=b.length
 .rw [if_neg (Zkd h),ZmC h fun i x y hx hy=>by
   rw [YN,hy,A0]
   by_cases e:x=y
   .rw [if_pos (by rw [e];simp [ZL]),decide_eq_true e];rfl
   .rw [if_neg (fun hh=>e (by
     rw [A4,ZL,ZL]at hh
     exact (ZyI x y).2 hh)),decide_eq_false e];rfl]
 .rw [if_pos (Zjm h),ZBD h]
theorem ZkE (a b:List Zo):ZbD a b=some (decide (a=b)):=Zjt a b
theorem Zht (a b:List Int):ZbK a b=some (decide (a=b)):=by
 unfold ZbK
 by_cases h:a.length=b.length
 .rw [if_neg (Zkd h),ZmC h fun i x y hx hy=>by
   rw [YN,hy,A0]
   by_cases e:x=y
   .rw [if_neg (by simp [e])];simp [e]
   .rw [if_pos (by simp [e])];simp [e]]
  exact congrArg some (decide_eq_decide.2 Iff.rfl)
 .rw [if_pos (Zjm h)]
  have:¬a=b:=fun e=>h (by rw [e])
  simp [this]
theorem ZlZ (a b:List Zs):ZcB a b=some (decide (a=b)):=by
 unfold ZcB
 by_cases h:a.length=b.length
 .rw [if_neg (Zkd h),ZmC h fun i x y hx hy=>by
   rw [YN,hy,A0,ZcG,A0]
   by_cases h1:x.facts=y.facts
   .rw [if_pos (decide_eq_true h1),Zjt,A0,Zxm]
    congr 2
    rw [AY,decide_eq_true_iff,decide_eq_true_iff]
    exact ⟨fun e=>(ZCm x y).2 ⟨h1,e⟩,fun e=>by rw [e]⟩
   .rw [if_neg (by simpa using h1),decide_eq_false fun e=>h1 (by rw [e])];rfl]
 .rw [if_pos (Zjm h),ZBD h]
theorem ZrJ (s:ByteArray):∀(l:List Zo) (i:Nat),forL (σ:=Unit) (fun (_:Nat) (x5:Zo) _=>if (sEq x5.var s)=true then some (.inr x5.value) else some (.inl ())) (fun _=>some s) l i ()=some (ZbM l s)
 | [],i=>rfl
 |x::l,i=>by
  unfold ZbM ZQ
  by_cases h:x.var=s
  .rw [ZX (by rw [if_pos (ZL.2 h)]),if_pos h];rfl
  .rw [ZD (by rw [if_neg (by rw [ZL];exact h)]),if_neg h]
   exact ZrJ s l (i+1)
theorem ZcY (s:ByteArray) (to:List Zo):Zak s to=some (ZbM to s):=ZrJ s to 0
theorem ZgK (x:Zj) (to:List Zo) (h:x.pattern.args.length<=1048576):Za8 x to=some (ZgU to x):=by
 unfold Za8
 rw [ZcY,A0,ZcY,A0,Xf (g:=ZbM to)]
 .rfl
 .intro j y s my hs
  rw [ZcY,A0,Zk _ (by simp at hs;omega)]
theorem ZhB (p:Zo) (y:ByteArray):∀l:List Zo,ZQ (l++[p]) y=match ZQ l y with|some v=>some v|none=>if p.var=y then some p.value else none
 | []=>by simp [ZQ]
 |x::l=>by
  simp only[B2,ZQ]
  split
  .rfl
  .exact ZhB p y l
theorem ZBq {n:Int}(h:Znu n):(⟨#[63]⟩:ByteArray).size+(ofL (Lib.itoa n)).size<=9223372036854775807:=by
 have:=Zqb h
 have e:(⟨#[63]⟩:ByteArray).size=1:=rfl
 omega
theorem ZgD:∀(l:List ByteArray) (i:Nat) (mp:List (ByteArray×Bool)) (acc:List Zo),(∀y,Zby mp y false=true↔ZQ acc y≠none)->acc.length+l.length<=4194304->
  forL (σ:=(List (ByteArray×Bool))×(List Zo)) (fun (_:Nat) (a:ByteArray) s=>match s with|(mp_11,row_12)=>(Zcj a).bind fun c=>if c=true then if (Zby mp_11 a false)=true then some (.inl (mp_11,row_12)) else
   ((QP (IntKind.i64.wrap (((row_12.length:Nat):Int)+1))).bind fun b=>chk ((⟨#[63]⟩:ByteArray).size+b.size<=9223372036854775807) <| chk (row_12.length+1<=1073741824) <| some (.inl ((ZfG mp_11 a true),(row_12++[({ var:=a,value:=((⟨#[63]⟩:ByteArray)++b) }:Zo)])))) else some (.inl (mp_11,row_12)))
   (fun s=>match s with|(_,row_12)=>some row_12) l i (mp,acc)=some (l.foldl ZaW acc)
 | [],_,_,_,_,_=>rfl
 |x::l,i,mp,acc,hm,hl=>by
  simp only[A6]at hl
  simp only[AS]
  have hw:Znu ((acc.length:Int)+1):=⟨yE,yE⟩
  by_cases hv:ZS x=true
  .by_cases hg:ZQ acc x=none
   .have hn:ZaW acc x=acc++[{ var:=x,value:=(⟨#[63]⟩:ByteArray)++ofL (Lib.itoa ((acc.length:Int)+1)) }]:=if_pos ⟨hv,hg⟩
    rw [ZD (s':=(ZfG mp x true,ZaW acc x)) (by
     simp only[Zaz,A0,hv,if_true]
     rw [if_neg (by rw [hm];simpa using hg),Yi hw.1 hw.2,ZcE hw,A0,Zk _ (ZBq hw),Zk _ yE,hn])]
    refine ZgD l (i+1) _ _ (fun y=>?_) (by rw [hn];simp;omega)
    rw [Zz9,hn,ZhB]
    by_cases hy:y=x
    .subst hy;simp [hg]
    .rw [if_neg hy,hm]
     have d:¬x=y:=fun e=>hy e.symm
     cases ZQ acc y<;>simp [d]
   .have hn:ZaW acc x=acc:=if_neg fun h=>hg h.2
    rw [ZD (s':=(mp,acc)) (by
     simp only[Zaz,A0,hv,if_true]
     rw [if_pos ((hm x).2 hg)]),hn]
    exact ZgD l (i+1) mp acc hm yE
  .have hn:ZaW acc x=acc:=if_neg fun h=>hv h.1
   rw [ZD (s':=(mp,acc)) (by
    simp only[Zaz,A0]
    rw [if_neg hv]),hn]
   exact ZgD l (i+1) mp acc hm yE
theorem ZgM (l:List ByteArray) (h:l.length<=4194304):Q7 l=some (ZqG l):=ZgD l 0 [] [] (fun y=>by simp [Zby,ZeR,ZQ]) (by simpa using h)
end
section
theorem ZfF (p:Zi) (h:p.args.length<=1048576):XO p=some p:=by
 unfold XO
 rw [Zay _ yE]
 rfl
theorem Zai (x:Zj) (h:x.pattern.args.length<=1048576):Y1 x=some x:=by
 unfold Y1
 rw [ZfF _ h]
 rfl
theorem ZnW (l:List Zj) (hl:l.length<=1048576) (h:∀x∈l,x.pattern.args.length<=1048576):ZdG l=some l:=by
 unfold ZdG
 rw [Xf (g:=fun y=>y)]
 .simp
 .intro j y s my hs
  rw [Zai y (h y my),A0,Zk _ (by simp at hs;omega)]
theorem Zoy (r:Zh) (h:YX r):ZeH r=some r:=by
 unfold ZeH
 rw [ZnW _ h.1 h.3,A0,Xf (g:=fun y=>y)]
 .simp
 .intro j y s my hs
  have hl:=h.2
  rw [ZfF _ (h.4 y my),A0,Zk _ (by simp at hs;omega)]
open Classical
end
section
open Classical
theorem Zt0 (p:Zi):(ZgU (ZqG p.args) { kind:=0,pattern:=p,left:=⟨#[]⟩,right:=⟨#[]⟩ }).pattern=Zbb p:=rfl
theorem Zj2 (p:Zi) (h:p.args.length<=1048576):Zec p=some (Zbb p):=by
 unfold Zec
 rw [ZgM _ yE,A0,ZgK _ _ h,A0,Zt0]
theorem ZxQ {l:List Zj}(h:∀x∈l,x.pattern.args.length<=1048574) (hl:l.length<=4):(l.flatMap YM).length<=1048576*l.length:=by
 clear hl
 induction l with
 |nil=>simp
 |cons x l ih=>
  have h1:=h x yG
  have h2:=ih fun y my=>h y (by simp [my])
  simp only[Ad,AA,YM,A6,B4]
  omega
theorem Zuj (x:Zj) (h:x.pattern.args.length<=1048576):Zb2 x=some (YM x):=by
 unfold Zb2
 rw [Zay _ yE,A0,Zk _ yE]
 rfl
structure SmN (r:Zh):Prop where
 c4:r.cond.length<=4
 ca:∀x∈r.cond,x.pattern.args.length<=1048574
theorem ZgL (r:Zh) (h:SmN r):ZaZ r=some (ZeD r):=by
 unfold ZaZ ZeD
 have key:∀(l:List Zj) (i:Nat) (acc:List ByteArray),(∀x∈l,x.pattern.args.length<=1048574)->acc.length+1048576*l.length<=8388608->
   forL (σ:=(List ByteArray)) (fun (_:Nat) (c:Zj) a=>(Zb2 c).bind fun b=>chk (a.length+b.length<=1073741824) <| some (.inl (a++b))) (fun a=>(Q7 a).bind fun d=>some d) l i acc=(Q7 (acc++l.flatMap YM)).bind fun v=>some v:=by
  intro l
  induction l with
  |nil=>intro i acc _ _;simp [forL]
  |cons x l ih=>
   intro i acc hs hl
   have hx:=hs x yG
   simp only[A6]at hl
   have ht:(YM x).length=x.pattern.args.length+2:=by simp [YM]
   rw [ZD (s':=acc++YM x) (by rw [Zuj _ yE,A0,Zk _ yE]),ih _ _ (fun y my=>hs y (by simp [my])) (by rw [AA,ht];omega)]
   simp [B5]
 have hc:=h.c4
 rw [key r.cond 0 [] h.ca (by simp;omega),AQ,ZgM _ (by have:=ZxQ h.ca hc;omega)]
 rfl
theorem ZlW (r:Zh) (h:SmN r):Zcz r=some (XV r):=by
 unfold Zcz
 rw [ZgL r h,A0,Xf (g:=ZgU (ZeD r))]
 .rfl
 .intro j y s my hs
  have hc:=h.c4
  rw [ZgK _ _ (by have:=h.ca y my;omega),A0,Zk _ (by simp at hs;omega)]
theorem Zho {r:Zh}(h:SmN r):∀x∈XV r,x.pattern.args.length<=1048574:=fun x mx=>by
 obtain ⟨y,my,rfl⟩:=AB.1 mx
 have:=h.ca y my
 simpa [ZgU]using this
theorem ZmS {ρ:Type}{f:Zi->Zi->Option Bool}(hf:∀x y,f x y=some (decide (x=y))) {g:Nat->ρ}{fin:Unit->Option ρ}(p:Zi):∀(l:List YR) (i:Nat),forL (σ:=Unit) (fun (i6:Nat) (x7:YR) _=>(f x7.shape p).bind fun v8=>if v8=true then some (.inr (g i6)) else some (.inl ())) fin l i ()=match Zk9 p l i with|some k=>some (g k)|none=>fin ()
 | [],_=>rfl
 |x::l,i=>by
  unfold Zk9
  by_cases h:x.shape=p
  .rw [ZX (by rw [hf,A0,if_pos (decide_eq_true h)]),if_pos h]
  .rw [ZD (by rw [hf,A0,if_neg (by simpa using h)]),if_neg h]
   exact ZmS hf p l (i+1)
theorem Zj5 {n:Nat}(h:n<=1048576):IntKind.i64.wrap ((((n+1:Nat)):Int) - 1)=((n:Nat):Int):=by
 rw [show (((n+1:Nat)):Int) - 1=((n:Nat):Int) by omega,Yi yE yE]
theorem ZmV (n:Ze) (p:Zi) (h:n.alphas.length<=1000):X6 n p=some (XE n p):=by
 unfold X6 XE
 rw [ZmS QD (g:=fun i=>(((i:Nat):Int),n))]
 cases Zk9 p n.alphas 0 with
 |some k=>rfl
 |none=>simp only;rw [Zk _ yE,Zj5 yE]
theorem Ze7 (n:Ze) (p:Zi):(XE n p).2.nodes=n.nodes/\(XE n p).2.alphas.length<=n.alphas.length+1:=by
 unfold XE
 split
 .exact ⟨rfl,by simp only;omega⟩
 .exact ⟨rfl,yG⟩
theorem Zwn (n:Ze) (p:Int) (x:Zj):n.nodes.length<=(ZM n p x).2.nodes.length/\(ZM n p x).2.nodes.length<=n.nodes.length+1/\(ZM n p x).2.alphas.length<=n.alphas.length+1:=by
 unfold ZM
 split
 .exact ⟨A5 _,by simp only;omega,by simp only;omega⟩
 .refine ⟨yG,yG,?_⟩
  simp only
  split
  .exact (Ze7 n _).2
  .simp only;omega
theorem Zlc {ρ:Type}{g:Nat->ρ}{fin:Unit->Option ρ}(p:Int) (x:Zj):∀(l:List ZV) (i:Nat),forL (σ:=Unit) (fun (a:Nat) (b:ZV) _=>if (decide (0<((a:Nat):Int)))=true then if (b.parent==p)=true then (Zav b.cond x).bind fun c=>if c=true then some (.inr (g a)) else some (.inl ()) else some (.inl ()) else some (.inl ())) fin l i ()=
  match Zhq (fun y=>y.parent=p/\y.cond=x) l i with|some k=>some (g k)|none=>fin ()
 | [],_=>rfl
 |y::l,i=>by
  unfold Zhq
  have ih:=Zlc (g:=g) (fin:=fin) p x l (i+1)
  by_cases h0:0<i
  .have hd:decide (0<((i:Nat):Int))=true:=decide_eq_true yE
   by_cases h1:y.parent=p
   .by_cases h2:y.cond=x
    .rw [ZX (by rw [if_pos hd,if_pos (by simp [h1]),Zdf,A0,if_pos (decide_eq_true h2)]),if_pos ⟨h0,h1,h2⟩]
    .rw [ZD (by rw [if_pos hd,if_pos (by simp [h1]),Zdf,A0,if_neg (by simpa using h2)]),if_neg fun h=>h2 h.2.2]
     exact ih
   .rw [ZD (by rw [if_pos hd,if_neg (by simp [h1])]),if_neg fun h=>h1 h.2.1]
    exact ih
  .rw [ZD (by rw [if_neg (by simp;omega)]),if_neg fun h=>h0 h.1]
   exact ih
theorem ZtD (n:Ze) (p:Int) (x:Zj) (h1:n.nodes.length<=1000) (h2:n.alphas.length<=1000) (hx:x.pattern.args.length<=1048574):Zab n p x=some (ZM n p x):=by
 unfold Zab ZM
 rw [Zlc (g:=fun i=>(((i:Nat):Int),n)) p x]
 cases Zhq (fun y=>y.parent=p/\y.cond=x) n.nodes 0 with
 |some k=>rfl
 |none=>
  simp only
  obtain ⟨e1,e2⟩:=Ze7 n (Zbb x.pattern)
  by_cases k1:x.kind=1
  .rw [if_pos (by simp [k1]),Zj2 _ yE,A0,ZmV _ _ h2,A0,Zai _ yE,A0,e1,Zk _ yE,Zj5 yE,if_pos (.inl k1)]
  .rw [if_neg (by simp [k1])]
   by_cases k2:x.kind=2
   .rw [if_pos (by simp [k2]),Zj2 _ yE,A0,ZmV _ _ h2,A0,Zai _ yE,A0,e1,Zk _ yE,Zj5 yE,if_pos (.inr k2)]
   .rw [if_neg (by simp [k2]),Zai _ yE,A0,Zk _ yE,Zj5 yE,if_neg (by simp [k1,k2])]
theorem ZoY {ρ:Type}{ch:Ze->Int->Zj->Option (Int×Ze)}(b:∀n p x,1<=n.nodes.length->n.nodes.length<=1000->n.alphas.length<=1000->x.pattern.args.length<=1048574->ch n p x=some (ZM n p x)) {fin:Int×(List Zh)×(List Int)×(List YR)×(List ZV)×(List Zg)×Int->Option ρ}:
  ∀(l:List Zj) (i:Nat) (p:Int) (n:Ze),1<=n.nodes.length->n.nodes.length+l.length<=1000->n.alphas.length+l.length<=1000->(∀x∈l,x.pattern.args.length<=1048574)->
  forL (σ:=Int×(List Zh)×(List Int)×(List YR)×(List ZV)×(List Zg)×Int) (fun (_:Nat) (c:Zj) s=>match s with|(f_67,row_68,row_69,row_70,row_71,row_72,u_74)=>(ch ({ rules:=row_68,ends:=row_69,alphas:=row_70,nodes:=row_71,facts:=row_72,tries:=f_67 }:Ze) u_74 c).bind fun a=>some (.inl (a.2.tries,a.2.rules,a.2.ends,a.2.alphas,a.2.nodes,a.2.facts,a.1)))
   fin l i (n.tries,n.rules,n.ends,n.alphas,n.nodes,n.facts,p)=fin ((YF l (p,n)).2.tries,(YF l (p,n)).2.rules,(YF l (p,n)).2.ends,(YF l (p,n)).2.alphas,(YF l (p,n)).2.nodes,(YF l (p,n)).2.facts,(YF l (p,n)).1)
 | [],_,_,_,_,_,_,_=>rfl
 |x::l,i,p,n,h0,h1,h2,h3=>by
  simp only[A6]at h1 h2
  obtain ⟨c1,c2,c3⟩:=Zwn n p x
  rw [ZD (s':=((ZM n p x).2.tries,(ZM n p x).2.rules,(ZM n p x).2.ends,(ZM n p x).2.alphas,(ZM n p x).2.nodes,(ZM n p x).2.facts,(ZM n p x).1)) (by
   show (ch n p x).bind _=_
   rw [b n p x h0 yE yE (h3 x yG)];rfl)]
  exact ZoY b l (i+1) (ZM n p x).1 (ZM n p x).2 yE yE yE fun y my=>h3 y (by simp [my])
theorem Zk1:∀(l:List Zj) (p:Int) (n:Ze),(YF l (p,n)).2.ends=n.ends/\(YF l (p,n)).2.rules=n.rules/\(YF l (p,n)).2.facts=n.facts/\(YF l (p,n)).2.tries=n.tries
 | [],_,_=>⟨rfl,rfl,rfl,rfl⟩
 |x::l,p,n=>by
  have e:YF (x::l) (p,n)=YF l ((ZM n p x).1,(ZM n p x).2):=rfl
  obtain ⟨a,b,c,d⟩:=Zk1 l (ZM n p x).1 (ZM n p x).2
  have hc:(ZM n p x).2.ends=n.ends/\(ZM n p x).2.rules=n.rules/\(ZM n p x).2.facts=n.facts/\(ZM n p x).2.tries=n.tries:=by
   unfold ZM
   split
   .exact ⟨rfl,rfl,rfl,rfl⟩
   .simp only
    split
    .unfold XE
     split<;>exact ⟨rfl,rfl,rfl,rfl⟩
    .exact ⟨rfl,rfl,rfl,rfl⟩
  rw [e]
  exact ⟨a.trans hc.1,b.trans hc.2.1,c.trans hc.2.2.1,d.trans hc.2.2.2⟩
theorem ZnZ {ρ:Type}{pc:Zh->Option (List Zj)}(b:∀r,SmN r->pc r=some (XV r)) {ch:Ze->Int->Zj->Option (Int×Ze)}(c:∀n p x,1<=n.nodes.length->n.nodes.length<=1000->n.alphas.length<=1000->x.pattern.args.length<=1048574->ch n p x=some (ZM n p x)) {fin:Int×(List Zh)×(List Int)×(List YR)×(List ZV)×(List Zg)->Option ρ}:
  ∀(l:List Zh) (i:Nat) (n:Ze),ZjF n->n.nodes.length+4*l.length<=900->n.alphas.length+4*l.length<=900->n.ends.length+l.length<=900->(∀r∈l,SmN r)->
  forL (σ:=Int×(List Zh)×(List Int)×(List YR)×(List ZV)×(List Zg)) (fun (_:Nat) (d:Zh) s=>match s with|(f_38,row_39,row_40,row_41,row_42,row_43)=>(pc d).bind (fun e=>forL (σ:=Int×(List Zh)×(List Int)×(List YR)×(List ZV)×(List Zg)×Int) (fun (_:Nat) (f:Zj) s=>match s with|(f_67,row_68,row_69,row_70,row_71,row_72,u_74)=>(ch ({ rules:=row_68,ends:=row_69,alphas:=row_70,nodes:=row_71,facts:=row_72,tries:=f_67 }:Ze) u_74 f).bind fun a=>some (.inl (a.2.tries,a.2.rules,a.2.ends,a.2.alphas,a.2.nodes,a.2.facts,a.1))) (fun s=>match s with|(f_67,row_68,row_69,row_70,row_71,row_72,u_74)=>chk (row_69.length+1<=1073741824) <| some (.inl (f_67,row_68,(row_69++[u_74]),row_70,row_71,row_72))) e 0 (f_38,row_39,row_40,row_41,row_42,row_43,0)))
   fin l i (n.tries,n.rules,n.ends,n.alphas,n.nodes,n.facts)=fin ((l.foldl Xl n).tries,(l.foldl Xl n).rules,(l.foldl Xl n).ends,(l.foldl Xl n).alphas,(l.foldl Xl n).nodes,(l.foldl Xl n).facts)
 | [],_,_,_,_,_,_,_=>rfl
 |r::l,i,n,hI,h1,h2,h4,h3=>by
  simp only[A6]at h1 h2 h4
  have hr:=h3 r yG
  have hr4:=hr.c4
  have hcl:=ZcW r
  obtain ⟨r1,r2,r3,r4⟩:=Zrp hI hr.c4
  obtain ⟨w1,w2,w3,w4⟩:=Zk1 (XV r) 0 n
  rw [ZD (s':=((Xl n r).tries,(Xl n r).rules,(Xl n r).ends,(Xl n r).alphas,(Xl n r).nodes,(Xl n r).facts)) (by
   simp only[b r hr,A0]
   rw [ZoY c _ _ _ _ hI.one yE yE (Zho hr)]
   simp only
   rw [w1,Zk _ yE]
   rfl)]
  exact ZnZ b c l (i+1) (Xl n r) r1 yE yE yE fun y my=>h3 y (by simp [my])
theorem ZdY (R:List Zh) (hl:R.length<=1048576) (h:∀r∈R,YX r):QS R=some R:=by
 unfold QS
 rw [Xf (g:=fun r=>r)]
 .simp
 .intro j y s my hs
  rw [Zoy y (h y my),A0,Zk _ (by simp at hs;omega)]
theorem Znn (R:List Zh) (hl:R.length<=6) (h:∀r∈R,YX r) (h':∀r∈R,SmN r):Zdp R=some (Zbd R []):=by
 unfold Zdp
 rw [ZdY R yE h,A0]
 exact (ZnZ ZlW (fun n p x _ a b c=>ZtD n p x a b c) R 0 (Zag R []) (Zjz R []) (by simp [Zag];omega) (by simp [Zag];omega) (by simp [Zag];omega) h').trans rfl
end
section
open Classical
structure ZiZ (N:List ZV):Prop where
 par:∀i y,1<=i->N[i]?=some y->0<=y.parent/\y.parent<((i:Nat):Int)
 sm:∀y∈N,y.cond.pattern.args.length<=1048574
 few:N.length<=1000
def Zk4 (N:List ZV) (i:Int):Zj:=match N[i.toNat]? with|some y=>y.cond|none=>ZAb
theorem ZBB {ρ:Type}(N:List ZV) (h:ZiZ N) (U:List Int) (hU:∀u∈U,0<=u/\u<N.length) (hl:U.length<=2000) {g:List Zj->ρ}:∀(k:Nat) (acc:List Zj),k<=U.length->acc.length+k<=4000->
  iter (σ:=(List Zj)×Int)
       (fun s=>
        match s with
        |(row_12,i_13)=>
        if (decide (0<=i_13))=true then
         chk (0<=i_13/\i_13<((U.length:Nat):Int)) <|
         (U[(AG i_13)]?).bind fun b=>
         (atI N b).bind fun c=>
         (Y1 c.cond).bind fun d=>
         chk (row_12.length+1<=1073741824) <|
         some (.inl ((row_12++[d]),(IntKind.i64.wrap (i_13 - 1))))
        else
         some (.inr (g row_12)))
       (acc,((k:Nat):Int) - 1)=some (g (acc++(U.take k).reverse.map (Zk4 N))):=by
 intro k
 induction k with
 |zero=>
  intro acc _ _
  rw [YE (r:=g acc)]
  .simp
  .show (if _ then _ else _)=_
   rw [if_neg yG]
 |succ k ih=>
  intro acc hk ha
  have hu:U[k]?=some U[k]:=A9 yE
  obtain ⟨u1,u2⟩:=hU _ (B6 (show k<U.length by omega))
  obtain ⟨j,hj⟩:∃j:Nat,U[k]=(j:Int):=⟨U[k].toNat,yE⟩
  have a:j<N.length:=by omega
  have hy:N[j]?=some N[j]:=A9 a
  have hs:=h.sm _ (B6 a)
  have e:(((k+1:Nat):Int) - 1)=((k:Nat):Int):=by omega
  have ec:Zk4 N U[k]=N[j].cond:=by unfold Zk4;rw [hj,AI,hy]
  rw [Y6 (s':=(acc++[N[j].cond],((k:Nat):Int) - 1))]
  .rw [ih _ yE (by simp;omega),An,hu,BH,List.reverse_append,List.reverse_singleton,Ae,List.map_singleton,ec,B5]
  .show (if _ then _ else _)=_
   rw [e,if_pos yG,Zk _ yE,AI,hu,A0,hj,YN,hy,A0,Zai _ yE,A0,Zk _ yE,Yi yE yE]
theorem Zsu {N:List ZV}{j:Nat}(h1:1<=j) (hj:j<N.length) (hp:N[j].parent<((j:Nat):Int)):YW N ((j:Nat):Int)=YW N N[j].parent++[Zk4 N ((j:Nat):Int)]:=by
 have hy:N[j]?=some N[j]:=A9 hj
 rw [ZfT (y:=N[j]) yE yG hp]
 unfold Zk4
 rw [AI,hy]
theorem ZsP (n:Ze) (h:ZiZ n.nodes) (i:Nat) (hi:i<n.nodes.length):ZgY n ((i:Nat):Int)=some (YW n.nodes ((i:Nat):Int)):=by
 have hlen:=h.few
 unfold ZgY
 by_cases h0:i=0
 .subst h0
  rw [if_pos yG,ZfY yE]
 rw [if_neg (by simp;omega),if_neg (by simp;omega)]
 have key:∀(k:Nat) (row:List Int) (j:Nat),j<=k->1<=j->j<n.nodes.length->(∀u∈row,0<=u/\u<n.nodes.length)->row.length+k<=1000->
   iter (σ:=(List Int)×Int)
    (fun s=>
     match s with
     |(row_3,node_4)=>
     chk (row_3.length+1<=1073741824) <|
     (atI n.nodes node_4).bind fun x5=>
     if (decide (x5.parent<1))=true then
      iter (σ:=(List Zj)×Int)
       (fun s=>
        match s with
        |(row_12,i_13)=>
        if (decide (0<=i_13))=true then
         chk (0<=i_13/\i_13<((row_3.length+1:Nat):Int)) <|
         ((row_3++[node_4])[(AG i_13)]?).bind fun f=>
         (atI n.nodes f).bind fun l=>
         (Y1 l.cond).bind fun m=>
         chk (row_12.length+1<=1073741824) <|
         some (.inl ((row_12++[m]),(IntKind.i64.wrap (i_13 - 1))))
        else
         some (.inr (.inr row_12)))
       ([],(IntKind.i64.wrap (((row_3.length+1:Nat):Int) - 1)))
     else
      if (decide (node_4<=x5.parent))=true then
       iter (σ:=(List Zj)×Int)
        (fun s=>
         match s with
         |(row_23,i_24)=>
         if (decide (0<=i_24))=true then
          chk (0<=i_24/\i_24<((row_3.length+1:Nat):Int)) <|
          ((row_3++[node_4])[(AG i_24)]?).bind fun o=>
          (atI n.nodes o).bind fun p=>
          (Y1 p.cond).bind fun t=>
          chk (row_23.length+1<=1073741824) <|
          some (.inl ((row_23++[t]),(IntKind.i64.wrap (i_24 - 1))))
         else
          some (.inr (.inr row_23)))
        ([],(IntKind.i64.wrap (((row_3.length+1:Nat):Int) - 1)))
      else
       some (.inl ((row_3++[node_4]),x5.parent)))
    (row,((j:Nat):Int))=some (YW n.nodes ((j:Nat):Int)++row.reverse.map (Zk4 n.nodes)):=by
  intro k
  induction k with
  |zero=>intro row j a b;omega
  |succ k ih=>
   intro row j hk h1 hj c hr
   have hy:n.nodes[j]?=some n.nodes[j]:=A9 hj
   have hp:=h.par j _ h1 hy
   have e:=Zsu h1 hj hp.2
   by_cases d:n.nodes[j].parent<1
   .refine YE ?_
    show chk _ _=_
    rw [Zk _ yE,YN,hy,A0,if_pos (by simpa using d)]
    have hd:=ZBB (ρ:=(List Int×Int) ⊕ List Zj) n.nodes h (row++[((j:Nat):Int)]) (fun u mu=>by
     rcases AH.1 mu with mu|mu
     .exact c u mu
     .simp at mu;subst mu;omega) (by simp;omega) (g:=.inr) (row.length+1) [] yG (by simp;omega)
    rw [AA,AP]at hd
    rw [Yi yE yE]
    refine hd.trans ?_
    rw [e,ZfY (by omega:n.nodes[j].parent<1),BI yG]
    simp
   .rw [Y6 (s':=(row++[((j:Nat):Int)],n.nodes[j].parent))]
    .obtain ⟨q,hq⟩:∃q:Nat,n.nodes[j].parent=(q:Int):=⟨n.nodes[j].parent.toNat,yE⟩
     rw [e,hq,ih _ q yE yE yE (fun u mu=>by
      rcases AH.1 mu with mu|mu
      .exact c u mu
      .simp at mu;subst mu;omega) (by simp;omega)]
     simp
    .show chk _ _=_
     rw [Zk _ yE,YN,hy,A0,if_neg (by simpa using d),if_neg (by simp;omega)]
 rw [key i [] i (A5 _) yE hi yG (by simp;omega)]
 simp
end
section
open Classical
theorem Zth {α:Type}{l M:List α}{k:Nat}(hl:M.length=l.length) (hk:k<l.length) {y:α}(hy:M[k]?=some y):((M.take k++l.drop k).set k y)=M.take (k+1)++l.drop (k+1):=by
 have a:(M.take k).length=k:=by rw [Ag];omega
 rw [List.set_append_right _ _ yE,a,Ao,List.drop_eq_getElem_cons hk,List.set_cons_zero,An,hy,BH,B5]
 rfl
theorem Zvk {α:Type}{l M:List α}{k:Nat}(hl:M.length=l.length) (hk:k<l.length):(M.take k++l.drop k)[k]?=some l[k]:=by
 have a:(M.take k).length=k:=by rw [Ag];omega
 rw [Ah yE,a,Ao,List.getElem?_drop,B7,A9 hk]
theorem ZsZ {α ρ:Type}{body:(List α×Int)->Option ((List α×Int) ⊕ ρ)}{l M:List α}(hl:M.length=l.length) {r:ρ}
  (a:∀k (hk:k<l.length),body (M.take k++l.drop k,((k:Nat):Int))=some (.inl (M.take (k+1)++l.drop (k+1),(((k+1:Nat)):Int))))
  (b:body (M,((l.length:Nat):Int))=some (.inr r)):iter body (l,0)=some r:=by
 have key:∀(m k:Nat),k+m=l.length->iter body (M.take k++l.drop k,((k:Nat):Int))=some r:=by
  intro m
  induction m with
  |zero=>
   intro k hk
   have e:k=l.length:=by omega
   subst e
   rw [List.drop_length,B8,BI yE]
   exact YE b
  |succ m ih=>
   intro k hk
   rw [Y6 (a k yE)]
   exact ih (k+1) yE
 have:=key l.length 0 yE
 simpa using this
def Za9 (F:List Zg) (a:YR):YR:={ shape:=a.shape,facts:=Qz a.shape [] F }
def Qv (N:List ZV) (F:List Zg) (i:Nat) (y:ZV):ZV:={ parent:=y.parent,cond:=y.cond,alpha:=y.alpha,tokens:=ZN (YW N ((i:Nat):Int)) F }
def YP (n:Ze) (F:List Zg):Ze:={ rules:=n.rules,ends:=n.ends,alphas:=n.alphas.map (Za9 F),nodes:=n.nodes.mapIdx (Qv n.nodes F),facts:=F,tries:=n.tries }
theorem Zh0 (N:List ZV) (F:List Zg):(N.mapIdx (Qv N F)).map X2=N.map X2:=by
 refine Ai fun i=>?_
 rw [AD,AD,AJ]
 cases N[i]?<;>rfl
theorem ZlF {a b:List ZV}(h:a.map X2=b.map X2) (hb:ZiZ b):ZiZ a:=by
 have hlen:a.length=b.length:=by
  have:=congrArg List.length h
  simpa using this
 have c:∀(i:Nat) (x:ZV),a[i]?=some x->∃y:ZV,b[i]?=some y/\x.parent=y.parent/\x.cond=y.cond:=fun i x hx=>by
  have e:(a.map X2)[i]?=(b.map X2)[i]?:=by rw [h]
  rw [AD,AD,hx]at e
  cases hy:b[i]? with
  |none=>rw [hy]at e;simp at e
  |some y=>
   rw [hy]at e
   simp only[Al,Am,X2,B1]at e
   exact ⟨y,rfl,e.1,e.2⟩
 refine ⟨fun i x h1 hx=>?_,fun x mx=>?_,by have:=hb.few;omega⟩
 .obtain ⟨y,hy,e1,_⟩:=c i x hx
  rw [e1];exact hb.par i y h1 hy
 .obtain ⟨i,hi,rfl⟩:=B9 mx
  obtain ⟨y,hy,_,e2⟩:=c i _ (A9 hi)
  rw [e2];exact hb.sm y (AF hy)
theorem ZxM {l M:List ZV}(h:M.map X2=l.map X2) (k:Nat):(M.take k++l.drop k).map X2=l.map X2:=by
 rw [Ae,List.map_take,List.map_drop,h,List.take_append_drop]
theorem Zqc (n:Ze) (F:List Zg) (hN:ZiZ n.nodes) (hf:∀i:Nat,i<n.nodes.length->(YW n.nodes ((i:Nat):Int)).length<=4) (hF:F.length<=24) (hA:∀f∈F,f.args.length<=3) (ha:n.alphas.length<=1000):QL n F=some (YP n F):=by
 have hlen:=hN.few
 unfold QL
 rw [QF _ yE (fun f mf=>by have:=hA f mf;omega),A0]
 refine ZsZ (M:=n.alphas.map (Za9 F)) yG (fun k hk=>?_) ?_
 .have hM:(n.alphas.map (Za9 F)).length=n.alphas.length:=by simp
  have hg:=Zvk (M:=n.alphas.map (Za9 F)) hM hk
  show (if _ then _ else _)=_
  rw [if_pos (by simpa using hk),Zk _ (by simp;omega),AI,hg,A0,ZbQ _ _ _ yE (fun f mf=>by have:=hA f mf;omega),A0,
   Zth (M:=n.alphas.map (Za9 F)) hM hk (y:={ shape:=n.alphas[k].shape,facts:=Qz n.alphas[k].shape [] F }) (by rw [AD,A9 hk];rfl),Yi yE yE]
  rfl
 .show (if _ then _ else _)=_
  rw [if_neg yG]
  refine ZsZ (M:=n.nodes.mapIdx (Qv n.nodes F)) yG (fun k hk=>?_) ?_
  .have hM:(n.nodes.mapIdx (Qv n.nodes F)).length=n.nodes.length:=by simp
   have hg:=Zvk (M:=n.nodes.mapIdx (Qv n.nodes F)) hM hk
   have a:=ZxM (Zh0 n.nodes F) k
   have b:((n.nodes.mapIdx (Qv n.nodes F)).take k++n.nodes.drop k).length=n.nodes.length:=by simp;omega
   show (if _ then _ else _)=_
   rw [if_pos (by simpa using hk),ZsP _ (ZlF a hN) k (by rw [b];exact hk),A0]
   simp only[ZeQ a]
   unfold ZbW
   rw [if_pos ⟨hf k hk,hF,hA⟩,Zdm _ _ (hf k hk) hF hA,A0,Zk _ (by rw [b];omega),AI,hg,A0,
    Zth (M:=n.nodes.mapIdx (Qv n.nodes F)) hM hk (y:={ parent:=n.nodes[k].parent,cond:=n.nodes[k].cond,alpha:=n.nodes[k].alpha,tokens:=ZN (YW n.nodes ((k:Nat):Int)) F }) (by rw [AJ,A9 hk];rfl),Yi yE yE]
   rfl
  .show (if _ then _ else _)=_
   rw [if_neg yG]
   rfl
theorem Zw2 {n:Ze}{p:Int}{x:Zj}(h:∀y∈n.nodes,y.cond.pattern.args.length<=1048574) (hx:x.pattern.args.length<=1048574):∀y∈(ZM n p x).2.nodes,y.cond.pattern.args.length<=1048574:=by
 unfold ZM
 split
 .exact h
 .have ha:∀a:Int×Ze,a.2.nodes=n.nodes->∀y∈a.2.nodes++[({ parent:=p,cond:=x,alpha:=a.1,tokens:=[] }:ZV)],y.cond.pattern.args.length<=1048574:=fun a e y my=>by
   rcases AH.1 my with my|my
   .exact h y (e ▸ my)
   .simp at my;subst my;exact hx
  intro y my
  refine ha (if x.kind=1\/x.kind=2 then XE n (Zbb x.pattern) else (-1,n)) ?_ y ?_
  .split
   .exact (Ze7 n _).1
   .rfl
  .have e:(if x.kind=1\/x.kind=2 then XE n (Zbb x.pattern) else (-1,n)).2.nodes=n.nodes:=by
    split
    .exact (Ze7 n _).1
    .rfl
   rw [e];exact my
theorem Zrz:∀(l:List Zj) (p:Int) (n:Ze),(∀y∈n.nodes,y.cond.pattern.args.length<=1048574)->(∀x∈l,x.pattern.args.length<=1048574)->∀y∈(YF l (p,n)).2.nodes,y.cond.pattern.args.length<=1048574
 | [],_,_,h,_=>h
 |x::l,p,n,h,hl=>by
  have e:YF (x::l) (p,n)=YF l ((ZM n p x).1,(ZM n p x).2):=rfl
  rw [e]
  exact Zrz l _ _ (Zw2 h (hl x yG)) fun y my=>hl y (by simp [my])
theorem Zvy:∀(l:List Zh) (n:Ze),(∀y∈n.nodes,y.cond.pattern.args.length<=1048574)->(∀r∈l,SmN r)->∀y∈(l.foldl Xl n).nodes,y.cond.pattern.args.length<=1048574
 | [],_,h,_=>h
 |r::l,n,h,hl=>by
  rw [AS]
  exact Zvy l _ (Zrz _ _ _ h (Zho (hl r yG))) fun r mr=>hl r (by simp [mr])
theorem Zkt {R:List Zh}(hl:R.length<=6) (h:∀r∈R,SmN r) (t:List Zs):ZiZ (Zbd R t).nodes/\(∀i:Nat,i<(Zbd R t).nodes.length->(YW (Zbd R t).nodes ((i:Nat):Int)).length<=4)/\(Zbd R t).alphas.length<=1000:=by
 obtain ⟨w1,w2,w3⟩:=Zmi R (Zag R t) (Zjz R t) fun r mr=>(h r mr).c4
 have e1:(Zag R t).nodes.length=1:=rfl
 have e2:(Zag R t).alphas.length=0:=rfl
 rw [e1]at w2
 rw [e2]at w3
 exact ⟨⟨w1.par,Zvy R (Zag R t) (by simp [Zag,ZAb]) h,by show (R.foldl Xl (Zag R t)).nodes.length<=_;omega⟩,w1.few,by show (R.foldl Xl (Zag R t)).alphas.length<=_;omega⟩
theorem ZmH (R:List Zh) (F:List Zg) (z:Int) (hl:R.length<=6) (h:∀r∈R,YX r) (h':∀r∈R,SmN r) (hF:F.length<=24) (hA:∀f∈F,f.args.length<=3):Zh5 R F z=some { YP (Zbd R []) F with tries:=z }:=by
 unfold Zh5
 obtain ⟨a1,a2,a3⟩:=Zkt hl h' []
 rw [Znn R hl h h',A0,Zqc _ _ a1 a2 hF hA a3,A0]
end
section
open Classical
theorem ZeM {α:Type}{q:Nat->α->Prop}{body:Nat->α->Unit->Option (Unit ⊕ Bool)}{fin:Unit->Option Bool}:∀(l:List α) (i:Nat),(∀(j:Nat) (x:α),l[j]?=some x->(q (i+j) x->body (i+j) x ()=some (.inl ()))/\(¬q (i+j) x->body (i+j) x ()=some (.inr false)))->
  forL body fin l i ()=if (∀j x,l[j]?=some x->q (i+j) x) then fin () else some false
 | [],i,_=>by rw [if_pos (fun j x h=>by simp at h)];rfl
 |x::l,i,h=>by
  have h0:=h 0 x yG
  rw [B7]at h0
  by_cases e:q i x
  .rw [ZD (s':=()) (h0.1 e),ZeM (q:=q) l (i+1) fun j y hy=>by
    have:=h (j+1) y (by simpa using hy)
    rw [show i+1+j=i+(j+1) by omega];exact this]
   by_cases e2:∀j y,l[j]?=some y->q (i+1+j) y
   .rw [if_pos e2,if_pos fun j y hy=>?_]
    cases j with
    |zero=>simp at hy;subst hy;exact e
    |succ j=>rw [show i+(j+1)=i+1+j by omega];exact e2 j y (by simpa using hy)
   .rw [if_neg e2,if_neg fun hh=>e2 fun j y hy=>by
     have:=hh (j+1) y (by simpa using hy)
     rw [show i+1+j=i+(j+1) by omega];exact this]
  .rw [ZX (h0.2 e),if_neg fun hh=>e (by simpa using hh 0 x yG)]
theorem ZHC {p q:Prop}[Decidable p] [Decidable q] [Decidable (p/\q)]:(if decide p=true then (some (bif decide q then .inl () else .inr false):Option (Unit ⊕ Bool)) else some (.inr false))=some (bif decide (p/\q) then .inl () else .inr false):=by
 by_cases hp:p<;>by_cases hq:q<;>simp [hp,hq]
theorem Zp6 (a b:YR):a=b↔a.shape=b.shape/\a.facts=b.facts:=⟨fun e=>by rw [e];exact ⟨rfl,rfl⟩,fun h=>by cases a;cases b;simp_all⟩
theorem Zsc (a b:ZV):a=b↔a.parent=b.parent/\a.cond=b.cond/\a.alpha=b.alpha/\a.tokens=b.tokens:=⟨fun e=>by rw [e];exact ⟨rfl,rfl,rfl,rfl⟩,fun h=>by cases a;cases b;simp_all⟩
def ZeN (y:ZV):Int×Int×Zj:=(y.parent,y.alpha,y.cond)
theorem ZjP (a b:Ze):ZaD a b=some (decide (a.rules=b.rules/\a.ends=b.ends/\a.facts=b.facts/\a.alphas=b.alphas/\a.nodes=b.nodes)):=by
 unfold ZaD
 rw [Zhy,A0]
 by_cases h1:a.rules=b.rules
 rotate_left
 .rw [decide_eq_false h1,if_neg yG,decide_eq_false fun h=>h1 h.1]
 rw [decide_eq_true h1,if_pos rfl,Zht,A0]
 by_cases h2:a.ends=b.ends
 rotate_left
 .rw [decide_eq_false h2,if_neg yG,decide_eq_false fun h=>h2 h.2.1]
 rw [decide_eq_true h2,if_pos rfl,ZcG,A0]
 by_cases h3:a.facts=b.facts
 rotate_left
 .rw [decide_eq_false h3,if_neg yG,decide_eq_false fun h=>h3 h.2.2.1]
 rw [decide_eq_true h3,if_pos rfl]
 by_cases h4:a.alphas.length=b.alphas.length
 rotate_left
 .rw [if_pos (Zjm h4),decide_eq_false fun h=>h4 (by rw [h.2.2.2.1])]
 rw [if_neg (Zkd h4)]
 by_cases h5:a.nodes.length=b.nodes.length
 rotate_left
 .rw [if_pos (Zjm h5),decide_eq_false fun h=>h5 (by rw [h.2.2.2.2])]
 rw [if_neg (Zkd h5),Zz0 h4 fun i x y hx hy=>by
  rw [YN,hy,A0,QD,A0,ZcG,A0,Zxm,ZHC]
  congr 2
  rw [AY,decide_eq_true_iff,decide_eq_true_iff,Zp6]]
 rw [ZmC h5 fun i x y hx hy=>by
  rw [YN,hy,A0]
  by_cases e1:x.parent=y.parent
  rotate_left
  .rw [if_pos (by simpa using e1),decide_eq_false fun e=>e1 (by rw [e])];rfl
  rw [if_neg (by simp [e1])]
  by_cases e2:x.alpha=y.alpha
  rotate_left
  .rw [if_pos (by simpa using e2),decide_eq_false fun e=>e2 (by rw [e])];rfl
  rw [if_neg (by simp [e2]),Zdf,A0,ZlZ,A0,Zxm,ZHC]
  congr 2
  rw [AY,decide_eq_true_iff,decide_eq_true_iff,Zsc]
  exact ⟨fun h=>⟨e1,h.1,e2,h.2⟩,fun h=>⟨h.2.1,h.2.2.2⟩⟩]
 by_cases h6:a.alphas=b.alphas
 .rw [if_pos h6]
  congr 2
  simp [h1,h2,h3,h6]
 .rw [if_neg h6,decide_eq_false fun h=>h6 h.2.2.2.1]
end
section
open Classical
theorem ZAk (t:List Zs) (n:Ze):(rt t n).nodes.map ZeN=n.nodes.map ZeN:=by
 unfold rt
 cases n.nodes<;>rfl
theorem ZrF {a b:List ZV}(h:a.map ZeN=b.map ZeN):a.map X2=b.map X2:=by
 have e:∀l:List ZV,l.map X2=(l.map ZeN).map fun x=>(x.1,x.2.2):=fun l=>by
  rw [Aq];rfl
 rw [e,e,h]
theorem ZtJ (N:List ZV) (F:List Zg):(N.mapIdx (Qv N F)).map ZeN=N.map ZeN:=by
 refine Ai fun i=>?_
 rw [AD,AD,AJ]
 cases N[i]?<;>rfl
theorem Zzq (n N0:Ze) (t:List Zs) (F:List Zg):
  ((n.alphas.map (·.shape)=(rt t N0).alphas.map (·.shape)/\n.nodes.map ZeN=(rt t N0).nodes.map ZeN/\n.ends=(rt t N0).ends)/\(∀(j:Nat) (x:YR),n.alphas[j]?=some x->x.facts=Qz x.shape [] F)/\(∀(j:Nat) (y:ZV),n.nodes[j]?=some y->y.tokens=ZN (YW n.nodes ((j:Nat):Int)) F))↔
  (n.ends=(YP N0 F).ends/\n.alphas=(YP N0 F).alphas/\n.nodes=(YP N0 F).nodes):=by
 rw [ZAk]
 constructor
 .rintro ⟨⟨h1,h2,h3⟩,h4,h5⟩
  refine ⟨h3,Ai fun i=>?_,Ai fun i=>?_⟩
  .have e:(n.alphas.map (·.shape))[i]?=(N0.alphas.map (·.shape))[i]?:=by rw [h1];rfl
   rw [AD,AD]at e
   show _=(N0.alphas.map (Za9 F))[i]?
   rw [AD]
   cases hx:n.alphas[i]? with
   |none=>rw [hx]at e;cases hy:N0.alphas[i]? with
    |none=>rfl
    |some y=>rw [hy]at e;simp at e
   |some x=>rw [hx]at e;cases hy:N0.alphas[i]? with
    |none=>rw [hy]at e;simp at e
    |some y=>
     rw [hy]at e
     have e':x.shape=y.shape:=by simpa using e
     rw [Al,(Zp6 x (Za9 F y)).2 ⟨e',by rw [h4 i x hx,e'];rfl⟩]
  .have e:(n.nodes.map ZeN)[i]?=(N0.nodes.map ZeN)[i]?:=by rw [h2]
   rw [AD,AD]at e
   have hp:=ZeQ (ZrF h2) ((i:Nat):Int)
   show _=(N0.nodes.mapIdx (Qv N0.nodes F))[i]?
   rw [AJ]
   cases hx:n.nodes[i]? with
   |none=>rw [hx]at e;cases hy:N0.nodes[i]? with
    |none=>rfl
    |some y=>rw [hy]at e;simp at e
   |some x=>rw [hx]at e;cases hy:N0.nodes[i]? with
    |none=>rw [hy]at e;simp at e
    |some y=>
     rw [hy]at e
     have e':ZeN x=ZeN y:=by simpa using e
     rw [Al,(Zsc x (Qv N0.nodes F i y)).2 ⟨congrArg (·.1) e',congrArg (·.2.2) e',congrArg (·.2.1) e',by rw [h5 i x hx,hp];rfl⟩]
 .rintro ⟨h1,h2,h3⟩
  have hf:n.nodes.map ZeN=N0.nodes.map ZeN:=by
   rw [h3];exact ZtJ N0.nodes F
  refine ⟨⟨?_,hf,h1⟩,fun j x hx=>?_,fun j y hy=>?_⟩
  .rw [h2]
   show (N0.alphas.map (Za9 F)).map _=N0.alphas.map _
   rw [Aq];rfl
  .rw [h2]at hx
   have b:(N0.alphas.map (Za9 F))[j]?=some x:=hx
   rw [AD]at b
   obtain ⟨a,_,rfl⟩:=AK.1 b
   rfl
  .rw [ZeQ (ZrF hf)]
   rw [h3]at hy
   have c:(N0.nodes.mapIdx (Qv N0.nodes F))[j]?=some y:=hy
   rw [AJ]at c
   obtain ⟨a,_,rfl⟩:=AK.1 c
   rfl
theorem Znk:∀(l:List Zh) (n:Ze),(l.foldl Xl n).rules=n.rules
 | [],_=>rfl
 |r::l,n=>by
  rw [AS,Znk l]
  exact (Zk1 (XV r) 0 n).2.1
theorem ZmX (R:List Zh) (t:List Zs):(Zbd R t).rules=R:=Znk R (Zag R t)
noncomputable def ZeX (n:Ze):Bool:=ZH n.rules&&Ya n.facts&&decide (0<=n.tries)&&decide (n.ends=(YP (Zbd n.rules []) n.facts).ends/\n.alphas=(YP (Zbd n.rules []) n.facts).alphas/\n.nodes=(YP (Zbd n.rules []) n.facts).nodes)
theorem Zuz {F:List Zg}(h:Ya F=true):F.length<=24/\∀f∈F,f.args.length<=3:=by
 obtain ⟨h1,h2⟩:=XJ h
 refine ⟨h1,fun f mf=>?_⟩
 exact Za2 (h2 f mf)
theorem Zb9 (n:Ze) (hR:∀r∈n.rules,YX r) (hS:ZH n.rules=true->∀r∈n.rules,SmN r):QV n=some (ZeX n):=by
 unfold QV ZeX
 rw [Zbk hR,A0]
 by_cases h1:ZH n.rules=true
 rotate_left
 .rw [if_neg h1,Ar.2 h1];rfl
 rw [if_pos h1,Zdh,A0]
 by_cases h2:Ya n.facts=true
 rotate_left
 .rw [if_neg h2,h1,Ar.2 h2];rfl
 rw [if_pos h2]
 by_cases h3:0<=n.tries
 rotate_left
 .rw [if_neg (by simpa using h3),h1,h2,decide_eq_false h3];rfl
 obtain ⟨f1,f2⟩:=Zuz h2
 rw [if_pos (decide_eq_true h3),ZmH n.rules n.facts 0 (Qa h1).1 hR (hS h1) f1 f2,A0,ZjP,A0,h1,h2,decide_eq_true h3]
 congr 1
 simp only[Bool.true_and]
 rw [AY,decide_eq_true_iff,decide_eq_true_iff]
 exact ⟨fun h=>⟨h.2.1,h.2.2.2.1,h.2.2.2.2⟩,fun h=>⟨(ZmX _ _).symm,h.1,rfl,h.2.1,h.2.2⟩⟩
end
section
open Classical
def nmK (k:Nat):ByteArray:=(⟨#[63]⟩:ByteArray)++ofL (Lib.itoa (((k:Nat):Int)+1))
theorem ZCS (k:Nat) (h:k<9):nmK k=(⟨#[63]⟩:ByteArray)++ofL [As (48+(k+1))]:=by
 unfold nmK
 have e:((k:Nat):Int)+1=(((k+1:Nat)):Int):=by omega
 rw [e]
 unfold Lib.itoa
 rw [if_neg yE,AI,Lib.decDigits_one yE]
structure NmI (acc:List Zo):Prop where
 var:∀a v,ZQ acc a=some v->ZS a=true/\∃k,k<acc.length/\v=nmK k
 inj:∀a b v,ZQ acc a=some v->ZQ acc b=some v->a=b
theorem Zxa {acc:List Zo}{s a v:ByteArray}(h:ZQ acc a=some v):ZQ (ZaW acc s) a=some v:=by
 unfold ZaW
 split
 .rw [ZhB,h]
 .exact h
theorem Zyl {acc:List Zo}{s:ByteArray}(h:ZS s=true):∃v,ZQ (ZaW acc s) s=some v:=by
 unfold ZaW
 by_cases hg:ZQ acc s=none
 .rw [if_pos ⟨h,hg⟩,ZhB,hg]
  exact ⟨_,if_pos rfl⟩
 .rw [if_neg fun hh=>hg hh.2]
  cases e:ZQ acc s with
  |none=>exact absurd e hg
  |some v=>exact ⟨v,rfl⟩
theorem ZiD:∀(l:List ByteArray) (acc:List Zo) {a v:ByteArray},ZQ acc a=some v->ZQ (l.foldl ZaW acc) a=some v
 | [],_,_,_,h=>h
 |s::l,acc,_,_,h=>ZiD l (ZaW acc s) (Zxa h)
theorem ZjS:∀(l:List ByteArray) (acc:List Zo),∀a∈l,ZS a=true->∃v,ZQ (l.foldl ZaW acc) a=some v
 |s::l,acc,a,ma,ha=>by
  rcases AR.1 ma with rfl|ma
  .obtain ⟨v,hv⟩:=Zyl (acc:=acc) ha
   exact ⟨v,ZiD l _ hv⟩
  .exact ZjS l _ a ma ha
theorem ZkG {to:List Zo}(hI:NmI to) {a:ByteArray}(ha:ZU a=true):ZbM to a=a:=by
 unfold ZbM
 cases hg:ZQ to a with
 |none=>rfl
 |some v=>
  have:=(hI.var a v hg).1
  rw [Zd3 this]at ha
  simp at ha
def Zjg (A:List YR) (y:ZV):Prop:=(¬(y.cond.kind=1\/y.cond.kind=2)/\y.alpha<0)\/((y.cond.kind=1\/y.cond.kind=2)/\∃k:Nat,y.alpha=((k:Nat):Int)/\∃a,A[k]?=some a/\a.shape=Zbb y.cond.pattern)
def ZoT (n:Ze):Prop:=∀(i:Nat) (y:ZV),1<=i->n.nodes[i]?=some y->Zjg n.alphas y
theorem Zjg.more {A z:List YR}{y:ZV}(h:Zjg A y):Zjg (A++z) y:=by
 rcases h with h|⟨h1,k,h2,a,h3,h4⟩
 .exact .inl h
 .exact .inr ⟨h1,k,h2,a,by rw [AT (AC.1 h3).1];exact h3,h4⟩
theorem ZmJ {p:Zi}:∀{l:List YR}{i k:Nat},Zk9 p l i=some k->∃a,i<=k/\l[k - i]?=some a/\a.shape=p
 | [],_,_,h=>by simp [Zk9]at h
 |y::r,i,k,h=>by
  unfold Zk9 at h
  split at h
  .rename_i hq
   obtain rfl:=AE h
   exact ⟨y,A5 _,yG,hq⟩
  .obtain ⟨z,h1,h2,h3⟩:=ZmJ h
   refine ⟨z,yE,?_,h3⟩
   rw [show k - i=(k - (i+1))+1 by omega,AU]
   exact h2
theorem ZAh (n:Ze) (p:Zi):(∃z,(XE n p).2.alphas=n.alphas++z)/\∃k:Nat,(XE n p).1=((k:Nat):Int)/\∃a,(XE n p).2.alphas[k]?=some a/\a.shape=p:=by
 unfold XE
 split
 .rename_i i hi
  obtain ⟨a,h1,h2,h3⟩:=ZmJ hi
  exact ⟨⟨[],yG⟩,i,rfl,a,by simpa using h2,h3⟩
 .exact ⟨⟨_,rfl⟩,n.alphas.length,rfl,{ shape:=p,facts:=[] },yG,rfl⟩
theorem ZEJ {n:Ze}{p:Int}{x:Zj}(h:ZoT n):ZoT (ZM n p x).2:=by
 unfold ZM
 split
 .exact h
 .have ha:∀a:Int×Ze,a=(if x.kind=1\/x.kind=2 then XE n (Zbb x.pattern) else (-1,n))->(∃z,a.2.alphas=n.alphas++z)/\Zjg a.2.alphas { parent:=p,cond:=x,alpha:=a.1,tokens:=[] }:=by
   rintro a rfl
   split
   .rename_i hk
    obtain ⟨h1,k,h2,b,h3,h4⟩:=ZAh n (Zbb x.pattern)
    exact ⟨h1,.inr ⟨hk,k,h2,b,h3,h4⟩⟩
   .rename_i hk
    exact ⟨⟨[],yG⟩,.inl ⟨hk,yG⟩⟩
  generalize (if x.kind=1\/x.kind=2 then XE n (Zbb x.pattern) else (-1,n))=a at *
  obtain ⟨⟨z,a1⟩,a2⟩:=ha a rfl
  intro i y hi hy
  simp only at hy ⊢
  rcases AX i n.nodes.length with c|d
  .rw [AT c]at hy
   rw [a1]
   exact (h i y hi hy).more
  .rw [Ah d]at hy
   have e:i - n.nodes.length=0:=by
    have:=(AC.1 hy).1
    simp at this;omega
   rw [e]at hy
   obtain rfl:=AE hy
   exact a2
theorem ZCv:∀(l:List Zj) (p:Int) (n:Ze),ZoT n->ZoT (YF l (p,n)).2
 | [],_,_,h=>h
 |x::l,p,n,h=>ZCv l (ZM n p x).1 (ZM n p x).2 (ZEJ h)
theorem ZCx:∀(l:List Zh) (n:Ze),ZoT n->ZoT (l.foldl Xl n)
 | [],_,h=>h
 |r::l,n,h=>ZCx l (Xl n r) (ZCv (XV r) 0 n h)
theorem ZIE (R:List Zh) (t:List Zs):ZoT (Zbd R t):=ZCx R (Zag R t) fun i y hi hy=>by
 have:=(AC.1 hy).1
 simp [Zag]at this;omega
theorem ZwL {n:Ze}(F:List Zg) (h:ZoT n):ZoT (YP n F):=fun i y hi hy=>by
 have b:(n.nodes.mapIdx (Qv n.nodes F))[i]?=some y:=hy
 rw [AJ]at b
 obtain ⟨x,hx,rfl⟩:=AK.1 b
 rcases h i x hi hx with h|⟨h1,k,h2,a,h3,h4⟩
 .exact .inl h
 .exact .inr ⟨h1,k,h2,Za9 F a,by show (n.alphas.map (Za9 F))[k]?=_;rw [AD,h3];rfl,h4⟩
def ZnF (l:List Zs):Prop:=l.Pairwise fun t u=>t.facts≠u.facts
theorem Zul {x:Zj}{F:List Zg}(hF:F.Pairwise fun a b=>a≠b) {ts:List Zs}(h:ZnF ts):ZnF (Zbx x F ts):=by
 unfold Zbx ZnF
 rw [List.pairwise_flatMap]
 refine ⟨fun t mt=>?_,h.imp fun {t u} c y hy z hz=>?_⟩
 .unfold X1
  split
  .refine List.Pairwise.filterMap _ (fun f g d y hy z hz=>?_) hF
   obtain ⟨_,_,rfl⟩:=AK.1 hy
   obtain ⟨_,_,rfl⟩:=AK.1 hz
   intro e
   have:=List.append_cancel_left e
   simp at this
   exact d this
  .split
   .exact BJ _ _
   .exact BK
 .unfold X1 at hy hz
  by_cases hk:x.kind=1
  .rw [if_pos hk]at hy hz
   obtain ⟨f,_,ey⟩:=At.1 hy
   obtain ⟨g,_,ez⟩:=At.1 hz
   obtain ⟨_,_,rfl⟩:=AK.1 ey
   obtain ⟨_,_,rfl⟩:=AK.1 ez
   intro e
   exact c (List.append_inj_left' e rfl)
  .rw [if_neg hk]at hy hz
   have e1:y=t:=by
    split at hy
    .simpa using hy
    .simp at hy
   have e2:z=u:=by
    split at hz
    .simpa using hz
    .simp at hz
   rw [e1,e2];exact c
theorem Zq3 {F:List Zg}(hF:F.Pairwise fun a b=>a≠b) (l:List Zj):ZnF (ZN l F):=by
 have key:∀(l:List Zj) (ts:List Zs),ZnF ts->ZnF (l.foldl (fun ts x=>Zbx x F ts) ts):=by
  intro l
  induction l with
  |nil=>intro ts h;exact h
  |cons x l ih=>intro ts h;exact ih _ (Zul hF h)
 exact key l [ZnV] (BJ _ _)
end
section
open Classical
theorem Zpb {α:Type}:∀{l m:List α},l.Nodup->(∀x∈l,x∈m)->l.length<=m.length
 | [],_,_,_=>BB _
 |x::l,m,h,hs=>by
  rw [AW]at h
  have hx:x∈m:=hs x yG
  have h2:=Zpb (m:=m.erase x) h.2 (fun y my=>(List.mem_erase_of_ne (fun e=>h.1 (by rw [<-e];exact my))).2 (hs y (by simp [my])))
  rw [List.length_erase_of_mem hx]at h2
  have:=List.length_pos_of_mem hx
  simp only[A6]
  omega
theorem Zyc (x:Zg):¬ZcK x x<0:=by rw [(ZdX.eq x x).2 rfl];omega
theorem Zmu {l:List Zg}(h:ZnN l):l.Nodup:=List.Pairwise.imp (fun {a b} c e=>by subst e;exact Zyc a c) h
def ZIy (r:Zh):List Zj:=r.cond.filter fun x=>x.kind != 2
theorem Zd0 {F:List Zg}(h:Ya F=true):ZnN F:=by
 unfold Ya at h
 rw [A4]at h
 have c:∀i y x,F[i]?=some y->F[i+1]?=some x->ZcK y x<0:=fun i y x hy hx=>by
  have:=Zkh h.2 (i+1) x hx
  unfold Zfp at this
  rw [A4,AO,if_neg yE,Nat.add_sub_cancel,hy]at this
  simpa using this.2
 have key:∀(l:List Zg),(∀i y x,l[i]?=some y->l[i+1]?=some x->ZcK y x<0)->ZnN l:=by
  intro l
  induction l with
  |nil=>intro _;exact BK
  |cons a l ih=>
   intro hl
   have hp:=ih (fun i y x hy hx=>hl (i+1) y x (by simpa using hy) (by simpa using hx))
   unfold ZnN at hp ⊢
   rw [BL]
   refine ⟨fun x mx=>?_,hp⟩
   cases l with
   |nil=>simp at mx
   |cons b l=>
    have d:=hl 0 a b rfl rfl
    rcases AR.1 mx with rfl|mx
    .exact d
    .rw [BL]at hp
     exact ZdX.tr _ _ _ d (hp.1 x mx)
 exact key F c
def ZC6 (a:ZB) (t:Zs):Zg:=(Zj3 (Zlh a.pattern t.binding)).1
def Zrd (R:List Zh) (G:List Zg):Prop:=∀r∈R,∀t∈ZN (ZIy r) G,∀a∈r.thn,ZC6 a t∈G
structure Cl (R:List Zh) (base G:List Zg):Prop where
 asc:ZnN G
 base:∀f∈base,f∈G
 closed:Zrd R G
structure ZyQ (R:List Zh) (base F:List Zg):Prop where
 asc:ZnN F
 ok:∀f∈F,Yr f=true
 inc:∀f∈base,f∈F
 low:∀G,Cl R base G->∀f∈F,f∈G
def ZFD (R:List Zh) (base:List Zg):Prop:=∀G,Cl R base G->25<=G.length
theorem Zk8 {b:List Zo}(hb:Z8 b=true):∀{p l:List ByteArray},ZfK p b=some l->l.all ZU=true/\l.length=p.length
 | [],l,h=>by
  simp only[ZfK,Am]at h
  subst h
  simp
 |a::p,l,h=>by
  simp only[ZfK]at h
  obtain ⟨v,hv,h⟩:=Option.bind_eq_some_iff.1 h
  obtain ⟨l',c,rfl⟩:=AK.1 h
  obtain ⟨h1,h2⟩:=Zk8 hb c
  have ha:ZU v=true:=by
   unfold Xk at hv
   split at hv
   .rename_i ha
    obtain rfl:=AE hv
    exact ha
   .split at hv
    .obtain ⟨x,mx,_,rfl⟩:=ZfV hv
     unfold Z8 at hb
     rw [A4]at hb
     have:=(ZfJ hb.2 x mx).1
     unfold ZeG at this
     rw [A4]at this
     exact this.2
    .simp at hv
  simp [ha,h1,h2]
def Res (R:List Zh) (base:List Zg) (x:List Zg×Bool):Prop:=
 (x.2=true/\ZyQ R base x.1/\x.1.length<=24/\Zrd R x.1)\/(x.2=false/\x.1=[]/\ZFD R base)
structure ZHO (R:List Zh) (base row0:List Zg) (s:List Zg×Bool):Prop where
 good:ZyQ R base s.1
 len:s.1.length<=24
 sub:∀f∈row0,f∈s.1
 grow:s.2=true->row0.length<s.1.length
 same:s.2=false->s.1=row0
theorem search {R:List Zh}{base:List Zg}{body:(List Zg×Bool)->Option ((List Zg×Bool) ⊕ (List Zg×Bool))}(b:∀row,body (row,false)=some (.inr (row,true)))
  (c:∀row,ZyQ R base row->row.length<=24->(∃s',body (row,true)=some (.inl s')/\ZHO R base row s'/\(s'.2=false->Zrd R row))\/(body (row,true)=some (.inr ([],false))/\ZFD R base)) (a:ZyQ R base base) (d:base.length<=24):∃x,iter body (base,true)=some x/\Res R base x:=by
 have key:∀n row,ZyQ R base row->row.length<=24->25<=row.length+n->∃x,iter body (row,true)=some x/\Res R base x:=by
  intro n
  induction n with
  |zero=>intro row _ h3 h4;omega
  |succ n ih=>
   intro row hg hl hn
   rcases c row hg hl with ⟨⟨f,u⟩,e,hP,hC⟩|⟨e,ho⟩
   .rw [Y6 e]
    cases u with
    |true=>
     have:=hP.grow rfl
     exact ih f hP.good hP.len (by simp only at this;omega)
    |false=>
     have hs:=hP.same rfl
     simp only at hs
     subst hs
     exact ⟨_,YE (b _),.inl ⟨rfl,hP.good,hP.len,hC rfl⟩⟩
   .exact ⟨_,YE e,.inr ⟨rfl,rfl,ho⟩⟩
 exact key 25 base a d yE
theorem Zjr {α:Type}{f:α->Nat}{N:Nat}:∀{l:List α},(∀x∈l,f x<=N)->(l.map f).sum<=l.length*N
 | [],_=>by simp
 |x::l,h=>by
  have h1:=h x yG
  have h2:=Zjr (l:=l) fun y my=>h y (by simp [my])
  simp only[AL,List.sum_cons,A6,Nat.add_mul]
  omega
theorem ZwY {f:Zg}(h:Yr f=true):ZjN f<=64:=by
 unfold Yr Xo at h
 simp only[A4,decide_eq_true_eq,Au]at h
 obtain ⟨⟨⟨h1,_⟩,h2⟩,h3⟩:=h
 have h4:=(Q4 h1).2
 have h5:(f.args.map ByteArray.size).sum<=f.args.length*8:=Zjr fun x mx=>(Q4 (h3 x mx)).2
 unfold ZjN Zsn
 omega
end
section
open Classical
noncomputable def Zui:List Zg->Zg->Nat->Int
 | [],_,_=>-1
 |x::l,f,i=>if x=f then ((i:Nat):Int) else Zui l f (i+1)
theorem Zss (l:List Zg) (f:Zg):ZaV l f=some (Zui l f 0):=by
 unfold ZaV
 generalize 0=i
 induction l generalizing i with
 |nil=>rfl
 |cons x l ih=>
  by_cases hx:x=f
  .rw [ZX (r:=((i:Nat):Int)) (by rw [YS,A0,if_pos (decide_eq_true hx)])]
   simp [Zui,hx]
  .rw [ZD (s':=()) (by rw [YS,A0,if_neg (by simpa using hx)]),ih (i+1)]
   simp [Zui,hx]
theorem Zp2 {f:Zg}:∀{l:List Zg}{i:Nat},(f∉l/\Zui l f i=-1)\/∃j,Zui l f i=((i+j:Nat):Int)/\l[j]?=some f
 | [],i=>.inl ⟨yG,rfl⟩
 |x::l,i=>by
  unfold Zui
  by_cases hx:x=f
  .rw [if_pos hx];exact .inr ⟨0,yG,by simp [hx]⟩
  .rw [if_neg hx]
   rcases Zp2 (f:=f) (l:=l) (i:=i+1) with ⟨h1,h2⟩|⟨j,h1,h2⟩
   .exact .inl ⟨by simp only[AR,not_or];exact ⟨fun e=>hx e.symm,h1⟩,h2⟩
   .exact .inr ⟨j+1,by rw [h1];congr 1;omega,by simpa using h2⟩
structure SmF (l:List Zg):Prop where
 n:l.length<=1048576
 a:∀f∈l,f.args.length<=1048576
theorem SmF.of24 {l:List Zg}(h1:l.length<=24) (h2:∀f∈l,f.args.length<=3):SmF l:=⟨yE,fun f mf=>by have:=h2 f mf;omega⟩
theorem Zb6 {l:List Zg}(h:SmF l):Yb l=some l:=QF l h.n h.a
noncomputable def Zn0 (l:List Zg) (f:Zg):List Zg×Bool:=if Ya l=true/\Yr f=true/\f∉l/\l.length<24 then (ZfE l f,true) else (l,false)
noncomputable def Zob (l:List Zg) (f:Zg):List Zg×Bool:=if Ya l=true/\f∈l then (l.filter fun x=>decide (x≠f),true) else (l,false)
theorem Zra {l:List Zg}(h:SmF l) (f:Zg):Zf5 l f=some (Zn0 l f):=by
 unfold Zf5 Zn0
 rw [Zdh,A0]
 by_cases h1:Ya l=true
 rotate_left
 .rw [if_neg h1,if_neg fun hh=>h1 hh.1,Zb6 h];rfl
 rw [if_pos h1,Qj,A0]
 by_cases h2:Yr f=true
 rotate_left
 .rw [if_neg h2,if_neg fun hh=>h2 hh.2.1,Zb6 h];rfl
 obtain ⟨z,e,hz⟩:=Zok l f
 rw [if_pos h2,e,A0]
 by_cases h3:f∈l
 .rw [if_pos (by rw [decide_eq_true_iff];exact Classical.byContradiction fun hn=>hz.1 yE h3),if_neg fun hh=>hh.2.2.1 h3,Zb6 h];rfl
 rw [if_neg (by rw [decide_eq_true_iff];have:=hz.2 h3;omega)]
 by_cases h4:l.length<24
 .rw [if_neg (by simp;omega),if_pos ⟨h1,h2,h3,h4⟩,Zrf l f h3 h.n h.a (by have:=Za2 h2;omega)];rfl
 .rw [if_pos (by simp;omega),if_neg fun hh=>h4 hh.2.2.2,Zb6 h];rfl
theorem ZnR {f:Zg}:∀{l:List Zg}{j:Nat},l.Nodup->l[j]?=some f->l.take j++l.drop (j+1)=l.filter fun x=>decide (x≠f)
 | [],j,_,h=>by simp at h
 |x::l,0,hn,h=>by
  obtain rfl:=AE (by simpa using h:some x=some f)
  rw [AW]at hn
  simp only[List.take_zero,AQ,BM,BN]
  have e1:∀y∈l,decide (y≠x)=true:=fun y my=>decide_eq_true fun e=>hn.1 (by rw [<-e];exact my)
  rw [Aw yG,List.filter_eq_self.2 e1]
 |x::l,j+1,hn,h=>by
  rw [AW]at hn
  have h':l[j]?=some f:=by simpa using h
  have e1:x≠f:=fun e=>hn.1 (by rw [e];exact AF h')
  rw [List.take_succ_cons,BM,B2,ZnR hn.2 h',Ax (by simpa using e1)]
theorem SmF.take {l:List Zg}(h:SmF l) (k:Nat):SmF (l.take k):=⟨by rw [Ag];have:=h.n;omega,fun f mf=>h.a f (List.mem_of_mem_take mf)⟩
theorem SmF.drop {l:List Zg}(h:SmF l) (k:Nat):SmF (l.drop k):=⟨by rw [BP];have:=h.n;omega,fun f mf=>h.a f (List.mem_of_mem_drop mf)⟩
theorem ZlP {l:List Zg}(h:SmF l) (f:Zg):ZcC l f=some (Zob l f):=by
 unfold ZcC Zob
 rw [Zss,A0,Zdh,A0]
 by_cases h1:Ya l=true
 rotate_left
 .rw [if_neg h1,if_neg fun hh=>h1 hh.1,Zb6 h];rfl
 rw [if_pos h1]
 have hn:=h.n
 rcases Zp2 (f:=f) (l:=l) (i:=0) with ⟨h2,e⟩|⟨j,e,hj⟩
 .rw [e,if_pos yF,if_neg fun hh=>h2 hh.2,Zb6 h];rfl
 .rw [AO]at e
  have hlt:=(AC.1 hj).1
  rw [e,if_neg yG,Zk _ yE,AI,BN,Zb6 (h.take j),A0,Yi yE yE,Zk _ yE,BC,
   show (((j:Nat):Int)+1).toNat=j+1 by omega,Zb6 (h.drop (j+1)),A0,Zk _ (by rw [Ag,BP];omega),ZnR (Zmu (Zd0 h1)) hj,if_pos ⟨h1,AF hj⟩]
theorem Zu1 {l:List Zg}{f:Zg}(h:(Zn0 l f).2=true):(Zn0 l f).1.length<=24/\∀g∈(Zn0 l f).1,Yr g=true:=by
 unfold Zn0 at h ⊢
 split
 .rename_i hc
  have h1:=XJ hc.1
  have h2:=Znh f l
  refine ⟨by simp only;omega,fun g mg=>?_⟩
  rcases ZjQ.1 mg with rfl|mg
  .exact hc.2.1
  .exact h1.2 g mg
 .rename_i hc
  rw [if_neg hc]at h
  simp at h
theorem ZvZ {l:List Zg}{f:Zg}(h:(Zob l f).2=true):(Zob l f).1.length<=24/\∀g∈(Zob l f).1,Yr g=true:=by
 unfold Zob at h ⊢
 split
 .rename_i hc
  have h1:=XJ hc.1
  refine ⟨AZ (Aa _ _) h1.1,fun g mg=>h1.2 g (BD.1 mg).1⟩
 .rename_i hc
  rw [if_neg hc]at h
  simp at h
structure SmT (t:Zs):Prop where
 b:t.binding.length<=1048576
 f:SmF t.facts
structure ZIh (y:ZV):Prop where
 c:y.cond.pattern.args.length<=1048576
 l:y.tokens.length<=1048576
 t:∀t∈y.tokens,SmT t
structure SmW (n:Ze):Prop where
 rl:n.rules.length<=1048576
 ru:∀r∈n.rules,YX r
 en:n.ends.length<=1048576
 f:SmF n.facts
 al:n.alphas.length<=1048576
 a:∀a∈n.alphas,a.shape.args.length<=1048576/\SmF a.facts
 nl:n.nodes.length<=1048576
 n:∀y∈n.nodes,ZIh y
theorem ZlN {l:List Zs}(hl:l.length<=1048576) (h:∀t∈l,SmT t):Zcp l=some l:=by
 unfold Zcp
 rw [Xf (g:=fun y=>y)]
 .simp
 .intro j t s mt hs
  have ht:=h t mt
  have hb:=ht.b
  rw [Zb6 ht.f,A0]
  unfold XM
  rw [Zk _ yE,A0,Zk _ (by simp at hs;omega)]
theorem XP {n:Ze}(h:SmW n):Yt n=some n:=by
 unfold Yt XX
 have hl:=h.en
 have ha:=h.al
 have hn:=h.nl
 rw [ZdY _ h.rl h.ru,A0,Zk _ yE,A0,Zb6 h.f,A0,Xf (g:=fun y=>y)]
 .rw [AQ,BE,Xf (g:=fun y=>y)]
  .rw [AQ,BE]
  .intro j y s my hs
   have hy:=h.n y my
   rw [Zai _ hy.c,A0,ZlN hy.l hy.t,A0,Zk _ (by simp at hs;omega)]
 .intro j a s ma hs
  obtain ⟨h1,h2⟩:=h.a a ma
  unfold XO
  rw [Zay _ yE,A0,A0,Zb6 h2,A0,Zk _ (by simp at hs;omega)]
theorem Zxu {a b:List Zg}{body:Nat->Zg->Unit->Option (Unit ⊕ Int)}{fin:Unit->Option Int}{q:Int}(hq:q=0↔a.length=b.length) (d:fin ()=some q)
  (h1:∀i x y,b[i]?=some y->body i x ()=if ZcK x y=0 then some (.inl ()) else some (.inr (ZcK x y))) (h2:∀i x,b.length<=i->body i x ()=some (.inr q)):∃z,forL body fin a 0 ()=some z/\(z=0↔a=b):=by
 have key:∀(r c:List Zg),a=c++r->c=b.take c.length->c.length<=b.length->∃z,forL body fin r c.length ()=some z/\(z=0↔a=b):=by
  intro r
  induction r with
  |nil=>
   intro c e hp hl
   refine ⟨q,d,hq.trans ⟨fun hh=>?_,fun hh=>by rw [hh]⟩⟩
   rw [B8]at e
   subst e
   rw [hp,hh,BC]
  |cons x r ih=>
   intro c e hp hl
   rcases AX c.length b.length with f|g
   .have hb:b[c.length]?=some b[c.length]:=A9 f
    have hx:=h1 c.length x _ hb
    by_cases hc:ZcK x b[c.length]=0
    .rw [if_pos hc]at hx
     rw [ZD hx]
     have j:=(ZdX.eq _ _).1 hc
     have:=ih (c++[x]) (by rw [e];simp) (by rw [AA,AP,An,hb,<-hp,j];rfl) (by rw [AA,AP];omega)
     simpa using this
    .rw [if_neg hc]at hx
     refine ⟨_,ZX hx,⟨fun hh=>absurd hh hc,fun hh=>absurd ((ZdX.eq _ _).2 ?_) hc⟩⟩
     have ha:a[c.length]?=some x:=by rw [e];simp
     rw [hh,hb]at ha
     exact (AE ha).symm
   .have hx:=h2 c.length x g
    have hla:a.length=c.length+(r.length+1):=by rw [e];simp
    exact ⟨q,ZX hx,hq.trans ⟨fun hh=>by omega,fun hh=>by rw [hh]⟩⟩
 exact key a [] rfl rfl (BB _)
theorem ZDI (t u:Zs):∃z,Zad t u=some z/\(z=0↔t.facts=u.facts):=by
 unfold Zad YI ZT
 have e:∀o:Option Int,(o.bind fun v=>some v)=o:=fun o=>by cases o<;>rfl
 rw [e]
 have hq:∃q:Int,(q=0↔t.facts.length=u.facts.length)/\(if (decide (((t.facts.length:Nat):Int)<((u.facts.length:Nat):Int)))=true then some (-1) else if (decide (((u.facts.length:Nat):Int)<((t.facts.length:Nat):Int)))=true then some 1 else some 0)=some q:=by
  rcases Nat.lt_trichotomy t.facts.length u.facts.length with h|h|h
  .exact ⟨-1,yE,by rw [if_pos (by simp;omega)]⟩
  .exact ⟨0,yE,by rw [if_neg (by simp;omega),if_neg (by simp;omega)]⟩
  .exact ⟨1,yE,by rw [if_neg (by simp;omega),if_pos (by simp;omega)]⟩
 obtain ⟨q,a,b⟩:=hq
 rw [b]
 refine Zxu a rfl (fun i x y hy=>?_) fun i x hi=>?_
 .have hi:=(AC.1 hy).1
  rw [if_pos (by simp;omega),YN,hy,A0,Y3,A0]
  by_cases hc:ZcK x y=0
  .rw [if_pos hc,if_neg (by simp [hc])]
  .rw [if_neg hc,if_pos (by simpa using hc)]
 .rw [if_neg (by simp;omega)];rfl
noncomputable def ZsD (l:List Zs) (t:Zs):Bool:=l.any fun u=>decide (u.facts=t.facts)
theorem Zos (l:List Zs) (t:Zs):Zeq l t=some (ZsD l t):=by
 unfold Zeq ZsD
 rw [Zb7 (p:=fun u=>decide (u.facts=t.facts)) (r:=true)]
 .cases l.any _<;>rfl
 .intro i u mu
  obtain ⟨z,e,hz⟩:=ZDI u t
  rw [e,A0]
  by_cases h:u.facts=t.facts
  .rw [if_pos (by simpa using hz.2 h),decide_eq_true h];rfl
  .rw [if_neg (by simpa using fun hh=>h (hz.1 hh)),decide_eq_false h];rfl
noncomputable def Zb5 (now before:List Zs):Nat:=(now.filter (ZsD before)).length
theorem ZsE (a before:List Zs):Zb5 a before<=a.length:=Aa _ _
end
section
open Classical
noncomputable def Zw8 (k c:Nat) (A:List YR) (f:Zg) (al z:Int):Int:=
 if al<0 then IntKind.i64.wrap (z+((c:Nat):Int)) else
 match A[al.toNat]? with
 |some a=>if (Xh a.shape f []).isSome=true then IntKind.i64.wrap (IntKind.i64.wrap (z+IntKind.i64.wrap (((c:Nat):Int)*((a.facts.length:Nat):Int)))+((k:Nat):Int)) else IntKind.i64.wrap (z+IntKind.i64.wrap (((c:Nat):Int)*((a.facts.length:Nat):Int)))
 |none=>z
noncomputable def trN (n V:Ze) (f:Zg):Nat->Int
 |0=>V.tries
 |i+1=>if i=0 then trN n V f i else
  match V.nodes[i]? with
  |some y=>(match V.nodes[y.parent.toNat]?,n.nodes[y.parent.toNat]? with
   |some u,some b=>Zw8 (Zb5 u.tokens b.tokens) (u.tokens.length - Zb5 u.tokens b.tokens) V.alphas f y.alpha (trN n V f i)
   |_,_=>trN n V f i)
  |none=>trN n V f i
theorem ZD2 {n V:Ze}{f:Zg}{i:Nat}(h:i≠0) {y u b:ZV}(hy:V.nodes[i]?=some y) (hu:V.nodes[y.parent.toNat]?=some u) (hb:n.nodes[y.parent.toNat]?=some b):
  trN n V f (i+1)=Zw8 (Zb5 u.tokens b.tokens) (u.tokens.length - Zb5 u.tokens b.tokens) V.alphas f y.alpha (trN n V f i):=by
 rw [trN,if_neg h,hy]
 simp only[hu,hb]
noncomputable def Zi3 (n:Ze) (F:List Zg) (f:Zg):Ze:={ YP n F with tries:=trN n (YP n F) f n.nodes.length }
structure VN (n:Ze):Prop where
 nodes:ZiZ n.nodes
 path:∀i:Nat,i<n.nodes.length->(YW n.nodes ((i:Nat):Int)).length<=4
 al:n.alphas.length<=1000
 at_:ZoT n
 tok:∀(j:Nat) (y:ZV),n.nodes[j]?=some y->y.tokens=ZN (YW n.nodes ((j:Nat):Int)) n.facts
 fa:Ya n.facts=true
 one:1<=n.nodes.length
theorem ZjI {n:Ze}(hS:ZH n.rules=true->∀r∈n.rules,SmN r) (h:ZeX n=true):VN n:=by
 unfold ZeX at h
 simp only[A4,decide_eq_true_iff]at h
 obtain ⟨⟨⟨h1,h2⟩,h3⟩,h4,h5,h6⟩:=h
 have hl:=(Qa h1).1
 obtain ⟨b1,b2,b3⟩:=Zkt hl (hS h1) []
 have hf:n.nodes.map X2=(Zbd n.rules []).nodes.map X2:=by rw [h6];exact Zh0 _ _
 have a:n.nodes.length=(Zbd n.rules []).nodes.length:=by
  have:=congrArg List.length hf
  simpa using this
 have b:=(Zmi n.rules (Zag n.rules []) (Zjz _ _) fun r mr=>(hS h1 r mr).c4).1.one
 have hs:=(Zzq n (Zbd n.rules []) [] n.facts).2 ⟨h4,h5,h6⟩
 have hA:=ZwL n.facts (ZIE n.rules [])
 refine ⟨ZlF hf b1,fun i hi=>by rw [ZeQ hf];exact b2 i yE,by rw [h5];show ((Zbd n.rules []).alphas.map (Za9 n.facts)).length<=1000;rw [AN];exact b3,?_,hs.2.2,h2,by rw [a];exact b⟩
 intro i y hi hy
 rw [h6]at hy
 rw [h5]
 exact hA i y hi hy
theorem Zus {F:List Zg}(h:Ya F=true):F.Pairwise fun a b=>a≠b:=Zmu (Zd0 h)
theorem ZAL {n:Ze}{F:List Zg}(hV:VN n) (hF:F.length<=24) (hA:∀f∈F,f.args.length<=3) {k:Nat}{y:ZV}(h1:1<=k) (hy:n.nodes[k]?=some y):
  ∃u b,0<=y.parent/\y.parent<((k:Nat):Int)/\(YP n F).nodes[y.parent.toNat]?=some u/\n.nodes[y.parent.toNat]?=some b/\u.tokens.length<=331776/\(∀t∈u.tokens,ZAI F t)/\ZnF b.tokens/\ZN (YW n.nodes ((k:Nat):Int)) F=Zbx y.cond F u.tokens/\(YP n F).nodes[k]?=some (Qv n.nodes F k y):=by
 obtain ⟨p0,p1⟩:=hV.nodes.par k y h1 hy
 have hk:=(AC.1 hy).1
 have hp:y.parent.toNat<n.nodes.length:=by omega
 have hb:n.nodes[y.parent.toNat]?=some n.nodes[y.parent.toNat]:=A9 hp
 have hu:(YP n F).nodes[y.parent.toNat]?=some (Qv n.nodes F y.parent.toNat n.nodes[y.parent.toNat]):=by
  show (n.nodes.mapIdx (Qv n.nodes F))[y.parent.toNat]?=_
  rw [AJ,hb];rfl
 have a:=hV.path y.parent.toNat hp
 have e:((y.parent.toNat:Nat):Int)=y.parent:=by omega
 have ht:(Qv n.nodes F y.parent.toNat n.nodes[y.parent.toNat]).tokens=ZN (YW n.nodes ((y.parent.toNat:Nat):Int)) F:=rfl
 refine ⟨_,_,p0,p1,hu,hb,by rw [ht];exact QY F hF _ a,fun t mt=>(Zal F _ t (by rw [ht]at mt;exact mt)).s a hA,?_,?_,?_⟩
 .rw [hV.tok _ _ hb]
  exact Zq3 (Zus hV.fa) _
 .rw [ZfT (y:=y) yE (by simpa using hy) p1,ZdW,ht,e]
 .show (n.nodes.mapIdx (Qv n.nodes F))[k]?=_
  rw [AJ,hy];rfl
theorem ZxK {ρ:Type}{before:List Zs}{fin:Int×Int->Option ρ}{body:Nat->Zs->Int×Int->Option ((Int×Int) ⊕ ρ)}{c:List Zs}(hl:c.length<=331776)
  (hb:∀i t a b,body i t (a,b)=if ZsD before t=true then some (.inl (IntKind.i64.wrap (a+1),b)) else some (.inl (a,IntKind.i64.wrap (b+1)))):
  forL body fin c 0 (0,0)=fin (((Zb5 c before:Nat):Int),(((c.length - Zb5 c before:Nat)):Int)):=by
 show forL body fin c 0 (((Zb5 [] before:Nat):Int),((([]:List Zs).length - Zb5 [] before:Nat):Int))=_
 rw [Zeb (fun p=>(((Zb5 p before:Nat):Int),(((p.length - Zb5 p before:Nat)):Int))) c]
 intro p x q e
 have hp:=ZsE p before
 have hlp:p.length+(q.length+1)=c.length:=by rw [e,AA,A6]
 rw [hb]
 cases hx:ZsD before x with
 |true=>
  have e1:Zb5 (p++[x]) before=Zb5 p before+1:=by
   unfold Zb5
   rw [BR,AA,Ax hx];simp
  rw [if_pos rfl,Yi yE yE,e1,AA,AP]
  congr 3
  omega
 |false=>
  have e1:Zb5 (p++[x]) before=Zb5 p before:=by
   unfold Zb5
   rw [BR,AA,Aw (by rw [hx];simp)];simp
  rw [if_neg yG,Yi yE yE,e1,AA,AP]
  congr 3
  omega
theorem ZjX {n:Ze}{F:List Zg}(f:Zg) (hV:VN n) (hW:SmW n) (hF:F.length<=24) (hA:∀f∈F,f.args.length<=3):Zeg n F f=some (Zi3 n F f):=by
 unfold Zeg
 rw [XP hW,A0,Zqc n F hV.nodes hV.path hF hA hV.al,A0]
 have j:(YP n F).nodes.length=n.nodes.length:=by
  show (n.nodes.mapIdx (Qv n.nodes F)).length=_
  rw [BS]
 have hVa:(YP n F).alphas.length=n.alphas.length:=by
  show (n.alphas.map (Za9 F)).length=_
  rw [AN]
 have hfew:=hV.nodes.few
 show forL _ _ (YP n F).nodes 0 (trN n (YP n F) f ([]:List ZV).length)=_
 rw [Zeb (fun p=>trN n (YP n F) f p.length) (YP n F).nodes]
 .rw [j]
  rfl
 .intro p x q e
  have hx:(YP n F).nodes[p.length]?=some x:=by rw [e];simp
  have m:p.length<n.nodes.length:=by rw [<-j,e];simp
  rw [AA,AP]
  by_cases h0:p.length=0
  .rw [if_pos (by simp [h0])]
   have e1:trN n (YP n F) f (0+1)=trN n (YP n F) f 0:=if_pos rfl
   rw [h0,e1]
  .rw [if_neg (by simpa using h0)]
   have hy:n.nodes[p.length]?=some n.nodes[p.length]:=A9 m
   obtain ⟨u,b,p0,p1,hu,hb,o,_,_,_,l⟩:=ZAL hV hF hA yE hy
   rw [hx]at l
   have d:=AE l
   have ep:x.parent=n.nodes[p.length].parent:=by rw [d];rfl
   have ea:x.alpha=n.nodes[p.length].alpha:=by rw [d];rfl
   have ec:x.cond=n.nodes[p.length].cond:=by rw [d];rfl
   rw [<-ep]at p0 p1 hu hb
   rw [Zk _ yE,hu,A0,ZxK (before:=b.tokens) o fun i t a c=>by
    show ((atI n.nodes x.parent).bind _)=_
    unfold atI
    rw [if_pos p0,hb,A0,Zos,A0]]
   rw [ZD2 h0 hx hu hb]
   unfold Zw8
   rcases hV.at_ p.length _ yE hy with ⟨_,g⟩|⟨_,k,hk,a,ha,_⟩
   .rw [<-ea]at g
    rw [if_pos g]
    exact if_pos (decide_eq_true g)
   .rw [<-ea]at hk
    have hkl:=(AC.1 ha).1
    have v:(YP n F).alphas[k]?=some (Za9 F a):=by
     show (n.alphas.map (Za9 F))[k]?=_
     rw [AD,ha];rfl
    rw [hk,AI,v]
    show (if _ then _ else _)=_
    rw [if_neg yG,Zk _ yE,A0,Zau,A0,Zjc,if_neg (show ¬(((k:Nat):Int)<0) by omega)]
    simp only
    split<;>rfl
end
section
open Classical
noncomputable def ZtX (n:Ze) (f:Zg):Ze×Bool:=if ZeX n=true/\(Zn0 n.facts f).2=true then (Zi3 n (Zn0 n.facts f).1 f,true) else (n,false)
noncomputable def Zt2 (n:Ze) (f:Zg):Ze×Bool:=if ZeX n=true/\(Zob n.facts f).2=true then (Zi3 n (Zob n.facts f).1 f,true) else (n,false)
theorem Zjx {F:List Zg}(h:∀g∈F,Yr g=true):∀g∈F,g.args.length<=3:=fun g mg=>Za2 (h g mg)
section
variable {n:Ze} (hW:SmW n) (hS:ZH n.rules=true->∀r∈n.rules,SmN r) (f:Zg)
include hW hS
theorem ZAf:QG n f=some (ZtX n f):=by
 unfold QG ZtX
 rw [Zb9 n hW.ru hS,A0]
 by_cases h1:ZeX n=true
 rotate_left
 .rw [if_neg h1,if_neg fun hh=>h1 hh.1,XP hW];rfl
 rw [if_pos h1]
 unfold ZuZ
 rw [Zra hW.f,A0]
 by_cases h2:(Zn0 n.facts f).2=true
 .obtain ⟨a1,a2⟩:=Zu1 h2
  rw [if_pos h2,if_pos ⟨h1,h2⟩,ZjX f (ZjI hS h1) hW a1 (Zjx a2)];rfl
 .rw [if_neg h2,if_neg fun hh=>h2 hh.2,XP hW];rfl
theorem ZxT:Xv n f=some (Zt2 n f):=by
 unfold Xv Zt2
 rw [Zb9 n hW.ru hS,A0]
 by_cases h1:ZeX n=true
 rotate_left
 .rw [if_neg h1,if_neg fun hh=>h1 hh.1,XP hW];rfl
 rw [if_pos h1]
 unfold ZqA
 rw [ZlP hW.f,A0]
 by_cases h2:(Zob n.facts f).2=true
 .obtain ⟨a1,a2⟩:=ZvZ h2
  rw [if_pos h2,if_pos ⟨h1,h2⟩,ZjX f (ZjI hS h1) hW a1 (Zjx a2)];rfl
 .rw [if_neg h2,if_neg fun hh=>h2 hh.2,XP hW];rfl
end
structure Zly (n m:Ze):Prop where
 ru:m.rules=n.rules
 en:m.ends=n.ends
 al:m.alphas.map (·.shape)=n.alphas.map (·.shape)
 nd:m.nodes.map X2=n.nodes.map X2
theorem Zly.refl (n:Ze):Zly n n:=⟨rfl,rfl,rfl,rfl⟩
theorem Zly.chg {n m:Ze}(h:Zly n m) (F:List Zg) (f:Zg):Zly n (Zi3 m F f):=⟨h.ru,h.en,by
 show (m.alphas.map (Za9 F)).map _=_
 rw [Aq,<-h.al];rfl,by rw [<-h.nd];exact Zh0 _ _⟩
structure Way (n m:Ze):Prop where
 s:Zly n m
 c:m=n\/∃m0 F f,VN m0/\F.length<=24/\(∀g∈F,Yr g=true)/\m=Zi3 m0 F f
theorem ZyX {s:ByteArray}(h:ZS s=true):s.size<=9:=by
 unfold ZS at h
 simp only[A4,decide_eq_true_eq]at h
 have h1:=(Q4 h.2).2
 unfold Zu5 at h1
 rw [Aj]at h1
 omega
theorem Zxc {b:List Zo}(h:Z8 b=true):ZkH b<=108:=by
 have hl:=ZeY h
 have hp:∀x∈b,ZmZ x<=17:=fun x mx=>by
  unfold Z8 at h
  rw [A4]at h
  have h2:=(ZfJ h.2 x mx).1
  unfold ZeG at h2
  rw [A4]at h2
  have h3:=ZyX h2.1
  have h4:=(Q4 h2.2).2
  unfold ZmZ
  omega
 have:=Zjr hp
 unfold ZkH
 omega
theorem ZuC {F:List Zg}{k:Nat}(hl:F.length<=k) (h:∀g∈F,Yr g=true):ZkJ F<=65*k:=by
 have:(F.map ZjN).sum<=F.length*64:=Zjr fun g mg=>ZwY (h g mg)
 unfold ZkJ
 omega
theorem Zpe {m:Ze}{F:List Zg}(hV:VN m) (hF:F.length<=24) (h:∀g∈F,Yr g=true) {y:ZV}(my:y∈(YP m F).nodes):
  y.tokens.length<=331776/\(∀t∈y.tokens,ZAI F t)/\ZtZ y.tokens<=200000000:=by
 obtain ⟨i,hi,e⟩:=B9 my
 have hy:(m.nodes.mapIdx (Qv m.nodes F))[i]?=some y:=by rw [<-e];exact A9 hi
 rw [AJ]at hy
 obtain ⟨x,hx,rfl⟩:=AK.1 hy
 have a:=(AC.1 hx).1
 have hp:=hV.path i a
 have hl:=QY F hF _ hp
 have hA:=Zjx h
 have hc:∀t∈ZN (YW m.nodes ((i:Nat):Int)) F,Zig t<=400:=fun t mt=>by
  have ht:=Zal F _ t mt
  have h1:=Zxc ht.bind
  have h2:=ZuC (k:=4) (AZ ht.len hp) fun g mg=>h g (ht.sub g mg)
  unfold Zig
  omega
 have hs:=Zjr hc
 refine ⟨hl,fun t mt=>(Zal F _ t mt).s hp hA,?_⟩
 show (ZN (YW m.nodes ((i:Nat):Int)) F).length+((ZN (YW m.nodes ((i:Nat):Int)) F).map Zig).sum<=_
 omega
theorem Way.sm {n m:Ze}(h:Way n m) (hn:SmW n):SmW m:=by
 rcases h.c with rfl|⟨m0,F,f,hV,hF,d,rfl⟩
 .exact hn
 have hs:=h.s
 have hlen:(YP m0 F).nodes.length=n.nodes.length:=by
  have:=congrArg List.length hs.nd
  simpa [Zi3]using this
 have hlea:(YP m0 F).alphas.length=n.alphas.length:=by
  have:=congrArg List.length hs.al
  simpa [Zi3]using this
 have hm:∀y∈(YP m0 F).nodes,∃x∈n.nodes,X2 x=X2 y:=fun y my=>by
  have:X2 y∈n.nodes.map X2:=by rw [<-hs.nd];exact BF (f:=X2) my
  exact AB.1 this
 have e:∀a∈(YP m0 F).alphas,(∃x∈n.alphas,x.shape=a.shape)/\a.facts.length<=24/\∀g∈a.facts,Yr g=true:=fun a ma=>by
  have:a.shape∈n.alphas.map (·.shape):=by rw [<-hs.al];exact BF (f:=(·.shape)) ma
  obtain ⟨b,_,rfl⟩:=AB.1 ma
  exact ⟨AB.1 this,AZ (Aa _ _) hF,fun g mg=>d g (BD.1 mg).1⟩
 have i:=SmF.of24 hF (Zjx d)
 have hnl:=hn.nl
 have hal:=hn.al
 refine ⟨by rw [hs.ru];exact hn.rl,by rw [hs.ru];exact hn.ru,by rw [hs.en];exact hn.en,i,by show (YP m0 F).alphas.length<=_;omega,fun a ma=>?_,by show (YP m0 F).nodes.length<=_;omega,fun y my=>?_⟩
 .obtain ⟨⟨x,mx,ex⟩,h1,h2⟩:=e a ma
  exact ⟨by rw [<-ex];exact (hn.a x mx).1,SmF.of24 h1 (Zjx h2)⟩
 .obtain ⟨x,mx,ex⟩:=hm y my
  obtain ⟨h1,h2,_⟩:=Zpe hV hF d my
  have ec:y.cond=x.cond:=(congrArg (·.2) ex).symm
  exact ⟨by rw [ec];exact (hn.n x mx).c,yE,fun t mt=>⟨by have:=(h2 t mt).bind;omega,⟨by have:=(h2 t mt).len;omega,fun g mg=>by have:=(h2 t mt).args g mg;omega⟩⟩⟩
theorem ZAj {n m:Ze}(h:Way n m) (hS:ZH n.rules=true->∀r∈n.rules,SmN r) (f:Zg):Way n (ZtX m f).1:=by
 unfold ZtX
 split
 .rename_i hc
  obtain ⟨a1,a2⟩:=Zu1 hc.2
  exact ⟨h.s.chg _ _,.inr ⟨m,_,f,ZjI (by rw [h.s.ru];exact hS) hc.1,a1,a2,rfl⟩⟩
 .exact h
theorem ZAB {n m:Ze}(h:Way n m) (hS:ZH n.rules=true->∀r∈n.rules,SmN r) (f:Zg):Way n (Zt2 m f).1:=by
 unfold Zt2
 split
 .rename_i hc
  obtain ⟨a1,a2⟩:=ZvZ hc.2
  exact ⟨h.s.chg _ _,.inr ⟨m,_,f,ZjI (by rw [h.s.ru];exact hS) hc.1,a1,a2,rfl⟩⟩
 .exact h
noncomputable def ZcL (m:Ze) (x:Z6):Ze×Bool:=
 if x.kind=1\/x.kind=4 then ZtX m x.fact else if x.kind=2\/x.kind=5 then Zt2 m x.fact else (m,true)
noncomputable def Zcf (n:Ze):List Z6->Ze->Ze×Bool
 | [],m=>(m,true)
 |x::l,m=>if (ZcL m x).2=true then Zcf n l (ZcL m x).1 else (n,false)
abbrev StW:Type:=Int×(List Zh)×(List Int)×(List YR)×(List ZV)×(List Zg)
def ofW (m:Ze):StW:=(m.tries,m.rules,m.ends,m.alphas,m.nodes,m.facts)
theorem Zlp {n:Ze}(hn:SmW n) (hS:ZH n.rules=true->∀r∈n.rules,SmN r) {body:Nat->Z6->StW->Option (StW ⊕ (Ze×Bool))}{fin:StW->Option (Ze×Bool)}{cp:Ze->Option Ze}{pu tk:Ze->Zg->Option (Ze×Bool)}
  (b:cp n=some n) (c:∀m,SmW m->m.rules=n.rules->∀f,pu m f=some (ZtX m f)) (d:∀m,SmW m->m.rules=n.rules->∀f,tk m f=some (Zt2 m f)) (a:∀m,fin (ofW m)=some (m,true))
  (hb:∀i x m,body i x (ofW m)=
   let go:Option (Ze×Bool)->Option (StW ⊕ (Ze×Bool)):=fun o=>o.bind fun v=>if v.2=true then some (.inl (ofW v.1)) else (cp n).bind fun w=>some (.inr (w,false))
   if (x.kind==1)=true then go (pu m x.fact) else if (x.kind==4)=true then go (pu m x.fact) else if (x.kind==2)=true then go (tk m x.fact) else if (x.kind==5)=true then go (tk m x.fact) else some (.inl (ofW m))):
  ∀(l:List Z6) (i:Nat) (m:Ze),Way n m->forL body fin l i (ofW m)=some (Zcf n l m)/\Way n (Zcf n l m).1
 | [],i,m,h=>⟨a m,h⟩
 |x::l,i,m,h=>by
  have hw:=h.sm hn
  have key:body i x (ofW m)=if (ZcL m x).2=true then some (.inl (ofW (ZcL m x).1)) else some (.inr (n,false)):=by
   rw [hb]
   simp only[b,c m hw h.s.ru,d m hw h.s.ru,A0,beq_iff_eq]
   unfold ZcL
   by_cases k1:x.kind=1
   .simp only[k1,if_true,true_or]
   by_cases k4:x.kind=4
   .simp only[k4];simp
   by_cases k2:x.kind=2
   .simp only[k2];simp
   by_cases k5:x.kind=5
   .simp only[k5];simp
   simp [k1,k2,k4,k5]
  have e:Way n (ZcL m x).1:=by
   unfold ZcL
   split
   .exact ZAj h hS _
   .split
    .exact ZAB h hS _
    .exact h
  have ih:=Zlp hn hS b c d a hb l (i+1) (ZcL m x).1 e
  unfold Zcf
  by_cases h2:(ZcL m x).2=true
  .rw [if_pos h2]at key
   rw [if_pos h2,ZD key]
   exact ih
  .rw [if_neg h2]at key
   rw [if_neg h2,ZX key]
   exact ⟨rfl,⟨Zly.refl n,.inl rfl⟩⟩
theorem ZnS {n:Ze}(hn:SmW n) (hS:ZH n.rules=true->∀r∈n.rules,SmN r) (l:List Z6):ZbY n l=some (Zcf n l n):=by
 unfold ZbY
 rw [XP hn,A0]
 exact (Zlp hn hS (cp:=fun m=>some m) rfl (fun m hm hr f=>ZAf hm (by rw [hr];exact hS) f) (fun m hm hr f=>ZxT hm (by rw [hr];exact hS) f) (fun m=>rfl) (fun i x m=>rfl) l 0 n ⟨Zly.refl n,.inl rfl⟩).1
end
section
open Classical
def ZaB:Int:=331776*24+331776
theorem ZBR {k c:Nat}{A:List YR}{f:Zg}{al z:Int}(hk:k<=331776) (hc:k+c<=331776) (hA:∀a∈A,a.facts.length<=24) (h0:0<=z) (h1:z<=9000000000000000000):z<=Zw8 k c A f al z/\Zw8 k c A f al z<=z+ZaB:=by
 unfold Zw8 ZaB
 split
 .rw [Yi yE yE];omega
 .split
  .rename_i a ha
   have hl:=hA a (AF ha)
   have hm:((c:Nat):Int)*((a.facts.length:Nat):Int)=(((c*a.facts.length:Nat)):Int):=by simp
   have hm2:c*a.facts.length<=c*24:=Nat.mul_le_mul_left _ hl
   rw [hm]
   split
   .rw [Yi (x:=(((c*a.facts.length:Nat)):Int)) yE yE,Yi (x:=z+(((c*a.facts.length:Nat)):Int)) yE yE,Yi yE yE]
    omega
   .rw [Yi (x:=(((c*a.facts.length:Nat)):Int)) yE yE,Yi yE yE]
    omega
  .omega
theorem Zzg {n V:Ze}{f:Zg}(hT:∀y∈V.nodes,y.tokens.length<=331776) (hA:∀a∈V.alphas,a.facts.length<=24) (h0:0<=V.tries):∀k:Nat,V.tries+ZaB*k<=9000000000000000000->V.tries<=trN n V f k/\trN n V f k<=V.tries+ZaB*k
 |0,_=>by simp [trN]
 |k+1,hb=>by
  have hs:ZaB=8294400:=by decide
  have ih:=Zzg (n:=n) (f:=f) hT hA h0 k (by rw [hs]at hb ⊢;omega)
  rw [hs]at hb ih ⊢
  rw [trN]
  split
  .omega
  .split
   .rename_i y hy
    split
    .rename_i u b hu hb'
     have hul:=hT u (AF hu)
     have hkn:=ZsE u.tokens b.tokens
     have:=ZBR (k:=Zb5 u.tokens b.tokens) (c:=u.tokens.length - Zb5 u.tokens b.tokens) (A:=V.alphas) (f:=f) (al:=y.alpha) (z:=trN n V f k) yE yE hA yE yE
     rw [hs]at this
     omega
    .omega
   .omega
theorem ZuF (N:Ze) (F G:List Zg):(YP (YP N G) F).alphas=(YP N F).alphas/\(YP (YP N G) F).nodes=(YP N F).nodes:=by
 constructor
 .show (N.alphas.map (Za9 G)).map (Za9 F)=N.alphas.map (Za9 F)
  rw [Aq];rfl
 .show (N.nodes.mapIdx (Qv N.nodes G)).mapIdx (Qv (N.nodes.mapIdx (Qv N.nodes G)) F)=N.nodes.mapIdx (Qv N.nodes F)
  refine Ai fun i=>?_
  rw [AJ,AJ,AJ]
  cases N.nodes[i]? with
  |none=>rfl
  |some y=>
   have e:=ZeQ (Zh0 N.nodes G) ((i:Nat):Int)
   show some ({ parent:=y.parent,cond:=y.cond,alpha:=y.alpha,tokens:=ZN (YW (N.nodes.mapIdx (Qv N.nodes G)) ((i:Nat):Int)) F }:ZV)=_
   rw [e]
   rfl
theorem Zpv {n:Ze}{F:List Zg}{f:Zg}(hS:ZH n.rules=true->∀r∈n.rules,SmN r) (h:ZeX n=true) (hF:Ya F=true) (ht:n.tries+ZaB*n.nodes.length<=9000000000000000000):ZeX (Zi3 n F f)=true/\(Zi3 n F f).facts=F/\(Zi3 n F f).rules=n.rules/\n.tries<=(Zi3 n F f).tries/\(Zi3 n F f).tries<=n.tries+ZaB*n.nodes.length/\(Zi3 n F f).nodes.length=n.nodes.length:=by
 have hV:=ZjI hS h
 obtain ⟨d,e⟩:=XJ hF
 have hT:∀y∈(YP n F).nodes,y.tokens.length<=331776:=fun y my=>(Zpe hV d e my).1
 have hA:∀a∈(YP n F).alphas,a.facts.length<=24:=fun a ma=>by
  obtain ⟨b,_,rfl⟩:=AB.1 ma
  exact AZ (Aa _ _) d
 unfold ZeX at h
 simp only[A4,decide_eq_true_iff]at h
 obtain ⟨⟨⟨h1,h2⟩,h3⟩,h4,h5,h6⟩:=h
 have c:=Zzg (n:=n) (V:=YP n F) (f:=f) hT hA h3 n.nodes.length ht
 refine ⟨?_,rfl,rfl,c.1,c.2,by show (n.nodes.mapIdx (Qv n.nodes F)).length=_;rw [BS]⟩
 obtain ⟨e1,e2⟩:=ZuF (Zbd n.rules []) F n.facts
 unfold ZeX
 simp only[A4,decide_eq_true_iff]
 refine ⟨⟨⟨h1,hF⟩,Int.le_trans h3 c.1⟩,h4,?_,?_⟩
 .show n.alphas.map (Za9 F)=(YP (Zbd n.rules []) F).alphas
  rw [<-e1,h5];rfl
 .show n.nodes.mapIdx (Qv n.nodes F)=(YP (Zbd n.rules []) F).nodes
  rw [<-e2,h6];rfl
end
section
open Classical
def nmT (k:Nat):ByteArray:=if k<9 then ⟨#[63,As (48+(k+1))]⟩ else ⟨#[63,As (48+(k+1) / 10),As (48+(k+1) % 10)]⟩
theorem ZtT (k:Nat) (h:k<99):nmK k=nmT k:=by
 unfold nmT
 split
 .rw [ZCS k (by assumption)];rfl
 .unfold nmK
  have e:((k:Nat):Int)+1=(((k+1:Nat)):Int):=by omega
  rw [e]
  unfold Lib.itoa
  rw [if_neg yE,AI,Lib.decDigits_two yE yE]
  rfl
theorem ZA9:∀i j:Fin 20,nmT i.val=nmT j.val->i=j:=by decide +kernel
theorem ZCj:∀i:Fin 20,ZS (nmT i.val)=true:=by decide +kernel
theorem ZsM {i j:Nat}(hi:i<20) (hj:j<20) (h:nmK i=nmK j):i=j:=by
 rw [ZtT i yE,ZtT j yE]at h
 exact congrArg Fin.val (ZA9 ⟨i,hi⟩ ⟨j,hj⟩ h)
theorem ZhG {i:Nat}(hi:i<20):ZS (nmK i)=true:=by
 rw [ZtT i yE]
 exact ZCj ⟨i,hi⟩
theorem NmI.name20 {acc:List Zo}{s:ByteArray}(h:NmI acc) (hl:acc.length<20):NmI (ZaW acc s):=by
 unfold ZaW
 split
 rotate_left
 .exact h
 rename_i hs
 have c:∀a v,ZQ (acc++[{ var:=s,value:=nmK acc.length }]) a=some v->ZQ acc a=some v\/a=s/\v=nmK acc.length:=fun a v e=>by
  rw [ZhB]at e
  cases hg:ZQ acc a with
  |some u=>rw [hg]at e;exact .inl e
  |none=>
   rw [hg]at e
   simp only at e
   split at e
   .rename_i he;exact .inr ⟨he.symm,(AE e).symm⟩
   .simp at e
 refine ⟨fun a v e=>?_,fun a b v ea eb=>?_⟩
 .rcases c a v e with e|⟨rfl,rfl⟩
  .obtain ⟨h1,k,hk,h2⟩:=h.var a v e
   exact ⟨h1,k,by rw [AA];omega,h2⟩
  .exact ⟨hs.1,acc.length,yG,rfl⟩
 .rcases c a v ea with xa|⟨xa,ev⟩<;>rcases c b v eb with xb|⟨xb,d⟩
  .exact h.inj a b v xa xb
  .obtain ⟨_,k,hk,h2⟩:=h.var a v xa
   have:=ZsM (i:=k) (j:=acc.length) yE hl (by rw [<-h2,d])
   omega
  .obtain ⟨_,k,hk,h2⟩:=h.var b v xb
   have:=ZsM (i:=k) (j:=acc.length) yE hl (by rw [<-h2,ev])
   omega
  .rw [xa,xb]
theorem Zju:∀(l:List ByteArray) (acc:List Zo),NmI acc->acc.length+l.length<=20->NmI (l.foldl ZaW acc)
 | [],_,h,_=>h
 |s::l,acc,h,hl=>by
  simp only[A6]at hl
  have:=ZpU acc s
  exact Zju l _ (h.name20 yE) yE
structure Zj9 (to:List Zo) (b c:List Zo):Prop where
 ok:Z8 b=true
 ok':Z8 c=true
 len:b.length=c.length
 to_:∀a v,ZQ to a=some v->ZQ c v=ZQ b a
 dom:∀a z,ZQ b a=some z->∃v,ZQ to a=some v
theorem Zj9.ext {to b c:List Zo}(hI:NmI to) (hto:to.length<=20) (h:Zj9 to b c) {a v w:ByteArray}(f:ZQ to a=some v):(∀b',Zdu b a w=some b'->∃c',Zdu c v w=some c'/\Zj9 to b' c')/\(Zdu b a w=none->Zdu c v w=none):=by
 obtain ⟨hv,k,hk,rfl⟩:=hI.var a v f
 have j:=ZhG (i:=k) yE
 have hg:=h.to_ a _ f
 by_cases hw:ZU w=true
 rotate_left
 .have n1:Zdu b a w=none:=if_neg fun hh=>hw hh.2.2
  have n2:Zdu c (nmK k) w=none:=if_neg fun hh=>hw hh.2.2
  rw [n1,n2]
  exact ⟨fun _ e=>by simp at e,fun _=>rfl⟩
 have n1:Zdu b a w=(match ZQ b a with|some g=>if g=w then some b else none|none=>if b.length=6 then none else some (ZeW b a w)):=if_pos ⟨h.ok,hv,hw⟩
 have n2:Zdu c (nmK k) w=(match ZQ c (nmK k) with|some g=>if g=w then some c else none|none=>if c.length=6 then none else some (ZeW c (nmK k) w)):=if_pos ⟨h.ok',j,hw⟩
 rw [n1,n2,hg]
 cases e:ZQ b a with
 |some g=>
  simp only
  by_cases e2:g=w
  .rw [if_pos e2,if_pos e2]
   exact ⟨fun b' e3=>by obtain rfl:=AE e3;exact ⟨c,rfl,h⟩,fun e3=>by simp at e3⟩
  .rw [if_neg e2,if_neg e2]
   exact ⟨fun b' e3=>by simp at e3,fun _=>rfl⟩
 |none=>
  simp only
  have hlen:=h.len
  by_cases e2:b.length=6
  .rw [if_pos e2,if_pos yE]
   exact ⟨fun b' e3=>by simp at e3,fun _=>rfl⟩
  .rw [if_neg e2,if_neg yE]
   refine ⟨fun b' e3=>?_,fun e3=>by simp at e3⟩
   obtain rfl:=AE e3
   have hx:Zdu b a w=some (ZeW b a w):=by rw [n1,e];exact if_neg e2
   have hy:Zdu c (nmK k) w=some (ZeW c (nmK k) w):=by rw [n2,hg,e];exact if_neg yE
   refine ⟨_,rfl,(Zkb hx).1,(Zkb hy).1,by rw [Zj4,Zj4];omega,fun u z d=>?_,fun u z d=>?_⟩
   rotate_left
   .rw [ZcP e]at d
    by_cases e4:a=u
    .exact ⟨_,e4 ▸ f⟩
    .rw [if_neg e4]at d
     exact h.dom u z d
   rw [ZcP (by rw [hg,e]),ZcP e]
   by_cases e4:a=u
   .subst e4
    rw [f]at d
    obtain rfl:=AE d
    rw [if_pos rfl,if_pos rfl]
   .rw [if_neg e4,if_neg fun e5=>e4 (hI.inj a u _ f (by rw [d,e5])),h.to_ u z d]
theorem Zi1 {to:List Zo}(hI:NmI to) (d:to.length<=20):∀{p f:List ByteArray}{b c:List Zo},(∀a∈p,Yo a=true)->(∀a∈p,ZS a=true->∃v,ZQ to a=some v)->Zj9 to b c->(∀b',Zao p f b=some b'->∃c',Zao (p.map (ZbM to)) f c=some c'/\Zj9 to b' c')/\(Zao p f b=none->Zao (p.map (ZbM to)) f c=none)
 | [],_,b,c,_,_,h=>⟨fun b' e=>by simp only[Zao,Am]at e;subst e;exact ⟨c,rfl,h⟩,fun e=>by simp [Zao]at e⟩
 |_::_,[],_,_,_,_,_=>⟨fun b' e=>by simp [Zao]at e,fun _=>rfl⟩
 |a::p,w::f,b,c,ht,hm,h=>by
  have j:∀x∈p,Yo x=true:=fun x mx=>ht x (by simp [mx])
  have l:∀x∈p,ZS x=true->∃v,ZQ to x=some v:=fun x mx=>hm x (by simp [mx])
  simp only[Zao,AL]
  by_cases ha:ZU a=true
  .rw [ZkG hI ha,if_pos ha,if_pos ha]
   by_cases e:a=w
   .rw [if_pos e,if_pos e]
    exact Zi1 hI d j l h
   .rw [if_neg e,if_neg e]
    exact ⟨fun _ e2=>by simp at e2,fun _=>rfl⟩
  .have hv:ZS a=true:=by
    have:=ht a yG
    unfold Yo at this
    rw [BG]at this
    exact this.resolve_left ha
   obtain ⟨v,g⟩:=hm a yG hv
   have er:ZbM to a=v:=by unfold ZbM;rw [g];rfl
   obtain ⟨_,k,hk,rfl⟩:=hI.var a v g
   have m:=ZhG (i:=k) yE
   rw [er,if_neg ha,if_neg (by rw [Zd3 m];simp)]
   obtain ⟨x1,x2⟩:=h.ext hI d (w:=w) g
   cases e:Zdu b a w with
   |none=>
    rw [x2 e]
    exact ⟨fun _ e2=>by simp at e2,fun _=>rfl⟩
   |some b1=>
    obtain ⟨c1,y1,y2⟩:=x1 b1 e
    rw [y1,A0,A0]
    exact Zi1 hI d j l y2
end
section
open Classical
def L2R {α β:Type}(R:α->β->Prop):List α->List β->Prop
 | [],[]=>True
 |a::l,b::m=>R a b/\L2R R l m
 |_,_=>False
theorem L2R.app {α β:Type}{R:α->β->Prop}:∀{l l':List α}{m m':List β},L2R R l m->L2R R l' m'->L2R R (l++l') (m++m')
 | [],_,[],_,_,h=>h
 |_::_,_,_::_,_,h,k=>⟨h.1,L2R.app h.2 k⟩
 | [],_,_::_,_,h,_=>h.elim
 |_::_,_,[],_,h,_=>h.elim
theorem L2R.flat {α β γ δ:Type}{R:α->β->Prop}{S:γ->δ->Prop}{f:α->List γ}{g:β->List δ}(c:∀a b,R a b->L2R S (f a) (g b)):∀{l:List α}{m:List β},L2R R l m->L2R S (l.flatMap f) (m.flatMap g)
 | [],[],_=>trivial
 |_::_,_::_,h=>by
  rw [Ad,Ad]
  exact (c _ _ h.1).app (L2R.flat c h.2)
 | [],_::_,h=>h.elim
 |_::_,[],h=>h.elim
section
variable {to:List Zo} (hI:NmI to) (hto:to.length<=20)
include hI hto
theorem ZmE {a:ByteArray}(ht:Yo a=true) (hm:ZS a=true->∃v,ZQ to a=some v):Yo (ZbM to a)=true:=by
 unfold Yo at ht ⊢
 rw [BG]at ht ⊢
 rcases ht with ht|ht
 .rw [ZkG hI ht];exact .inl ht
 .obtain ⟨v,hv⟩:=hm ht
  obtain ⟨_,k,hk,rfl⟩:=hI.var a v hv
  have er:ZbM to a=nmK k:=by unfold ZbM;rw [hv];rfl
  rw [er]
  exact .inr (ZhG yE)
theorem ZvY {p:Zi}(hp:ZZ p=true) (hm:∀a∈p.args,ZS a=true->∃v,ZQ to a=some v):ZZ { rel:=p.rel,args:=p.args.map (ZbM to) }=true:=by
 unfold ZZ at hp ⊢
 simp only[A4,decide_eq_true_iff,AN,Au]at hp ⊢
 refine ⟨hp.1,fun y my=>?_⟩
 obtain ⟨a,ma,rfl⟩:=AB.1 my
 exact ZmE hI hto (hp.2 a ma) (hm a ma)
theorem ZnB {p:Zi}{f:Zg}{b c:List Zo}(hp:ZZ p=true) (hm:∀a∈p.args,ZS a=true->∃v,ZQ to a=some v) (h:Zj9 to b c):
  (∀b',Xh p f b=some b'->∃c',Xh { rel:=p.rel,args:=p.args.map (ZbM to) } f c=some c'/\Zj9 to b' c')/\(Xh p f b=none->Xh { rel:=p.rel,args:=p.args.map (ZbM to) } f c=none):=by
 have e:ZeL { rel:=p.rel,args:=p.args.map (ZbM to) } f c=ZeL p f b:=by
  unfold ZeL
  rw [ZvY hI hto hp hm,hp,h.ok,h.ok',AN]
 unfold Xh
 rw [e]
 by_cases ho:ZeL p f b=true
 .rw [if_pos ho,if_pos ho]
  have ht:∀a∈p.args,Yo a=true:=by
   unfold ZZ at hp
   simp only[A4,Au]at hp
   exact hp.2
  exact Zi1 hI hto ht hm h
 .rw [if_neg ho,if_neg ho]
  exact ⟨fun _ e=>by simp at e,fun _=>rfl⟩
theorem ZzA {p:Zi}{f:Zg}{b c:List Zo}(hp:ZZ p=true) (hm:∀a∈p.args,ZS a=true->∃v,ZQ to a=some v) (h:Zj9 to b c):(Xh { rel:=p.rel,args:=p.args.map (ZbM to) } f c).isSome=(Xh p f b).isSome:=by
 obtain ⟨h1,h2⟩:=ZnB hI hto (f:=f) hp hm h
 cases e:Xh p f b with
 |none=>rw [h2 e]
 |some b'=>
  obtain ⟨c',e',_⟩:=h1 b' e
  rw [e'];rfl
theorem Zpa {a:ByteArray}{b c:List Zo}(ht:Yo a=true) (hm:ZS a=true->∃v,ZQ to a=some v) (h:Zj9 to b c):Xk c (ZbM to a)=Xk b a:=by
 by_cases ha:ZU a=true
 .rw [ZkG hI ha]
  unfold Xk
  rw [if_pos ha,if_pos ha]
 .have hv:ZS a=true:=by
   unfold Yo at ht
   rw [BG]at ht
   exact ht.resolve_left ha
  obtain ⟨v,d⟩:=hm hv
  have er:ZbM to a=v:=by unfold ZbM;rw [d];rfl
  have hg:=h.to_ a v d
  obtain ⟨_,k,hk,rfl⟩:=hI.var a v d
  rw [er,ZeF (ZhG yE),ZeF hv,hg]
set_option linter.unusedSectionVars false in
theorem Zo3:ZbM to ⟨#[]⟩=⟨#[]⟩:=by
 unfold ZbM
 cases hg:ZQ to ⟨#[]⟩ with
 |none=>rfl
 |some v=>exact absurd (hI.var _ v hg).1 (by decide +kernel)
theorem Zy1 {x:Zj}(hx:Yj x=true) (hm:∀a∈YM x,ZS a=true->∃v,ZQ to a=some v):Yj (ZgU to x)=true:=by
 unfold Yj at hx ⊢
 have b:∀a∈x.pattern.args,ZS a=true->∃v,ZQ to a=some v:=fun a ma=>hm a (by simp [YM,ma])
 have hk:(ZgU to x).kind=x.kind:=rfl
 rw [hk]
 split at hx
 .rename_i h1
  rw [if_pos h1]
  simp only[A4,ZL]at hx ⊢
  obtain ⟨⟨h2,h3⟩,h4⟩:=hx
  refine ⟨⟨ZvY hI hto h2 b,?_⟩,?_⟩
  .show ZbM to x.left=_
   rw [h3];exact Zo3 hI hto
  .show ZbM to x.right=_
   rw [h4];exact Zo3 hI hto
 .rename_i h1
  rw [if_neg h1]
  split at hx
  .rename_i h2
   rw [if_pos h2]
   simp only[A4]at hx ⊢
   obtain ⟨⟨h3,h4⟩,h5⟩:=hx
   refine ⟨⟨?_,ZmE hI hto h4 (hm _ (by simp [YM]))⟩,ZmE hI hto h5 (hm _ (by simp [YM]))⟩
   unfold Y4 at h3 ⊢
   simpa [ZgU]using h3
  .simp at hx
theorem Zwq {x:Zj}{b c:List Zo}(F:List Zg) (hx:Yj x=true) (hm:∀a∈YM x,ZS a=true->∃v,ZQ to a=some v) (h:Zj9 to b c):ZiK (ZgU to x) c F=ZiK x b F:=by
 have hc:=Zy1 hI hto hx hm
 have i:∀a∈x.pattern.args,ZS a=true->∃v,ZQ to a=some v:=fun a ma=>hm a (by simp [YM,ma])
 unfold ZiK
 rw [if_pos (show Yj (ZgU to x)=true/\Z8 c=true from ⟨hc,h.ok'⟩),if_pos (show Yj x=true/\Z8 b=true from ⟨hx,h.ok⟩)]
 have hk:(ZgU to x).kind=x.kind:=rfl
 rw [hk]
 by_cases d:x.kind=1\/x.kind=2
 .have hp:ZZ x.pattern=true:=by
   unfold Yj at hx
   rw [if_pos d]at hx
   simp only[A4]at hx
   exact hx.1.1
  have e:Qz (ZgU to x).pattern c F=Qz x.pattern b F:=by
   unfold Qz
   congr 1
   funext f
   exact ZzA hI hto hp i h
  rw [e]
  rcases d with h1|h1
  .rw [if_pos h1,if_pos h1]
  .rw [if_neg yE,if_pos h1,if_neg yE,if_pos h1]
 .rw [if_neg fun h1=>d (.inl h1),if_neg fun h1=>d (.inr h1),if_neg fun h1=>d (.inl h1),if_neg fun h1=>d (.inr h1)]
  have g:=hx
  unfold Yj at g
  rw [if_neg d]at g
  split at g
  .simp only[A4]at g
   unfold Zrj
   rw [hc,hx,h.ok,h.ok',hk]
   have e1:Xk c (ZgU to x).left=Xk b x.left:=Zpa hI hto g.1.2 (hm _ (by simp [YM])) h
   have e2:Xk c (ZgU to x).right=Xk b x.right:=Zpa hI hto g.2 (hm _ (by simp [YM])) h
   rw [e1,e2]
  .simp at g
def ZuA (to:List Zo) (t u:Zs):Prop:=t.facts=u.facts/\Zj9 to t.binding u.binding
omit hI hto in
theorem L2R.fm {R:Zs->Zs->Prop}{p q:Zg->Option Zs}:∀(F:List Zg),(∀f∈F,(∀a,p f=some a->∃b,q f=some b/\R a b)/\(p f=none->q f=none))->L2R R (F.filterMap p) (F.filterMap q)
 | [],_=>trivial
 |f::F,h=>by
  have ih:=L2R.fm F fun g mg=>h g (by simp [mg])
  obtain ⟨h1,h2⟩:=h f yG
  cases e:p f with
  |none=>rw [BT e,BT (h2 e)];exact ih
  |some a=>
   obtain ⟨b,e',hr⟩:=h1 a e
   rw [BU e,BU e']
   exact ⟨hr,ih⟩
theorem Zzh {x:Zj}{t u:Zs}(F:List Zg) (hx:Yj x=true) (hm:∀a∈YM x,ZS a=true->∃v,ZQ to a=some v) (h:ZuA to t u):L2R (ZuA to) (X1 x F t) (X1 (ZgU to x) F u):=by
 have hk:(ZgU to x).kind=x.kind:=rfl
 unfold X1
 rw [hk,Zwq hI hto F hx hm h.2]
 by_cases h1:x.kind=1
 .rw [if_pos h1,if_pos h1]
  have hp:ZZ x.pattern=true:=by
   unfold Yj at hx
   rw [if_pos (.inl h1)]at hx
   simp only[A4]at hx
   exact hx.1.1
  have b:∀a∈x.pattern.args,ZS a=true->∃v,ZQ to a=some v:=fun a ma=>hm a (by simp [YM,ma])
  refine L2R.fm F fun f mf=>?_
  obtain ⟨m1,m2⟩:=ZnB hI hto (f:=f) hp b h.2
  refine ⟨fun a ea=>?_,fun ea=>?_⟩
  .obtain ⟨b',e1,rfl⟩:=AK.1 ea
   obtain ⟨c',e2,hr⟩:=m1 b' e1
   refine ⟨{ facts:=u.facts++[f],binding:=c' },?_,by rw [h.1],hr⟩
   show (Xh { rel:=x.pattern.rel,args:=x.pattern.args.map (ZbM to) } f u.binding).map _=_
   rw [e2];rfl
  .show (Xh { rel:=x.pattern.rel,args:=x.pattern.args.map (ZbM to) } f u.binding).map _=_
   rw [m2 (by simpa using ea)];rfl
 .rw [if_neg h1,if_neg h1]
  split
  .exact ⟨h,trivial⟩
  .trivial
theorem ZuR (F:List Zg) (l:List Zj) (hx:∀x∈l,Yj x=true) (hm:∀x∈l,∀a∈YM x,ZS a=true->∃v,ZQ to a=some v):L2R (ZuA to) (ZN l F) (ZN (l.map (ZgU to)) F):=by
 have key:∀(l:List Zj) (ts us:List Zs),(∀x∈l,Yj x=true)->(∀x∈l,∀a∈YM x,ZS a=true->∃v,ZQ to a=some v)->L2R (ZuA to) ts us->L2R (ZuA to) (l.foldl (fun ts x=>Zbx x F ts) ts) ((l.map (ZgU to)).foldl (fun ts x=>Zbx x F ts) us):=by
  intro l
  induction l with
  |nil=>intro ts us _ _ h;exact h
  |cons x l ih=>
   intro ts us hx hm h
   exact ih _ _ (fun y my=>hx y (by simp [my])) (fun y my=>hm y (by simp [my])) (L2R.flat (fun a b c=>Zzh hI hto F (hx x yG) (hm x yG) c) h)
 exact key l [ZnV] [ZnV] hx hm ⟨⟨rfl,rfl,rfl,rfl,fun _ _ _=>rfl,fun _ _ h=>by simp [ZnV,ZQ]at h⟩,trivial⟩
end
theorem ZvT {r:Zh}(hr:Yh r=true):NmI (ZeD r)/\(ZeD r).length<=20/\∀x∈r.cond,Yj x=true:=by
 have c:=hr
 unfold Yh at c
 simp only[A4,decide_eq_true_iff]at c
 obtain ⟨⟨⟨⟨⟨⟨⟨⟨⟨_,_⟩,_⟩,_⟩,h4⟩,_⟩,_⟩,hc⟩,_⟩,_⟩:=c
 have hx:∀x∈r.cond,Yj x=true:=Zjn (fun i x hh=>by simp only[A4]at hh;exact hh.1.1) hc
 have d:(r.cond.flatMap YM).length<=20:=by
  have key:∀l:List Zj,(∀x∈l,Yj x=true)->(l.flatMap YM).length<=5*l.length:=by
   intro l
   induction l with
   |nil=>intro _;simp
   |cons x l ih=>
    intro h
    have h1:=ih fun y my=>h y (by simp [my])
    have h2:(YM x).length<=5:=by
     have hx:=h x yG
     unfold Yj at hx
     unfold YM
     rw [AA]
     split at hx
     .simp only[A4]at hx
      have:=hx.1.1
      unfold ZZ at this
      simp only[A4,decide_eq_true_iff]at this
      simp;omega
     .split at hx
      .simp only[A4]at hx
       have:=hx.1.1
       unfold Y4 at this
       simp at this
       simp [this]
      .simp at hx
    rw [Ad,AA,A6]
    omega
  have:=key r.cond hx
  omega
 have hI:NmI (ZeD r):=Zju _ [] ⟨fun a v e=>by simp [ZQ]at e,fun a b v e=>by simp [ZQ]at e⟩ (by simpa using d)
 have f:(ZeD r).length<=20:=by
  have:=Zj8 (r.cond.flatMap YM) []
  simp only[B4]at this
  show ((r.cond.flatMap YM).foldl ZaW []).length<=20
  omega
 exact ⟨hI,f,hx⟩
theorem ZyT {r:Zh}(hr:Yh r=true) (F:List Zg):L2R (ZuA (ZeD r)) (ZN r.cond F) (ZN (XV r) F):=by
 obtain ⟨hI,b,hx⟩:=ZvT hr
 exact ZuR hI b F r.cond hx fun x mx a ma ha=>ZjS _ [] a (Ay.2 ⟨x,mx,ma⟩) ha
end
section
open Classical
theorem ZkN:∀{l:List Zo}{x:Zo},(l.map (·.var)).Nodup->x∈l->ZQ l x.var=some x.value
 |y::l,x,h,mx=>by
  simp only[AL,AW]at h
  rcases AR.1 mx with rfl|mx
  .exact if_pos rfl
  .have:¬y.var=x.var:=fun e=>h.1 (by rw [e];exact BF mx)
   exact (if_neg this).trans (ZkN h.2 mx)
theorem Zlr:∀(l:List ByteArray) (acc:List Zo),(acc.map (·.var)).Nodup->((l.foldl ZaW acc).map (·.var)).Nodup
 | [],_,h=>h
 |s::l,acc,h=>by
  refine Zlr l _ ?_
  unfold ZaW
  split
  .rename_i hc
   rw [Ae,BV]
   refine ⟨h,yG,fun a ma b mb e=>?_⟩
   simp at mb
   obtain ⟨x,mx,rfl⟩:=AB.1 ma
   exact ZkM hc.2 x mx (by rw [e,mb])
  .exact h
theorem ZmI:∀{b:List Zo}{a:Option ByteArray},YQ a b=true->(b.map (·.var)).Nodup
 | [],_,_=>by simp
 |x::b,a,h=>by
  simp only[YQ,A4]at h
  rw [AL,AW]
  refine ⟨fun m=>?_,ZmI h.2⟩
  obtain ⟨y,my,e⟩:=AB.1 m
  have:=(ZfJ h.2 y my).2 _ rfl
  exact ZkQ this e.symm
theorem Zmk {b:List Zo}{p a:ByteArray}(h:YQ (some p) b=true) (ha:a=p\/sLt a p=true):ZQ b a=none:=by
 cases e:ZQ b a with
 |none=>rfl
 |some z=>
  obtain ⟨x,mx,rfl,_⟩:=ZfV e
  have h1:=(ZfJ h x mx).2 _ rfl
  rcases ha with ha|ha
  .exact absurd ha.symm (ZkQ h1)
  .rw [ZhZ h1]at ha;simp at ha
theorem ZpD:∀{b c:List Zo}{p q:Option ByteArray},YQ p b=true->YQ q c=true->(∀a,ZQ b a=ZQ c a)->b=c
 | [],[],_,_,_,_,_=>rfl
 | [],y::c,_,_,_,_,h=>by have:=h y.var;simp [ZQ]at this
 |x::b,[],_,_,_,_,h=>by have:=h x.var;simp [ZQ]at this
 |x::b,y::c,p,q,hb,hc,h=>by
  simp only[YQ,A4]at hb hc
  have f:x.var=y.var:=by
   refine Classical.byContradiction fun d=>?_
   cases e:sLt x.var y.var with
   |true=>
    have h1:=h x.var
    simp only[ZQ,if_true]at h1
    rw [if_neg fun e=>d e.symm,Zmk hc.2 (.inr e)]at h1
    simp at h1
   |false=>
    have e':=Zeh e d
    have h1:=h y.var
    simp only[ZQ,if_true]at h1
    rw [if_neg d,Zmk hb.2 (.inr e')]at h1
    simp at h1
  have hv:x.value=y.value:=by
   have h1:=h x.var
   simp only[ZQ,if_true]at h1
   rw [if_pos f.symm]at h1
   exact AE h1
  have hx:x=y:=by cases x;cases y;simp_all
  subst hx
  rw [ZpD hb.2 hc.2 fun a=>?_]
  by_cases e:x.var=a
  .rw [Zmk hb.2 (.inl e.symm),Zmk hc.2 (.inl e.symm)]
  .have h1:=h a
   simp only[ZQ]at h1
   rw [if_neg e,if_neg e]at h1
   exact h1
theorem ZyL {b c:List Zo}(hb:Z8 b=true) (hc:Z8 c=true) (h:∀a,ZQ b a=ZQ c a):b=c:=by
 unfold Z8 at hb hc
 rw [A4]at hb hc
 exact ZpD hb.2 hc.2 h
theorem Zo8 {b:List Zo}(hb:Z8 b=true):(b.map (·.var)).Nodup/\(∀x∈b,ZU x.value=true)/\b.length<=6:=by
 unfold Z8 at hb
 rw [A4,decide_eq_true_iff]at hb
 refine ⟨ZmI hb.2,fun x mx=>?_,hb.1⟩
 have:=(ZfJ hb.2 x mx).1
 unfold ZeG at this
 rw [A4]at this
 exact this.2
def Zki (c:List Zo) (acc:List Zo) (x:Zo):List Zo:=match Xk c x.value with|some v=>(Zdu acc x.var v).getD []|none=>acc
theorem Zwk {to b c acc:List Zo}(hI:NmI to) (hto:to.length<=20) (h:Zj9 to b c) {x:Zo}(hx:ZQ to x.var=some x.value) (h1:Z8 acc=true) (h2:∀a z,ZQ acc a=some z->ZQ b a=some z) (d:ZQ acc x.var=none):Z8 (Zki c acc x)=true/\∀a,ZQ (Zki c acc x) a=if x.var=a then ZQ b x.var else ZQ acc a:=by
 obtain ⟨hv,k,hk,l⟩:=hI.var _ _ hx
 have o:=ZhG (i:=k) yE
 have f:Xk c x.value=ZQ b x.var:=by
  rw [ZeF (by rw [l];exact o)]
  exact h.to_ _ _ hx
 unfold Zki
 rw [f]
 cases hb:ZQ b x.var with
 |none=>
  refine ⟨h1,fun a=>?_⟩
  by_cases e:x.var=a
  .subst e;rw [if_pos rfl];exact d
  .rw [if_neg e]
 |some w=>
  obtain ⟨p,mp,e1,e2⟩:=ZfV hb
  obtain ⟨b1,b2,b3⟩:=Zo8 h.ok
  have hw:ZU w=true:=by rw [<-e2];exact b2 p mp
  obtain ⟨a1,a2,a3⟩:=Zo8 h1
  have g:(x.var::acc.map (·.var)).length<=(b.map (·.var)).length:=by
   refine Zpb (AW.2 ⟨fun m=>?_,a1⟩) fun y my=>?_
   .obtain ⟨y,my,e⟩:=AB.1 m
    exact ZkM d y my e
   .rcases AR.1 my with rfl|my
    .exact AB.2 ⟨p,mp,e1⟩
    .obtain ⟨z,mz,rfl⟩:=AB.1 my
     obtain ⟨q,mq,e3,_⟩:=ZfV (h2 _ _ (ZkN a1 mz))
     exact AB.2 ⟨q,mq,e3⟩
  simp only[A6,AN]at g
  have j:Zdu acc x.var w=some (ZeW acc x.var w):=by
   rw [Znt h1 hv hw,d]
   exact if_neg yE
  simp only
  rw [j,Option.getD_some]
  refine ⟨(Zkb j).1,fun a=>?_⟩
  rw [ZcP d]
theorem ZvC {to b c:List Zo}(hI:NmI to) (f:to.length<=20) (h:Zj9 to b c) (hn:(to.map (·.var)).Nodup):∀(l d acc:List Zo),to=d++l->Z8 acc=true->(∀a,ZQ acc a=if a∈d.map (·.var) then ZQ b a else none)->Z8 (l.foldl (Zki c) acc)=true/\∀a,ZQ (l.foldl (Zki c) acc) a=if a∈to.map (·.var) then ZQ b a else none
 | [],d,acc,e,h1,h2=>by
  rw [B8]at e
  subst e
  exact ⟨h1,h2⟩
 |x::l,d,acc,e,h1,h2=>by
  have mx:x∈to:=by rw [e];simp
  have hx:=ZkN hn mx
  have g:x.var∉d.map (·.var):=by
   intro m
   rw [e,Ae,AL]at hn
   exact (BV.1 hn).2.2 _ m _ (List.mem_cons_self ..) rfl
  have i:ZQ acc x.var=none:=by rw [h2,if_neg g]
  obtain ⟨q1,q2⟩:=Zwk hI f h hx h1 (fun a z ha=>by
   rw [h2]at ha
   split at ha
   .exact ha
   .simp at ha) i
  refine ZvC hI f h hn l (d++[x]) _ (by rw [e];simp) q1 fun a=>?_
  rw [q2,h2]
  by_cases e1:x.var=a
  .subst e1;simp
  .have:a∈(d++[x]).map (·.var)↔a∈d.map (·.var):=by
    rw [Ae,AH]
    exact ⟨fun hh=>hh.elim yi fun hh=>by simp at hh;exact absurd hh.symm e1,.inl⟩
   rw [if_neg e1]
   by_cases e2:a∈d.map (·.var)
   .rw [if_pos e2,if_pos (this.2 e2)]
   .rw [if_neg e2,if_neg fun hh=>e2 (this.1 hh)]
theorem Zye {l:List Zo}{a v:ByteArray}(h:ZQ l a=some v):a∈l.map (·.var):=by
 obtain ⟨x,mx,e,_⟩:=ZfV h
 exact AB.2 ⟨x,mx,e⟩
theorem Zy2 {to b c:List Zo}(hI:NmI to) (d:to.length<=20) (h:Zj9 to b c) (hn:(to.map (·.var)).Nodup):to.foldl (Zki c) []=b:=by
 obtain ⟨h1,h2⟩:=ZvC hI d h hn to [] [] rfl rfl fun a=>by rw [if_neg yG];rfl
 refine ZyL h1 h.ok fun a=>?_
 rw [h2]
 split
 .rfl
 .rename_i hh
  cases e:ZQ b a with
  |none=>rfl
  |some z=>
   obtain ⟨v,hv⟩:=h.dom a z e
   exact absurd (Zye hv) hh
theorem Zup {n:Ze}{p:Int}{x:Zj}(h:ZjF n) (hp:0<=p/\p<n.nodes.length):YW (ZM n p x).2.nodes (ZM n p x).1=YW n.nodes p++[x]/\∃z,(ZM n p x).2.nodes=n.nodes++z:=by
 unfold ZM
 split
 .rename_i i hi
  obtain ⟨y,h1,h2,h3,h4,h5⟩:=Zhe hi
  rw [Nat.sub_zero]at h2
  have b:=h.par i y h3 h2
  refine ⟨?_,[],yG⟩
  simp only
  rw [ZfT (y:=y) yE (by simpa using h2) b.2,h4,h5]
 .have ha:∀a:Int×Ze,a=(if x.kind=1\/x.kind=2 then XE n (Zbb x.pattern) else (-1,n))->a.2.nodes=n.nodes:=by
   rintro a rfl
   split
   .unfold XE
    split<;>rfl
   .rfl
  generalize (if x.kind=1\/x.kind=2 then XE n (Zbb x.pattern) else (-1,n))=a at *
  simp only
  refine ⟨?_,_,rfl⟩
  rw [ZfT (y:={ parent:=p,cond:=x,alpha:=a.1,tokens:=[] }) (by have:=h.one;omega) yG hp.2,Zh4 _ _ hp.2]
theorem ZpF:∀(l:List Zj) (p:Int) (n:Ze),ZjF n->0<=p/\p<n.nodes.length->(YW n.nodes p).length+l.length<=4->
  YW (YF l (p,n)).2.nodes (YF l (p,n)).1=YW n.nodes p++l/\(∃z,(YF l (p,n)).2.nodes=n.nodes++z)/\0<=(YF l (p,n)).1/\(YF l (p,n)).1<(YF l (p,n)).2.nodes.length
 | [],p,n,_,hp,_=>⟨by simp [YF],⟨[],by simp [YF]⟩,hp⟩
 |x::l,p,n,h,hp,hl=>by
  simp only[A6]at hl
  obtain ⟨c1,c2,c3,c4,c5,c6,c7⟩:=Ztm (x:=x) h hp yE
  obtain ⟨d1,z,d2⟩:=Zup (x:=x) h hp
  have e:YF (x::l) (p,n)=YF l ((ZM n p x).1,(ZM n p x).2):=rfl
  rw [e]
  obtain ⟨w1,⟨z',w2⟩,w3⟩:=ZpF l (ZM n p x).1 (ZM n p x).2 c1 ⟨c2,c3⟩ yE
  exact ⟨by rw [w1,d1];simp,⟨z++z',by rw [w2,d2];simp⟩,w3⟩
structure Zzd (R:List Zh) (n:Ze):Prop where
 len:n.ends.length=R.length
 at_:∀(i:Nat) (r:Zh) (e:Int),R[i]?=some r->n.ends[i]?=some e->0<=e/\e<n.nodes.length/\YW n.nodes e=XV r
theorem ZwP {n:Ze}{R:List Zh}{r:Zh}(h:ZjF n) (hr:r.cond.length<=4) (he:Zzd R n):Zzd (R++[r]) (Xl n r):=by
 have h1:=h.one
 have h0:YW n.nodes 0=[]:=ZfY yE
 obtain ⟨w1,⟨z,w2⟩,w3,w4⟩:=ZpF (XV r) 0 n h ⟨yE,yE⟩ (by rw [h0,ZcW];simpa using hr)
 have hn:(Xl n r).nodes=n.nodes++z:=w2
 have a:(Xl n r).ends=n.ends++[(YF (XV r) (0,n)).1]:=rfl
 refine ⟨by rw [a];simp [he.len],fun i q e hq hi=>?_⟩
 rw [a]at hi
 rcases AX i R.length with b|hge
 .rw [AT b]at hq
  rw [AT (by rw [he.len];exact b)]at hi
  obtain ⟨e1,e2,e3⟩:=he.at_ i q e hq hi
  exact ⟨e1,by rw [hn,AA];omega,by rw [hn,Zh4 _ _ e2,e3]⟩
 .have c:=(AC.1 hq).1
  rw [AA,AP]at c
  obtain rfl:i=R.length:=by omega
  rw [Ah (A5 _),Ao]at hq
  rw [Ah (by rw [he.len];exact A5 _),he.len,Ao]at hi
  simp at hq hi
  subst hq hi
  refine ⟨w3,w4,?_⟩
  have:YW (Xl n r).nodes (YF (XV r) (0,n)).1=YW (YF (XV r) (0,n)).2.nodes (YF (XV r) (0,n)).1:=rfl
  rw [this,w1,h0,AQ]
theorem Zpw:∀(l R:List Zh) (n:Ze),ZjF n->(∀r∈l,r.cond.length<=4)->Zzd R n->Zzd (R++l) (l.foldl Xl n)
 | [],R,n,_,_,he=>by simpa using he
 |r::l,R,n,h,hl,he=>by
  have:=Zpw l (R++[r]) (Xl n r) (Zrp h (hl r yG)).1 (fun q mq=>hl q (by simp [mq])) (ZwP h (hl r yG) he)
  simpa using this
theorem Zp8 {R:List Zh}(hR:∀r∈R,r.cond.length<=4) (t:List Zs):Zzd R (Zbd R t):=by
 have:=Zpw R [] (Zag R t) (Zjz R t) hR ⟨rfl,fun i r e h=>by simp at h⟩
 rwa [AQ]at this
def mkU (r:Zh) (t:Zs):Yk:={ rule:=r.name,facts:=t.facts,binding:=(ZeD r).foldl (Zki t.binding) [] }
theorem L2R.map {α β γ:Type}{R:α->β->Prop}{f:α->γ}{g:β->γ}(hf:∀a b,R a b->g b=f a):∀{l:List α}{m:List β},L2R R l m->m.map g=l.map f
 | [],[],_=>rfl
 |a::l,b::m,⟨h1,h2⟩=>by rw [AL,AL,hf a b h1,L2R.map hf h2]
 | [],_::_,h=>h.elim
 |_::_,[],h=>h.elim
theorem Zqq {r:Zh}(hr:Yh r=true) (F:List Zg):(ZN (XV r) F).map (mkU r)=(ZN r.cond F).map (mkM r):=by
 obtain ⟨hI,d,_⟩:=ZvT hr
 refine L2R.map (R:=ZuA (ZeD r)) (fun a b c=>?_) (ZyT hr F)
 unfold mkU mkM
 rw [Zy2 hI d c.2 (Zlr _ _ yG),c.1]
def Ziq (R:List Zh) (F:List Zg):List Yk:=R.flatMap fun r=>(ZN r.cond F).map (mkM r)
theorem ZuJ {n:Ze}(hl:n.rules.length<=6) (hR:∀r∈n.rules,r.cond.length<=4) (h:ZeX n=true) {i:Nat}{r:Zh}(hr:n.rules[i]?=some r):∃e y,n.ends[i]?=some e/\0<=e/\n.nodes[e.toNat]?=some y/\y.tokens=ZN (XV r) n.facts:=by
 have E:=Zp8 hR []
 unfold ZeX at h
 simp only[A4,decide_eq_true_iff]at h
 obtain ⟨_,h1,_,h3⟩:=h
 have a:=(AC.1 hr).1
 obtain ⟨e,he⟩:∃e,(Zbd n.rules []).ends[i]?=some e:=⟨_,A9 (by rw [E.len];exact a)⟩
 obtain ⟨e1,e2,e3⟩:=E.at_ i r e hr he
 obtain ⟨y,hy⟩:∃y,(Zbd n.rules []).nodes[e.toNat]?=some y:=⟨_,A9 yE⟩
 refine ⟨e,Qv (Zbd n.rules []).nodes n.facts e.toNat y,by rw [h1];exact he,e1,?_,?_⟩
 .rw [h3]
  show ((Zbd n.rules []).nodes.mapIdx _)[e.toNat]?=_
  rw [AJ,hy];rfl
 .show ZN (YW _ ((e.toNat:Nat):Int)) _=_
  rw [Int.toNat_of_nonneg e1,e3]
end
section
open Classical
theorem ZxZ {α ρ:Type}{l:List α}{i:Nat}(hi:i<=l.length) {q:α->Prop}{body:Int->Option (Int ⊕ ρ)}{r1 r2:ρ}
  (a:∀(u:Nat) (x:α),u<i->l[u]?=some x->(q x->body ((u:Nat):Int)=some (.inr r1))/\(¬q x->body ((u:Nat):Int)=some (.inl (((u+1:Nat)):Int))))
  (c:body ((i:Nat):Int)=some (.inr r2)):iter body 0=some (if ∃y∈l.take i,q y then r1 else r2):=by
 have key:∀(m u:Nat),u+m=i->(∀y∈l.take u,¬q y)->iter body ((u:Nat):Int)=some (if ∃y∈l.take i,q y then r1 else r2):=by
  intro m
  induction m with
  |zero=>
   intro u hu b
   have e:u=i:=by omega
   subst e
   rw [YE c,if_neg fun ⟨y,my,hy⟩=>b y my hy]
  |succ m ih=>
   intro u hu b
   have hx:l[u]?=some l[u]:=A9 yE
   obtain ⟨h1,h2⟩:=a u _ yE hx
   by_cases hq:q l[u]
   .rw [YE (h1 hq),if_pos ⟨l[u],List.mem_take_iff_getElem.2 ⟨u,yE,rfl⟩,hq⟩]
   .rw [Y6 (h2 hq)]
    refine ih (u+1) yE fun y my=>?_
    rw [An,hx,AH]at my
    rcases my with my|my
    .exact b y my
    .simp at my;subst my;exact hq
 exact key i 0 yE yG
theorem ZxO {m:List (Int×Bool)}{k y:Int}:Zby (ZfG m k true) y false=if y=k then true else Zby m y false:=by
 unfold Zby
 induction m with
 |nil=>
  by_cases h:y=k<;>simp [ZfG,ZeR,h]
 |cons p r ih=>
  simp only[ZfG]
  by_cases h:k=p.1
  .subst h
   rw [if_pos rfl]
   by_cases h2:y=p.1
   .simp [ZeR,h2]
   .simp [ZeR,h2]
  .rw [if_neg h]
   by_cases h2:y=p.1
   .subst h2
    have:¬p.1=k:=fun e=>h e.symm
    simp [ZeR,this]
   .simp only[ZeR,if_neg h2];exact ih
theorem Zgn (l:List Zv) (hl:l.length<=1048576) (h:∀x∈l,x.fact.args.length<=1048576):Za7 l=some (l.map (·.fact)):=by
 unfold Za7
 rw [Xf (g:=(·.fact))]
 .simp
 .intro j x s mx hs
  rw [Ym _ (h x mx),A0,Zk _ (by simp at hs;omega)]
theorem Zru (l:List Zv) (hl:l.length<=1048576) (h:∀x∈l,x.fact.args.length<=1048576):Zef l=some (l.map (·.fact)):=by
 unfold Zef
 rw [Xf (g:=(·.fact))]
 .simp
 .intro j x s mx hs
  rw [Zs4 _ (h x mx),A0,Zk _ (by simp at hs;omega)]
def Zrx (l:List Zv) (i:Nat) (x:Zv):Prop:=(1<=x.time/\x.time<=200)/\∀y∈l.take i,y.time≠x.time
noncomputable def Zsz (l:List Zv):Bool:=if (∀(j:Nat) (x:Zv),l[j]?=some x->Zrx l j x) then Ya (l.map (·.fact)) else false
theorem Zis (l:List Zv) (hl:l.length<=1048576) (h:∀x∈l,x.fact.args.length<=1048576):ZcX l=some (Zsz l):=by
 unfold ZcX Zsz
 have key:∀(r a:List Zv) (mp:List (Int×Bool)),l=a++r->(∀k,Zby mp k false=true↔∃y∈a,y.time=k)->
   forL (σ:=(List (Int×Bool)))
  (fun (i7:Nat) (x8:Zv) b=>
   if (decide (x8.time<1))=true then
    some (.inr false)
   else
    if (decide (200<x8.time))=true then
     some (.inr false)
    else
     if (Zby b x8.time false)=true then
      some (.inr false)
     else
      some (.inl (ZfG b x8.time true)))
  (fun b=>
   (Za7 l).bind fun v9=>
   (Q3 v9).bind fun g=>
   some g)
  r a.length mp=if (∀(j:Nat) (x:Zv),r[j]?=some x->Zrx l (a.length+j) x) then some (Ya (l.map (·.fact))) else some false:=by
  intro r
  induction r with
  |nil=>
   intro a mp _ _
   rw [if_pos fun j x hx=>by simp at hx]
   show (Za7 l).bind _=_
   rw [Zgn l hl h,A0,Zdh];rfl
  |cons x r ih=>
   intro a mp e d
   have c:l.take a.length=a:=by rw [e];simp
   by_cases hq:Zrx l a.length x
   .have i:=hq
    obtain ⟨⟨q1,q2⟩,q3⟩:=i
    rw [c]at q3
    have f:¬Zby mp x.time false=true:=fun hh=>by
     obtain ⟨y,my,e⟩:=(d _).1 hh
     exact q3 y my e
    rw [ZD (s':=ZfG mp x.time true) (by rw [if_neg (by simp;omega),if_neg (by simp;omega),if_neg f])]
    have:=ih (a++[x]) (ZfG mp x.time true) (by rw [e];simp) fun k=>by
     rw [ZxO]
     by_cases hk:k=x.time
     .subst hk;simp
     .rw [if_neg hk,d]
      constructor
      .rintro ⟨y,my,ey⟩;exact ⟨y,by simp [my],ey⟩
      .rintro ⟨y,my,ey⟩
       rcases AH.1 my with my|my
       .exact ⟨y,my,ey⟩
       .exfalso
        rw [List.mem_singleton]at my
        exact hk (by rw [<-ey,my])
    rw [AA,AP]at this
    rw [this]
    by_cases e2:∀(j:Nat) (y:Zv),r[j]?=some y->Zrx l (a.length+1+j) y
    .rw [if_pos e2,if_pos fun j y hy=>?_]
     cases j with
     |zero=>simp at hy;subst hy;exact hq
     |succ j=>rw [show a.length+(j+1)=a.length+1+j by omega];exact e2 j y (by simpa using hy)
    .rw [if_neg e2,if_neg fun hh=>e2 fun j y hy=>by
      have:=hh (j+1) y (by simpa using hy)
      rw [show a.length+1+j=a.length+(j+1) by omega];exact this]
   .rw [if_neg fun hh=>hq (by simpa using hh 0 x yG)]
    refine ZX ?_
    by_cases h1:x.time<1
    .rw [if_pos (by simpa using h1)]
    rw [if_neg (by simpa using h1)]
    by_cases h2:200<x.time
    .rw [if_pos (by simpa using h2)]
    rw [if_neg (by simpa using h2),if_pos]
    refine (d _).2 (Classical.byContradiction fun f=>hq ⟨⟨yE,yE⟩,fun y my e=>f ⟨y,?_,e⟩⟩)
    rw [c]at my;exact my
 have:=key l [] [] rfl (fun k=>by simp [Zby,ZeR])
 simp only[B4,AO]at this
 rw [this]
 split<;>rfl
theorem ZwB {R:List Zh}{n:ByteArray}(h:¬Zfk R n<0):∃r,atI R (Zfk R n)=some r:=by
 have key:∀(l:List Zh) (i:Nat),∃z,forL (σ:=Unit) (ρ:=Int) (fun (i4:Nat) (x5:Zh) _=>if (sEq x5.name n)=true then some (.inr ((i4:Nat):Int)) else some (.inl ())) (fun _=>some (-1)) l i ()=some z/\(z<0\/∃(j:Nat) (r:Zh),z=((i+j:Nat):Int)/\l[j]?=some r):=by
  intro l
  induction l with
  |nil=>intro i;exact ⟨-1,rfl,.inl yE⟩
  |cons x l ih=>
   intro i
   by_cases hx:sEq x.name n=true
   .exact ⟨_,ZX (by rw [if_pos hx]),.inr ⟨0,x,yG,rfl⟩⟩
   .obtain ⟨z,e,hz⟩:=ih (i+1)
    refine ⟨z,(ZD (s':=()) (by rw [if_neg hx])).trans e,hz.imp id ?_⟩
    rintro ⟨j,r,e1,e2⟩
    exact ⟨j+1,r,by rw [e1];congr 1;omega,by simpa using e2⟩
 obtain ⟨z,e,hz⟩:=key R 0
 have e2:XS R n=some z:=e
 rw [Zbm]at e2
 obtain rfl:=AE e2
 rcases hz with hz|⟨j,r,e1,e3⟩
 .exact absurd hz h
 .rw [AO]at e1
  rw [e1,YN]
  exact ⟨r,e3⟩
def ZFe (r:Zh):Int:=r.cond.foldl (fun s x=>if (x.kind==1)=true then IntKind.i64.wrap (s+1) else s) 0
theorem Zz5 {ρ:Type}(r:Zh) {fin:Int->Option ρ}:forL (σ:=Int) (fun (_:Nat) (x:Zj) n_5=>if (x.kind==1)=true then some (.inl (IntKind.i64.wrap (n_5+1))) else some (.inl n_5)) fin r.cond 0 0=fin (ZFe r):=by
 refine Zgv (f:=fun (s:Int) (x:Zj)=>if (x.kind==1)=true then IntKind.i64.wrap (s+1) else s) fun j x s _=>?_
 by_cases h:(x.kind==1)=true
 .rw [if_pos h,if_pos h]
 .rw [if_neg h,if_neg h]
noncomputable def Zl1 (e:Zu) (f:ZP):Bool:=decide (∃r,¬Zfk e.rules f.rule<0/\atI e.rules (Zfk e.rules f.rule)=some r/\((f.times.length:Nat):Int)=ZFe r/\∀(j:Nat) (t:Int),f.times[j]?=some t->1<=t/\t<=e.clock)
theorem Zl3 (e:Zu) (f:ZP):ZcJ e f=some (Zl1 e f):=by
 unfold ZcJ Zl1
 rw [Zbm,A0]
 by_cases h0:Zfk e.rules f.rule<0
 .rw [if_pos (decide_eq_true h0),decide_eq_false fun ⟨r,h,_⟩=>h h0]
 rw [if_neg (by simpa using h0)]
 obtain ⟨r,hr⟩:=ZwB h0
 rw [hr,A0,Zz5,ZeM (q:=fun _ t=>1<=t/\t<=e.clock) f.times 0 fun j t ht=>by
  refine ⟨fun hq=>?_,fun hq=>?_⟩
  .rw [if_neg (by simp;omega),if_neg (by simp;omega)]
  .by_cases h1:t<1
   .rw [if_pos (by simpa using h1)]
   .rw [if_neg (by simpa using h1),if_pos (by simp;omega)]]
 by_cases h1:∀(j:Nat) (t:Int),f.times[j]?=some t->1<=t/\t<=e.clock
 .rw [if_pos h1]
  congr 1
  rw [AY,beq_iff_eq,decide_eq_true_iff]
  constructor
  .intro hh;exact ⟨r,h0,rfl,hh,h1⟩
  .rintro ⟨r',_,e1,hh,_⟩
   obtain rfl:=AE e1
   exact hh
 .rw [if_neg h1,decide_eq_false fun ⟨_,_,_,_,hh⟩=>h1 hh]
def Zh9 (a b:ZP):Prop:=a.rule=b.rule/\a.times=b.times
theorem ZlJ (a b:ZP):∃c,Zcm a b=some c/\(c=true↔Zh9 a b):=by
 unfold Zcm Zh9
 by_cases h:a.rule=b.rule
 .rw [if_pos (ZL.2 h),Zht,A0]
  refine ⟨_,rfl,?_⟩
  rw [decide_eq_true_iff]
  exact ⟨fun e=>⟨h,e⟩,fun e=>e.2⟩
 .rw [if_neg (by rw [ZL];exact h)]
  exact ⟨false,rfl,by simp [h]⟩
theorem ZAE (x:Z6):∃b,QC x=some b:=by
 unfold QC
 simp only[Qj,QU,A0]
 repeat' split
 all_goals exact ⟨_,rfl⟩
end
section
open Classical
noncomputable def evB (x:Z6):Bool:=(QC x).getD false
theorem ZHK (x:Z6):QC x=some (evB x):=by
 obtain ⟨b,h⟩:=ZAE x
 unfold evB
 rw [h];rfl
def ZwG (e:Zu) (i:Nat) (x:ZP):Prop:=Zl1 e x=true/\¬∃y∈e.fired.take i,Zh9 y x
noncomputable def Zwv (e:Zu):Bool:=
 if ZH e.rules=true then if Zsz e.memory=true then if 0<=e.clock/\e.clock<=200 then if e.fired.length<=40 then if e.log.length<=500 then
 if (∀(j:Nat) (x:Zv),e.memory[j]?=some x->x.time<=e.clock) then if (∀(j:Nat) (x:ZP),e.fired[j]?=some x->ZwG e j x) then if (∀(j:Nat) (x:Z6),e.log[j]?=some x->evB x=true) then true
 else false else false else false else false else false else false else false else false
structure SmE (e:Zu):Prop where
 rs:∀r∈e.rules,YX r
 ml:e.memory.length<=1048576
 ma:∀x∈e.memory,x.fact.args.length<=1048576
theorem Ziw (e:Zu) (h:SmE e):Qm e=some (Zwv e):=by
 unfold Qm Zwv
 rw [Zbk h.rs,A0]
 by_cases h1:ZH e.rules=true
 rotate_left
 .rw [if_neg h1,if_neg h1]
 rw [if_pos h1,if_pos h1,Zis _ h.ml h.ma,A0]
 by_cases h2:Zsz e.memory=true
 rotate_left
 .rw [if_neg h2,if_neg h2]
 rw [if_pos h2,if_pos h2]
 by_cases h3:0<=e.clock/\e.clock<=200
 rotate_left
 .rw [if_neg h3]
  by_cases a:e.clock<0
  .rw [if_pos (by simpa using a)]
  .rw [if_neg (by simpa using a),if_pos (by simp;omega)]
 rw [if_pos h3,if_neg (by simp;omega),if_neg (by simp;omega)]
 by_cases h4:e.fired.length<=40
 rotate_left
 .rw [if_neg h4,if_pos (by simp;omega)]
 rw [if_pos h4,if_neg (by simp;omega)]
 by_cases h5:e.log.length<=500
 rotate_left
 .rw [if_neg h5,if_pos (by simp;omega)]
 rw [if_pos h5,if_neg (by simp;omega),ZeM (q:=fun _ x=>x.time<=e.clock) e.memory 0 fun j x _=>by
  refine ⟨fun hq=>by rw [if_neg (by simpa using hq)],fun hq=>by rw [if_pos (by simpa using hq)]⟩]
 by_cases h6:∀(j:Nat) (x:Zv),e.memory[j]?=some x->x.time<=e.clock
 rotate_left
 .rw [if_neg h6,if_neg h6]
 rw [if_pos h6,if_pos h6,ZeM (q:=ZwG e) e.fired 0 fun j x hx=>by
  have hj:=(AC.1 hx).1
  rw [AO,Zl3,A0]
  by_cases hf:Zl1 e x=true
  rotate_left
  .rw [if_neg hf]
   exact ⟨fun hq=>absurd hq.1 hf,fun _=>rfl⟩
  rw [if_pos hf,ZxZ (l:=e.fired) (i:=j) yE (q:=fun y=>Zh9 y x) (r1:=.inr false) (r2:=.inl ()) (fun u y hu hy=>by
    obtain ⟨c,hc,b⟩:=ZlJ y x
    rw [if_pos (by simpa using hu),YN,hy,A0,hc,A0]
    refine ⟨fun e=>if_pos (b.2 e),fun e=>?_⟩
    rw [if_neg fun h=>e (b.1 h),Yi yE yE]
    rfl) (by rw [if_neg yG])]
  exact ⟨fun hq=>by rw [if_neg hq.2],fun hq=>by rw [if_pos (Classical.byContradiction fun d=>hq ⟨hf,d⟩)]⟩]
 simp only[AO]
 by_cases h7:∀(j:Nat) (x:ZP),e.fired[j]?=some x->ZwG e j x
 rotate_left
 .rw [if_neg h7,if_neg h7]
 rw [if_pos h7,if_pos h7,ZeM (q:=fun _ x=>evB x=true) e.log 0 fun j x _=>by
  rw [ZHK,A0]
  exact ⟨fun hq=>if_pos hq,fun hq=>if_neg hq⟩]
 split<;>rfl
noncomputable def ZAy (d:Zlg):Bool:=Zwv d.engine&&ZeX d.network&&decide (d.engine.rules=d.network.rules)&&decide (d.network.facts=d.engine.memory.map (·.fact))
structure SmD (d:Zlg):Prop where
 e:SmE d.engine
 r:∀r∈d.network.rules,YX r
 n:ZH d.network.rules=true->∀r∈d.network.rules,SmN r
 f:d.network.facts.length<=1048576
theorem Zta (d:Zlg) (h:SmD d):ZeV d=some (ZAy d):=by
 unfold ZeV ZAy
 rw [Ziw _ h.e,A0]
 by_cases h1:Zwv d.engine=true
 rotate_left
 .rw [if_neg h1,Ar.2 h1];rfl
 rw [if_pos h1,Zb9 _ h.r h.n,A0]
 by_cases h2:ZeX d.network=true
 rotate_left
 .rw [if_neg h2,h1,Ar.2 h2];rfl
 rw [if_pos h2,Zhy,A0]
 by_cases h3:d.engine.rules=d.network.rules
 rotate_left
 .rw [decide_eq_false h3,if_neg yG,h1,h2];rfl
 rw [if_pos (decide_eq_true h3),Zgn _ h.e.ml h.e.ma,A0,ZcG,A0,h1,h2,decide_eq_true h3]
 rfl
end
section
open Classical
noncomputable def Zod (s:Zv):List Zv->List Zv
 | []=>[s]
 |x::l=>if 0<ZcK x.fact s.fact then s::x::l else x::Zod s l
theorem ZsQ (s:Zv):∀l:List Zv,Zub (fun x=>YH x s.fact) s l=some (Zod s l)
 | []=>rfl
 |x::l=>by
  simp only[Zub,Zod]
  rw [Y3,A0]
  by_cases h:0<ZcK x.fact s.fact
  .rw [if_pos h,if_pos h]
  .rw [if_neg h,if_neg h,ZsQ s l];rfl
theorem Zpt (s:Zv):∀l:List Zv,(Zod s l).Perm (s::l)
 | []=>List.Perm.refl _
 |x::l=>by
  simp only[Zod]
  split
  .exact List.Perm.refl _
  .exact ((Zpt s l).cons x).trans (List.Perm.swap s x l)
theorem ZmP (s:Zv):∀l:List Zv,s.fact∉l.map (·.fact)->(Zod s l).map (·.fact)=ZfE (l.map (·.fact)) s.fact
 | [],_=>rfl
 |x::l,h=>by
  simp only[AL,AR,not_or]at h
  have h0:¬ZcK x.fact s.fact=0:=fun e=>h.1 ((ZdX.eq _ _).1 e).symm
  simp only[Zod,ZfE,AL]
  by_cases h1:0<ZcK x.fact s.fact
  .rw [if_pos h1,if_neg yE,if_neg h0];rfl
  .rw [if_neg h1,if_pos yE,AL,ZmP s l h.2]
theorem Zfh {F:List Zg}(hl:F.length<=24) (hf:∀f∈F,Yr f=true) (ha:ZnN F):Ya F=true:=by
 unfold Ya
 rw [A4,decide_eq_true_iff]
 refine ⟨hl,?_⟩
 have key:∀(l:List Zg) (i:Nat),(∀k x,l[k]?=some x->Zfp F (i+k) x=true)->ZdO (Zfp F) l i=true:=by
  intro l
  induction l with
  |nil=>intro i _;rfl
  |cons y l ih=>
   intro i h
   simp only[ZdO,A4]
   refine ⟨h 0 y rfl,ih (i+1) fun k x hx=>?_⟩
   have:=h (k+1) x (by simpa using hx)
   rwa [show i+(k+1)=i+1+k by omega]at this
 refine key F 0 fun k x hx=>?_
 unfold Zfp
 rw [AO,A4]
 refine ⟨hf x (AF hx),?_⟩
 by_cases h0:k=0
 .rw [if_pos h0]
 .rw [if_neg h0]
  obtain ⟨hk,rfl⟩:=AC.1 hx
  rw [A9 yE]
  exact decide_eq_true (BW.1 ha (k - 1) k yE hk yE)
theorem Zrl {F:List Zg}{f:Zg}(h:Ya F=true) (hf:Yr f=true) (hl:F.length<24):Ya (ZfE F f)=true:=by
 obtain ⟨_,h2⟩:=XJ h
 refine Zfh (AZ (Znh f F) yE) (fun g mg=>?_) (Zs9 (Zd0 h))
 rcases ZjQ.1 mg with rfl|mg
 .exact hf
 .exact h2 g mg
theorem ZlI {F:List Zg}(h:Ya F=true) (p:Zg->Bool):Ya (F.filter p)=true:=by
 obtain ⟨h1,h2⟩:=XJ h
 exact Zfh (AZ (Aa _ _) h1) (fun g mg=>h2 g (BD.1 mg).1) (List.Pairwise.filter p (Zd0 h))
theorem Ze2 {n:Ze}{x:Z6}:∀{l:List Z6}{m m':Ze},Zcf n l m=(m',true)->(ZcL m' x).2=true->Zcf n (l++[x]) m=((ZcL m' x).1,true)
 | [],m,m',h,hx=>by
  simp only[Zcf,B1,and_true]at h
  subst h
  simp only[AQ,Zcf]
  rw [if_pos hx]
 |y::l,m,m',h,hx=>by
  simp only[Zcf,B2]at h ⊢
  by_cases hy:(ZcL m y).2=true
  .rw [if_pos hy]at h ⊢
   exact Ze2 h hx
  .rw [if_neg hy]at h
   simp at h
structure EI (R:List Zh) (N:Ze) (c l f:Nat) (e:Zu):Prop where
 ru:e.rules=R
 fa:Ya (e.memory.map (·.fact))=true
 tn:(e.memory.map (·.time)).Nodup
 tb:∀x∈e.memory,1<=x.time/\x.time<=e.clock
 ck:0<=e.clock/\e.clock<=c
 ml:((e.memory.length:Nat):Int)<=e.clock
 fl:e.fired.length<=f
 ll:e.log.length<=l
 fd:∀(j:Nat) (x:ZP),e.fired[j]?=some x->ZwG e j x
 lg:∀x∈e.log,evB x=true
 net:∃n,Zcf N e.log N=(n,true)/\ZeX n=true/\n.facts=e.memory.map (·.fact)/\n.rules=R/\n.nodes.length=N.nodes.length/\n.tries<=ZaB*N.nodes.length*e.log.length
theorem Zm7 {e e':Zu}(hr:e'.rules=e.rules) (hc:e.clock<=e'.clock) {x:ZP}(h:Zl1 e x=true):Zl1 e' x=true:=by
 unfold Zl1 at h ⊢
 rw [decide_eq_true_iff]at h ⊢
 obtain ⟨r,h1,h2,h3,h4⟩:=h
 rw [hr]
 exact ⟨r,h1,h2,h3,fun j t ht=>⟨(h4 j t ht).1,Int.le_trans (h4 j t ht).2 hc⟩⟩
theorem ZmR {e e':Zu}(hr:e'.rules=e.rules) (hc:e.clock<=e'.clock) (hf:e'.fired=e.fired) (h:∀(j:Nat) (x:ZP),e.fired[j]?=some x->ZwG e j x):∀(j:Nat) (x:ZP),e'.fired[j]?=some x->ZwG e' j x:=fun j x hx=>by
 rw [hf]at hx
 obtain ⟨h1,h2⟩:=h j x hx
 exact ⟨Zm7 hr hc h1,by rw [hf];exact h2⟩
section
variable {R:List Zh} {N:Ze} {c l f:Nat} {e:Zu} {x:Zg} {kind:Int} {rule:ByteArray}
theorem Zo9 {a:Nat}(hN:N.nodes.length<=25) (hl:a<=100) {t:Int}(h:t<=ZaB*N.nodes.length*a):t+ZaB*N.nodes.length<=9000000000000000000:=by
 have h1:ZaB*((N.nodes.length:Nat):Int)<=ZaB*25:=Int.mul_le_mul_of_nonneg_left yE yF
 have h2:ZaB*((N.nodes.length:Nat):Int)*((a:Nat):Int)<=ZaB*25*100:=Int.mul_le_mul h1 yE yE yF
 have h3:ZaB*25*100+ZaB*25<=9000000000000000000:=by decide
 omega
theorem Zi0 {a:Nat}{t t':Int}(h:t<=ZaB*N.nodes.length*a) (h':t'<=t+ZaB*N.nodes.length):t'<=ZaB*N.nodes.length*(((a+1:Nat)):Int):=by
 have:ZaB*((N.nodes.length:Nat):Int)*(((a+1:Nat)):Int)=ZaB*((N.nodes.length:Nat):Int)*((a:Nat):Int)+ZaB*((N.nodes.length:Nat):Int):=by
  rw [Int.natCast_add,Int.mul_add];simp
 omega
theorem EI.add (h:EI R N c l f e) (hS:∀r∈R,SmN r) (hN:N.nodes.length<=25) (hl:l<=100) (hf:Yr x=true) (hm:x∉e.memory.map (·.fact)) (b:e.memory.length<24) (hk:kind=1\/kind=4) (he:evB { kind:=kind,rule:=rule,fact:=x }=true):
  EI R N (c+1) (l+1) f { rules:=e.rules,memory:=Zod { fact:=x,time:=e.clock+1 } e.memory,clock:=e.clock+1,fired:=e.fired,halted:=e.halted,log:=e.log++[{ kind:=kind,rule:=rule,fact:=x }] }:=by
 have hp:=Zpt { fact:=x,time:=e.clock+1 } e.memory
 have d:=ZmP { fact:=x,time:=e.clock+1 } e.memory hm
 have g:=hp.length_eq
 have i:=Zrl h.fa hf (by rw [AN];exact b)
 obtain ⟨k1,k2⟩:=h.ck
 have k:=h.ll
 refine ⟨h.ru,by rw [d];exact i,?_,fun y my=>?_,⟨by simp only;omega,by simp only;omega⟩,?_,h.fl,by simp;exact k,ZmR (e:=e) rfl (by simp only;omega) rfl h.fd,fun y my=>?_,?_⟩
 .refine (hp.map (·.time)).nodup_iff.2 ?_
  rw [AL,AW]
  refine ⟨fun m=>?_,h.tn⟩
  obtain ⟨y,my,ey⟩:=AB.1 m
  have:=(h.tb y my).2
  simp only at ey
  omega
 .rcases AR.1 (hp.mem_iff.1 my) with rfl|my
  .simp only;omega
  .have:=h.tb y my
   simp only;omega
 .have:=h.ml
  simp only
  rw [g,A6]
  omega
 .rcases AH.1 my with my|my
  .exact h.lg y my
  .simp at my;subst my;exact he
 .obtain ⟨n,n1,n2,n3,n4,n5,n6⟩:=h.net
  have j:Zn0 n.facts x=(ZfE (e.memory.map (·.fact)) x,true):=by
   unfold Zn0
   rw [n3,if_pos ⟨h.fa,hf,hm,by rw [AN];exact b⟩]
  have a:ZcL n { kind:=kind,rule:=rule,fact:=x }=(Zi3 n (ZfE (e.memory.map (·.fact)) x) x,true):=by
   unfold ZcL
   rw [if_pos hk]
   unfold ZtX
   rw [j,if_pos ⟨n2,rfl⟩]
  obtain ⟨v1,v2,v3,v4,v5,v6⟩:=Zpv (f:=x) (fun _=>by rw [n4];exact hS) n2 i (by rw [n5];exact Zo9 hN yE n6)
  refine ⟨_,Ze2 n1 (by rw [a]),?_,?_,?_,?_,?_⟩
  .rw [a];exact v1
  .rw [a,d];exact v2
  .rw [a];exact v3.trans n4
  .rw [a];exact v6.trans n5
  .rw [a,AA]
   rw [n5]at v5
   exact Zi0 n6 v5
theorem Zqo (M:List Zv) (x:Zg):(M.filter fun y=>decide (y.fact≠x)).map (·.fact)=(M.map (·.fact)).filter fun g=>decide (g≠x):=by
 rw [List.filter_map]
 rfl
theorem EI.drop (h:EI R N c l f e) (hS:∀r∈R,SmN r) (hN:N.nodes.length<=25) (hl:l<=100) (hm:x∈e.memory.map (·.fact)) (hk:kind=2\/kind=5) (he:evB { kind:=kind,rule:=rule,fact:=x }=true):
  EI R N c (l+1) f { rules:=e.rules,memory:=e.memory.filter fun y=>decide (y.fact≠x),clock:=e.clock,fired:=e.fired,halted:=e.halted,log:=e.log++[{ kind:=kind,rule:=rule,fact:=x }] }:=by
 have d:=Zqo e.memory x
 have i:=ZlI h.fa fun g=>decide (g≠x)
 have b:(e.memory.filter fun y=>decide (y.fact≠x)).Sublist e.memory:=List.filter_sublist
 have k:=h.ll
 refine ⟨h.ru,by rw [d];exact i,(b.map (·.time)).nodup h.tn,fun y my=>h.tb y (b.subset my),h.ck,?_,h.fl,by simp;exact k,ZmR (e:=e) rfl (Ac _) rfl h.fd,fun y my=>?_,?_⟩
 .have:=h.ml
  have:=b.length_le
  simp only
  omega
 .rcases AH.1 my with my|my
  .exact h.lg y my
  .simp at my;subst my;exact he
 .obtain ⟨n,n1,n2,n3,n4,n5,n6⟩:=h.net
  have j:Zob n.facts x=((e.memory.map (·.fact)).filter (fun g=>decide (g≠x)),true):=by
   unfold Zob
   rw [n3,if_pos ⟨h.fa,hm⟩]
  have a:ZcL n { kind:=kind,rule:=rule,fact:=x }=(Zi3 n ((e.memory.map (·.fact)).filter fun g=>decide (g≠x)) x,true):=by
   unfold ZcL
   rw [if_neg (by simp only;omega),if_pos hk]
   unfold Zt2
   rw [j,if_pos ⟨n2,rfl⟩]
  obtain ⟨v1,v2,v3,v4,v5,v6⟩:=Zpv (f:=x) (fun _=>by rw [n4];exact hS) n2 i (by rw [n5];exact Zo9 hN yE n6)
  refine ⟨_,Ze2 n1 (by rw [a]),?_,?_,?_,?_,?_⟩
  .rw [a];exact v1
  .rw [a,d];exact v2
  .rw [a];exact v3.trans n4
  .rw [a];exact v6.trans n5
  .rw [a,AA]
   rw [n5]at v5
   exact Zi0 n6 v5
theorem EI.write (h:EI R N c l f e) (hk:kind=3\/kind=6) (he:evB { kind:=kind,rule:=rule,fact:=x }=true) (b:Bool):
  EI R N c (l+1) f { rules:=e.rules,memory:=e.memory,clock:=e.clock,fired:=e.fired,halted:=b,log:=e.log++[{ kind:=kind,rule:=rule,fact:=x }] }:=by
 have d:=h.ll
 refine ⟨h.ru,h.fa,h.tn,h.tb,h.ck,h.ml,h.fl,by simp;exact d,ZmR (e:=e) rfl (Ac _) rfl h.fd,fun y my=>?_,?_⟩
 .rcases AH.1 my with my|my
  .exact h.lg y my
  .simp at my;subst my;exact he
 .obtain ⟨n,n1,n2,n3,n4,n5,n6⟩:=h.net
  have a:ZcL n { kind:=kind,rule:=rule,fact:=x }=(n,true):=by
   unfold ZcL
   rw [if_neg (by simp only;omega),if_neg (by simp only;omega)]
  refine ⟨n,by have:=Ze2 n1 (x:={ kind:=kind,rule:=rule,fact:=x }) (by rw [a]);rwa [a]at this,n2,n3,n4,n5,?_⟩
  simp only[AA,AP]
  refine Zi0 n6 ?_
  have:(0:Int)<=ZaB*((N.nodes.length:Nat):Int):=Int.mul_nonneg yF yE
  omega
theorem EI.fire (h:EI R N c l f e) {y:ZP}(hy:Zl1 e y=true) (hn:¬∃z∈e.fired,Zh9 z y):
  EI R N c l (f+1) { rules:=e.rules,memory:=e.memory,clock:=e.clock,fired:=e.fired++[y],halted:=e.halted,log:=e.log }:=by
 have a:=h.fl
 refine ⟨h.ru,h.fa,h.tn,h.tb,h.ck,h.ml,by simp;exact a,h.ll,fun j z hz=>?_,h.lg,h.net⟩
 simp only at hz
 rcases AX j e.fired.length with hj|hj
 .rw [AT hj]at hz
  obtain ⟨q1,q2⟩:=h.fd j z hz
  refine ⟨Zm7 (e:=e) rfl (Ac _) q1,?_⟩
  simp only
  rw [BX yE]
  exact q2
 .rw [Ah hj]at hz
  have b:j - e.fired.length=0:=by
   have:=(AC.1 hz).1
   simp at this;omega
  rw [b]at hz
  obtain rfl:y=z:=by simpa using hz
  obtain rfl:j=e.fired.length:=by omega
  refine ⟨Zm7 (e:=e) rfl (Ac _) hy,?_⟩
  simp only
  rw [BX (A5 _),BC]
  exact hn
theorem EI.more (h:EI R N c l f e) {c' l' f':Nat}(h1:c<=c') (h2:l<=l') (h3:f<=f'):EI R N c' l' f' e:=by
 have:=h.ck
 have:=h.ll
 have:=h.fl
 exact ⟨h.ru,h.fa,h.tn,h.tb,yE,h.ml,yE,yE,h.fd,h.lg,h.net⟩
theorem EI.mem (h:EI R N c l f e) (hc:c<=200):Zsz e.memory=true:=by
 unfold Zsz
 rw [if_pos fun j y hy=>?_]
 .exact h.fa
 .have my:=AF hy
  have:=h.tb y my
  have:=h.ck
  refine ⟨yE,fun z mz e1=>?_⟩
  obtain ⟨i,hi,rfl⟩:=B9 mz
  rw [Ag]at hi
  obtain ⟨hj,rfl⟩:=AC.1 hy
  rw [List.getElem_take]at e1
  have a:=BW.1 h.tn i j (by simp;omega) (by simpa using hj) yE
  simp at a
  exact a e1
theorem EI.eng (h:EI R N c l f e) (hR:ZH R=true) (hc:c<=200) (hf:f<=40) (hl:l<=500):Zwv e=true:=by
 have:=h.ck
 have:=h.fl
 have:=h.ll
 unfold Zwv
 rw [if_pos (by rw [h.ru];exact hR),if_pos (h.mem hc),if_pos yE,if_pos yE,if_pos yE,if_pos fun j y hy=>(h.tb y (AF hy)).2,if_pos h.fd,if_pos fun j y hy=>h.lg y (AF hy)]
end
end
section
open Classical
theorem Zi4 {α ρ:Type}{body:Nat->α->Unit->Option (Unit ⊕ ρ)}{fin:Unit->Option ρ}(hf:∃z,fin ()=some z):∀(l:List α) (i:Nat),(∀j x,l[j]?=some x->∃y,body (i+j) x ()=some y)->∃z,forL body fin l i ()=some z
 | [],i,_=>hf
 |x::l,i,h=>by
  obtain ⟨y,hy⟩:=h 0 x rfl
  rw [B7]at hy
  cases y with
  |inl u=>
   rw [ZD (s':=()) hy]
   exact Zi4 hf l (i+1) fun j y hj=>by
    have:=h (j+1) y (by simpa using hj)
    rwa [show i+(j+1)=i+1+j by omega]at this
  |inr r=>exact ⟨r,ZX hy⟩
theorem Zdt {α β:Type}{o:Option α}{f:α->β}(h:∃z,o=some z):∃z,(o.bind fun v=>some (f v))=some z:=by
 obtain ⟨z,rfl⟩:=h
 exact ⟨_,rfl⟩
theorem Zc8 (a b:Int):∃z,ZT a b=some z:=by
 unfold ZT
 repeat' split
 all_goals exact ⟨_,rfl⟩
theorem Zlt (a b:List Zg):∃z,YI a b=some z:=by
 unfold YI
 refine Zi4 (Zdt (Zc8 _ _)) a 0 fun j x hx=>?_
 rw [AO]
 by_cases h:j<b.length
 .rw [if_pos (by simpa using h),YN,A9 h,A0,Y3,A0]
  split<;>exact ⟨_,rfl⟩
 .rw [if_neg (by simpa using h)]
  exact Zdt (Zc8 _ _)
theorem Zvw {l:List Int}(h:l.length<=1048576):XX l=some l:=by
 unfold XX
 rw [Zk _ yE]
theorem Zvj {l:List Int}(h:l.length<=12):Zd9 l=some (Zld l):=by
 unfold Zd9
 rw [Zvw yE,A0,if_pos h]
theorem ZtA {x y:ZC}(hx:x.times.length<=12) (hy:y.times.length<=12):∃z,Yp x y=some z:=by
 unfold Yp
 split
 .exact Zdt (Zc8 _ _)
 .rw [Zvj hx,A0,Zvj hy,A0]
  refine Zi4 ?_ _ 0 fun j u hu=>?_
  .repeat' split
   all_goals first|exact Zdt (Zc8 _ _)|exact Zdt (Zlt _ _)
  .rw [AO]
   by_cases h:j<(Zld y.times).length
   .rw [if_pos (by simpa using h),Zk _ yE,A9 h,A0]
    split
    .exact Zdt (Zc8 _ _)
    .exact ⟨_,rfl⟩
   .rw [if_neg (by simpa using h)]
    repeat' split
    all_goals first|exact Zdt (Zc8 _ _)|exact Zdt (Zlt _ _)
theorem Zbe (l:List Zv) (f:Zg):Xg l f=some (decide (f∈l.map (·.fact))):=by
 unfold Xg
 rw [Zb7 (p:=fun x=>decide (x.fact=f)) fun i x mx=>by
  rw [YS,A0]
  by_cases h:x.fact=f
  .rw [if_pos (decide_eq_true h),decide_eq_true h];rfl
  .rw [if_neg (by simpa using h),decide_eq_false h];rfl]
 by_cases h:f∈l.map (·.fact)
 .obtain ⟨x,mx,e⟩:=AB.1 h
  rw [decide_eq_true h,if_pos (Az.2 ⟨x,mx,decide_eq_true e⟩)]
 .rw [decide_eq_false h,if_neg fun hh=>?_]
  obtain ⟨x,mx,e⟩:=Az.1 hh
  exact h (AB.2 ⟨x,mx,of_decide_eq_true e⟩)
noncomputable def Zle:List Zv->Zg->Int
 | [],_=>0
 |x::l,f=>if x.fact=f then x.time else Zle l f
theorem ZpE {f:Zg}:∀{l:List Zv},f∈l.map (·.fact)->∃x∈l,Zle l f=x.time
 |x::l,h=>by
  by_cases e:x.fact=f
  .exact ⟨x,yG,if_pos e⟩
  .rw [AL,AR]at h
   obtain ⟨y,my,ey⟩:=ZpE (h.resolve_left fun hh=>e hh.symm)
   exact ⟨y,by simp [my],(if_neg e).trans ey⟩
theorem Ztb (f:Zg) (l:List Zv):Zhc l f=some (Zle l f):=by
 unfold Zhc
 have key:∀(l:List Zv) (i:Nat),forL (σ:=Unit) (fun (i6:Nat) (x7:Zv) _=>(Xi x7.fact f).bind fun v8=>if v8=true then some (.inr x7.time) else some (.inl ())) (fun _=>some 0) l i ()=some (Zle l f):=by
  intro l
  induction l with
  |nil=>intro i;rfl
  |cons x l ih=>
   intro i
   unfold Zle
   by_cases h:x.fact=f
   .rw [ZX (r:=x.time),if_pos h]
    rw [YS,A0,if_pos (decide_eq_true h)]
   .rw [ZD (s':=()),ih,if_neg h]
    rw [YS,A0,if_neg (by simpa using h)]
 exact key l 0
theorem Zrm (M:List Zv) (F:List Zg) (h:F.length<=1048576):ZfR M F=some (F.map (Zle M)):=by
 unfold ZfR
 rw [Xf (g:=Zle M)]
 .simp
 .intro j x s mx hs
  rw [Ztb,A0,Zk _ (by simp at hs;omega)]
theorem Zt7 (r:Zh):∃z,Zbj r=some z:=by
 unfold Zbj
 rw [Zgv (f:=fun (n:Int) (x:Zj)=>x.pattern.args.foldl (fun n a=>if ZU a=true then IntKind.i64.wrap (n+1) else n) n)]
 .exact ⟨_,rfl⟩
 .intro j x s mx
  rw [Zgv (f:=fun n a=>if ZU a=true then IntKind.i64.wrap (n+1) else n)]
  intro j a s ma
  rw [Qf,A0]
  split<;>rfl
theorem Zpn {R:List Zh}(hR:ZH R=true) {k:Nat}{r:Zh}(hk:R[k]?=some r):Yh r=true/\Zfk R r.name=((k:Nat):Int):=by
 unfold ZH at hR
 rw [A4]at hR
 have:=Zkh hR.2 k r hk
 unfold Zgj at this
 rw [A4,beq_iff_eq,AO]at this
 exact this
theorem ZCz {m:Yk}(h1:m.facts.length<=1048576) (h2:∀f∈m.facts,f.args.length<=1048576) (h3:m.binding.length<=1048576):ZbU m=some m:=by
 unfold ZbU
 rw [QF _ h1 h2,A0]
 unfold XM
 rw [Zk _ yE]
 rfl
def ZDU (R:List Zh) (M:List Zv) (x:ZC):Prop:=∃(k:Nat) (r:Zh) (t:Zs),R[k]?=some r/\t∈ZN r.cond (M.map (·.fact))/\x.mtch=mkM r t/\x.times=t.facts.map (Zle M)/\x.ordr=((k:Nat):Int)
theorem Zwf {R:List Zh}{M:List Zv}(hR:ZH R=true) (hF:Ya (M.map (·.fact))=true) {r:Zh}(mr:r∈R) {t:Zs}(mt:t∈ZN r.cond (M.map (·.fact))):∃x,Zc9 R M (mkM r t)=some (x,true)/\ZDU R M x:=by
 obtain ⟨k,hk⟩:=BY mr
 obtain ⟨hr,hf⟩:=Zpn hR hk
 obtain ⟨f24,b⟩:=XJ hF
 have a:=(Zb3 hr).1
 have tk:=Zal _ _ t mt
 have ts:=tk.s a fun f mf=>Za2 (b f mf)
 obtain ⟨z,hz⟩:=Zt7 r
 unfold Zc9
 rw [show (mkM r t).rule=r.name from rfl,Zbm,A0,hf,if_neg yG,X8 (p:=fun f=>decide (f∈M.map (·.fact))) (r:=(({ mtch:=({ rule:=(⟨#[]⟩),facts:=[],binding:=[] }:Yk),priority:=0,times:=[],specific:=0,ordr:=0 }:ZC),false)) fun i f mf=>by
  rw [Zbe,A0]
  by_cases h:f∈M.map (·.fact)
  .rw [decide_eq_true h];rfl
  .rw [decide_eq_false h];rfl]
 rw [if_pos (show ((mkM r t).facts.all fun f=>decide (f∈M.map (·.fact)))=true from Au.2 fun f mf=>decide_eq_true (tk.sub f mf)),ZCz (by have:=ts.len;show t.facts.length<=_;omega) (fun f mf=>by have:=ts.args f mf;omega) (by have:=ts.bind;show t.binding.length<=_;omega),A0,YN,hk,A0,Zrm _ _ (by have:=ts.len;show t.facts.length<=_;omega),A0,hz,A0]
 exact ⟨_,rfl,k,r,t,hk,mt,rfl,rfl,rfl⟩
def Zsg (fired:List ZP) (x:ZC):Prop:=∃y∈fired,y.rule=x.mtch.rule/\y.times=x.times
theorem Zog (l:List ZP) (x:ZC):ZcO l x=some (decide (Zsg l x)):=by
 unfold ZcO
 rw [Zb7 (p:=fun y=>decide (y.rule=x.mtch.rule/\y.times=x.times)) fun i y my=>by
  by_cases h1:y.rule=x.mtch.rule
  .rw [if_pos (ZL.2 h1),Zht,A0]
   by_cases h2:y.times=x.times
   .rw [if_pos (decide_eq_true h2),decide_eq_true ⟨h1,h2⟩];rfl
   .rw [if_neg (by simpa using h2),decide_eq_false fun h=>h2 h.2];rfl
  .rw [if_neg (by rw [ZL];exact h1),decide_eq_false fun h=>h1 h.1];rfl]
 by_cases h:Zsg l x
 .obtain ⟨y,my,e⟩:=id h
  rw [decide_eq_true h,if_pos (Az.2 ⟨y,my,decide_eq_true e⟩)]
 .rw [decide_eq_false h,if_neg fun hh=>?_]
  obtain ⟨y,my,e⟩:=Az.1 hh
  exact h ⟨y,my,of_decide_eq_true e⟩
theorem Zkg {F:List Zg}(hF:F.length<=24):∀{R:List Zh},(∀r∈R,r.cond.length<=4)->(Ziq R F).length<=331776*R.length
 | [],_=>A5 _
 |r::R,h=>by
  have ih:=Zkg hF fun q mq=>h q (List.mem_cons_of_mem _ mq)
  have h1:=QY F hF r.cond (h r yG)
  unfold Ziq at *
  rw [Ad,AA,AN,A6]
  omega
theorem Zpp (R:List Zh) (r:Zh) (F:List Zg):Ziq (R++[r]) F=Ziq R F++(ZN r.cond F).map (mkM r):=by
 unfold Ziq
 rw [List.flatMap_append]
 simp
theorem Zs2 {R:List Zh}{F:List Zg}{m:Yk}:m∈Ziq R F↔∃r∈R,∃t∈ZN r.cond F,mkM r t=m:=by
 unfold Ziq
 simp only[Ay,AB]
theorem Zl5 {R:List Zh}{F:List Zg}(h6:R.length<=6) (hR:∀r∈R,r.cond.length<=4) (hF:F.length<=24) (hA:∀f∈F,f.args.length<=3):Zcd R F=some (Ziq R F):=by
 unfold Zcd
 refine Zeb (fun p=>Ziq p F) R fun p r q e=>?_
 have hp:p.length<R.length:=by rw [e];simp
 have mr:r∈R:=by rw [e];simp
 have h1:=Zkg hF (R:=p) fun q' mq=>hR q' (by rw [e];simp [mq])
 have h2:=QY F hF r.cond (hR r mr)
 rw [Zms r F (hR r mr) hF hA,A0,Zk _ (by rw [AN];omega),Zpp]
theorem ZHo {x:ZC}(h1:x.mtch.facts.length<=1048576) (h2:∀f∈x.mtch.facts,f.args.length<=1048576) (h3:x.mtch.binding.length<=1048576) (h4:x.times.length<=1048576):Q5 x=some x:=by
 unfold Q5
 rw [ZCz h1 h2 h3,A0,Zvw h4]
 rfl
theorem ZBw {l:List ZC}(hl:l.length<=1048576) (hc:∀x∈l,Q5 x=some x) (ht:∀x∈l,x.times.length<=12):∃r,Zbz l=some r/\r.length=l.length/\∀x∈r,x∈l:=by
 have a:Zbt l=some l:=by
  unfold Zbt
  rw [Xf (g:=fun x=>x)]
  .simp
  .intro j x s mx hs
   rw [hc x mx,A0,Zk _ (by simp at hs;omega)]
 unfold Zbz
 rw [a,A0,if_pos ⟨hl,fun x mx y my=>by obtain ⟨z,hz⟩:=ZtA (ht x mx) (ht y my);rw [hz];rfl⟩]
 obtain ⟨p1,p2⟩:=ZnJ (ltC l) l.length (BZ l.length)
 refine ⟨_,rfl,?_,fun x mx=>?_⟩
 .have b:∀k∈(Zg6 (ltC l) l.length (BZ l.length)).toList,k<l.length:=fun k mk=>by
   have:=p2.mem_iff.1 mk
   simpa using this
  have key:∀ks:List Nat,(∀k∈ks,k<l.length)->(ks.filterMap fun i=>l[i]?).length=ks.length:=by
   intro ks
   induction ks with
   |nil=>intro _;rfl
   |cons k ks ih=>
    intro h
    rw [List.filterMap_cons,A9 (h k yG)]
    simp [ih fun k mk=>h k (by simp [mk])]
  rw [key _ b,Array.length_toList,p1]
  simp
 .obtain ⟨k,_,hk⟩:=At.1 mx
  exact AF hk
theorem ZrW {R:List Zh}{M:List Zv}(a:List ZP) (hR:ZH R=true) (h3:R.length<=3) (hS:∀r∈R,YX r) (hM:Zsz M=true):∃L,QM R M a=some L/\L.length<=(Ziq R (M.map (·.fact))).length/\∀x∈L,ZDU R M x/\¬Zsg a x:=by
 have hF:Ya (M.map (·.fact))=true:=by
  unfold Zsz at hM
  split at hM
  .exact hM
  .simp at hM
 obtain ⟨c,o⟩:=XJ hF
 have hl24:M.length<=24:=by simpa using c
 have hA:∀f∈M.map (·.fact),f.args.length<=3:=fun f mf=>Za2 (o f mf)
 have g:∀x∈M,x.fact.args.length<=1048576:=fun x mx=>by have:=hA _ (AB.2 ⟨x,mx,rfl⟩);omega
 have hr:=(Qa hR).2
 have d:∀r∈R,r.cond.length<=4:=fun r mr=>(Zb3 (hr r mr)).1
 have hml:=Zkg c d
 unfold QM
 rw [Zbk hS,A0,if_pos hR,Zis M yE g,A0,if_pos hM,Zgn M yE g,A0,Zl5 yE d c hA,A0]
 obtain ⟨L,e,i1,i2⟩:=Zw6 (body:=fun (i20:Nat) (q:Yk) (b:List ZC)=>(Zc9 R M q).bind fun i=>(ZcO a i.1).bind fun u=>if u=true then (some (Sum.inl b):Option (List ZC ⊕ List ZC)) else chk (b.length+1<=1073741824) <| some (Sum.inl (b++[i.1]))) (ρ:=List ZC) (fun p (s:List ZC)=>s.length<=p.length/\∀x∈s,ZDU R M x/\¬Zsg a x) (Ziq R (M.map (·.fact))) [] ⟨A5 _,yG⟩ fun p m s mm hp ⟨j1,j2⟩=>by
  obtain ⟨r,mr,t,mt,rfl⟩:=Zs2.1 mm
  obtain ⟨x,hx,v⟩:=Zwf hR hF mr mt
  rw [hx,A0,Zog,A0]
  by_cases hf:Zsg a x
  .exact ⟨s,by rw [if_pos (decide_eq_true hf)],by rw [AA];omega,j2⟩
  .refine ⟨s++[x],by rw [if_neg (by simpa using hf),Zk _ yE],by simp;omega,fun y my=>?_⟩
   rcases AH.1 my with my|my
   .exact j2 y my
   .simp at my;subst my;exact ⟨v,hf⟩
 have j:∀x∈L,Q5 x=some x/\x.times.length<=12:=fun x mx=>by
  obtain ⟨⟨k,r,t,hk,mt,e1,e2,e3⟩,_⟩:=i2 x mx
  have ts:=(Zal _ _ t mt).s (d r (AF hk)) hA
  have t4:=ts.len
  have tb:=ts.bind
  have hl:x.times.length<=4:=by rw [e2,AN];exact t4
  refine ⟨ZHo ?_ ?_ ?_ yE,yE⟩
  .rw [e1];show t.facts.length<=_;omega
  .rw [e1];exact fun f mf=>by have:=ts.args f mf;omega
  .rw [e1];show t.binding.length<=_;omega
 obtain ⟨S,s1,s2,s3⟩:=ZBw (l:=L) yE (fun x mx=>(j x mx).1) fun x mx=>(j x mx).2
 refine ⟨S,?_,yE,fun x mx=>i2 x (s3 x mx)⟩
 rw [e,s1]
 rfl
theorem Zuy (o:Option (List Zo)):(Znl o).1=o.getD []:=by cases o<;>rfl
theorem ZA2 {n:Ze}(hR:∀r∈n.rules,YX r) (hS:ZH n.rules=true->∀r∈n.rules,SmN r) (h:ZeX n=true):Zbg n=some (Ziq n.rules n.facts):=by
 have b:ZH n.rules=true:=by
  unfold ZeX at h
  simp only[A4]at h
  exact h.1.1.1
 have d:Ya n.facts=true:=by
  unfold ZeX at h
  simp only[A4]at h
  exact h.1.1.2
 obtain ⟨c,i⟩:=XJ d
 have hA:∀f∈n.facts,f.args.length<=3:=fun f mf=>Za2 (i f mf)
 obtain ⟨h6,hr⟩:=Qa b
 have a:∀r∈n.rules,r.cond.length<=4:=fun r mr=>(Zb3 (hr r mr)).1
 unfold Zbg
 rw [Zb9 n hR hS,A0,if_pos h]
 have key:Zbn n=some (Ziq n.rules n.facts):=by
  unfold Zbn
  refine Zeb (fun p=>Ziq p n.facts) n.rules fun p r q e=>?_
  have hp:n.rules[p.length]?=some r:=by rw [e];simp
  have mr:=AF hp
  have hpl:p.length<n.rules.length:=(AC.1 hp).1
  have h1:=Zkg c (R:=p) fun q' mq=>a q' (by rw [e];simp [mq])
  obtain ⟨en,y,e1,e2,e3,e4⟩:=ZuJ h6 a h hp
  have hlen:(ZN (XV r) n.facts).length<=331776:=QY _ c _ (by rw [ZcW];exact a r mr)
  rw [ZgL r (hS b r mr),A0,YN,e1,A0,show atI n.nodes en=some y by unfold atI;rw [if_pos e2,e3],A0,e4,Zpp,<-Zqq (hr r mr)]
  rw [Xf (g:=mkU r)]
  intro j t s mt hs
  have ts:=(Zal _ _ t mt).s (by rw [ZcW];exact a r mr) hA
  rw [QF _ (by have:=ts.len;omega) (fun f mf=>by have:=ts.args f mf;omega),A0,Zgv (f:=Zki t.binding)]
  .rw [Zk _ yE]
   rfl
  .intro j x row mx
   rw [Zcu,A0]
   unfold ZCl Zki
   cases Xk t.binding x.value with
   |none=>rfl
   |some v=>
    simp only[if_true]
    rw [Zlb,A0,Zuy]
 rw [key]
 rfl
end
section
open Classical
theorem Zvg {k:Int}{f:Zg}(hk:k=1\/k=2) (h:Yr f=true):evB { kind:=k,rule:=⟨#[]⟩,fact:=f }=true:=by
 unfold evB QC
 rcases hk with rfl|rfl<;>simp [Qj,QU,h,ZL]
theorem Zvl {k:Int}{n:ByteArray}{f:Zg}(hk:k=4\/k=5) (hn:Xo n=true) (h:Yr f=true):evB { kind:=k,rule:=n,fact:=f }=true:=by
 unfold evB QC
 rcases hk with rfl|rfl<;>simp [Qj,QU,h,hn]
theorem ZvR {k:Int}{n:ByteArray}(hk:k=3\/k=6) (hn:Xo n=true):evB { kind:=k,rule:=n,fact:={ rel:=⟨#[]⟩,args:=[] } }=true:=by
 unfold evB QC
 rcases hk with rfl|rfl<;>simp [Qj,QU,hn,ZL]
theorem ZBM {x:Z6}(h:evB x=true):x.fact.args.length<=3:=by
 have hi:=ZHK x
 rw [h]at hi
 unfold QC at hi
 simp only[Qj,QU,A0]at hi
 repeat' split at hi
 all_goals first
  |exact Za2 (AE hi)
  |(have:=AE hi;rw [beq_iff_eq]at this;omega)
  |(simp at hi;done)
def Zoq (l:List Zj):Nat:=(l.filter fun x=>x.kind==1).length
theorem Zq0:∀(l:List Zj) (s:Int),0<=s->s+l.length<=100->l.foldl (fun s x=>if (x.kind==1)=true then IntKind.i64.wrap (s+1) else s) s=s+Zoq l
 | [],s,_,_=>by simp [Zoq]
 |x::l,s,h0,h1=>by
  simp only[A6]at h1
  rw [AS]
  by_cases h:(x.kind==1)=true
  .rw [if_pos h,Yi yE yE,Zq0 l (s+1) yE yE]
   unfold Zoq
   rw [Ax (p:=fun x:Zj=>x.kind==1) h,A6]
   omega
  .rw [if_neg h,Zq0 l s h0 yE]
   unfold Zoq
   rw [Aw (p:=fun x:Zj=>x.kind==1) h]
theorem ZvN {r:Zh}(h:r.cond.length<=4):ZFe r=Zoq r.cond:=by
 have:=Zq0 r.cond 0 yE yE
 rw [Int.zero_add]at this
 exact this
theorem ZB5 (l:List Zj):Zoq l<=l.length:=Aa _ _
theorem Zum (F:List Zg):∀(l:List Zj) (ts:List Zs) (n:Nat),(∀t∈ts,t.facts.length=n)->∀t∈l.foldl (fun ts x=>Zbx x F ts) ts,t.facts.length=n+Zoq l
 | [],ts,n,h,t,mt=>h t mt
 |x::l,ts,n,h,t,mt=>by
  rw [AS]at mt
  by_cases hk:x.kind=1
  .have:=Zum F l (Zbx x F ts) (n+1) (fun s ms=>by
    obtain ⟨u,mu,hs⟩:=Ay.1 ms
    unfold X1 at hs
    rw [if_pos hk]at hs
    obtain ⟨f,_,e⟩:=At.1 hs
    obtain ⟨b,_,rfl⟩:=AK.1 e
    simp [h u mu]) t mt
   unfold Zoq at this ⊢
   rw [Ax (p:=fun x:Zj=>x.kind==1) (by simpa using hk),A6]
   omega
  .have:=Zum F l (Zbx x F ts) n (fun s ms=>by
    obtain ⟨u,mu,hs⟩:=Ay.1 ms
    unfold X1 at hs
    rw [if_neg hk]at hs
    split at hs
    .simp at hs;subst hs;exact h _ mu
    .simp at hs) t mt
   unfold Zoq at this ⊢
   rw [Aw (p:=fun x:Zj=>x.kind==1) (by simpa using hk)]
   exact this
theorem ZA1 {F:List Zg}{l:List Zj}{t:Zs}(mt:t∈ZN l F):t.facts.length=Zoq l:=by
 have:=Zum F l [ZnV] 0 (by simp [ZnV]) t mt
 omega
theorem ZjM (e:Zu) (k:Int) (n:ByteArray) {x:Zg}(hx:x.args.length<=1048576) (hl:e.log.length<=1000):YJ e k n x=some { rules:=e.rules,memory:=e.memory,clock:=e.clock,fired:=e.fired,halted:=e.halted,log:=e.log++[{ kind:=k,rule:=n,fact:=x }] }:=by
 unfold YJ
 rw [Ym x hx,A0,Zk _ yE]
theorem Zzc (e:Zu) (k:Int) (n:ByteArray) {x:Zg}(hx:x.args.length<=1048576) (hl:e.log.length<=1000) (hm:e.memory.length<=1000) (hc:0<=e.clock/\e.clock<=1000):XF e x k n=some { rules:=e.rules,memory:=Zod { fact:=x,time:=e.clock+1 } e.memory,clock:=e.clock+1,fired:=e.fired,halted:=e.halted,log:=e.log++[{ kind:=k,rule:=n,fact:=x }] }:=by
 have h1:Zub (fun y=>YH y x) ({ fact:=x,time:=e.clock+1 }:Zv) e.memory=some (Zod { fact:=x,time:=e.clock+1 } e.memory):=ZsQ { fact:=x,time:=e.clock+1 } e.memory
 unfold XF
 rw [if_pos ⟨yE,hx,hc.1,yE⟩,h1,A0]
 exact ZjM _ _ _ hx hl
theorem Zu9 (e:Zu) (k:Int) (n:ByteArray) {x:Zg}(hx:x.args.length<=1048576) (hl:e.log.length<=1000) (hm:e.memory.length<=1000):Xn e x k n=some { rules:=e.rules,memory:=e.memory.filter fun y=>decide (y.fact≠x),clock:=e.clock,fired:=e.fired,halted:=e.halted,log:=e.log++[{ kind:=k,rule:=n,fact:=x }] }:=by
 have h1:(e.memory.filter fun y=>!decide (Xi y.fact x=some true))=e.memory.filter fun y=>decide (y.fact≠x):=by
  refine List.filter_congr fun y _=>?_
  rw [YS]
  by_cases h:y.fact=x<;>simp [h]
 unfold Xn
 rw [if_pos ⟨yE,hx⟩,h1]
 exact ZjM _ _ _ hx hl
section
variable {R:List Zh} {N:Ze} {c l f:Nat} {e:Zu}
theorem EI.m24 (h:EI R N c l f e):e.memory.length<=24/\∀x∈e.memory,Yr x.fact=true/\x.fact.args.length<=3:=by
 obtain ⟨h1,h2⟩:=XJ h.fa
 refine ⟨by simpa using h1,fun x mx=>?_⟩
 have:=h2 _ (AB.2 ⟨x,mx,rfl⟩)
 exact ⟨this,Za2 this⟩
theorem EI.sm (h:EI R N c l f e) (hS:∀r∈R,YX r):SmE e:=by
 obtain ⟨h1,h2⟩:=h.m24
 exact ⟨by rw [h.ru];exact hS,yE,fun x mx=>by have:=(h2 x mx).2;omega⟩
theorem ZxS {x:ZP}(hR:ZH e.rules=true) (h:Zl1 e x=true):x.times.length<=4:=by
 unfold Zl1 at h
 rw [decide_eq_true_iff]at h
 obtain ⟨r,h1,h2,h3,_⟩:=h
 have mr:r∈e.rules:=by
  unfold atI at h2
  split at h2
  .exact AF h2
  .simp at h2
 have h4:=(Zb3 ((Qa hR).2 r mr)).1
 rw [ZvN h4]at h3
 have:=ZB5 r.cond
 omega
theorem EI.copy (h:EI R N c l f e) (hR:ZH R=true) (hS:∀r∈R,YX r) (hl:l<=1000) (hf:f<=1000):Q8 e=some e:=by
 obtain ⟨m1,m2⟩:=h.m24
 have hfl:=h.fl
 have hll:=h.ll
 unfold Q8
 rw [ZdY e.rules (by rw [h.ru];have:=(Qa hR).1;omega) (by rw [h.ru];exact hS),A0]
 rw [Xf (g:=fun x=>x) fun j x s mx hs=>by rw [Ym _ (by have:=(m2 x mx).2;omega),A0,Zk _ (by simp at hs;omega)]]
 rw [Xf (g:=fun x=>x) fun j x s mx hs=>by
  obtain ⟨i,hi⟩:=BY mx
  have:=ZxS (by rw [h.ru];exact hR) (h.fd i x hi).1
  rw [Zvw yE,A0,Zk _ (by simp at hs;omega)]]
 rw [Xf (g:=fun x=>x) fun j x s mx hs=>by
  have:=ZBM (h.lg x mx)
  unfold Zfj
  rw [Ym _ yE,A0,A0,Zk _ (by simp at hs;omega)]]
 simp only[AQ,BE]
theorem EI.isE (h:EI R N c l f e) (hR:ZH R=true) (hS:∀r∈R,YX r) (hc:c<=200) (hl:l<=500) (hf:f<=40):Qm e=some true:=by
 rw [Ziw e (h.sm hS),h.eng hR hc hf hl]
theorem ZEQ (h:EI R N c l f e) (hR:ZH R=true) (hS:∀r∈R,YX r) (d:∀r∈R,SmN r) (hN:N.nodes.length<=25) (hc:c<=100) (hl:l<=100) (hf:f<=30) {x:Zg}(hx:x.args.length<=1048576):∃e' b,Zea e x=some (e',b)/\EI R N (c+1) (l+1) f e':=by
 obtain ⟨m1,m2⟩:=h.m24
 have hck:=h.ck
 have hll:=h.ll
 have a:EI R N (c+1) (l+1) f e:=h.more yE yE (A5 _)
 unfold Zea
 rw [h.copy hR hS yE yE,A0,h.isE hR hS yE yE yE,A0,if_pos rfl,Qj,A0]
 by_cases h1:Yr x=true
 rotate_left
 .rw [if_neg h1];exact ⟨e,false,rfl,a⟩
 rw [if_pos h1,Zbe,A0]
 by_cases h2:x∈e.memory.map (·.fact)
 .rw [if_pos (decide_eq_true h2)];exact ⟨e,false,rfl,a⟩
 rw [if_neg (by rw [decide_eq_true_iff];exact h2)]
 by_cases h3:24<=e.memory.length
 .rw [if_pos (by simp;omega)];exact ⟨e,false,rfl,a⟩
 rw [if_neg (by simp;omega),if_neg (by simp;omega),if_neg (by simp;omega),Zzc e 1 _ hx yE yE yE,A0]
 exact ⟨_,true,rfl,h.add d hN hl h1 h2 yE (.inl rfl) (Zvg (.inl rfl) h1)⟩
theorem ZBJ (h:EI R N c l f e) (hR:ZH R=true) (hS:∀r∈R,YX r) (a:∀r∈R,SmN r) (hN:N.nodes.length<=25) (hc:c<=100) (hl:l<=100) (hf:f<=30) {x:Zg}(hx:x.args.length<=1048576):∃e' b,Zc2 e x=some (e',b)/\EI R N c (l+1) f e':=by
 obtain ⟨m1,m2⟩:=h.m24
 have hck:=h.ck
 have hll:=h.ll
 have d:EI R N c (l+1) f e:=h.more yE yE (A5 _)
 unfold Zc2
 rw [h.copy hR hS yE yE,A0,h.isE hR hS yE yE yE,A0,if_pos rfl,Zbe,A0]
 by_cases h2:x∈e.memory.map (·.fact)
 rotate_left
 .rw [if_neg (by rw [decide_eq_true_iff];exact h2)];exact ⟨e,false,rfl,d⟩
 rw [if_pos (decide_eq_true h2),if_neg (by simp;omega),Zu9 e 2 _ hx yE yE,A0]
 obtain ⟨y,my,rfl⟩:=AB.1 h2
 exact ⟨_,true,rfl,h.drop a hN hl h2 (.inl rfl) (Zvg (.inr rfl) (m2 y my).1)⟩
def Zbs (e:Zu):Int×Bool×(List Zh)×(List Zv)×(List ZP)×(List Z6):=(e.clock,e.halted,e.rules,e.memory,e.fired,e.log)
theorem Zwt {r:Zh}{F:List Zg}{t:Zs}(hr:Yh r=true) (ht:Zit r.cond F t) {a:ZB}(ma:a∈r.thn) (hk:a.kind=1):Yr (Zj3 (Zlh a.pattern t.binding)).1=true:=by
 obtain ⟨h1,h2⟩:=Zxl hr a ma hk
 have hp:=h1
 unfold ZZ at hp
 simp only[A4,decide_eq_true_iff]at hp
 obtain ⟨l,e,_⟩:=Znx (b:=t.binding) hp.2 (fun v mv hv=>ht.vars v (h2 v mv hv))
 obtain ⟨h3,h4⟩:=Zk8 ht.bind e
 have:Zlh a.pattern t.binding=some { rel:=a.pattern.rel,args:=l }:=by
  unfold Zlh
  rw [if_pos ⟨h1,ht.bind⟩,e]
  rfl
 rw [this]
 show Yr { rel:=a.pattern.rel,args:=l }=true
 unfold Yr
 simp only[A4,decide_eq_true_iff]
 exact ⟨⟨hp.1.1,yE⟩,h3⟩
theorem Zse {ρ:Type}{body:Nat->ZB->(Int×Bool×(List Zh)×(List Zv)×(List ZP)×(List Z6))->Option ((Int×Bool×(List Zh)×(List Zv)×(List ZP)×(List Z6)) ⊕ ρ)}{fin:(Int×Bool×(List Zh)×(List Zv)×(List ZP)×(List Z6))->Option ρ}{r:Zh}{F:List Zg}{t:Zs}(hr:Yh r=true) (ht:Zit r.cond F t) (g:∀r∈R,SmN r) (hN:N.nodes.length<=25)
  (hb:∀i a e,body i a (Zbs e)=(ZbO a.pattern t.binding).bind fun v=>
   if (a.kind==1)=true then
    (Xg e.memory v.1).bind fun k=>
    if k=true then some (.inl (Zbs e)) else
    if (decide (((e.memory.length:Nat):Int)<24))=true then (XF e v.1 4 r.name).bind fun m=>some (.inl (Zbs m)) else some (.inl (Zbs e))
   else if (a.kind==2)=true then
    (Xg e.memory v.1).bind fun o=>
    if o=true then (Xn e v.1 5 r.name).bind fun p=>some (.inl (Zbs p)) else some (.inl (Zbs e))
   else if (a.kind==3)=true then (YJ { rules:=e.rules,memory:=e.memory,clock:=e.clock,fired:=e.fired,halted:=true,log:=e.log } 6 r.name { rel:=⟨#[]⟩,args:=[] }).bind fun q=>some (.inl (Zbs q)) else some (.inl (Zbs e))):
  ∀(A:List ZB) (i:Nat) (c l:Nat) (e:Zu),(∀a∈A,a∈r.thn)->c+A.length<=100->l+A.length<=100->EI R N c l f e->∃e',forL body fin A i (Zbs e)=fin (Zbs e')/\EI R N (c+A.length) (l+A.length) f e'
 | [],i,c,l,e,_,_,_,h=>⟨e,rfl,h⟩
 |a::A,i,c,l,e,hm,hc,hl,h=>by
  simp only[A6]at hc hl ⊢
  have hname:Xo r.name=true:=by
   unfold Yh at hr
   simp only[A4]at hr
   exact hr.1.1.1.1.1.1.1.1.1
  obtain ⟨m1,m2⟩:=h.m24
  have hck:=h.ck
  have hll:=h.ll
  have d:EI R N (c+1) (l+1) f e:=h.more yE yE (A5 _)
  obtain ⟨e1,g1,g2⟩:∃e1,body i a (Zbs e)=some (.inl (Zbs e1))/\EI R N (c+1) (l+1) f e1:=by
   rw [hb,ZoG,A0]
   by_cases k1:a.kind=1
   .have hx:=Zwt hr ht (hm a yG) k1
    have j:=Za2 hx
    rw [if_pos (by simpa using k1),Zbe,A0]
    by_cases q1:(Zj3 (Zlh a.pattern t.binding)).1∈e.memory.map (·.fact)
    .rw [if_pos (decide_eq_true q1)];exact ⟨e,rfl,d⟩
    rw [if_neg (by rw [decide_eq_true_iff];exact q1)]
    by_cases q2:e.memory.length<24
    .rw [if_pos (by simp;omega),Zzc e 4 _ yE yE yE yE,A0]
     exact ⟨_,rfl,h.add g hN yE hx q1 q2 (.inr rfl) (Zvl (.inl rfl) hname hx)⟩
    .rw [if_neg (by simp;omega)];exact ⟨e,rfl,d⟩
   rw [if_neg (by simpa using k1)]
   by_cases k2:a.kind=2
   .rw [if_pos (by simpa using k2),Zbe,A0]
    by_cases q1:(Zj3 (Zlh a.pattern t.binding)).1∈e.memory.map (·.fact)
    .obtain ⟨y,my,ey⟩:=AB.1 q1
     have hx:=(m2 y my).1
     have j:=(m2 y my).2
     rw [ey]at hx j
     rw [if_pos (decide_eq_true q1),Zu9 e 5 _ yE yE yE,A0]
     exact ⟨_,rfl,(h.drop g hN yE q1 (.inr rfl) (Zvl (.inr rfl) hname hx)).more yE (A5 _) (A5 _)⟩
    .rw [if_neg (by rw [decide_eq_true_iff];exact q1)];exact ⟨e,rfl,d⟩
   rw [if_neg (by simpa using k2)]
   by_cases k3:a.kind=3
   .rw [if_pos (by simpa using k3),ZjM _ _ _ yG (by show e.log.length<=_;omega),A0]
    exact ⟨_,rfl,(h.write (.inr rfl) (ZvR (.inr rfl) hname) true).more yE (A5 _) (A5 _)⟩
   .rw [if_neg (by simpa using k3)];exact ⟨e,rfl,d⟩
  obtain ⟨e',f1,f2⟩:=Zse hr ht g hN hb A (i+1) (c+1) (l+1) e1 (fun b mb=>hm b (by simp [mb])) yE yE g2
  refine ⟨e',(ZD g1).trans f1,?_⟩
  rw [show c+(A.length+1)=c+1+A.length by omega,show l+(A.length+1)=l+1+A.length by omega]
  exact f2
theorem Zyr {body:Nat->ZB->(Int×Bool×(List Zh)×(List Zv)×(List ZP)×(List Z6))->Option ((Int×Bool×(List Zh)×(List Zv)×(List ZP)×(List Z6)) ⊕ (Zu×Bool))}{fin:(Int×Bool×(List Zh)×(List Zv)×(List ZP)×(List Z6))->Option (Zu×Bool)}{r:Zh}{F:List Zg}{t:Zs}(hr:Yh r=true) (ht:Zit r.cond F t) (d:∀r∈R,SmN r) (hN:N.nodes.length<=25)
  (hb:∀i a e,body i a (Zbs e)=(ZbO a.pattern t.binding).bind fun v=>
   if (a.kind==1)=true then
    (Xg e.memory v.1).bind fun g=>
    if g=true then some (.inl (Zbs e)) else
    if (decide (((e.memory.length:Nat):Int)<24))=true then (XF e v.1 4 r.name).bind fun j=>some (.inl (Zbs j)) else some (.inl (Zbs e))
   else if (a.kind==2)=true then
    (Xg e.memory v.1).bind fun k=>
    if k=true then (Xn e v.1 5 r.name).bind fun m=>some (.inl (Zbs m)) else some (.inl (Zbs e))
   else if (a.kind==3)=true then (YJ { rules:=e.rules,memory:=e.memory,clock:=e.clock,fired:=e.fired,halted:=true,log:=e.log } 6 r.name { rel:=⟨#[]⟩,args:=[] }).bind fun o=>some (.inl (Zbs o)) else some (.inl (Zbs e)))
  (hf:∀e,fin (Zbs e)=some (e,true)) (c l:Nat) (e:Zu) {c' l':Nat} (h1:c+r.thn.length<=100) (h2:l+r.thn.length<=100) (h3:c+r.thn.length<=c') (h4:l+r.thn.length<=l') (h:EI R N c l f e):∃e' b,forL body fin r.thn 0 (Zbs e)=some (e',b)/\EI R N c' l' f e':=by
 obtain ⟨e',f1,f2⟩:=Zse hr ht d hN hb r.thn 0 c l e (fun a ma=>ma) h1 h2 h (fin:=fin)
 exact ⟨e',true,f1.trans (hf e'),f2.more h3 h4 (A5 _)⟩
theorem ZBz (h:EI R N c l f e) (hR:ZH R=true) (h3:R.length<=3) (hS:∀r∈R,YX r) (w:∀r∈R,SmN r) (hN:N.nodes.length<=25) (hc:c<=90) (hl:l<=90) (hf:f<=30):∃e' b,ZaY e=some (e',b)/\EI R N (c+2) (l+3) (f+1) e':=by
 obtain ⟨m1,m2⟩:=h.m24
 have hck:=h.ck
 have hll:=h.ll
 have hfl:=h.fl
 have m:EI R N (c+2) (l+3) (f+1) e:=h.more yE yE yE
 obtain ⟨L,l1,l2,l3⟩:=ZrW (R:=R) (M:=e.memory) e.fired hR h3 hS (h.mem yE)
 unfold ZaY
 rw [h.copy hR hS yE yE,A0,h.isE hR hS yE yE yE,A0,if_pos rfl]
 by_cases hh:e.halted=true
 .rw [if_pos hh];exact ⟨e,false,rfl,m⟩
 rw [if_neg hh,if_neg (by simp;omega),if_neg (by simp;omega),if_neg (by simp;omega),h.ru,l1,A0]
 cases L with
 |nil=>exact ⟨e,false,yG,m⟩
 |cons x L=>
  obtain ⟨⟨k,r,t,hk,mt,e1,e2,e3⟩,hn⟩:=l3 x yG
  have mr:=AF hk
  obtain ⟨hr,o⟩:=Zpn hR hk
  have p:=Zb3 hr
  have tk:=Zal _ _ t mt
  have hname:Xo r.name=true:=by
   have d:=hr
   unfold Yh at d
   simp only[A4]at d
   exact d.1.1.1.1.1.1.1.1.1
  have htl:t.facts.length<=4:=by have:=tk.len;omega
  have hb:x.mtch.binding=t.binding:=by rw [e1];rfl
  have q:x.mtch.rule=r.name:=by rw [e1];rfl
  have v:Zl1 e { rule:=r.name,times:=x.times }=true:=by
   unfold Zl1
   rw [decide_eq_true_iff]
   refine ⟨r,?_,?_,?_,fun j u hu=>?_⟩
   .rw [h.ru];simp only;rw [o];omega
   .rw [h.ru];simp only;rw [o,YN,hk]
   .simp only
    rw [e2,AN,ZA1 mt,ZvN p.1]
   .simp only at hu
    rw [e2,AD]at hu
    obtain ⟨g,hg,rfl⟩:=AK.1 hu
    obtain ⟨y,my,ey⟩:=ZpE (tk.sub g (AF hg))
    rw [ey]
    exact h.tb y my
  have A:¬∃z∈e.fired,Zh9 z { rule:=r.name,times:=x.times }:=fun ⟨z,mz,z1,z2⟩=>hn ⟨z,mz,by rw [q];exact z1,z2⟩
  have g1:=h.fire v A
  have g2:=g1.write (rule:=r.name) (x:={ rel:=⟨#[]⟩,args:=[] }) (.inl rfl) (ZvR (.inl rfl) hname) e.halted
  rw [if_neg (by simp;omega),Zk _ yG,show (x::L)[AG 0]?=some x from rfl,A0,Zvw (by rw [e2,AN];omega),A0,Zk _ yE,q,ZjM _ _ _ yG (by show e.log.length<=_;omega),A0,e3,YN,hk,A0,hb]
  have hthn:=p.2
  simp only[h.ru]at g2
  have key:=fun body fin hb hf=>Zyr (R:=R) (N:=N) (f:=f+1) (body:=body) (fin:=fin) hr tk w hN hb hf c (l+1) _ (c':=c+2) (l':=l+3) yE yE yE yE g2
  refine key _ _ ?_ ?_
  .exact fun i a e=>rfl
  .exact fun e=>rfl
end
end
theorem Zqw (y:Int):0<=Zmz .i64 y 255/\Zmz .i64 y 255<=255:=by
 have e:Zmz .i64 y 255=(((BitVec.ofInt 64 y &&& BitVec.ofInt 64 255).toNat:Nat):Int):=by
  show IntKind.i64.wrap (((BitVec.ofInt 64 y &&& BitVec.ofInt 64 255).toNat:Nat):Int)=_
  have:=Ba (n:=(BitVec.ofInt 64 y).toNat) (m:=(BitVec.ofInt 64 255).toNat)
  rw [BitVec.toNat_and]
  have h2:(BitVec.ofInt 64 255).toNat=255:=by decide
  exact Yi yE yE
 have:=Ba (n:=(BitVec.ofInt 64 y).toNat) (m:=(BitVec.ofInt 64 255).toNat)
 rw [e,BitVec.toNat_and]
 have h2:(BitVec.ofInt 64 255).toNat=255:=by decide
 omega
structure Yv (c:Zp):Prop where
 i:0<=c.i
 b:c.b.length<=4096
theorem Zys (a:List Int) (h:a.length<=4096):∃c,Zkm a=some c/\Yv c:=by
 unfold Zkm
 have key:∀(l:List Int) (i:Nat) (s:Int),∃c,forL (fun (i5:Nat) (x6:Int) (d:Int)=>
   if (decide (((i5:Nat):Int)<4000))=true then
    some (.inl (Zmz .i64 (IntKind.i64.wrap ((IntKind.i64.wrap ((IntKind.i64.wrap (d*167))+IntKind.i64.wrap x6))+29)) 1073741823))
   else
    some (.inr ({ b:=a,i:=0,h:=d }:Zp))) (fun d=>some ({ b:=a,i:=0,h:=d }:Zp)) l i s=some c/\Yv c:=by
  intro l
  induction l with
  |nil=>intro i s;exact ⟨_,rfl,Ac _,h⟩
  |cons x l ih=>
   intro i s
   cases hd:decide (((i:Nat):Int)<4000) with
   |true=>
    obtain ⟨c,h1,h2⟩:=ih (i+1) (Zmz .i64 (IntKind.i64.wrap ((IntKind.i64.wrap ((IntKind.i64.wrap (s*167))+IntKind.i64.wrap x))+29)) 1073741823)
    exact ⟨c,by rw [ZD (by rw [hd,if_pos rfl])];exact h1,h2⟩
   |false=>exact ⟨_,by rw [ZX (by rw [hd];rfl)],Ac _,h⟩
 exact key a 0 _
theorem Zwl {c:Zp}(h:Yv c):∃x c',ZdK c=some (x,c')/\0<=x/\x<=255/\Yv c':=by
 unfold ZdK
 cases hd:decide (c.i<((c.b.length:Nat):Int)) with
 |true=>
  have hlt:c.i<((c.b.length:Nat):Int):=by simpa using hd
  have hi:=h.i
  have hb:=h.b
  have hn:c.i.toNat<c.b.length:=by omega
  rw [if_pos rfl,show atI c.b c.i=some (c.b[c.i.toNat]) by unfold atI;rw [if_pos hi,A9 hn]]
  refine ⟨_,_,rfl,(Zqw _).1,(Zqw _).2,?_,hb⟩
  show 0<=IntKind.i64.wrap (c.i+1)
  rw [Yi yE yE]
  omega
 |false=>
  rw [if_neg yG]
  exact ⟨_,_,rfl,(Zqw _).1,(Zqw _).2,h.i,h.b⟩
theorem Qo {c:Zp}(h:Yv c) {n:Int}(h0:0<n) (h1:n<=256):∃x c',Y7 c n=some (x,c')/\0<=x/\x<n/\Yv c':=by
 unfold Y7
 obtain ⟨x,c',e,hx,_,hc⟩:=Zwl h
 rw [if_neg (by simp;omega),if_pos (by simp;omega),e]
 refine ⟨Int.tmod x n,c',?_,Int.tmod_nonneg _ hx,Int.tmod_lt_of_pos _ h0,hc⟩
 show chk _ _=_
 rw [Zk _ yE]
theorem ZkZ {c:Zp}(h:Yv c) {n:Int}(h0:0<n) (h1:n<=256):∃b c',ZdA c n=some (b,c')/\Yv c':=by
 obtain ⟨x,c',e,_,_,hc⟩:=Qo h h0 h1
 exact ⟨x==0,c',by unfold ZdA;rw [e];rfl,hc⟩
theorem Zn8 {c:Zp}(h:Yv c) {l:List Int}(h0:0<l.length) (h1:l.length<=256):∃x c',Zd2 c l=some (x,c')/\x∈l/\Yv c':=by
 obtain ⟨x,c',e,hx,hx2,hc⟩:=Qo h (n:=((l.length:Nat):Int)) yE yE
 have hn:x.toNat<l.length:=by omega
 refine ⟨l[x.toNat],c',?_,B6 _,hc⟩
 unfold Zd2
 rw [e]
 show (atI l x).bind _=_
 rw [show atI l x=some l[x.toNat] by unfold atI;rw [if_pos hx,A9 hn]]
 rfl
def Zac (p s:ByteArray):Prop:=∃a b,a<=b/\b<=s.size/\p=s.extract a b
theorem Zac.size {p s:ByteArray}(h:Zac p s):p.size<=s.size:=by
 obtain ⟨a,b,h1,h2,rfl⟩:=h
 rw [Aj]
 omega
theorem ZuS {σ ρ:Type}{s sep:ByteArray}(hsep:0<sep.size) (st:List ByteArray->Nat->Nat->σ) (g:List ByteArray->ρ) {body:σ->Option (σ ⊕ ρ)}
  (h1:∀row a i,a<=i->i+sep.size<=s.size->row.length<=i->body (st row a i)=some (.inl (if sEq (s.extract i (i+sep.size)) sep=true then st (row++[s.extract a i]) (i+sep.size) (i+sep.size) else st row a (i+1))))
  (h2:∀row a i,a<=i->i<=s.size->¬i+sep.size<=s.size->row.length<=i->body (st row a i)=some (.inr (g (row++[s.extract a s.size])))):
  ∃l,iter body (st [] 0 0)=some (g l)/\l.length<=s.size+1/\∀p∈l,Zac p s:=by
 have key:∀m row a i,s.size - i<=m->a<=i->i<=s.size->row.length<=i->(∀p∈row,Zac p s)->∃l,iter body (st row a i)=some (g l)/\l.length<=s.size+1/\∀p∈l,Zac p s:=by
  intro m
  induction m with
  |zero=>
   intro row a i hm hf hi hr hp
   have hn:¬i+sep.size<=s.size:=by omega
   refine ⟨_,YE (h2 row a i hf hi hn hr),by simp;omega,fun p mp=>?_⟩
   rcases AH.1 mp with mp|mp
   .exact hp p mp
   .simp at mp;subst mp;exact ⟨a,s.size,yE,A5 _,rfl⟩
  |succ m ih=>
   intro row a i hm hf hi hr hp
   by_cases hn:i+sep.size<=s.size
   .rw [Y6 (h1 row a i hf hn hr)]
    split
    .refine ih _ _ _ yE (A5 _) hn (by simp;omega) fun p mp=>?_
     rcases AH.1 mp with mp|mp
     .exact hp p mp
     .simp at mp;subst mp;exact ⟨a,i,hf,hi,rfl⟩
    .exact ih _ _ _ yE yE yE yE hp
   .refine ⟨_,YE (h2 row a i hf hi hn hr),by simp;omega,fun p mp=>?_⟩
    rcases AH.1 mp with mp|mp
    .exact hp p mp
    .simp at mp;subst mp;exact ⟨a,s.size,yE,A5 _,rfl⟩
 exact key s.size [] 0 0 yE (A5 _) (BB _) (A5 _) yG
theorem Zac.ext (s:ByteArray) {a b:Nat}(h:a<=b) (hb:b<=s.size):Zac (s.extract a b) s:=⟨a,b,h,hb,rfl⟩
theorem Zac.trans {p q s:ByteArray}(h:Zac p q) (k:Zac q s):Zac p s:=by
 obtain ⟨a,b,h1,h2,rfl⟩:=h
 obtain ⟨c,d,h3,h4,rfl⟩:=k
 rw [Aj]at h2
 refine ⟨c+a,c+b,yE,yE,?_⟩
 rw [ByteArray.extract_extract]
 congr 1
 omega
theorem Qc {s sep:ByteArray}(hs:s.size<=1000) (h0:0<sep.size) (h1:sep.size<=10):∃l,Qh s sep=some l/\l.length<=s.size+1/\∀p∈l,Zac p s:=by
 unfold Qh
 rw [if_neg (by rw [ZL];intro e;rw [e]at h0;exact absurd h0 yF)]
 refine ZuS h0 (fun row f i=>(row,((f:Nat):Int),((i:Nat):Int))) (fun l=>l) ?_ ?_
 .intro row f i hf hi hr
  have e:IntKind.i64.wrap (((i:Nat):Int)+((sep.size:Nat):Int))=((i+sep.size:Nat):Int):=by rw [Yi yE yE];omega
  have e1:IntKind.i64.wrap (((i:Nat):Int)+1)=((i+1:Nat):Int):=by rw [Yi yE yE];omega
  simp only[e,e1,AI]
  rw [if_pos (by simp;omega),Zk _ yE]
  split
  .rw [Zk _ yE,Zk _ yE]
  .rfl
 .intro row f i hf hi hn hr
  have e:IntKind.i64.wrap (((i:Nat):Int)+((sep.size:Nat):Int))=((i+sep.size:Nat):Int):=by rw [Yi yE yE];omega
  simp only[e,AI]
  rw [if_neg (by simp;omega),Zk _ yE,Zk _ yE]
theorem ZwU {α:Type}{l:List α}(h:¬(((l.length:Nat):Int) != 2)=true):∃x y,l=[x,y]:=by
 have hl:l.length=2:=by simp at h;omega
 match l,hl with
 | [x,y],_=>exact ⟨x,y,rfl⟩
theorem ZtQ {s:ByteArray}(hs:s.size<=1000):∃r a ok,ZcS s=some (r,a,ok)/\a.length<=s.size+1:=by
 unfold ZcS
 obtain ⟨l,e,hl,hp⟩:=Qc (sep:=⟨#[40]⟩) hs yF yF
 rw [e,A0]
 split
 .exact ⟨_,_,_,rfl,yG⟩
 rename_i h2
 obtain ⟨x,y,rfl⟩:=ZwU h2
 have c:(([x,y]:List ByteArray).length:Int)=2:=rfl
 rw [Zk _ (by rw [c];decide)]
 simp only[show AG 1=1 from rfl,show AG 0=0 from rfl,AU,Ak,A0]
 have hy:=(hp y yG).size
 split
 .exact ⟨_,_,_,rfl,yG⟩
 rename_i h3
 have hy0:y.size≠0:=fun e=>h3 (by rw [e];rfl)
 have e1:IntKind.i64.wrap (((y.size:Nat):Int) - 1)=((y.size - 1:Nat):Int):=by rw [Yi yE yE];omega
 simp only[e1]
 have hb:∃b,sAt y ((y.size - 1:Nat):Int)=some b:=by
  unfold sAt
  rw [if_pos yE,AI]
  exact ⟨y[y.size - 1]'yE,by rw [getElem?_pos]⟩
 obtain ⟨b,hb⟩:=hb
 rw [hb,A0]
 split
 .exact ⟨_,_,_,rfl,yG⟩
 rw [Zk _ yE,AI]
 split
 .rw [Zk _ yG]
  exact ⟨_,_,_,rfl,yG⟩
 .rw [Zk _ yG]
  have hq:(y.extract 0 (y.size - 1)).size<=y.size:=by rw [Aj];omega
  obtain ⟨k,e2,hk,_⟩:=Qc (s:=y.extract 0 (y.size - 1)) (sep:=⟨#[44]⟩) yE yF yF
  rw [e2,A0]
  exact ⟨_,_,_,rfl,yE⟩
theorem ZgJ {s:ByteArray}(hs:s.size<=1000):∃p ok,Yy s=some (p,ok)/\p.args.length<=s.size+1:=by
 unfold Yy
 obtain ⟨r,a,ok,e,ha⟩:=ZtQ hs
 rw [e,A0]
 cases ok with
 |false=>exact ⟨_,_,rfl,yG⟩
 |true=>
  rw [if_pos rfl,Zcx,A0]
  split
  .exact ⟨_,_,rfl,ha⟩
  .exact ⟨_,_,rfl,yG⟩
def ZqF:ByteArray:=⟨#[110,111,116,32]⟩
theorem Zq9 {s:ByteArray}(hs:s.size<=1000):∃x ok,QT s=some (x,ok)/\x.pattern.args.length<=s.size+1/\(x.kind=2->Zac ZqF s):=by
 unfold QT
 have sg:∀k:Int,∃g,Zf0 k=some g/\0<g.size/\g.size<=10:=fun k=>by
  unfold Zf0
  split
  .exact ⟨_,rfl,yF,yF⟩
  .split
   .exact ⟨_,rfl,yF,yF⟩
   .exact ⟨_,rfl,yF,yF⟩
 have key:∀(body:Int->Option (Int ⊕ Zj×Bool)) (Q:Zj×Bool->Prop),(∀k:Nat,3<=k->k<=5->(∃r,body ((k:Nat):Int)=some (.inr r)/\Q r)\/body ((k:Nat):Int)=some (.inl ((k+1:Nat):Int)))->(∃r,body 6=some (.inr r)/\Q r)->∃r,iter body 3=some r/\Q r:=by
  intro body Q h1 h2
  have b:∀k:Nat,3<=k->k<=6->∃r,iter body ((k:Nat):Int)=some r/\Q r:=by
   have go:∀m k:Nat,k+m=6->3<=k->∃r,iter body ((k:Nat):Int)=some r/\Q r:=by
    intro m
    induction m with
    |zero=>
     intro k hk _
     obtain rfl:k=6:=by omega
     obtain ⟨r,e,q⟩:=h2
     exact ⟨r,YE e,q⟩
    |succ m ih=>
     intro k hk h3
     rcases h1 k h3 yE with ⟨r,e,q⟩|e
     .exact ⟨r,YE e,q⟩
     .rw [Y6 e];exact ih (k+1) yE yE
   exact fun k h3 h6=>go (6 - k) k yE h3
  exact b 3 yE yE
 have fin:∀body:Int->Option (Int ⊕ Zj×Bool),(∃r,iter body 3=some r/\(r.1.pattern.args.length<=s.size+1/\(r.1.kind=2->Zac ZqF s)))->∃x ok,iter body 3=some (x,ok)/\x.pattern.args.length<=s.size+1/\(x.kind=2->Zac ZqF s):=fun _ ⟨r,e,q⟩=>⟨r.1,r.2,e,q⟩
 refine fin _ (key _ (fun r=>r.1.pattern.args.length<=s.size+1/\(r.1.kind=2->Zac ZqF s)) ?_ ?_)
 .intro k h3 h5
  rw [if_pos (by simp;omega)]
  obtain ⟨g,eg,g0,g1⟩:=sg ((k:Nat):Int)
  obtain ⟨l,el,hl,hp⟩:=Qc hs g0 g1
  have e1:IntKind.i64.wrap (((k:Nat):Int)+1)=((k+1:Nat):Int):=by rw [Yi yE yE];omega
  rw [eg,A0,el,A0,e1]
  split
  .rename_i h2
   obtain ⟨x,y,rfl⟩:=ZwU (l:=l) (by simp at h2 ⊢;omega)
   rw [Zk _ yG]
   simp only[show AG 1=1 from rfl,show AG 0=0 from rfl,AU,Ak,A0]
   rw [Zk _ yG,Zfc,A0]
   split
   .exact .inl ⟨_,rfl,yG,fun h=>by simp only at h;omega⟩
   .exact .inr rfl
  .exact .inr rfl
 .rw [if_neg yF]
  have a:∀(t:ByteArray),t.size<=s.size->∀kd:Int,(kd=2->Zac ZqF s)->∃r,((Yy t).bind fun v=>if v.2=true then some (Sum.inr (({ kind:=kd,pattern:=v.1,left:=⟨#[]⟩,right:=⟨#[]⟩ }:Zj),true)) else some (.inr (({ kind:=0,pattern:=({ rel:=⟨#[]⟩,args:=[] }:Zi),left:=⟨#[]⟩,right:=⟨#[]⟩ }:Zj),false)))=some (Sum.inr r:Int ⊕ Zj×Bool)/\(r.1.pattern.args.length<=s.size+1/\(r.1.kind=2->Zac ZqF s)):=fun t ht kd hk=>by
   obtain ⟨p,ok,e,ha⟩:=ZgJ (s:=t) yE
   rw [e,A0]
   cases ok with
   |true=>exact ⟨_,rfl,by show p.args.length<=_;omega,hk⟩
   |false=>exact ⟨_,rfl,yG,fun h=>by simp at h⟩
  split
  .rename_i h4
   have h4':4<s.size:=by simp at h4;omega
   rw [Zk _ yE]
   split
   .rename_i hn
    have c:=ZL.1 hn
    exact a _ (by rw [Aj];omega) 2 fun _=>by
     unfold ZqF
     rw [<-c]
     exact Zac.ext s yF (by show AG 4<=_;have:AG 4=4:=rfl;omega)
   .exact a s (A5 _) 1 fun h=>by omega
  .exact a s (A5 _) 1 fun h=>by omega
theorem ZrH {s:ByteArray}(hs:s.size<=1000):∃a ok,Q9 s=some (a,ok)/\a.pattern.args.length<=s.size+1:=by
 unfold Q9
 split
 .exact ⟨_,_,rfl,yG⟩
 obtain ⟨l,e,hl,hp⟩:=Qc (sep:=⟨#[32]⟩) hs yF yF
 rw [e,A0]
 split
 .exact ⟨_,_,rfl,yG⟩
 rename_i h2
 obtain ⟨x,y,rfl⟩:=ZwU h2
 have hy:=(hp y yG).size
 obtain ⟨p,ok,ep,ha⟩:=ZgJ (s:=y) yE
 rw [Zk _ yG]
 simp only[show AG 1=1 from rfl,show AG 0=0 from rfl,AU,Ak,A0,ep]
 split
 .rw [Zk _ yG]
  exact ⟨_,_,rfl,by show p.args.length<=_;omega⟩
 .split
  .rw [Zk _ yG]
   exact ⟨_,_,rfl,by show p.args.length<=_;omega⟩
  .exact ⟨_,_,rfl,yG⟩
structure Znd (s:ByteArray) (r:Zh):Prop where
 cl:r.cond.length<=s.size+1
 tl:r.thn.length<=s.size+1
 ca:∀x∈r.cond,x.pattern.args.length<=s.size+1/\(x.kind=2->Zac ZqF s)
 ta:∀a∈r.thn,a.pattern.args.length<=s.size+1
theorem ZoZ {α ρ:Type}{s:ByteArray}{P:α->Prop}{g:ByteArray->Option (α×Bool)}{fin:List α->Option ρ}{z:List α->ρ}{Q:ρ->Prop}{l:List ByteArray}(hl:l.length<=2000) (hp:∀p∈l,Zac p s) (hg:∀p,Zac p s->∃x ok,g p=some (x,ok)/\P x) (hz:∀acc:List α,acc.length<=l.length->(∀x∈acc,P x)->Q (z acc)) (b:∀acc:List α,acc.length<=l.length->(∀x∈acc,P x)->∃r,fin acc=some r/\Q r):
  ∃r,forL (σ:=List α) (fun (i:Nat) (x:ByteArray) row=>(g x).bind fun v=>if v.2=true then chk (row.length+1<=1073741824) (some (.inl (row++[v.1]))) else some (.inr (z row))) fin l 0 []=some r/\Q r:=by
 have key:∀(m:List ByteArray) (i:Nat) (acc:List α),(∀p∈m,p∈l)->acc.length+m.length<=l.length->(∀x∈acc,P x)->∃r,forL (σ:=List α) (fun (i:Nat) (x:ByteArray) row=>(g x).bind fun v=>if v.2=true then chk (row.length+1<=1073741824) (some (.inl (row++[v.1]))) else some (.inr (z row))) fin m i acc=some r/\Q r:=by
  intro m
  induction m with
  |nil=>intro i acc _ a ha;exact b acc (by simp at a;omega) ha
  |cons x m ih=>
   intro i acc hm a ha
   obtain ⟨y,ok,e,hy⟩:=hg x (hp x (hm x yG))
   rw [A6]at a
   cases ok with
   |true=>
    rw [ZD (s':=acc++[y]) (by rw [e];exact Zk _ yE)]
    exact ih _ _ (fun p mp=>hm p (by simp [mp])) (by simp;omega) fun q mq=>by
     rcases AH.1 mq with mq|mq
     .exact ha q mq
     .simp at mq;subst mq;exact hy
   |false=>exact ⟨_,ZX (by rw [e];rfl),hz acc yE ha⟩
 exact key l 0 [] (fun _ h=>h) yG yG
theorem ZtG {s a b:ByteArray}(hs:s.size<=1000) (ha:Zac a s) (hb:Zac b s) (r0:Zh):∃r ok,ZcN r0 a b=some (r,ok)/\Znd s r:=by
 unfold ZcN
 have ha':=ha.size
 have hb':=hb.size
 obtain ⟨l,e,hl,hp⟩:=Qc (s:=a) (sep:=⟨#[32,38,32]⟩) yE yF yF
 obtain ⟨k,e2,hk,hq⟩:=Qc (s:=b) (sep:=⟨#[32,38,32]⟩) yE yF yF
 rw [e,A0]
 obtain ⟨r,h1,h2⟩:=ZoZ (s:=s) (P:=fun x:Zj=>x.pattern.args.length<=s.size+1/\(x.kind=2->Zac ZqF s)) (g:=QT) (fin:=fun d=>(Qh b (⟨#[32,38,32]⟩)).bind fun i=>
   forL (σ:=(List ZB))
    (fun (i37:Nat) (j:ByteArray) c=>
     (Q9 j).bind fun f=>
     if f.2=true then
      chk (c.length+1<=1073741824) <|
      some (.inl (c++[f.1]))
     else
      some (.inr (({ name:=r0.name,priority:=r0.priority,cond:=d,thn:=c }:Zh),false)))
    (fun c=>
     (Zae ({ name:=r0.name,priority:=r0.priority,cond:=d,thn:=c }:Zh)).bind fun m=>
     some (({ name:=r0.name,priority:=r0.priority,cond:=d,thn:=c }:Zh),m))
    i 0 []) (z:=fun d=>(({ name:=r0.name,priority:=r0.priority,cond:=d,thn:=[] }:Zh),false)) (Q:=fun r=>Znd s r.1) (l:=l) yE (fun p mp=>(hp p mp).trans ha) (fun p hp=>by
    obtain ⟨x,ok,e,h1,h2⟩:=Zq9 (s:=p) (by have:=hp.size;omega)
    exact ⟨x,ok,e,by have:=hp.size;omega,fun h=>(h2 h).trans hp⟩) (fun acc h1 h2=>⟨by show acc.length<=_;omega,yG,h2,yG⟩) (fun acc h1 h2=>by
    rw [e2,A0]
    exact ZoZ (s:=s) (P:=fun x:ZB=>x.pattern.args.length<=s.size+1) (g:=Q9) (z:=fun c=>(({ name:=r0.name,priority:=r0.priority,cond:=acc,thn:=c }:Zh),false)) (Q:=fun r=>Znd s r.1) (l:=k) yE (fun p mp=>(hq p mp).trans hb) (fun p hp=>by
     obtain ⟨x,ok,e,h1⟩:=ZrH (s:=p) (by have:=hp.size;omega)
     exact ⟨x,ok,e,by have:=hp.size;omega⟩) (fun row h3 h4=>⟨by show acc.length<=_;omega,by show row.length<=_;omega,h2,h4⟩) (fun row h3 h4=>by
     rw [ZhI _ ⟨by show acc.length<=_;omega,by show row.length<=_;omega,fun x mx=>by have:=(h2 x mx).1;omega,fun x mx=>by have:=h4 x mx;omega⟩,A0]
     exact ⟨_,rfl,by show acc.length<=_;omega,by show row.length<=_;omega,h2,h4⟩))
 exact ⟨r.1,r.2,h1,h2⟩
theorem Zfx (s:ByteArray):Znd s { name:=⟨#[]⟩,priority:=0,cond:=[],thn:=[] }:=⟨yG,yG,yG,yG⟩
theorem ZqH {s:ByteArray}(hs:s.size<=1000):∃r ok,X9 s=some (r,ok)/\Znd s r:=by
 unfold X9
 obtain ⟨l,e,hl,hp⟩:=Qc (sep:=⟨#[58,32]⟩) hs yF yF
 rw [e,A0]
 split
 .exact ⟨_,_,rfl,Zfx s⟩
 rename_i h2
 obtain ⟨x,y,rfl⟩:=ZwU h2
 have hx:=hp x yG
 have hy:=hp y yG
 have hx':=hx.size
 have hy':=hy.size
 obtain ⟨m,em,hm,hpm⟩:=Qc (s:=x) (sep:=⟨#[32]⟩) yE yF yF
 obtain ⟨k,ek,hk,a⟩:=Qc (s:=y) (sep:=⟨#[32,45,62,32]⟩) yE yF yF
 rw [Zk _ yG]
 simp only[show AG 1=1 from rfl,show AG 0=0 from rfl,AU,Ak,A0,em]
 rw [Zk _ yG,ek,A0]
 split
 .exact ⟨_,_,rfl,Zfx s⟩
 rename_i h3
 obtain ⟨m0,m1,rfl⟩:=ZwU h3
 split
 .exact ⟨_,_,rfl,Zfx s⟩
 rename_i h4
 obtain ⟨k0,k1,rfl⟩:=ZwU h4
 rw [Zk _ yG]
 simp only[AU,Ak,A0,Ziy]
 split
 .rw [Zk _ yG,Zk _ yG,Zk _ yG]
  obtain ⟨r,ok,er,hr⟩:=ZtG hs ((a k0 yG).trans hy) ((a k1 yG).trans hy) ({ name:=m0,priority:=(ZgV m1).1,cond:=[],thn:=[] }:Zh)
  rw [er,A0]
  cases ok with
  |true=>exact ⟨_,_,rfl,hr⟩
  |false=>exact ⟨_,_,rfl,Zfx s⟩
 .exact ⟨_,_,rfl,Zfx s⟩
end Go.Proofs.YtaafhjecikjhbaaGreatDoor
