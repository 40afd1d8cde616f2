/- Texts of this proof, joined: DR, K22, BInv, BRun, BOps1, BOps2, BOps3, BOps4, BOps5, BOps6, BOps7, BOps8, BFrz. What each holds is said at its theorems. -/
import Derived.Test.YtaafhjecikjhbaaGreatDoorFollowsQ3
import Derived.Test.YtaafhjecikjhbaaGreatDoorFollowsQ2
import Derived.Test.YtaafhjecikjhbaaGreatDoorFollowsQ1
import Derived.Laws.CopyRow
import Derived.Laws.OwnMore
import Derived.Laws.StructEq
import Derived.Laws.Tables
import Derived.Great.BuildSlice
open Array renaming getElem?_eq_some_iff→Ae
open Bool renaming and_eq_true→AD
open Go.ByteArray renaming toList_eq→B9
open Int renaming toNat→AA,toNat_natCast→AS
open List renaming mem_append→A4,mem_flatMap→AI,getElem?_eq_getElem→AJ,getElem?_eq_some_iff→AK,nodup_append→AL,append_assoc→AN,mem_cons→AP,nil_sublist→AQ,singleton_append→AR,nodup_cons→AU,mem_of_getElem?→AW,eq_nil_of_length_eq_zero→AX,replicate→Aa,getElem_mem→Ac,drop_append→Ag,drop_of_length_le→Ah,nil_append→Ai,take_succ_cons→Aj,cons_append→Ak,drop_succ_cons→Al,length_map→An,mem_of_mem_drop→Ar,mem_of_mem_take→As,drop_take→Aw,flatMap_cons→Ax,append_nil→Ay,take_left'→Az,drop_append_of_le_length→B1,pairwise_iff_getElem→B4,foldl_cons→B5,mem_map→B6,length_cons→B7,getElem?_take→BB,getElem?_drop→BC,take_length_add_append→BD,flatMap_append→BE,replicate_succ→BF,flatten_cons→BG,all_cons→BI,sublist_append_right→BJ,take_zero→BK,mem_singleton→BL,size_toArray→BM,drop_drop→BN,take_append_drop→BP
open List.Pairwise renaming nil→Am
open List.Sublist renaming refl→AE,append→AH
open Nat renaming add_mul→AC,le_refl→AF,add_assoc→AG,zero_le→AO,zero_add→AT,mul_le_mul_right→AY,add_sub_cancel_left→AZ,le_trans→Ao,zero_mul→At,le_add_right→Au,lt_of_lt_of_le→B8,mul_le_mul→BH
open Option renaming bind_some→A0,map_eq_some_iff→A9,bind_eq_some_iff→AB,map_some→Aq
open Option.some renaming injEq→A5,inj→B2
open Prod.mk renaming injEq→A6
open UInt8 renaming ofNat→Ad
set_option linter.unusedSimpArgs false
set_option linter.unusedVariables false
set_option maxRecDepth 1000000
set_option maxHeartbeats 4000000
namespace Go.Proofs.YtaafhjecikjhbaaGreatDoor
theorem yO{p:Prop}(h:p:=by kernel_rfl):p:=h
theorem yP{α:Type}{a:Option α}{b c:α}(h:a=some b)(e:b=c:=by kernel_rfl):a=some c:=h.trans (congrArg some e)
section
open Classical
theorem Zry {c:Zp}(h:Yv c) {l:List ByteArray}(h0:0<l.length) (h1:l.length<=256):∃x c',Zii c l=some (x,c')/\x∈l/\Yv c':=by
 obtain ⟨x,c',e,hx,hx2,hc⟩:=Qo h (n:=((l.length:Nat):Int)) yE yE
 have hn:x.toNat<l.length:=by omega
 refine ⟨l[x.toNat],c',?_,Ac _,hc⟩
 unfold Zii
 rw [e]
 show (atI l x).bind _=_
 rw [show atI l x=some l[x.toNat] by unfold atI;rw [if_pos hx,AJ hn]]
 rfl
theorem ZkL {c:Zp}(h:Yv c):∃x c',Zca c=some (x,c')/\Yv c':=by
 unfold Zca
 obtain ⟨x,c',e,_,hc⟩:=Zry h (l:=[(⟨#[97]⟩),(⟨#[98]⟩),(⟨#[99]⟩),(⟨#[49]⟩),(⟨#[50]⟩)]) yG yG
 exact ⟨x,c',by rw [e];rfl,hc⟩
theorem ZrB {c:Zp}(h:Yv c):∃r n c',Zh7 c=some (r,n,c')/\0<=n/\n<=2/\r≠⟨#[110]⟩/\Yv c':=by
 unfold Zh7
 obtain ⟨x,c',e,x0,x1,hc⟩:=Qo h (n:=6) yE yE
 have key:∀(A:List ByteArray) (B:List Int),A.length=6->B.length=6->(∀b∈B,0<=b/\b<=2)->(∀a∈A,a≠⟨#[110]⟩)->∃r n c',((Y7 c 6).bind fun v1=>chk (0<=v1.1/\v1.1<((6:Nat):Int)) <| (A[(AA v1.1)]?).bind fun x2=>(B[(AA v1.1)]?).bind fun x3=>some (x2,x3,v1.2))=some (r,n,c')/\0<=n/\n<=2/\r≠⟨#[110]⟩/\Yv c':=fun A B hA hB hb ha=>by
  have q1:x.toNat<A.length:=by omega
  have q2:x.toNat<B.length:=by omega
  have q3:=hb _ (Ac q2)
  refine ⟨A[x.toNat],B[x.toNat],c',?_,q3.1,q3.2,ha _ (Ac q1),hc⟩
  rw [e,A0,Zk _ yE,AJ q1,A0,AJ q2,A0]
 exact key _ _ rfl rfl yF yF
theorem Zpl {ρ:Type}{tm:Zp->Option (ByteArray×Zp)}(ht:∀c,Yv c->∃x c',tm c=some (x,c')/\Yv c') (g:List ByteArray->Zp->ρ) {n:Int}(n0:0<=n) (n1:n<=100) {c:Zp}(hc:Yv c):∃row c',iter (σ:=(List Int)×Int×Int×(List ByteArray)×Int)
  (fun s=>
   match s with
   |(f_4,f_5,f_6,row_7,i_8)=>
   if (decide (i_8<n))=true then
    (tm ({ b:=f_4,i:=f_5,h:=f_6 }:Zp)).bind fun v9=>
    chk (row_7.length+1<=1073741824) <|
    some (.inl (v9.2.b,v9.2.i,v9.2.h,(row_7++[v9.1]),(IntKind.i64.wrap (i_8+1))))
   else
    some (.inr (g row_7 ({ b:=f_4,i:=f_5,h:=f_6 }:Zp))))
  (c.b,c.i,c.h,[],0)=some (g row c')/\row.length<=n.toNat/\Yv c':=by
 have key:∀(m k:Nat) (cc:Zp) (row:List ByteArray),((k+m:Nat):Int)=n->row.length=k->Yv cc->∃d c',iter (σ:=(List Int)×Int×Int×(List ByteArray)×Int)
  (fun s=>
   match s with
   |(f_4,f_5,f_6,row_7,i_8)=>
   if (decide (i_8<n))=true then
    (tm ({ b:=f_4,i:=f_5,h:=f_6 }:Zp)).bind fun v9=>
    chk (row_7.length+1<=1073741824) <|
    some (.inl (v9.2.b,v9.2.i,v9.2.h,(row_7++[v9.1]),(IntKind.i64.wrap (i_8+1))))
   else
    some (.inr (g row_7 ({ b:=f_4,i:=f_5,h:=f_6 }:Zp))))
  (cc.b,cc.i,cc.h,row,((k:Nat):Int))=some (g d c')/\d.length<=n.toNat/\Yv c':=by
  intro m
  induction m with
  |zero=>
   intro k cc row hk hr e
   refine ⟨row,cc,YE ?_,yE,e⟩
   simp only
   rw [if_neg (by simp;omega)]
  |succ m ih=>
   intro k cc row hk hr e
   obtain ⟨a,c2,e2,f⟩:=ht cc e
   have hw:IntKind.i64.wrap (((k:Nat):Int)+1)=((k+1:Nat):Int):=by rw [Yi yE yE];omega
   refine (Y6 (s':=(c2.b,c2.i,c2.h,row++[a],((k+1:Nat):Int))) ?_) ▸ ih (k+1) c2 (row++[a]) yE (by simp [hr]) f
   simp only
   rw [if_pos (by simp;omega),show ({ b:=cc.b,i:=cc.i,h:=cc.h }:Zp)=cc from rfl,e2,A0,Zk _ yE,hw]
 exact key n.toNat 0 c [] yE rfl hc
theorem Zxg {c:Zp}(h:Yv c):∃f c',Zf8 c=some (f,c')/\f.args.length<=2/\f.rel≠⟨#[110]⟩/\Yv c':=by
 unfold Zf8
 obtain ⟨r,n,c1,e,n0,n1,a,hc⟩:=ZrB h
 rw [e,A0]
 obtain ⟨row,c2,e2,h1,h2⟩:=Zpl (tm:=Zca) (fun c hc=>ZkL hc) (fun row c=>(({ rel:=r,args:=row }:Zg),c)) n0 yE hc
 exact ⟨{ rel:=r,args:=row },c2,e2,by show row.length<=2;omega,a,h2⟩
/- one computation is another one wherever it comes to an end -/
def Ref {α:Type}(a b:Option α):Prop:=∀r,a=some r->b=some r
theorem Ref.refl {α:Type}(a:Option α):Ref a a:=fun _ h=>h
theorem Ref.bind {α β:Type}{a b:Option α}{f g:α->Option β}(h:Ref a b) (k:∀x,Ref (f x) (g x)):Ref (a.bind f) (b.bind g):=fun r hr=>by
 obtain ⟨x,h1,h2⟩:=AB.1 hr
 rw [h x h1,A0]
 exact k x r h2
theorem Ref.ite {α:Type}{c:Prop}[Decidable c] {a b a' b':Option α}(h:Ref a a') (k:Ref b b'):Ref (if c then a else b) (if c then a' else b'):=by
 split
 .exact h
 .exact k
theorem Ref.chk {α:Type}{p:Prop}[Decidable p] {a b:Option α}(h:Ref a b):Ref (chk p a) (chk p b):=fun r hr=>by
 unfold Go.Proofs.YtaafhjecikjhbaaGreatDoor.chk at hr ⊢
 split at hr
 .rename_i hp;rw [if_pos hp];exact h r hr
 .simp at hr
theorem Ref.forL {α σ ρ:Type}{body a:Nat->α->σ->Option (σ ⊕ ρ)}{fin b:σ->Option ρ}(h:∀i x s,Ref (body i x s) (a i x s)) (k:∀s,Ref (fin s) (b s)):∀(l:List α) (i:Nat) (s:σ),Ref (forL body fin l i s) (forL a b l i s)
 | [],_,s=>k s
 |x::l,i,s=>fun r hr=>by
  cases e:body i x s with
  |none=>simp only[Go.Proofs.YtaafhjecikjhbaaGreatDoor.forL,e]at hr;simp at hr
  |some y=>
   cases y with
   |inl s'=>
    rw [ZD e]at hr
    rw [ZD (h i x s _ e)]
    exact Ref.forL h k l (i+1) s' r hr
   |inr q=>
    rw [ZX e]at hr
    rw [ZX (h i x s _ e)]
    exact hr
theorem Ref.iter {σ ρ:Type}{body a:σ->Option (σ ⊕ ρ)}(h:∀s,Ref (body s) (a s)):∀(n:Nat) (s:σ),Ref (Zb1 body n s) (iter a s)
 |0,_=>fun r hr=>by simp [Zb1]at hr
 |n+1,s=>fun r hr=>by
  simp only[Zb1]at hr
  cases e:body s with
  |none=>rw [e]at hr;simp at hr
  |some y=>
   rw [e]at hr
   cases y with
   |inl s'=>rw [Y6 (h s _ e)];exact Ref.iter h n s' r hr
   |inr q=>rw [YE (h s _ e)];exact hr
def Zi2 (s sep:ByteArray):Nat->Nat->Nat->List ByteArray
 |0,f,_=>[s.extract f s.size]
 |m+1,f,i=>if i+sep.size<=s.size then (if sEq (s.extract i (i+sep.size)) sep=true then s.extract f i::Zi2 s sep m (i+sep.size) (i+sep.size) else Zi2 s sep m f (i+1)) else [s.extract f s.size]
theorem Zyh {σ ρ:Type}{s sep:ByteArray}(hsep:0<sep.size) (st:List ByteArray->Nat->Nat->σ) (g:List ByteArray->ρ) {body:σ->Option (σ ⊕ ρ)}
  (h1:∀row a i,a<=i->i+sep.size<=s.size->row.length<=i->body (st row a i)=some (.inl (if sEq (s.extract i (i+sep.size)) sep=true then st (row++[s.extract a i]) (i+sep.size) (i+sep.size) else st row a (i+1))))
  (h2:∀row a i,a<=i->i<=s.size->¬i+sep.size<=s.size->row.length<=i->body (st row a i)=some (.inr (g (row++[s.extract a s.size])))):
  iter body (st [] 0 0)=some (g (Zi2 s sep s.size 0 0)):=by
 have key:∀m row a i,s.size - i<=m->a<=i->i<=s.size->row.length<=i->iter body (st row a i)=some (g (row++Zi2 s sep m a i)):=by
  intro m
  induction m with
  |zero=>
   intro row a i hm hf hi hr
   exact YE (h2 row a i hf hi yE hr)
  |succ m ih=>
   intro row a i hm hf hi hr
   unfold Zi2
   by_cases hn:i+sep.size<=s.size
   .rw [Y6 (h1 row a i hf hn hr),if_pos hn]
    split
    .rw [ih _ _ _ yE (AF _) hn (by simp;omega),AN,AR]
    .exact ih _ _ _ yE yE yE yE
   .rw [if_neg hn]
    exact YE (h2 row a i hf hi hn hr)
 exact key s.size [] 0 0 yE (AF _) (AO _) (AF _)
theorem ZuL {s sep:ByteArray}(hs:s.size<=1000) (h0:0<sep.size) (h1:sep.size<=10):Qh s sep=some (Zi2 s sep s.size 0 0):=by
 unfold Qh
 rw [if_neg (by rw [ZL];intro e;rw [e]at h0;exact absurd h0 yF)]
 refine Zyh h0 (fun row f i=>(row,((f:Nat):Int),((i:Nat):Int))) (fun l=>l) ?_ ?_
 .intro row f i hf hi hr
  have e:IntKind.i64.wrap (((i:Nat):Int)+((sep.size:Nat):Int))=((i+sep.size:Nat):Int):=by rw [Yi yE yE];omega
  have e1:IntKind.i64.wrap (((i:Nat):Int)+1)=((i+1:Nat):Int):=by rw [Yi yE yE];omega
  simp only[e,e1,AS]
  rw [if_pos (by simp;omega),Zk _ yE]
  split
  .rw [Zk _ yE,Zk _ yE]
  .rfl
 .intro row f i hf hi hn hr
  have e:IntKind.i64.wrap (((i:Nat):Int)+((sep.size:Nat):Int))=((i+sep.size:Nat):Int):=by rw [Yi yE yE];omega
  simp only[e,AS]
  rw [if_neg (by simp;omega),Zk _ yE,Zk _ yE]
def Zco (s sep:ByteArray):Option (List ByteArray):=if s.size<=1000/\0<sep.size/\sep.size<=10 then some (Zi2 s sep s.size 0 0) else none
theorem Zed (s sep:ByteArray):Ref (Zco s sep) (Qh s sep):=fun r h=>by
 unfold Zco at h
 split at h
 .rename_i hc;rw [ZuL hc.1 hc.2.1 hc.2.2];exact h
 .simp at h
def ZlG (p:Zi):Option Bool:=some (ZZ p)
theorem Zox (p:Zi):Ref (ZlG p) (XK p):=fun r h=>by rw [Zcx];exact h
def Ztw (x:Zj):Option Bool:=some (Yj x)
theorem ZuD (x:Zj):Ref (Ztw x) (ZdM x):=fun r h=>by rw [Zfc];exact h
def Zm9 (s:ByteArray):Option (Int×Bool):=some (ZgV s)
theorem Zqx (s:ByteArray):Ref (Zm9 s) (Zc3 s):=fun r h=>by rw [Ziy];exact h
def ZmB (r:Zh):Option Bool:=if r.cond.length<=100/\r.thn.length<=100/\(∀x∈r.cond,x.pattern.args.length<=100)/\(∀a∈r.thn,a.pattern.args.length<=100) then some (Yh r) else none
theorem Zue (r:Zh):Ref (ZmB r) (Zae r):=fun x h=>by
 unfold ZmB at h
 split at h
 .rename_i hc
  rw [ZhI r ⟨yE,yE,fun x mx=>by have:=hc.2.2.1 x mx;omega,fun a ma=>by have:=hc.2.2.2 a ma;omega⟩]
  exact h
 .simp at h
noncomputable def ZqT (s_0:ByteArray):Option (ByteArray×(List ByteArray)×Bool):=
 (Zco s_0 (⟨#[40]⟩)).bind fun b=>
 if (((b.length:Nat):Int) != 2)=true then
  some ((⟨#[]⟩),[],false)
 else
  chk (0<=1/\1<((b.length:Nat):Int)) <|
  (b[(AA 1)]?).bind fun a=>
  if (((a.size:Nat):Int)==0)=true then
   some ((⟨#[]⟩),[],false)
  else
   (sAt a (IntKind.i64.wrap (((a.size:Nat):Int) - 1))).bind fun c=>
   if (((c.toNat:Nat):Int) != 41)=true then
    some ((⟨#[]⟩),[],false)
   else
    chk (0<=(IntKind.i64.wrap (((a.size:Nat):Int) - 1))/\(IntKind.i64.wrap (((a.size:Nat):Int) - 1))<=((a.size:Nat):Int)) <|
    if (sEq (a.extract 0 (AA (IntKind.i64.wrap (((a.size:Nat):Int) - 1)))) ⟨#[]⟩)=true then
     chk (0<=0/\0<((b.length:Nat):Int)) <|
     (b[(AA 0)]?).bind fun d=>
     some (d,[],true)
    else
     chk (0<=0/\0<((b.length:Nat):Int)) <|
     (b[(AA 0)]?).bind fun e=>
     (Zco (a.extract 0 (AA (IntKind.i64.wrap (((a.size:Nat):Int) - 1)))) (⟨#[44]⟩)).bind fun f=>
     some (e,f,true)
noncomputable def Zc0 (s_0:ByteArray):Option (Zi×Bool):=
 (ZqT s_0).bind fun a=>
 if a.2.2=true then
  (ZlG ({ rel:=a.1,args:=a.2.1 }:Zi)).bind fun b=>
  if b=true then
   some (({ rel:=a.1,args:=a.2.1 }:Zi),true)
  else
   some (({ rel:=(⟨#[]⟩),args:=[] }:Zi),false)
 else
  some (({ rel:=(⟨#[]⟩),args:=[] }:Zi),false)
noncomputable def ZuO (a:ByteArray):Option (Zj×Bool):=
 (fun body s=>Zb1 body 5 s)
  (fun b=>
   if (decide (b<=5))=true then
    (Zf0 b).bind fun j=>
    (Zco a j).bind fun c=>
    if (((c.length:Nat):Int)==2)=true then
     chk (0<=0/\0<((c.length:Nat):Int)) <|
     (c[(AA 0)]?).bind fun d=>
     chk (0<=1/\1<((c.length:Nat):Int)) <|
     (c[(AA 1)]?).bind fun e=>
     (Ztw ({ kind:=b,pattern:=({ rel:=(⟨#[]⟩),args:=[] }:Zi),left:=d,right:=e }:Zj)).bind fun k=>
     if k=true then
      some (.inr (({ kind:=b,pattern:=({ rel:=(⟨#[]⟩),args:=[] }:Zi),left:=d,right:=e }:Zj),true))
     else
      some (.inl (IntKind.i64.wrap (b+1)))
    else
     some (.inl (IntKind.i64.wrap (b+1)))
   else
    if (decide (4<((a.size:Nat):Int)))=true then
     chk (0<=4/\4<=((a.size:Nat):Int)) <|
     if (sEq (a.extract 0 (AA 4)) ⟨#[110,111,116,32]⟩)=true then
      (Zc0 (a.extract (AA 4) a.size)).bind fun f=>
      if f.2=true then
       some (.inr (({ kind:=2,pattern:=f.1,left:=(⟨#[]⟩),right:=(⟨#[]⟩) }:Zj),true))
      else
       some (.inr (({ kind:=0,pattern:=({ rel:=(⟨#[]⟩),args:=[] }:Zi),left:=(⟨#[]⟩),right:=(⟨#[]⟩) }:Zj),false))
     else
      (Zc0 a).bind fun g=>
      if g.2=true then
       some (.inr (({ kind:=1,pattern:=g.1,left:=(⟨#[]⟩),right:=(⟨#[]⟩) }:Zj),true))
      else
       some (.inr (({ kind:=0,pattern:=({ rel:=(⟨#[]⟩),args:=[] }:Zi),left:=(⟨#[]⟩),right:=(⟨#[]⟩) }:Zj),false))
    else
     (Zc0 a).bind fun i=>
     if i.2=true then
      some (.inr (({ kind:=1,pattern:=i.1,left:=(⟨#[]⟩),right:=(⟨#[]⟩) }:Zj),true))
     else
      some (.inr (({ kind:=0,pattern:=({ rel:=(⟨#[]⟩),args:=[] }:Zi),left:=(⟨#[]⟩),right:=(⟨#[]⟩) }:Zj),false)))
  3
noncomputable def ZnM (s_0:ByteArray):Option (ZB×Bool):=
 if (sEq s_0 ⟨#[115,116,111,112]⟩)=true then
  some (({ kind:=3,pattern:=({ rel:=(⟨#[]⟩),args:=[] }:Zi) }:ZB),true)
 else
  (Zco s_0 (⟨#[32]⟩)).bind fun a=>
  if (((a.length:Nat):Int) != 2)=true then
   some (({ kind:=0,pattern:=({ rel:=(⟨#[]⟩),args:=[] }:Zi) }:ZB),false)
  else
   chk (0<=0/\0<((a.length:Nat):Int)) <|
   (a[(AA 0)]?).bind fun b=>
   if (sEq b ⟨#[97,100,100]⟩)=true then
    chk (0<=1/\1<((a.length:Nat):Int)) <|
    (a[(AA 1)]?).bind fun e=>
    (Zc0 e).bind fun c=>
    some (({ kind:=1,pattern:=c.1 }:ZB),c.2)
   else
    if (sEq b ⟨#[100,114,111,112]⟩)=true then
     chk (0<=1/\1<((a.length:Nat):Int)) <|
     (a[(AA 1)]?).bind fun f=>
     (Zc0 f).bind fun d=>
     some (({ kind:=2,pattern:=d.1 }:ZB),d.2)
    else
     some (({ kind:=0,pattern:=({ rel:=(⟨#[]⟩),args:=[] }:Zi) }:ZB),false)
noncomputable def ZqS (append_0:Zh) (String_1:ByteArray) (a_2:ByteArray):Option (Zh×Bool):=
 (Zco String_1 (⟨#[32,38,32]⟩)).bind fun e=>
 forL (σ:=(List Zj))
  (fun (i24:Nat) (f:ByteArray) a=>
   (ZuO f).bind fun c=>
   if c.2=true then
    chk (a.length+1<=1073741824) <|
    some (.inl (a++[c.1]))
   else
    some (.inr (({ name:=append_0.name,priority:=append_0.priority,cond:=a,thn:=[] }:Zh),false)))
  (fun a=>
   (Zco a_2 (⟨#[32,38,32]⟩)).bind fun g=>
   forL (σ:=(List ZB))
    (fun (i37:Nat) (i:ByteArray) b=>
     (ZnM i).bind fun d=>
     if d.2=true then
      chk (b.length+1<=1073741824) <|
      some (.inl (b++[d.1]))
     else
      some (.inr (({ name:=append_0.name,priority:=append_0.priority,cond:=a,thn:=b }:Zh),false)))
    (fun b=>
     (ZmB ({ name:=append_0.name,priority:=append_0.priority,cond:=a,thn:=b }:Zh)).bind fun j=>
     some (({ name:=append_0.name,priority:=append_0.priority,cond:=a,thn:=b }:Zh),j))
    g 0 [])
  e 0 []
noncomputable def ZtW (s_0:ByteArray):Option (Zh×Bool):=
 (Zco s_0 (⟨#[58,32]⟩)).bind fun a=>
 if (((a.length:Nat):Int) != 2)=true then
  some (({ name:=(⟨#[]⟩),priority:=0,cond:=[],thn:=[] }:Zh),false)
 else
  chk (0<=0/\0<((a.length:Nat):Int)) <|
  (a[(AA 0)]?).bind fun f=>
  (Zco f (⟨#[32]⟩)).bind fun b=>
  chk (0<=1/\1<((a.length:Nat):Int)) <|
  (a[(AA 1)]?).bind fun g=>
  (Zco g (⟨#[32,45,62,32]⟩)).bind fun c=>
  if (((b.length:Nat):Int) != 2)=true then
   some (({ name:=(⟨#[]⟩),priority:=0,cond:=[],thn:=[] }:Zh),false)
  else
   if (((c.length:Nat):Int) != 2)=true then
    some (({ name:=(⟨#[]⟩),priority:=0,cond:=[],thn:=[] }:Zh),false)
   else
    chk (1<((b.length:Nat):Int)) <|
    (b[(AA 1)]?).bind fun i=>
    (Zm9 i).bind fun d=>
    if d.2=true then
     chk (0<((b.length:Nat):Int)) <|
     (b[(AA 0)]?).bind fun j=>
     chk (0<((c.length:Nat):Int)) <|
     (c[(AA 0)]?).bind fun k=>
     chk (1<((c.length:Nat):Int)) <|
     (c[(AA 1)]?).bind fun l=>
     (ZqS ({ name:=j,priority:=d.1,cond:=[],thn:=[] }:Zh) k l).bind fun e=>
     if e.2=true then
      some (e.1,true)
     else
      some (({ name:=(⟨#[]⟩),priority:=0,cond:=[],thn:=[] }:Zh),false)
    else
     some (({ name:=(⟨#[]⟩),priority:=0,cond:=[],thn:=[] }:Zh),false)
theorem Zw1 (s:ByteArray):Ref (ZqT s) (ZcS s):=by
 unfold ZqT ZcS
 repeat' (first|with_reducible exact Ref.refl _|exact Zed _ _|apply Ref.bind|apply Ref.ite|apply Ref.chk|intro _)
theorem Zlk (s:ByteArray):Ref (Zc0 s) (Yy s):=by
 unfold Zc0 Yy
 repeat' (first|with_reducible exact Ref.refl _|exact Zw1 _|exact Zox _|apply Ref.bind|apply Ref.ite|intro _)
theorem ZzU (s:ByteArray):Ref (ZuO s) (QT s):=by
 unfold ZuO QT
 refine Ref.iter ?_ 5 3
 repeat' (first|with_reducible exact Ref.refl _|exact Zed _ _|exact Zlk _|exact ZuD _|apply Ref.bind|apply Ref.ite|apply Ref.chk|intro _)
theorem Zuq (s:ByteArray):Ref (ZnM s) (Q9 s):=by
 unfold ZnM Q9
 repeat' (first|with_reducible exact Ref.refl _|exact Zed _ _|exact Zlk _|apply Ref.bind|apply Ref.ite|apply Ref.chk|intro _)
theorem Zwb (r:Zh) (a b:ByteArray):Ref (ZqS r a b) (ZcN r a b):=by
 unfold ZqS ZcN
 refine Ref.bind (Zed _ _) fun _=>Ref.forL (fun _ _ _=>?_) (fun _=>Ref.bind (Zed _ _) fun _=>Ref.forL (fun _ _ _=>?_) (fun _=>?_) _ _ _) _ _ _
 .repeat' (first|with_reducible exact Ref.refl _|exact ZzU _|apply Ref.bind|apply Ref.ite|apply Ref.chk|intro _)
 .repeat' (first|with_reducible exact Ref.refl _|exact Zuq _|apply Ref.bind|apply Ref.ite|apply Ref.chk|intro _)
 .exact Ref.bind (Zue _) fun _=>Ref.refl _
theorem Zya (s:ByteArray):Ref (ZtW s) (X9 s):=by
 unfold ZtW X9
 repeat' (first|with_reducible exact Ref.refl _|exact Zed _ _|exact Zqx _|exact Zwb _ _ _|apply Ref.bind|apply Ref.ite|apply Ref.chk|intro _)
noncomputable def ZrT (s:ByteArray):Bool:=match ZtW s with|some (r,_)=>Yh r|none=>false
theorem Zzn {s:ByteArray}(h:ZrT s=true):∃r ok,X9 s=some (r,ok)/\Yh r=true:=by
 unfold ZrT at h
 split at h
 .rename_i r ok e
  exact ⟨r,ok,Zya s _ e,h⟩
 .simp at h
theorem Zv6:([(⟨#[114,32,49,58,32,111,110,40,63,120,44,63,121,41,32,38,32,111,110,40,63,121,44,63,122,41,32,45,62,32,97,100,100,32,111,110,40,63,120,44,63,122,41]⟩),(⟨#[114,32,50,58,32,111,110,40,63,120,44,63,121,41,32,38,32,112,40,63,121,41,32,45,62,32,97,100,100,32,112,40,63,120,41]⟩),(⟨#[114,32,48,58,32,112,40,63,120,41,32,38,32,111,110,40,63,120,44,63,121,41,32,38,32,63,120,32,33,61,32,63,121,32,45,62,32,97,100,100,32,97,116,40,63,121,44,63,120,41]⟩),(⟨#[114,32,51,58,32,97,116,40,63,120,44,63,121,41,32,38,32,112,40,63,120,41,32,38,32,112,40,63,121,41,32,38,32,63,120,32,60,32,63,121,32,45,62,32,97,100,100,32,122,40,41]⟩),(⟨#[114,32,52,58,32,111,110,40,63,120,44,97,41,32,45,62,32,97,100,100,32,113,40,63,120,41,32,38,32,97,100,100,32,112,40,97,41]⟩),(⟨#[114,32,49,58,32,97,116,40,63,120,44,63,120,41,32,38,32,113,40,49,41,32,45,62,32,97,100,100,32,111,110,40,63,120,44,49,41]⟩),(⟨#[114,32,49,58,32,112,40,63,120,41,32,38,32,110,111,116,32,113,40,63,120,41,32,45,62,32,97,100,100,32,97,116,40,63,120,44,98,41]⟩),(⟨#[114,32,50,58,32,111,110,40,63,120,44,63,121,41,32,38,32,110,111,116,32,97,116,40,63,121,44,63,122,41,32,45,62,32,97,100,100,32,113,40,63,121,41]⟩),(⟨#[114,32,53,58,32,97,116,40,63,120,44,63,121,41,32,38,32,110,111,116,32,112,40,63,121,41,32,38,32,63,120,32,33,61,32,63,121,32,45,62,32,97,100,100,32,122,40,41]⟩),(⟨#[114,32,57,58,32,113,40,63,120,41,32,38,32,112,40,63,120,41,32,45,62,32,100,114,111,112,32,112,40,63,120,41]⟩),(⟨#[114,32,48,58,32,97,116,40,63,120,44,49,41,32,38,32,97,116,40,63,121,44,50,41,32,38,32,63,120,32,61,32,63,121,32,45,62,32,100,114,111,112,32,97,116,40,63,120,44,49,41,32,38,32,115,116,111,112]⟩),(⟨#[114,32,49,58,32,111,110,40,63,120,44,63,120,41,32,45,62,32,115,116,111,112]⟩),(⟨#[114,32,55,58,32,122,40,41,32,38,32,111,110,40,63,120,44,63,121,41,32,45,62,32,100,114,111,112,32,122,40,41,32,38,32,97,100,100,32,111,110,40,63,121,44,63,120,41]⟩)]:List ByteArray).all ZrT=true:=yO
theorem ZrR:∀s∈([(⟨#[114,32,49,58,32,111,110,40,63,120,44,63,121,41,32,38,32,111,110,40,63,121,44,63,122,41,32,45,62,32,97,100,100,32,111,110,40,63,120,44,63,122,41]⟩),(⟨#[114,32,50,58,32,111,110,40,63,120,44,63,121,41,32,38,32,112,40,63,121,41,32,45,62,32,97,100,100,32,112,40,63,120,41]⟩),(⟨#[114,32,48,58,32,112,40,63,120,41,32,38,32,111,110,40,63,120,44,63,121,41,32,38,32,63,120,32,33,61,32,63,121,32,45,62,32,97,100,100,32,97,116,40,63,121,44,63,120,41]⟩),(⟨#[114,32,51,58,32,97,116,40,63,120,44,63,121,41,32,38,32,112,40,63,120,41,32,38,32,112,40,63,121,41,32,38,32,63,120,32,60,32,63,121,32,45,62,32,97,100,100,32,122,40,41]⟩),(⟨#[114,32,52,58,32,111,110,40,63,120,44,97,41,32,45,62,32,97,100,100,32,113,40,63,120,41,32,38,32,97,100,100,32,112,40,97,41]⟩),(⟨#[114,32,49,58,32,97,116,40,63,120,44,63,120,41,32,38,32,113,40,49,41,32,45,62,32,97,100,100,32,111,110,40,63,120,44,49,41]⟩),(⟨#[114,32,49,58,32,112,40,63,120,41,32,38,32,110,111,116,32,113,40,63,120,41,32,45,62,32,97,100,100,32,97,116,40,63,120,44,98,41]⟩),(⟨#[114,32,50,58,32,111,110,40,63,120,44,63,121,41,32,38,32,110,111,116,32,97,116,40,63,121,44,63,122,41,32,45,62,32,97,100,100,32,113,40,63,121,41]⟩),(⟨#[114,32,53,58,32,97,116,40,63,120,44,63,121,41,32,38,32,110,111,116,32,112,40,63,121,41,32,38,32,63,120,32,33,61,32,63,121,32,45,62,32,97,100,100,32,122,40,41]⟩),(⟨#[114,32,57,58,32,113,40,63,120,41,32,38,32,112,40,63,120,41,32,45,62,32,100,114,111,112,32,112,40,63,120,41]⟩),(⟨#[114,32,48,58,32,97,116,40,63,120,44,49,41,32,38,32,97,116,40,63,121,44,50,41,32,38,32,63,120,32,61,32,63,121,32,45,62,32,100,114,111,112,32,97,116,40,63,120,44,49,41,32,38,32,115,116,111,112]⟩),(⟨#[114,32,49,58,32,111,110,40,63,120,44,63,120,41,32,45,62,32,115,116,111,112]⟩),(⟨#[114,32,55,58,32,122,40,41,32,38,32,111,110,40,63,120,44,63,121,41,32,45,62,32,100,114,111,112,32,122,40,41,32,38,32,97,100,100,32,111,110,40,63,121,44,63,120,41]⟩)]:List ByteArray),ZrT s=true:=fun s ms=>List.all_eq_true.1 Zv6 s ms
structure RS (r:Zh):Prop where
 cl:r.cond.length<=200
 tl:r.thn.length<=200
 ca:∀x∈r.cond,x.pattern.args.length<=200
 ta:∀a∈r.thn,a.pattern.args.length<=200
theorem Znd.rs {s:ByteArray}{r:Zh}(h:Znd s r) (hs:s.size<=100):RS r:=⟨by have:=h.cl;omega,by have:=h.tl;omega,fun x mx=>by have:=(h.ca x mx).1;omega,fun x mx=>by have:=h.ta x mx;omega⟩
theorem RS.name {r:Zh}(h:RS r) (n:ByteArray) (p:Int):RS { name:=n,priority:=p,cond:=r.cond,thn:=r.thn }:=⟨h.cl,h.tl,h.ca,h.ta⟩
theorem RS.small {r:Zh}(h:RS r):YX r:=⟨by have:=h.cl;omega,by have:=h.tl;omega,fun x mx=>by have:=h.ca x mx;omega,fun x mx=>by have:=h.ta x mx;omega⟩
theorem Zxp (L:List ByteArray) (N:Nat) (n:Int) (hN:L.length=N) (h0:0<n) (hn:n<=N) (hN2:N<=200) (hs:∀s∈L,s.size<=100) (hg:∀s∈L,ZrT s=true) {c:Zp}(hc:Yv c):∃r c',((Y7 c n).bind fun v1=>chk (0<=v1.1/\v1.1<((N:Nat):Int)) <| (L[(AA v1.1)]?).bind fun x2=>(X9 x2).bind fun v3=>some (v3.1,v1.2))=some (r,c')/\RS r/\Yh r=true/\Yv c':=by
 obtain ⟨x,c',e,hx,hx2,a⟩:=Qo hc h0 yE
 have hl:x.toNat<L.length:=by omega
 have ml:=Ac hl
 obtain ⟨r,ok,er,hr⟩:=ZqH (s:=L[x.toNat]) (by have:=hs _ ml;omega)
 obtain ⟨r2,b,d,q1⟩:=Zzn (hg _ ml)
 obtain ⟨rfl,rfl⟩:r=r2/\ok=b:=by
  have:=B2 (er.symm.trans d)
  exact ⟨congrArg Prod.fst this,congrArg Prod.snd this⟩
 refine ⟨r,c',?_,hr.rs (hs _ ml),q1,a⟩
 rw [e,A0,Zk _ yE,AJ hl,A0,er]
 rfl
theorem Zml {c:Zp}(h:Yv c) {m:Int}(h0:0<m):∃r c',Zaj c m=some (r,c')/\RS r/\Yh r=true/\Yv c':=by
 unfold Zaj
 exact Zxp _ 13 _ rfl (by split<;>omega) (by split<;>omega) yE yF ZrR h
theorem ZkO {c:Zp}(h:Yv c):∃x c',Zdw c=some (x,c')/\Yv c':=by
 unfold Zdw
 obtain ⟨b,c1,e1,h1⟩:=ZkZ h (n:=4) yE yE
 rw [e1,A0]
 split
 .obtain ⟨x,c2,e2,h2⟩:=ZkL h1
  exact ⟨x,c2,by rw [e2];rfl,h2⟩
 .obtain ⟨x,c2,e2,_,h2⟩:=Zry h1 (l:=[(⟨#[63,120]⟩),(⟨#[63,121]⟩),(⟨#[63,122]⟩)]) yG yG
  exact ⟨x,c2,by rw [e2];rfl,h2⟩
theorem ZkD {c:Zp}(h:Yv c):∃p c',Zbp c=some (p,c')/\p.args.length<=2/\Yv c':=by
 unfold Zbp
 obtain ⟨r,n,c1,e,n0,n1,_,hc⟩:=ZrB h
 rw [e,A0]
 obtain ⟨row,c2,e2,h1,h2⟩:=Zpl (tm:=Zdw) (fun c hc=>ZkO hc) (fun row c=>(({ rel:=r,args:=row }:Zi),c)) n0 yE hc
 exact ⟨{ rel:=r,args:=row },c2,e2,by show row.length<=2;omega,h2⟩
theorem Zxo {c:Zp}(h:Yv c):∃x c',ZhN c=some (x,c')/\x.pattern.args.length<=2/\Yv c':=by
 unfold ZhN
 obtain ⟨k,c1,e1,k0,k1,h1⟩:=Qo h (n:=5) yE yE
 rw [e1,A0]
 have b:∀kd:Int,∃x c',((Zbp c1).bind fun v2=>some (({ kind:=kd,pattern:=v2.1,left:=(⟨#[]⟩),right:=(⟨#[]⟩) }:Zj),v2.2))=some (x,c')/\x.pattern.args.length<=2/\Yv c':=fun kd=>by
  obtain ⟨p,c2,e2,a,h2⟩:=ZkD h1
  exact ⟨{ kind:=kd,pattern:=p,left:=⟨#[]⟩,right:=⟨#[]⟩ },c2,by rw [e2];rfl,a,h2⟩
 split
 .exact b 1
 .split
  .exact b 1
  .split
   .exact b 2
   .obtain ⟨x,c2,e2,h2⟩:=ZkO h1
    obtain ⟨y,c3,e3,h3⟩:=ZkO h2
    obtain ⟨k,c4,e4,_,h4⟩:=Zn8 h3 (l:=[3,4,4,5]) yG yG
    refine ⟨{ kind:=k,pattern:={ rel:=⟨#[]⟩,args:=[] },left:=x,right:=y },c4,?_,yG,h4⟩
    rw [e2,A0,e3,A0]
    unfold Zko
    rw [e4];rfl
def DrR (o:Option (Zh×Zp)):Prop:=∃r c',o=some (r,c')/\RS r/\Yh r=true/\Yv c'
theorem Zyu {R:List Zj}(hR:R.length<=3) (h1:1<=R.length) (ha:∀x∈R,x.pattern.args.length<=2) {T:List ZB}(hT:T.length<=2) (h2:1<=T.length) (hb:∀a∈T,a.pattern.args.length<=3) (nm:ByteArray) (pr:Int) {c:Zp}(hc:Yv c) {σ:Type}:∃r c',((Zae ({ name:=nm,priority:=pr,cond:=R,thn:=T }:Zh)).bind fun d=>
        if d=true then
         some (.inr (.inr (({ name:=nm,priority:=pr,cond:=R,thn:=T }:Zh),c)))
        else
         (Zaj c 99).bind fun b=>
         some (.inr (.inr (b.1,b.2))))=some (.inr (.inr (r,c')):(List Int×Int×Int×List ByteArray×Int) ⊕ (σ ⊕ (Zh×Zp)))/\RS r/\Yh r=true/\Yv c':=by
 have hs:RS ({ name:=nm,priority:=pr,cond:=R,thn:=T }:Zh):=⟨by show R.length<=200;omega,by show T.length<=200;omega,fun x mx=>by have:=ha x mx;omega,fun a ma=>by have:=hb a ma;omega⟩
 rw [ZhI _ hs.small,A0]
 split
 .rename_i e
  exact ⟨_,_,rfl,hs,e,hc⟩
 .obtain ⟨r,c2,e2,q⟩:=Zml hc (m:=99) yE
  exact ⟨r,c2,by rw [e2];rfl,q⟩
theorem ZsN {c:Zp} (h:Yv c):DrR (ZeE c):=by
 unfold ZeE
 obtain ⟨pr,c1,e1,_,_,h1⟩:=Qo h (n:=4) (by omega) (by omega)
 obtain ⟨p0,c2,e2,a2,h2⟩:=ZkD h1
 obtain ⟨n,c3,e3,n0,n1,h3⟩:=Qo h2 (n:=3) (by omega) (by omega)
 rw [e1,A0,e2,A0,e3,A0]
 have inner:∀(R:List Zj),R.length≤3→1≤R.length→(∀x∈R,x.pattern.args.length≤2)→∀(rel:ByteArray) (V:List ByteArray) (m k:Nat) (cc:Zp) (row:List ByteArray),k+m=row.length→row.length≤3→Yv cc→∃r c',iter (σ:=(List Int) × Int × Int × (List ByteArray) × Int) (ρ:=(List Int × Int × Int × List Zj × Int) ⊕ (Zh × Zp))
     (fun s=>
      match s with
      | (f_22,f_23,f_24,row_25,u_17)=>
      if (decide (u_17<((row_25.length:Nat):Int)))=true then
       chk (0≤u_17∧u_17<((row_25.length:Nat):Int)) <|
       (row_25[(AA u_17)]?).bind fun x26=>
       (ZcI x26).bind fun v27=>
       if v27=true then
        (YY V x26).bind fun v28=>
        if v28=true then
         some (.inl (f_22,f_23,f_24,row_25,(IntKind.i64.wrap (u_17+1))))
        else
         (Zca ({ b:=f_22,i:=f_23,h:=f_24 }:Zp)).bind fun v29=>
         some (.inl (v29.2.b,v29.2.i,v29.2.h,(List.set row_25 (AA u_17) v29.1),(IntKind.i64.wrap (u_17+1))))
       else
        some (.inl (f_22,f_23,f_24,row_25,(IntKind.i64.wrap (u_17+1))))
      else
       (Zd2 ({ b:=f_22,i:=f_23,h:=f_24 }:Zp) [1,1,2]).bind fun v30=>
       (ZdA v30.2 6).bind fun v31=>
       if v31.1=true then
        (Zae ({ name:=(⟨#[114]⟩),priority:=pr,cond:=R,thn:=[({ kind:=v30.1,pattern:=({ rel:=rel,args:=row_25 }:Zi) }:ZB),({ kind:=3,pattern:=({ rel:=(⟨#[]⟩),args:=[] }:Zi) }:ZB)] }:Zh)).bind fun v32=>
        if v32=true then
         some (.inr (.inr (({ name:=(⟨#[114]⟩),priority:=pr,cond:=R,thn:=[({ kind:=v30.1,pattern:=({ rel:=rel,args:=row_25 }:Zi) }:ZB),({ kind:=3,pattern:=({ rel:=(⟨#[]⟩),args:=[] }:Zi) }:ZB)] }:Zh),v31.2)))
        else
         (Zaj v31.2 99).bind fun v33=>
         some (.inr (.inr (v33.1,v33.2)))
       else
        (Zae ({ name:=(⟨#[114]⟩),priority:=pr,cond:=R,thn:=[({ kind:=v30.1,pattern:=({ rel:=rel,args:=row_25 }:Zi) }:ZB)] }:Zh)).bind fun v34=>
        if v34=true then
         some (.inr (.inr (({ name:=(⟨#[114]⟩),priority:=pr,cond:=R,thn:=[({ kind:=v30.1,pattern:=({ rel:=rel,args:=row_25 }:Zi) }:ZB)] }:Zh),v31.2)))
        else
         (Zaj v31.2 99).bind fun v35=>
         some (.inr (.inr (v35.1,v35.2))))
     (cc.b,cc.i,cc.h,row,((k:Nat):Int))=some (.inr (r,c'))∧RS r∧Yh r=true∧Yv c':=by
  intro R hR hR1 ha rel V m
  induction m with
  | zero=>
   intro k cc row hk hl hcc
   obtain ⟨kd,d1,g1,_,hd1⟩:=Zn8 hcc (l:=[1,1,2]) (by simp) (by simp)
   obtain ⟨o,d2,g2,hd2⟩:=ZkZ hd1 (n:=6) (by omega) (by omega)
   have fin:∀T:List ZB,T.length≤2→1≤T.length→(∀a∈T,a.pattern.args.length≤3)→_:=fun T t1 t2 t3=>Zyu (σ:=List Int × Int × Int × List Zj × Int) hR hR1 ha (T:=T) t1 t2 t3 (⟨#[114]⟩) pr hd2
   cases o with
   | true=>
    obtain ⟨r,c',e,q⟩:=fin [({ kind:=kd,pattern:=({ rel:=rel,args:=row }:Zi) }:ZB),({ kind:=3,pattern:=({ rel:=(⟨#[]⟩),args:=[] }:Zi) }:ZB)] (by simp) (by simp) (by simp;omega)
    refine ⟨r,c',YE ?_,q⟩
    simp only
    rw [if_neg (by simp;omega),show ({ b:=cc.b,i:=cc.i,h:=cc.h }:Zp)=cc from rfl,g1,A0,g2,A0,if_pos rfl]
    exact e
   | false=>
    obtain ⟨r,c',e,q⟩:=fin [({ kind:=kd,pattern:=({ rel:=rel,args:=row }:Zi) }:ZB)] (by simp) (by simp) (by simp;omega)
    refine ⟨r,c',YE ?_,q⟩
    simp only
    rw [if_neg (by simp;omega),show ({ b:=cc.b,i:=cc.i,h:=cc.h }:Zp)=cc from rfl,g1,A0,g2,A0,if_neg (by simp)]
    exact e
  | succ m ih=>
   intro k cc row hk hl hcc
   have hkl:k<row.length:=by omega
   have hw:IntKind.i64.wrap (((k:Nat):Int)+1)=((k+1:Nat):Int):=by rw [Yi (by omega) (by omega)];omega
   obtain ⟨a,d1,g1,hd1⟩:=ZkL hcc
   by_cases hv:ZS row[k]=true
   ·by_cases ht:Zaf V row[k]=true
    ·refine (Y6 (s':=(cc.b,cc.i,cc.h,row,((k+1:Nat):Int))) ?_) ▸ ih (k+1) cc row (by omega) hl hcc
     simp only
     rw [if_pos (by simp;omega),Zk _ (by omega),AS,AJ hkl,A0,ZbN,A0,if_pos hv,QJ,A0,if_pos ht,hw]
    ·refine (Y6 (s':=(d1.b,d1.i,d1.h,row.set k a,((k+1:Nat):Int))) ?_) ▸ ih (k+1) d1 (row.set k a) (by simp;omega) (by simpa using hl) hd1
     simp only
     rw [if_pos (by simp;omega),Zk _ (by omega),AS,AJ hkl,A0,ZbN,A0,if_pos hv,QJ,A0,if_neg ht,show ({ b:=cc.b,i:=cc.i,h:=cc.h }:Zp)=cc from rfl,g1,A0,hw]
   ·refine (Y6 (s':=(cc.b,cc.i,cc.h,row,((k+1:Nat):Int))) ?_) ▸ ih (k+1) cc row (by omega) hl hcc
    simp only
    rw [if_pos (by simp;omega),Zk _ (by omega),AS,AJ hkl,A0,ZbN,A0,if_neg hv,hw]
 have outer:∀{body:(List Int × Int × Int × List Zj × Int)→Option ((List Int × Int × Int × List Zj × Int) ⊕ (Zh × Zp))},(∀(cc:Zp) (R:List Zj) (k:Nat),Yv cc→∃x c',x.pattern.args.length≤2∧Yv c'∧(R.length≤3→k≤3→body (cc.b,cc.i,cc.h,R,((k+1:Nat):Int))=some (.inl (c'.b,c'.i,c'.h,R++[x],((k:Nat):Int)))))→(∀(cc:Zp) (R:List Zj),Yv cc→R.length≤3→1≤R.length→(∀x∈R,x.pattern.args.length≤2)→∃r c',body (cc.b,cc.i,cc.h,R,0)=some (.inr (r,c'))∧RS r∧Yh r=true∧Yv c')→∀(k:Nat) (cc:Zp) (R:List Zj),Yv cc→R.length+k≤3→1≤R.length→(∀x∈R,x.pattern.args.length≤2)→DrR (iter body (cc.b,cc.i,cc.h,R,((k:Nat):Int))):=by
  intro body hs he k
  induction k with
  | zero=>
   intro cc R hcc hl hl1 ha
   obtain ⟨r,c',e,q⟩:=he cc R hcc (by omega) hl1 ha
   exact ⟨r,c',YE e,q⟩
  | succ k ih=>
   intro cc R hcc hl hl1 ha
   obtain ⟨x,c',hx,hc',e⟩:=hs cc R k hcc
   rw [Y6 (e (by omega) (by omega))]
   exact ih c' (R++[x]) hc' (by simp;omega) (by simp) fun y my=>by
    rcases A4.1 my with my | my
    ·exact ha y my
    ·simp at my;subst my;exact hx
 have hn:n=((n.toNat:Nat):Int):=by omega
 rw [hn]
 refine outer ?_ ?_ n.toNat c3 [{ kind:=1,pattern:=p0,left:=⟨#[]⟩,right:=⟨#[]⟩ }] h3 (by simp;omega) (by simp) (by simp;exact a2)
 ·intro cc R k hcc
  obtain ⟨x,c',e,hx,hc'⟩:=Zxo hcc
  refine ⟨x,c',hx,hc',fun hR hk3=>?_⟩
  have hw:IntKind.i64.wrap ((((k+1:Nat)):Int) - 1)=((k:Nat):Int):=by rw [Yi (by omega) (by omega)];omega
  simp only
  rw [if_pos (decide_eq_true (by omega)),show ({ b:=cc.b,i:=cc.i,h:=cc.h }:Zp)=cc from rfl,e,A0,Zk _ (by omega),hw]
 ·intro cc R hcc hR hR1 ha
  obtain ⟨p,c4,e4,a4,h4⟩:=ZkD hcc
  obtain ⟨r,c',e,q⟩:=inner R hR hR1 ha p.rel (XC ({ name:=(⟨#[114]⟩),priority:=pr,cond:=R,thn:=[] }:Zh) R.length) p.args.length 0 c4 p.args (by omega) (by omega) h4
  refine ⟨r,c',?_,q⟩
  simp only
  rw [if_neg (by simp),Zek _ _ ⟨by show R.length≤_;omega,by simp,fun x mx=>by have:=ha x mx;omega,by simp⟩ (by show R.length≤4;omega),A0,AS,show ({ b:=cc.b,i:=cc.i,h:=cc.h }:Zp)=cc from rfl,e4,A0]
  exact e
theorem Zxd {c:Zp}(h:Yv c):DrR (ZfO c):=by
 unfold ZfO
 obtain ⟨b,c1,e1,h1⟩:=ZkZ h (n:=3) yE yE
 rw [e1,A0]
 split
 .obtain ⟨r,c2,e2,q⟩:=ZsN h1
  exact ⟨r,c2,by rw [e2];rfl,q⟩
 .obtain ⟨r,c2,e2,q⟩:=Zml h1 (m:=99) yE
  exact ⟨r,c2,by rw [e2];rfl,q⟩
theorem Zlw (n:ByteArray):∀(l:List Zh) (i:Nat),(∃z,forL (σ:=Unit) (ρ:=Int) (fun (i4:Nat) (x5:Zh) _=>if (sEq x5.name n)=true then some (.inr ((i4:Nat):Int)) else some (.inl ())) (fun _=>some (-1)) l i ()=some z/\((z=-1/\∀r∈l,r.name≠n)\/∃j r,z=((i+j:Nat):Int)/\l[j]?=some r/\r.name=n/\∀k u,k<j->l[k]?=some u->u.name≠n))
 | [],i=>⟨-1,rfl,.inl ⟨rfl,yG⟩⟩
 |x::l,i=>by
  by_cases hx:x.name=n
  .exact ⟨((i:Nat):Int),ZX (by rw [if_pos (ZL.2 hx)]),.inr ⟨0,x,yG,rfl,hx,fun k u hk=>by omega⟩⟩
  .obtain ⟨z,e,hz⟩:=Zlw n l (i+1)
   refine ⟨z,(ZD (s':=()) (by rw [if_neg (by rw [ZL];exact hx)])).trans e,?_⟩
   rcases hz with ⟨h1,h2⟩|⟨j,r,h1,h2,h3,h4⟩
   .refine .inl ⟨h1,fun r mr=>?_⟩
    rcases AP.1 mr with rfl|mr
    .exact hx
    .exact h2 r mr
   .refine .inr ⟨j+1,r,by rw [h1];congr 1;omega,by simpa using h2,h3,fun k u hk hu=>?_⟩
    cases k with
    |zero=>simp at hu;subst hu;exact hx
    |succ k=>exact h4 k u yE (by simpa using hu)
theorem ZtY (l:List Zh) (n:ByteArray):(Zfk l n=-1/\∀r∈l,r.name≠n)\/∃j r,Zfk l n=((j:Nat):Int)/\l[j]?=some r/\r.name=n/\∀k u,k<j->l[k]?=some u->u.name≠n:=by
 obtain ⟨z,e,hz⟩:=Zlw n l 0
 have e2:XS l n=some z:=e
 rw [Zbm]at e2
 obtain rfl:=B2 e2
 simpa using hz
theorem Zrs (R:List Zh):ZH R=true↔R.length<=6/\(∀r∈R,Yh r=true)/\R.Pairwise fun a b=>a.name≠b.name:=by
 unfold ZH
 rw [AD,decide_eq_true_iff]
 refine and_congr_right fun _=>?_
 constructor
 .intro h
  have f:∀j r,R[j]?=some r->Yh r=true/\Zfk R r.name=((j:Nat):Int):=fun j r hj=>by
   have:=Zkh h j r hj
   unfold Zgj at this
   rw [AD,beq_iff_eq,AT]at this
   exact this
  refine ⟨fun r mr=>?_,B4.2 fun i j hi hj hij e=>?_⟩
  .obtain ⟨j,hj⟩:=List.getElem?_of_mem mr
   exact (f j r hj).1
  .have h1:=(f i _ (AJ hi)).2
   have h2:=(f j _ (AJ hj)).2
   rw [e]at h1
   omega
 .rintro ⟨h1,h2⟩
  have key:∀(d c:List Zh),R=c++d->ZdO (Zgj R) d c.length=true:=by
   intro d
   induction d with
   |nil=>intro c _;rfl
   |cons x d ih=>
    intro c e
    simp only[ZdO,AD]
    refine ⟨?_,by have:=ih (c++[x]) (by rw [e];simp);simpa using this⟩
    unfold Zgj
    rw [AD,beq_iff_eq]
    refine ⟨h1 x (by rw [e];simp),?_⟩
    have hx:R[c.length]?=some x:=by rw [e];simp
    rcases ZtY R x.name with ⟨_,k2⟩|⟨j,r,k1,k2,k3,k4⟩
    .exact absurd rfl (k2 x (by rw [e];simp))
    .rw [k1]
     congr 1
     rcases Nat.lt_trichotomy j c.length with hl|hl|hl
     .exfalso
      obtain ⟨q1,e1⟩:=AK.1 k2
      obtain ⟨q2,e2⟩:=AK.1 hx
      exact B4.1 h2 j c.length q1 q2 hl (by rw [e1,e2,k3])
     .exact hl
     .exact absurd rfl (k4 c.length x hl hx)
  exact key R [] rfl
def rN (k:Nat):ByteArray:=(⟨#[114]⟩:ByteArray)++ofL (Lib.itoa ((k:Nat):Int))
def rT (k:Nat):ByteArray:=⟨#[114,Ad (48+k)]⟩
theorem ZtP:∀k:Fin 4,rN k.val=rT k.val:=by decide +kernel
theorem ZBS:∀k:Fin 4,Xo (rT k.val)=true:=by decide +kernel
theorem ZEZ:∀i j:Fin 4,rT i.val=rT j.val->i=j:=by decide +kernel
theorem ZAK {k:Nat}(h:k<4):Xo (rN k)=true:=by
 rw [ZtP ⟨k,h⟩];exact ZBS ⟨k,h⟩
theorem ZFv {i j:Nat}(hi:i<4) (hj:j<4) (h:rN i=rN j):i=j:=by
 rw [ZtP ⟨i,hi⟩,ZtP ⟨j,hj⟩]at h
 exact congrArg Fin.val (ZEZ ⟨i,hi⟩ ⟨j,hj⟩ h)
theorem Zuu {r:Zh}(h:Yh r=true) {n:ByteArray}(hn:Xo n=true):Yh { name:=n,priority:=r.priority,cond:=r.cond,thn:=r.thn }=true:=by
 unfold Yh at h ⊢
 simp only[AD]at h ⊢
 obtain ⟨⟨⟨⟨⟨⟨⟨⟨⟨_,h2⟩,h3⟩,h4⟩,h5⟩,h6⟩,h7⟩,h8⟩,h9⟩,a⟩:=h
 exact ⟨⟨⟨⟨⟨⟨⟨⟨⟨hn,h2⟩,h3⟩,h4⟩,h5⟩,h6⟩,h7⟩,h8⟩,h9⟩,a⟩
theorem Zyy {c:Zp}(h:Yv c):∃R c',Zjv c 3=some (R,c')/\R.length<=3/\(∀r∈R,RS r)/\ZH R=true/\Yv c':=by
 unfold Zjv
 have hw:IntKind.i64.wrap (3+1)=3+1:=Yi yE yE
 rw [hw]
 obtain ⟨n,c1,e,n0,n1,hc⟩:=Qo h (n:=3+1) yE yE
 rw [e,A0]
 have key:∀(k:Nat) (cc:Zp) (row:List Zh),Yv cc->row.length+k<=3->(∀r∈row,RS r/\Yh r=true/\∃j,k<j/\j<4/\r.name=rN j)->row.Pairwise (fun a b=>a.name≠b.name)->∃R c',iter (σ:=(List Int)×Int×Int×(List Zh)×Int)
  (fun s=>
   match s with
   |(f_4,f_5,f_6,row_7,n_8)=>
   if (decide (0<n_8))=true then
    (ZfO ({ b:=f_4,i:=f_5,h:=f_6 }:Zp)).bind fun v9=>
    (QQ n_8).bind fun f=>
    chk ((⟨#[114]⟩:ByteArray).size+f.size<=9223372036854775807) <|
    chk (row_7.length+1<=1073741824) <|
    some (.inl (v9.2.b,v9.2.i,v9.2.h,(row_7++[({ name:=((⟨#[114]⟩:ByteArray)++f),priority:=v9.1.priority,cond:=v9.1.cond,thn:=v9.1.thn }:Zh)]),(IntKind.i64.wrap (n_8 - 1))))
   else
    some (.inr (row_7,({ b:=f_4,i:=f_5,h:=f_6 }:Zp))))
  (cc.b,cc.i,cc.h,row,((k:Nat):Int))=some (R,c')/\R.length<=3/\(∀r∈R,RS r)/\ZH R=true/\Yv c':=by
  intro k
  induction k with
  |zero=>
   intro cc row d hl hr hp
   exact ⟨row,cc,YE rfl,yE,fun r mr=>(hr r mr).1,(Zrs row).2 ⟨yE,fun r mr=>(hr r mr).2.1,hp⟩,d⟩
  |succ k ih=>
   intro cc row d hl hr hp
   obtain ⟨r,c2,e2,l,m,o⟩:=Zxd d
   have g:decide (0<(((k+1:Nat)):Int))=true:=decide_eq_true yE
   have hw:IntKind.i64.wrap ((((k+1:Nat)):Int) - 1)=((k:Nat):Int):=by rw [Yi yE yE];omega
   have hsz:(ofL (Lib.itoa ((k+1:Nat):Int))).size<=21:=Zqb ⟨yE,yE⟩
   refine (Y6 (s':=(c2.b,c2.i,c2.h,row++[({ name:=rN (k+1),priority:=r.priority,cond:=r.cond,thn:=r.thn }:Zh)],((k:Nat):Int))) ?_) ▸ ih c2 _ o (by simp;omega) (fun q mq=>?_) ?_
   .simp only[g,if_true]
    rw [show ({ b:=cc.b,i:=cc.i,h:=cc.h }:Zp)=cc from rfl,e2,A0,Zg1 ⟨yE,yE⟩,A0,Zk _ (by have:(⟨#[114]⟩:ByteArray).size=1:=rfl;omega),Zk _ yE,hw]
    rfl
   .rcases A4.1 mq with mq|mq
    .obtain ⟨q1,q2,j,q3,q4⟩:=hr q mq
     exact ⟨q1,q2,j,yE,q4⟩
    .simp at mq;subst mq
     exact ⟨l.name _ _,Zuu m (ZAK yE),k+1,yE,yE,rfl⟩
   .rw [List.pairwise_append]
    refine ⟨hp,yG,fun a ma b mb e=>?_⟩
    simp at mb;subst mb
    obtain ⟨_,_,j,q3,q4,q5⟩:=hr a ma
    rw [q5]at e
    have:=ZFv q4 yE e
    omega
 have e5:n=((n.toNat:Nat):Int):=by omega
 have:=key n.toNat c1 [] hc (by simp;omega) (fun y hy=>by simp at hy) Am
 rw [<-e5]at this
 exact this
end
section
open Classical
theorem Ztk (e:List Int) (h:e.length<=4096):∃R d,Zel e=some (R,d)/\R.length<=3/\(∀r∈R,RS r)/\ZH R=true/\d.length<=11/\∀a∈d,a.fact.args.length<=2:=by
 unfold Zel
 obtain ⟨c,e1,h1⟩:=Zys e h
 obtain ⟨R,c2,e2,r1,r2,r3,h2⟩:=Zyy h1
 obtain ⟨n,c3,e3,n0,n1,h3⟩:=Qo h2 (n:=12) yE yE
 rw [e1,A0,e2,A0,e3,A0]
 have key:∀(k:Nat) (cc:Zp) (row:List Z6),Yv cc->row.length+k<=11->(∀a∈row,a.fact.args.length<=2)->∃d,iter (σ:=(List Int)×Int×Int×(List Z6)×Int)
  (fun s=>
   match s with
   |(f_6,f_7,f_8,row_9,n_10)=>
   if (decide (0<n_10))=true then
    (Zd2 ({ b:=f_6,i:=f_7,h:=f_8 }:Zp) [1,1,1,2,3]).bind fun j=>
    (Zf8 j.2).bind fun g=>
    chk (row_9.length+1<=1073741824) <|
    some (.inl (g.2.b,g.2.i,g.2.h,(row_9++[({ kind:=j.1,rule:=(⟨#[]⟩),fact:=g.1 }:Z6)]),(IntKind.i64.wrap (n_10 - 1))))
   else
    some (.inr (R,row_9)))
  (cc.b,cc.i,cc.h,row,((k:Nat):Int))=some (R,d)/\d.length<=11/\∀a∈d,a.fact.args.length<=2:=by
  intro k
  induction k with
  |zero=>
   intro cc row m hl hr
   exact ⟨row,YE rfl,yE,hr⟩
  |succ k ih=>
   intro cc row m hl hr
   obtain ⟨kd,d1,g1,_,o⟩:=Zn8 m (l:=[1,1,1,2,3]) yG yG
   obtain ⟨f,d2,g2,hf,_,p⟩:=Zxg o
   have hw:IntKind.i64.wrap ((((k+1:Nat)):Int) - 1)=((k:Nat):Int):=by rw [Yi yE yE];omega
   refine (Y6 (s':=(d2.b,d2.i,d2.h,row++[({ kind:=kd,rule:=(⟨#[]⟩),fact:=f }:Z6)],((k:Nat):Int))) ?_) ▸ ih d2 _ p (by simp;omega) fun a ma=>?_
   .simp only
    rw [if_pos (decide_eq_true yE),show ({ b:=cc.b,i:=cc.i,h:=cc.h }:Zp)=cc from rfl,g1,A0,g2,A0,Zk _ yE,hw]
   .rcases A4.1 ma with ma|ma
    .exact hr a ma
    .simp at ma;subst ma;exact hf
 obtain ⟨d,k1,k2,k3⟩:=key n.toNat c3 [] h3 (by simp;omega) yG
 rw [show ((n.toNat:Nat):Int)=n by omega]at k1
 exact ⟨R,d,k1,r1,r2,r3,k2,k3⟩
theorem Zv7 {n:Ze}{p:Zi}(h:∀a∈n.alphas,a.shape.args.length<=1048574) (hp:p.args.length<=1048574):∀a∈(XE n p).2.alphas,a.shape.args.length<=1048574:=by
 unfold XE
 split
 .exact h
 .intro a ma
  rcases A4.1 ma with ma|ma
  .exact h a ma
  .simp at ma;subst ma;exact hp
theorem ZxY {n:Ze}{p:Int}{x:Zj}(h:∀a∈n.alphas,a.shape.args.length<=1048574) (hx:x.pattern.args.length<=1048574):∀a∈(ZM n p x).2.alphas,a.shape.args.length<=1048574:=by
 unfold ZM
 split
 .exact h
 .show ∀a∈(if x.kind=1\/x.kind=2 then XE n (Zbb x.pattern) else (-1,n)).2.alphas,_
  split
  .exact Zv7 h (by unfold Zbb;simpa using hx)
  .exact h
theorem ZsX:∀(l:List Zj) (p:Int) (n:Ze),(∀a∈n.alphas,a.shape.args.length<=1048574)->(∀x∈l,x.pattern.args.length<=1048574)->∀a∈(YF l (p,n)).2.alphas,a.shape.args.length<=1048574
 | [],_,_,h,_=>h
 |x::l,p,n,h,hl=>by
  have e:YF (x::l) (p,n)=YF l ((ZM n p x).1,(ZM n p x).2):=rfl
  rw [e]
  exact ZsX l _ _ (ZxY h (hl x yG)) fun y my=>hl y (by simp [my])
theorem ZvW:∀(l:List Zh) (n:Ze),(∀a∈n.alphas,a.shape.args.length<=1048574)->(∀r∈l,SmN r)->∀a∈(l.foldl Xl n).alphas,a.shape.args.length<=1048574
 | [],_,h,_=>h
 |r::l,n,h,hl=>by
  rw [B5]
  exact ZvW l _ (ZsX _ _ _ h (Zho (hl r yG))) fun r mr=>hl r (by simp [mr])
noncomputable def Zjp (R:List Zh):Ze:={ YP (Zbd R []) []with tries:=0 }
theorem Zet (R:List Zh):(Zjp R).rules=R:=ZmX R []
theorem ZuG {R:List Zh}(hR:ZH R=true):ZeX (Zjp R)=true:=by
 unfold ZeX
 rw [Zet]
 simp only[AD,decide_eq_true_iff]
 exact ⟨⟨⟨hR,Zfh (by show (0:Nat)<=24;omega) (fun f mf=>by simp [Zjp,YP]at mf) Am⟩,Int.le_refl _⟩,rfl,rfl,rfl⟩
theorem ZuX {R:List Zh}(h3:R.length<=6) (hS:∀r∈R,YX r) (c:∀r∈R,SmN r):SmW (Zjp R)/\(Zjp R).nodes.length<=1+4*R.length:=by
 obtain ⟨b1,b2,b3⟩:=Zkt h3 c []
 have E:=Zp8 (fun r mr=>(c r mr).c4) []
 have d:=ZvW R (Zag R []) (by simp [Zag]) c
 obtain ⟨_,w2,_⟩:=Zmi R (Zag R []) (Zjz R []) fun r mr=>(c r mr).c4
 have e1:(Zag R []).nodes.length=1:=rfl
 rw [e1]at w2
 have w2:(Zbd R []).nodes.length<=1+4*R.length:=w2
 have hnl:(Zjp R).nodes.length=(Zbd R []).nodes.length:=by
  show ((Zbd R []).nodes.mapIdx _).length=_
  rw [List.length_mapIdx]
 refine ⟨⟨by rw [Zet];omega,by rw [Zet];exact hS,?_,⟨by show (0:Nat)<=_;omega,fun f mf=>by simp [Zjp,YP]at mf⟩,?_,fun a ma=>?_,yE,fun y my=>?_⟩,yE⟩
 .show (Zbd R []).ends.length<=_
  rw [E.len];omega
 .show ((Zbd R []).alphas.map _).length<=_
  rw [An];omega
 .obtain ⟨b,mb,rfl⟩:=B6.1 (show a∈(Zbd R []).alphas.map (Za9 []) from ma)
  have:=d b mb
  exact ⟨by show b.shape.args.length<=_;omega,⟨by show (0:Nat)<=_;omega,fun f mf=>by simp [Za9,Qz]at mf⟩⟩
 .obtain ⟨i,hi,e⟩:=List.getElem_of_mem my
  have hy:((Zbd R []).nodes.mapIdx (Qv (Zbd R []).nodes []))[i]?=some y:=by rw [<-e];exact AJ hi
  rw [List.getElem?_mapIdx]at hy
  obtain ⟨x,hx,rfl⟩:=A9.1 hy
  have j:=(AK.1 hx).1
  have hp:=b2 i j
  have hl:=QY [] yG _ hp
  refine ⟨by have:=b1.sm x (AW hx);show x.cond.pattern.args.length<=_;omega,by show (ZN _ _).length<=_;omega,fun t mt=>?_⟩
  have ts:=(Zal _ _ t mt).s hp yG
  exact ⟨by have:=ts.bind;omega,⟨by have:=ts.len;omega,fun g mg=>by have:=ts.args g mg;omega⟩⟩
theorem ZyF {R:List Zh}(hR:ZH R=true) (hS:∀r∈R,YX r) (a:∀r∈R,SmN r):QN R=some (Zjp R,true):=by
 unfold QN
 rw [Zbk hS,A0,if_pos hR,ZmH R [] 0 (Qa hR).1 hS a yG yG,A0]
 rfl
theorem EI.start {R:List Zh}(hR:ZH R=true):EI R (Zjp R) 0 0 0 { rules:=R,memory:=[],clock:=0,fired:=[],halted:=false,log:=[] }:=
 ⟨rfl,Zfh yG yG Am,yG,yG,⟨Int.le_refl _,yG⟩,yG,yG,yG,yG,yG,⟨Zjp R,rfl,ZuG hR,rfl,Zet R,rfl,by show (0:Int)<=_;simp⟩⟩
theorem Zs3 {ρ:Type}{R:List Zh}{N:Ze}(hR:ZH R=true) (h3:R.length<=3) (hS:∀r∈R,YX r) (d:∀r∈R,SmN r) (hN:N.nodes.length<=25) {body:Nat->Z6->(Int×Bool×(List Zh)×(List Zv)×(List ZP)×(List Z6))->Option ((Int×Bool×(List Zh)×(List Zv)×(List ZP)×(List Z6)) ⊕ ρ)}{fin:(Int×Bool×(List Zh)×(List Zv)×(List ZP)×(List Z6))->Option ρ}
  (hb:∀i x e,body i x (Zbs e)=if (x.kind==1)=true then (Zea e x.fact).bind fun v=>some (.inl (Zbs v.1)) else if (x.kind==2)=true then (Zc2 e x.fact).bind fun v=>some (.inl (Zbs v.1)) else (ZaY e).bind fun v=>some (.inl (Zbs v.1))):
  ∀(A:List Z6) (i c l f:Nat) (e:Zu),(∀a∈A,a.fact.args.length<=2)->c+2*A.length<=60->l+3*A.length<=60->f+A.length<=30->EI R N c l f e->∃e',forL body fin A i (Zbs e)=fin (Zbs e')/\EI R N (c+2*A.length) (l+3*A.length) (f+A.length) e'
 | [],i,c,l,f,e,_,_,_,_,h=>⟨e,rfl,h⟩
 |a::A,i,c,l,f,e,hm,hc,hl,hf,h=>by
  simp only[B7]at hc hl hf ⊢
  have ha:=hm a yG
  obtain ⟨e1,g1,g2⟩:∃e1,body i a (Zbs e)=some (.inl (Zbs e1))/\EI R N (c+2) (l+3) (f+1) e1:=by
   rw [hb]
   split
   .obtain ⟨e1,b,q1,q2⟩:=ZEQ h hR hS d hN yE yE yE (x:=a.fact) yE
    exact ⟨e1,by rw [q1];rfl,q2.more yE yE yE⟩
   .split
    .obtain ⟨e1,b,q1,q2⟩:=ZBJ h hR hS d hN yE yE yE (x:=a.fact) yE
     exact ⟨e1,by rw [q1];rfl,q2.more yE yE yE⟩
    .obtain ⟨e1,b,q1,q2⟩:=ZBz h hR h3 hS d hN yE yE yE
     exact ⟨e1,by rw [q1];rfl,q2⟩
  obtain ⟨e',f1,f2⟩:=Zs3 hR h3 hS d hN hb A (i+1) (c+2) (l+3) (f+1) e1 (fun b mb=>hm b (by simp [mb])) yE yE yE g2
  refine ⟨e',(ZD g1).trans f1,?_⟩
  rw [show c+2*(A.length+1)=c+2+2*A.length by omega,show l+3*(A.length+1)=l+3+3*A.length by omega,show f+(A.length+1)=f+1+A.length by omega]
  exact f2
theorem ZCT (l:List Yk) (m:Yk) (h:m∈l):ZeI l m=some true:=by
 unfold ZeI
 rw [Zb7 (p:=fun x=>decide (x=m)) fun i x mx=>by
  unfold Ze3
  by_cases h1:x.rule=m.rule
  .rw [if_pos (ZL.2 h1),Zjs,A0]
   by_cases h2:x.facts=m.facts
   .rw [if_pos (decide_eq_true h2),ZkE,A0,A0]
    by_cases h3:x.binding=m.binding
    .have:x=m:=by cases x;cases m;simp_all
     rw [if_pos (decide_eq_true h3),decide_eq_true this];rfl
    .rw [if_neg (by simpa using h3),decide_eq_false fun e=>h3 (by rw [e])];rfl
   .rw [if_neg (by simpa using h2),A0,if_neg yG,decide_eq_false fun e=>h2 (by rw [e])];rfl
  .rw [if_neg (by rw [ZL];exact h1),A0,if_neg yG,decide_eq_false fun e=>h1 (by rw [e])];rfl]
 rw [if_pos (List.any_eq_true.2 ⟨m,h,decide_eq_true rfl⟩)]
theorem ZlQ (a:List Int):Ze8 a=some true:=by
 unfold Ze8
 rw [show Zu3 a=some (decide (4096<((a.length:Nat):Int))) from rfl,A0]
 by_cases hbig:4096<a.length
 .rw [if_pos (by simp;omega)]
 rw [if_neg (by simp;omega)]
 obtain ⟨R,b,e1,r1,r2,r3,a1,a2⟩:=Ztk a yE
 have hS:∀r∈R,YX r:=fun r mr=>(r2 r mr).small
 have c:∀r∈R,SmN r:=fun r mr=>⟨(Zb3 ((Qa r3).2 r mr)).1,fun x mx=>by have:=(r2 r mr).ca x mx;omega⟩
 obtain ⟨g,hnl⟩:=ZuX (R:=R) yE hS c
 have j:ZdB R=some ({ rules:=R,memory:=[],clock:=0,fired:=[],halted:=false,log:=[] },true):=by
  unfold ZdB
  rw [Zbk hS,A0,if_pos r3,ZdY R yE hS,A0]
 rw [e1,A0,j,A0]
 have hN:(Zjp R).nodes.length<=25:=by omega
 have key:=fun body fin hb (hf:∀e,EI R (Zjp R) (0+2*b.length) (0+3*b.length) (0+b.length) e->fin (Zbs e)=some true)=>show forL body fin b 0 (Zbs { rules:=R,memory:=[],clock:=0,fired:=[],halted:=false,log:=[] })=some true from by
  obtain ⟨e,f1,h⟩:=Zs3 (ρ:=Bool) (R:=R) (N:=Zjp R) r3 r1 hS c hN (body:=body) (fin:=fin) hb b 0 0 0 0 _ a2 yE yE yE (EI.start r3)
  rw [f1]
  exact hf e h
 refine key _ _ ?_ ?_
 .exact fun i x e=>rfl
 intro e h
 have hck:=h.ck
 have hfl:=h.fl
 have hll:=h.ll
 obtain ⟨n,n1,n2,n3,n4,n5,n6⟩:=id h.net
 obtain ⟨m1,m2⟩:=h.m24
 have l:∀x∈e.memory,x.fact.args.length<=1048576:=fun x mx=>by have:=(m2 x mx).2;omega
 show (QN R).bind _=some true
 rw [ZyF r3 hS c,A0]
 show (ZbY (Zjp R) e.log).bind _=some true
 rw [ZnS g (by rw [Zet];exact fun _=>c) e.log,n1,A0,if_pos rfl,if_pos rfl]
 show (Zef e.memory).bind _=some true
 rw [Zru e.memory yE l,A0,Zjs,A0,if_pos (decide_eq_true n3)]
 have d:ZeV { engine:=e,network:=n }=some true:=by
  rw [Zta _ ⟨h.sm hS,by show ∀r∈n.rules,YX r;rw [n4];exact hS,by show ZH n.rules=true->∀r∈n.rules,SmN r;rw [n4];exact fun _=>c,by show n.facts.length<=_;rw [n3,An];omega⟩]
  unfold ZAy
  simp only
  rw [h.eng r3 yE yE yE,n2,decide_eq_true (h.ru.trans n4.symm),decide_eq_true n3]
  rfl
 show (ZeV { engine:=e,network:=n }).bind _=some true
 rw [d,A0,if_pos rfl]
 have f:∃L,Zb4 e=some L/\L.length<=(Ziq R (e.memory.map (·.fact))).length/\∀x∈L,x.mtch∈Ziq R (e.memory.map (·.fact)):=by
  obtain ⟨L,l1,l2,l3⟩:=ZrW (R:=R) (M:=e.memory) e.fired r3 r1 hS (h.mem yE)
  refine ⟨L,?_,l2,fun x mx=>?_⟩
  .unfold Zb4
   rw [h.isE r3 hS yE yE yE,A0,if_pos rfl,h.ru,l1]
   rfl
  .obtain ⟨⟨k,r,t,hk,mt,g1,_⟩,_⟩:=l3 x mx
   rw [g1]
   exact Zs2.2 ⟨r,AW hk,t,mt,rfl⟩
 obtain ⟨L,l1,l2,l3⟩:=f
 show (Zb4 e).bind _=some true
 rw [l1,A0,ZA2 (by rw [n4];exact hS) (by rw [n4];exact fun _=>c) n2,A0,n4,n3]
 rw [X8 (p:=fun _=>true) (r:=false) fun i x mx=>by rw [ZCT _ _ (l3 x mx)];rfl]
 rw [if_pos yG]
 exact congrArg some (decide_eq_true yE)
end
section
open Go.RowKit
def ZI {α β:Type}(R:α->β->Prop):List α->List β->Prop
 | [],[]=>True
 |a::l,b::r=>R a b/\ZI R l r
 |_,_=>False
section
variable {α β:Type} {R R':α->β->Prop}
theorem ZI.len:∀{l:List α}{r:List β},ZI R l r->l.length=r.length
 | [],[],_=>rfl
 |_::_,_::_,h=>by simp [h.2.len]
 | [],_::_,h=>h.elim
 |_::_,[],h=>h.elim
theorem ZI.mono:∀{l:List α}{r:List β},ZI R l r->(∀a b,a∈l->R a b->R' a b)->ZI R' l r
 | [],[],_,_=>trivial
 |_::_,_::_,h,f=>⟨f _ _ yG h.1,h.2.mono fun a b m=>f a b (by simp [m])⟩
 | [],_::_,h,_=>h.elim
 |_::_,[],h,_=>h.elim
theorem ZI.at:∀{l:List α}{r:List β}{i:Nat}{a:α},ZI R l r->l[i]?=some a->∃b,r[i]?=some b/\R a b
 | [],[],_,_,_,h=>by simp at h
 |_::_,b::_,0,_,h,e=>by simp at e;subst e;exact ⟨b,yG,h.1⟩
 |_::_,_::_,i+1,a,h,e=>by
  obtain ⟨b,h1,h2⟩:=h.2.at (i:=i) (a:=a) (by simpa using e)
  exact ⟨b,by simpa using h1,h2⟩
 | [],_::_,_,_,h,_=>h.elim
 |_::_,[],_,_,h,_=>h.elim
theorem ZI.set:∀{l:List α}{r:List β}{i:Nat}{a:α}{b:β},ZI R l r->R a b->ZI R (l.set i a) (r.set i b)
 | [],[],_,_,_,_,_=>trivial
 |_::_,_::_,0,_,_,h,e=>⟨e,h.2⟩
 |_::_,_::_,_+1,_,_,h,e=>⟨h.1,h.2.set e⟩
 | [],_::_,_,_,_,h,_=>h.elim
 |_::_,[],_,_,_,h,_=>h.elim
theorem ZI.drop:∀{l:List α}{r:List β}(n:Nat),ZI R l r->ZI R (l.drop n) (r.drop n)
 |_,_,0,h=>by simpa using h
 | [],[],n+1,_=>by simp [ZI]
 |_::_,_::_,n+1,h=>by simpa using h.2.drop n
 | [],_::_,_+1,h=>h.elim
 |_::_,[],_+1,h=>h.elim
theorem ZI.take:∀{l:List α}{r:List β}(n:Nat),ZI R l r->ZI R (l.take n) (r.take n)
 |_,_,0,h=>by simp [ZI]
 | [],[],n+1,_=>by simp [ZI]
 |_::_,_::_,n+1,h=>by simpa using ⟨h.1,h.2.take n⟩
 | [],_::_,_+1,h=>h.elim
 |_::_,[],_+1,h=>h.elim
theorem ZI.append:∀{l l':List α}{r r':List β},ZI R l r->ZI R l' r'->ZI R (l++l') (r++r')
 | [],_,[],_,_,h=>h
 |_::_,_,_::_,_,h,h'=>⟨h.1,h.2.append h'⟩
 | [],_,_::_,_,h,_=>h.elim
 |_::_,_,[],_,h,_=>h.elim
end
class NW where
 B0:Nat
structure Gh where
 val:Nat->Value
 O:Nat->List Nat
 D:Nat->List Nat
 Z:Nat->Prop
def Gh.own (g:Gh) (b:Nat):Prop:=(∃k,b∈g.O k)\/g.Z b
def Gh.low (g:Gh) (b:Nat):Prop:=g.own b\/∃k,b∈g.D k
structure Qw (g g':Gh) (n:Nat):Prop where
 own:∀b,g'.own b->g.own b\/n<=b
 low:∀b,g'.low b->g.low b\/n<=b
structure X0 (g' g:Gh):Prop where
 own:∀b,g'.own b->g.own b
 low:∀b,g'.low b->g.low b
theorem Qw.refl (g:Gh) (n:Nat):Qw g g n:=⟨fun _ h=>.inl h,fun _ h=>.inl h⟩
theorem X0.refl (g:Gh):X0 g g:=⟨fun _ h=>h,fun _ h=>h⟩
theorem X0.trans {a b c:Gh}(h:X0 a b) (k:X0 b c):X0 a c:=⟨fun x hx=>k.own x (h.own x hx),fun x hx=>k.low x (h.low x hx)⟩
theorem X0.grow {g' g:Gh}(h:X0 g' g) (n:Nat):Qw g g' n:=⟨fun x hx=>.inl (h.own x hx),fun x hx=>.inl (h.low x hx)⟩
theorem X0.of {g' g:Gh}(h:∀b,g'.own b->g.own b) (k:∀j b,b∈g'.D j->∃i,b∈g.D i):X0 g' g:=⟨h,fun x hx=>hx.imp (h x) fun ⟨j,mj⟩=>k j x mj⟩
theorem Qw.of {g g':Gh}{n:Nat}(h:∀b,g'.own b->g.own b\/n<=b) (k:∀j b,b∈g'.D j->g.low b\/n<=b):Qw g g' n:=⟨h,fun x hx=>by
 rcases hx with hx|⟨j,mj⟩
 .exact (h x hx).imp (fun q=>.inl q) id
 .exact k j x mj⟩
structure QO extends World where
 z:Nat->Prop
 x:Nat->Prop
 hv:Option Value
 y:Nat->Prop:=fun _=>False
structure Bel (W:QO) (w:World):Prop where
 os:w.os=W.os
 tape:w.tape=W.tape
 output:w.output=W.output
 size:W.heap.size<=w.heap.size
 block:∀k,k<W.heap.size->¬W.x k->w.heap[k]?=W.heap[k]?
theorem Bel.trans {W:QO}{w w':World}(h:Bel W w) (k:Below w.heap.size w w'):Bel W w':=
 ⟨k.os.trans h.os,k.tape.trans h.tape,k.output.trans h.output,Ao h.size k.size,fun i hi hx=>(k.block i (B8 hi h.size)).trans (h.block i hi hx)⟩
def NR [NW] (g:Gh) (w:World) (x:CT) (v:Value):Prop:=
 ∃e m xs cs L,x=.sl e m xs/\0<m/\w.ownsV 0 e m v xs.length cs/\REs w m xs cs L/\(v.ownBlock.toList++L).Nodup/\∀b∈v.ownBlock.toList++L,¬g.low b/\NW.B0<=b/\∃cur t,w.heap[b]?=some (.cells cur t (0,0))
def AVR [NW] (g:Gh) (w:World):AV->Value->Prop
 |.c x,v=>∃L,RC w x v L/\∀b∈L,¬g.own b
 |.n x,v=>NR g w x v
 |.row k,v=>v=g.val k/\v.oneCell'=true
 |.nil _ _,v=>v=.slice none 0 0
 |.dead,v=>v.oneCell'=true
def PVR [NW] (g:Gh) (w:World):Bool->List AV->Value->Prop
 |true,cs,v=>∃vs:List Value,v=.agg vs.toArray/\ZI (AVR g w) cs vs
 |false,cs,v=>∃x,cs=[x]/\AVR g w x v
def SVR [NW] (g:Gh) (w:World):SV->Value->Prop
 |.any,_=>True
 |.und,v=>v=undef
 |.p a cs,v=>PVR g w a cs v
 |.tup xs,v=>∃vs:List Value,v=.tuple vs.toArray/\ZI (fun x u=>PVR g w x.1 x.2 u) xs vs
 |.bp k off,v=>∃b,g.val k=.pointer (some ⟨b,0,none⟩)/\v=.pointer (some ⟨b,off,none⟩)
 |.rp k m i off,v=>∃b o n c,g.val k=.slice (some ⟨b,o,none⟩) n c/\v=.pointer (some ⟨b,o+(i*m+off),none⟩)
 |.ep e off,v=>∃b lo cs L,v=.pointer (some ⟨b,lo+off,none⟩)/\ZbF w b lo cs/\RCs w e cs L/\(∀x∈b::L,¬g.own x)/\b<w.heap.size
 |.fn f,v=>v=.func (.func f) #[] #[]
def ObR [NW] (g:Gh) (w:World) (k:Nat):Ob->Prop
 |.gone=>g.O k=[]/\g.D k=[]
 |.box t cs=>∃b vs,g.val k=.pointer (some ⟨b,0,none⟩)/\g.O k=[b]/\g.D k=[]/\w.heap[b]?=some (.cells vs.toArray t (0,0))/\ZI (AVR g w) cs vs
 |.row e m xs d=>0<m/\∃cs L,w.ownsV 0 e m (g.val k) xs.length cs/\REs w m xs cs L/\((d=2/\g.O k=(g.val k).ownBlock.toList/\g.D k=L)\/(d=1/\g.O k=(g.val k).ownBlock.toList/\g.D k=[]/\∀b∈L,¬g.own b)\/(d=0/\g.O k=[]/\g.D k=[]/\∀b∈(g.val k).ownBlock.toList++L,¬g.own b))
 |.map kk vk kv=>∃b es c,g.val k=.map (some b)/\g.O k=[b]/\g.D k=[]/\w.heap[b]?=some (.map es c)/\ZeS es=kv/\Zjw kk vk kv
def Xp (w:World) (o:Ob) (b:Nat):Prop:=
 match o with
 |.map _ _ _=>∃es c,w.heap[b]?=some (.map es c)
 |_=>∃cur e,w.heap[b]?=some (.cells cur e (0,0))
theorem Xp.lt {w:World}{o:Ob}{b:Nat}(h:Xp w o b):b<w.heap.size:=by
 unfold Xp at h
 split at h
 .obtain ⟨_,_,h⟩:=h;exact (Ae.1 h).1
 .obtain ⟨_,_,h⟩:=h;exact (Ae.1 h).1
theorem Xp.keep {w w':World}{o:Ob}{b:Nat}(h:Xp w o b) (e:w'.heap[b]?=w.heap[b]?):Xp w' o b:=by
 unfold Xp at h ⊢
 rw [e];exact h
def ZiU:Ob->Bool
 |.map _ _ _=>true
 |_=>false
theorem Xp.of {w:World}{o o':Ob}{b:Nat}(h:Xp w o b) (e:ZiU o'=ZiU o):Xp w o' b:=by
 cases o<;>cases o'<;>simp [ZiU]at e<;>exact h
structure HI [NW] (W:QO) (g:Gh) (ob:Nat->Ob) (w:World):Prop where
 below:Bel W w
 obs:∀k,ObR g w k (ob k)
 nodup:∀k,(g.O k++g.D k).Nodup
 apart:∀k j,k≠j->∀b∈g.O k++g.D k,b∉g.O j++g.D j
 plain:∀k,∀b∈g.O k++g.D k,(W.heap.size<=b\/W.x b\/W.y b)/\Xp w (ob k) b
 gz:g.Z=W.z
 zx:∀b,W.z b->b<W.heap.size/\¬W.x b/\¬W.y b
 nw:∀b,(W.heap.size<=b\/W.x b\/W.y b)->NW.B0<=b
 oy:∀k,∀b∈g.O k,W.heap.size<=b\/W.x b
def avU (U:Nat->Prop):AV->Prop
 |.row k=>U k
 |_=>True
def X3 (U:Nat->Prop) (cs:List AV):Prop:=∀x∈cs,avU U x
def svU (U:Nat->Prop):SV->Prop
 |.p _ cs=>X3 U cs
 |.tup xs=>∀x∈xs,X3 U x.2
 |.bp k _=>U k
 |.rp k _ _ _=>U k
 |_=>True
def obU (U:Nat->Prop):Ob->Prop
 |.box _ cs=>X3 U cs
 |_=>True
structure StU (U:Nat->Prop) (st:St):Prop where
 sl:∀t,svU U (st.sl t)
 ob:∀k,obU U (st.ob k)
 gone:∀k,¬U k->st.ob k=.gone
theorem HI.lt [NW] {W:QO}{g:Gh}{ob:Nat->Ob}{w:World}(h:HI W g ob w) (k:Nat):∀b∈g.O k++g.D k,b<w.heap.size:=by
 intro b m
 exact (h.plain k b m).2.lt
theorem HI.nz [NW] {W:QO}{g:Gh}{ob:Nat->Ob}{w:World}(h:HI W g ob w) {k b:Nat}(m:b∈g.O k++g.D k):¬g.Z b:=fun hz=>by
 rw [h.gz]at hz
 obtain ⟨h1,h2⟩:=h.zx b hz
 rcases (h.plain k b m).1 with h3|h3|h3
 .omega
 .exact h2.1 h3
 .exact h2.2 h3
theorem HI.oyOf [NW] {W:QO}{g g':Gh}{ob ob':Nat->Ob}{w w':World}(h:HI W g ob w) (ho:∀b,g'.own b->g.own b\/w.heap.size<=b)
  (hp:∀k,∀b∈g'.O k++g'.D k,(W.heap.size<=b\/W.x b\/W.y b)/\Xp w' (ob' k) b):∀k,∀b∈g'.O k,W.heap.size<=b\/W.x b:=fun k b m=>by
 rcases ho b (.inl ⟨k,m⟩) with (⟨j,mj⟩|hz)|hn
 .exact h.oy j b mj
 .rw [h.gz]at hz
  obtain ⟨h1,h2,h3⟩:=h.zx b hz
  rcases (hp k b (by simp [m])).1 with q|q|q
  .omega
  .exact absurd q h2
  .exact absurd q h3
 .exact .inl (Ao h.below.size hn)
section
variable {g g':Gh} {w w':World} {U:Nat->Prop}
theorem NR.move [NW] {x:CT}{v:Value}(h:NR g w x v)
  (hw:∀b,b<w.heap.size->¬g.own b->w'.heap[b]?=w.heap[b]?) (ho:Qw g g' w.heap.size):NR g' w' x v:=by
 obtain ⟨e,m,xs,cs,L,h1,h2,h3,h4,h5,h6⟩:=h
 have a:∀b∈v.ownBlock.toList++L,b<w.heap.size:=fun b mb=>by
  obtain ⟨_,_,_,_,q⟩:=h6 b mb
  exact (Ae.1 q).1
 have hs:∀b∈v.ownBlock.toList++L,w'.heap[b]?=w.heap[b]?:=fun b mb=>hw b (a b mb) fun o=>(h6 b mb).1 (.inl o)
 refine ⟨e,m,xs,cs,L,h1,h2,XT h3 fun b mb=>hs b (by simp [mb]),h4.keep fun b mb=>hs b (by simp [mb]),h5,fun b mb=>⟨fun o=>?_,(h6 b mb).2.1,by rw [hs b mb];exact (h6 b mb).2.2⟩⟩
 rcases ho.low b o with o|o
 .exact (h6 b mb).1 o
 .have:=a b mb;omega
theorem AVR.move [NW] {x:AV}{v:Value}(h:AVR g w x v) (hx:avU U x) (hv:∀k,U k->g'.val k=g.val k)
  (hw:∀b,b<w.heap.size->¬g.own b->w'.heap[b]?=w.heap[b]?) (ho:Qw g g' w.heap.size):AVR g' w' x v:=by
 cases x with
 |c x=>
  obtain ⟨L,h1,h2⟩:=h
  have a:=h1.lt
  refine ⟨L,h1.keep fun b m=>hw b (a b m) (h2 b m),fun b m o=>?_⟩
  rcases ho.own b o with o|o
  .exact h2 b m o
  .have:=a b m;omega
 |n x=>exact NR.move h hw ho
 |row k=>exact ⟨h.1.trans (hv k hx).symm,h.2⟩
 |nil e m=>exact h
 |dead=>exact h
theorem AVRs.move [NW] {cs:List AV}{vs:List Value}(h:ZI (AVR g w) cs vs) (hx:X3 U cs) (hv:∀k,U k->g'.val k=g.val k)
  (hw:∀b,b<w.heap.size->¬g.own b->w'.heap[b]?=w.heap[b]?) (ho:Qw g g' w.heap.size):ZI (AVR g' w') cs vs:=
 h.mono fun a _ m r=>r.move (hx a m) hv hw ho
theorem PVR.move [NW] {a:Bool}{cs:List AV}{v:Value}(h:PVR g w a cs v) (hx:X3 U cs) (hv:∀k,U k->g'.val k=g.val k)
  (hw:∀b,b<w.heap.size->¬g.own b->w'.heap[b]?=w.heap[b]?) (ho:Qw g g' w.heap.size):PVR g' w' a cs v:=by
 cases a with
 |true=>obtain ⟨vs,h1,h2⟩:=h;exact ⟨vs,h1,AVRs.move h2 hx hv hw ho⟩
 |false=>obtain ⟨x,h1,h2⟩:=h;exact ⟨x,h1,h2.move (hx x (by simp [h1])) hv hw ho⟩
theorem SVR.move [NW] {s:SV}{v:Value}(h:SVR g w s v) (hx:svU U s) (hv:∀k,U k->g'.val k=g.val k)
  (hw:∀b,b<w.heap.size->¬g.own b->w'.heap[b]?=w.heap[b]?) (ho:Qw g g' w.heap.size) (hs:w.heap.size<=w'.heap.size):SVR g' w' s v:=by
 cases s with
 |any=>exact h
 |und=>exact h
 |p a cs=>exact PVR.move h hx hv hw ho
 |tup xs=>
  obtain ⟨vs,h1,h2⟩:=h
  exact ⟨vs,h1,h2.mono fun x _ m r=>r.move (hx x m) hv hw ho⟩
 |bp k off=>obtain ⟨b,h1,h2⟩:=h;exact ⟨b,(hv k hx).trans h1,h2⟩
 |rp k m i off=>obtain ⟨b,o,n,c,h1,h2⟩:=h;exact ⟨b,o,n,c,(hv k hx).trans h1,h2⟩
 |ep e off=>
  obtain ⟨b,lo,cs,L,h1,h2,h3,h4,h5⟩:=h
  have d:=h3.lt
  refine ⟨b,lo,cs,L,h1,fun j u hu=>?_,h3.keep fun x m=>hw x (d x m) (h4 x (by simp [m])),fun x m o=>?_,yE⟩
  .rw [<-h2 j u hu];exact World.cell?_of_block (hw b h5 (h4 b yG))
  .rcases ho.own x o with o|o
   .exact h4 x m o
   .rcases AP.1 m with rfl|m
    .omega
    .have:=d x m;omega
 |fn f=>exact h
theorem HI.step [NW] {W:QO}{ob ob':Nat->Ob}(h:HI W g ob w) (T:Nat->Prop)
  (v:Bel W w') (hZ:g'.Z=g.Z)
  (hw:∀b,b<w.heap.size->(∀k,T k->b∉g.O k)->w'.heap[b]?=w.heap[b]?)
  (hk:∀k,¬T k->ob' k=ob k/\g'.val k=g.val k/\g'.O k=g.O k/\g'.D k=g.D k)
  (z:∀k,obU U (ob k)) (hv:∀k,U k->g'.val k=g.val k)
  (ho:Qw g g' w.heap.size)
  (hT:∀k,T k->ObR g' w' k (ob' k)/\(g'.O k++g'.D k).Nodup/\(∀b∈g'.O k++g'.D k,(W.heap.size<=b\/W.x b\/W.y b)/\Xp w' (ob' k) b)/\∀j,k≠j->∀b∈g'.O k++g'.D k,b∉g'.O j++g'.D j):
  HI W g' ob' w':=by
 have p:∀b,b<w.heap.size->¬g.own b->w'.heap[b]?=w.heap[b]?:=fun b hb hn=>hw b hb fun k _ m=>hn (.inl ⟨k,m⟩)
 have i:∀k,¬T k->∀b∈g.O k++g.D k,w'.heap[b]?=w.heap[b]?:=fun k hk b m=>
  hw b (h.lt k b m) fun j hj mj=>h.apart j k (fun e=>hk (e ▸ hj)) b (by simp [mj]) m
 suffices hpl:(∀k,ObR g' w' k (ob' k))/\(∀k,(g'.O k++g'.D k).Nodup)/\(∀k j,k≠j->∀b∈g'.O k++g'.D k,b∉g'.O j++g'.D j)/\∀k,∀b∈g'.O k++g'.D k,(W.heap.size<=b\/W.x b\/W.y b)/\Xp w' (ob' k) b from
  ⟨v,hpl.1,hpl.2.1,hpl.2.2.1,hpl.2.2.2,hZ.trans h.gz,h.zx,h.nw,h.oyOf ho.own hpl.2.2.2⟩
 refine ⟨fun k=>?_,fun k=>?_,fun k j q b m=>?_,fun k b m=>?_⟩
 .by_cases a:T k
  .exact (hT k a).1
  .obtain ⟨e1,e2,e3,e4⟩:=hk k a
   have f:=h.obs k
   have hF:=i k a
   have hU:=z k
   rw [e1]
   cases hok:ob k with
   |gone=>rw [hok]at f;exact ⟨e3.trans f.1,e4.trans f.2⟩
   |box t cs=>
    rw [hok]at f hU
    obtain ⟨b,vs,h1,h2,h3,h4,h5⟩:=f
    exact ⟨b,vs,e2.trans h1,e3.trans h2,e4.trans h3,by rw [hF b (by simp [h2])];exact h4,AVRs.move h5 hU hv p ho⟩
   |map kk vk kv=>
    rw [hok]at f
    obtain ⟨b,es,c,h1,h2,h3,h4,h5⟩:=f
    exact ⟨b,es,c,e2.trans h1,e3.trans h2,e4.trans h3,by rw [hF b (by simp [h2])];exact h4,h5⟩
   |row e m xs d=>
    rw [hok]at f
    obtain ⟨hm,cs,L,h1,h2,h4⟩:=f
    have l:=h2.lt
    have hL:∀b∈L,w'.heap[b]?=w.heap[b]?:=fun b mb=>by
     rcases h4 with ⟨_,_,h4⟩|⟨_,_,_,h4⟩|⟨_,_,_,h4⟩
     .exact hF b (by simp [h4,mb])
     .exact p b (l b mb) (h4 b mb)
     .exact p b (l b mb) (h4 b (by simp [mb]))
    have B:∀b∈(g.val k).ownBlock.toList,w'.heap[b]?=w.heap[b]?:=fun b mb=>by
     rcases h4 with ⟨_,h3,_⟩|⟨_,h3,_⟩|⟨_,_,_,h4⟩
     .exact hF b (by simp [h3,mb])
     .exact hF b (by simp [h3,mb])
     .exact p b (Zgh h1 b mb) (h4 b (by simp [mb]))
    refine ⟨hm,cs,L,by rw [e2];exact XT h1 B,h2.keep hL,?_⟩
    rw [e2,e3,e4]
    have u:∀b,b<w.heap.size->¬g.own b->¬g'.own b:=fun b hb hn o=>by
     rcases ho.own b o with o|o
     .exact hn o
     .omega
    rcases h4 with h4|⟨hd,h3,h4,h5⟩|⟨hd,h3,h4,h5⟩
    .exact .inl h4
    .exact .inr (.inl ⟨hd,h3,h4,fun b mb=>u b (l b mb) (h5 b mb)⟩)
    .refine .inr (.inr ⟨hd,h3,h4,fun b mb=>?_⟩)
     rcases A4.1 mb with m1|m1
     .exact u b (Zgh h1 b m1) (h5 b mb)
     .exact u b (l b m1) (h5 b mb)
 .by_cases a:T k
  .exact (hT k a).2.1
  .obtain ⟨e1,e2,e3,e4⟩:=hk k a
   rw [e3,e4];exact h.nodup k
 .by_cases a:T k
  .exact (hT k a).2.2.2 j q b m
  .by_cases A:T j
   .exact fun mj=>(hT j A).2.2.2 k (fun e=>q e.symm) b mj m
   .obtain ⟨_,_,e3,e4⟩:=hk k a
    obtain ⟨_,_,f3,f4⟩:=hk j A
    rw [e3,e4]at m
    rw [f3,f4]
    exact h.apart k j q b m
 .by_cases a:T k
  .exact (hT k a).2.2.1 b m
  .obtain ⟨_,_,e3,e4⟩:=hk k a
   rw [e3,e4]at m
   obtain ⟨p1,p2⟩:=h.plain k b m
   obtain ⟨e1,_⟩:=hk k a
   exact ⟨p1,by rw [e1];exact p2.keep (i k a b m)⟩
end
structure Inv [NW] (W:QO) (U:Nat->Prop) (st:St) (a:Act) (w:World):Prop where
 ex:∃g,HI W g st.ob w/\∀t,SVR g w (st.sl t) (a.tmps.getD t undef)
 wf:StU U st
 defers:a.defers=[]
 hand:∀v,W.hv=some v->a.tmps.getD 0 undef=v
end
section
open Go.RowKit
def Zbc:AV->Value->Bool
 |.c (.int k n),.int k' n'=>k==k'&&n==n'
 |.c (.bool b),.bool b'=>b==b'
 |.c (.str s),.string s'=>s.data.toList==s'.data.toList&&Z7 s
 |.nil _ m,.slice none 0 0=>Nat.blt 0 m
 |_,_=>false
def ZiB:TypeDesc->AV->Bool
 |.int k,.c (.int k' _)=>k==k'
 |.bool,.c (.bool _)=>true
 |.string,.c (.str _)=>true
 |_,_=>false
def Zr8:TypeDesc->Bool
 |.struct _=>true
 |.array _ _=>true
 |_=>false
def ZeB:PK->TypeDesc->Bool
 |.int k,.int k'=>k==k'
 |.str,.string=>true
 |.bool,.bool=>true
 |_,_=>false
def EqF (P:Program):List PK->List Field->Nat->Prop
 | [],[],_=>True
 | k :: ks, f :: fs, n => f.name ≠ "_" ∧ f.offset = n ∧ (∃ d, P.underlying f.type = some d ∧ ZeB k d = true) ∧ EqF P ks fs (n + 1)
 |_,_,_=>False
def TOk (P:Program) (t:TypeId):TI->Prop
 |.atom z=>∃d zv i,P.underlying t=some d/\ZiB d z=true/\P.info? t=some i/\i.zero=some zv/\i.size=1/\Zbc z zv=true
 |.strct fs n z=>∃(fields:Array Field) (i:TypeInfo) (zvs:Array Value),P.underlying t=some (.struct fields)/\P.info? t=some i/\i.size=n/\i.zero=some (.agg zvs)/\ZI (fun a v=>Zbc a v=true) z zvs.toList/\
   ZI (fun (fi:FI) (f:Field)=>f.offset=fi.off/\fi.size≠0/\∃j d,P.info? f.type=some j/\j.size=fi.size/\P.underlying f.type=some d/\Zr8 d=fi.agg) fs fields.toList
 |.slice e m bytes z=>P.underlying t=some (.slice e)/\0<m/\bytes<=131072/\(∃(i:TypeInfo) (zv:Value),P.info? e=some i/\i.size=m/\i.bytes=bytes/\i.zero=some zv/\ZI (fun a v=>Zbc a v=true) z zv.cells.toList/\z.length=m)/\
   ∃j:TypeInfo,P.info? t=some j/\j.size=1/\j.zero=some (.slice none 0 0)
 |.ifc=>∃ms,P.underlying t=some (.interface ms)
 |.map kk vk=>∃kt et dk dv i zv,P.underlying t=some (.map kt et)/\P.underlying kt=some dk/\ZeB kk dk=true/\P.underlying et=some dv/\ZeB vk dv=true/\P.info? et=some i/\i.zero=some zv/\Zbc (Zfv vk) zv=true
 |.eqs ks=>∃u,t=u+4000/\P.underlying u=some (.struct (P.fieldsOf u))/\P.stoodInHeld u=false/\P.eqGuardType P.depth u=false/\EqF P ks (P.fieldsOf u).toList 0
section
variable {P:Program} {w:World} {t:TypeId}
theorem Zsi {i:TypeInfo}(h:P.info? t=some i):(typeInfo t).run P w=.ok i w:=by simp [typeInfo,program,Sem.run,h]
theorem YV {d:TypeDesc}(h:P.underlying t=some d):(underlying t).run P w=.ok d w:=by simp [underlying,program,Sem.run,h]
theorem Xs [NW] {i:TypeInfo}(h:P.info? t=some i):(sizeOf t).run P w=.ok i.size w:=by simp [sizeOf,Zsi h]
theorem ZjR [NW] {i:TypeInfo}{z:Value}(h:P.info? t=some i) (hz:i.zero=some z):(zeroValue t).run P w=.ok z w:=by simp [zeroValue,Zsi h,hz]
theorem Zij [NW] {d:TypeDesc}(h:P.underlying t=some d):(isAgg t).run P w=.ok (Zr8 d) w:=by
 simp only[isAgg,Sem.run_bind,YV h,Result.andThen_ok]
 cases d<;>rfl
theorem ZzW {d:TypeDesc}{z:AV}(h:ZiB d z=true):Zr8 d=false:=by
 unfold ZiB at h
 split at h<;>first|rfl|simp at h
end
section
variable {g:Gh} {w:World}
theorem Zsy {s:ByteArray}(h:Z7 s=true):s.size<=9223372036854775807:=by
 unfold Z7 at h
 have:=Nat.le_of_ble_eq_true h
 rw [Array.length_toList]at this
 exact this
theorem ZfI [NW] {x:AV}{v:Value}(h:Zbc x v=true):AVR g w x v:=by
 unfold Zbc at h
 split at h
 .simp only[AD,beq_iff_eq]at h
  exact ⟨[],⟨by rw [h.1,h.2],rfl⟩,yG⟩
 .simp only[beq_iff_eq]at h
  exact ⟨[],⟨by rw [h],rfl⟩,yG⟩
 .rename_i s s'
  simp only[AD,beq_iff_eq]at h
  have e:s=s':=by
   cases s;cases s'
   simpa using h.1
  exact ⟨[],⟨by rw [e],rfl,Zsy h.2⟩,yG⟩
 .rfl
 .simp at h
theorem AVR.one [NW] {x:AV}{v:Value}(h:AVR g w x v):v.oneCell'=true:=by
 cases x with
 |c x=>obtain ⟨L,h1,_⟩:=h;exact h1.one
 |n x=>
  obtain ⟨e,m,xs,cs,L,h1,h2,h3,_⟩:=h
  obtain ⟨A,c,hv,_⟩:=Y2 h3
  simp [hv,Value.oneCell']
 |row k=>exact h.2
 |nil e m=>simp [AVR]at h;simp [h,Value.oneCell']
 |dead=>exact h
theorem ZpM {v:Value}(h:v.oneCell'=true):v.cells=#[v]:=by
 cases v<;>simp [Value.oneCell']at h<;>rfl
theorem PVR.cells [NW] {a:Bool}{cs:List AV}{v:Value}(h:PVR g w a cs v):∃vs:List Value,v.cells=vs.toArray/\ZI (AVR g w) cs vs:=by
 cases a with
 |true=>obtain ⟨vs,rfl,h2⟩:=h;exact ⟨vs,rfl,h2⟩
 |false=>obtain ⟨x,rfl,h2⟩:=h;exact ⟨[v],by rw [ZpM h2.one],⟨h2,trivial⟩⟩
theorem AVRs.one [NW] {cs:List AV}{vs:List Value}(h:ZI (AVR g w) cs vs):∀u∈vs,u.oneCell'=true:=by
 induction vs generalizing cs with
 |nil=>simp
 |cons v r ih=>
  cases cs with
  |nil=>exact h.elim
  |cons c cs=>
   intro u m
   rcases AP.1 m with rfl|m
   .exact h.1.one
   .exact ih h.2 u m
end
theorem ZvB (x y:ByteArray):(x.toList==y.toList)=decide (x=y):=by
 rw [Bool.eq_iff_iff]
 simp only[beq_iff_eq,decide_eq_true_eq]
 constructor
 .intro h
  have h':x.data.toList=y.data.toList:=by rw [<-B9,<-B9];exact h
  cases x;cases y
  simpa using h'
 .rintro rfl;rfl
end
section
open Go.RowKit
def Uk (U:Nat->Prop) (key:Nat):Nat->Prop:=fun k=>U k\/(key<=k/\k<key+16)
theorem avU.mono {U U':Nat->Prop}(h:∀k,U k->U' k) {x:AV}(hx:avU U x):avU U' x:=by cases x<;>first|exact h _ hx|trivial
theorem X3.mono [NW] {U U':Nat->Prop}(h:∀k,U k->U' k) {x:List AV}(hx:X3 U x):X3 U' x:=fun y m=>(hx y m).mono h
theorem svU.mono [NW] {U U':Nat->Prop}(h:∀k,U k->U' k) {x:SV}(hx:svU U x):svU U' x:=by
 cases x<;>first|exact X3.mono h hx|exact fun y m=>X3.mono h (hx y m)|exact h _ hx|trivial
theorem obU.mono [NW] {U U':Nat->Prop}(h:∀k,U k->U' k) {x:Ob}(hx:obU U x):obU U' x:=by
 cases x<;>first|exact X3.mono h hx|trivial
def Fin [NW] (P:Program) (W:QO) (U:Nat->Prop) (key:Nat) (st:St) (g:Gh) (w:World) (s:Sem Next) (r:SV×List (Nat×Ob)):Prop:=
 ∃g' cv w',(s.run P w=.ok (.value cv) w'\/(s.run P w=.ok .skip w'/\cv=undef))/\HI W g' (Zl st.ob r.2) w'/\SVR g' w' r.1 cv/\(∀x v,svU U x->SVR g w x v->SVR g' w' x v)/\
  svU (Uk U key) r.1/\(∀k,obU (Uk U key) (Zl st.ob r.2 k))/\∀k,¬Uk U key k->Zl st.ob r.2 k=.gone
section
variable {P:Program} {W:QO} {U:Nat->Prop} {key:Nat} {st:St} {g:Gh} {w:World} {a:Act} {tt:Nat->Option TI}
theorem Zbf [NW] {s:Sem Next}{v:SV}{cv:Value}(hI:HI W g st.ob w) (hU:StU U st) (a:s.run P w=.ok (.value cv) w) (hv:SVR g w v cv) (hu:svU U v):Fin P W U key st g w s (v,[]):=
 ⟨g,cv,w,.inl a,hI,hv,fun _ _ _ h=>h,hu.mono fun _=>.inl,fun k=>(hU.ob k).mono fun _=>.inl,fun k hk=>hU.gone k fun h=>hk (.inl h)⟩
theorem XZ (x:CT):svU U (.p false [.c x]):=fun y m=>by simp at m;subst m;trivial
theorem Zcb [NW] (k:IntKind) (n:Int):SVR g w (.p false [.c (.int k n)]) (.int k n):=⟨_,rfl,[],⟨rfl,rfl⟩,yG⟩
theorem Zbo [NW] (b:Bool):SVR g w (.p false [.c (.bool b)]) (.bool b):=⟨_,rfl,[],⟨rfl,rfl⟩,yG⟩
theorem Zmh [NW] {s:ByteArray}(h:s.size<=9223372036854775807):SVR g w (.p false [.c (.str s)]) (.string s):=⟨_,rfl,[],⟨rfl,rfl,h⟩,yG⟩
theorem Zcg [NW] {k:IntKind}{n:Int}{v:Value}(h:SVR g w (.p false [.c (.int k n)]) v):v=.int k n:=by
 obtain ⟨x,hx,h⟩:=h;simp at hx;subst hx;obtain ⟨L,h1,_⟩:=h;exact h1.1
theorem Zgy [NW] {b:Bool}{v:Value}(h:SVR g w (.p false [.c (.bool b)]) v):v=.bool b:=by
 obtain ⟨x,hx,h⟩:=h;simp at hx;subst hx;obtain ⟨L,h1,_⟩:=h;exact h1.1
theorem Zi7 [NW] {s:ByteArray}{v:Value}(h:SVR g w (.p false [.c (.str s)]) v):v=.string s/\s.size<=9223372036854775807:=by
 obtain ⟨x,hx,h⟩:=h;simp at hx;subst hx;obtain ⟨L,h1,_⟩:=h;exact ⟨h1.1,h1.2.2⟩
theorem ZGt [NW] {t:Nat}(htt:∀t i,tt t=some i->TOk P t i) (v:Value):SVR g w (cvT (tt t) v) v/\svU U (cvT (tt t) v):=by
 unfold cvT
 split
 .exact ⟨Zcb _ _,XZ _⟩
 .exact ⟨Zbo _,XZ _⟩
 .split
  .rename_i h;exact ⟨Zmh (Zsy h),XZ _⟩
  .exact ⟨trivial,trivial⟩
 .split
  .exact ⟨⟨_,rfl,rfl⟩,fun y m=>by simp at m;subst m;trivial⟩
  .exact ⟨trivial,trivial⟩
 .exact ⟨trivial,trivial⟩
theorem Zlm [NW] (htt:∀t i,tt t=some i->TOk P t i) (hS:∀t,SVR g w (st.sl t) (a.tmps.getD t undef)) (hU:StU U st) (t:Nat) (x:Operand):
  SVR g w (st.ev tt t x) (a.eval x)/\svU U (st.ev tt t x):=by
 cases x with
 |tmp s=>exact ⟨hS s,hU.sl s⟩
 |const v=>exact ZGt htt v
 |global _=>exact ⟨trivial,trivial⟩
 |func f=>exact ⟨rfl,trivial⟩
theorem ZCb [NW] {op:BinOp}{t:Nat}{ox oy:Operand}{k k':IntKind}{n n':Int}{z:CT}(hk:k=k'\/op=.shl\/op=.shr) (hz:ZBC op k n n'=some z):
  ∃cv,(do eqGuard op t ox oy (.int k n) (.int k' n');binOp op t (.int k n) (.int k' n'):Sem Value).run P w=.ok cv w/\SVR g w (.p false [.c z]) cv:=by
 have hg:(eqGuard op t ox oy (.int k n) (.int k' n')).run P w=.ok () w:=by
  cases op<;>rfl
 simp only[Sem.run_bind,hg,Result.andThen_ok]
 cases op<;>simp only[ZBC,ZFt,Zmz,orI,ZAV,ZvI,ZGV,ZwZ,Option.map_none,Aq,A5,reduceCtorEq]at hz<;>(try subst hz)<;>
  (try (split at hz<;>simp only[A5,reduceCtorEq]at hz;subst hz))<;>
  simp only[reduceCtorEq,or_false,or_true]at hk<;>(try subst hk)<;>
  first
   |(refine ⟨_,?_,Zcb _ _⟩;simp [binOp,Op.intArith,Op.intDiv,Op.intBits,Op.shift, *];done)
   |(refine ⟨_,?_,Zbo _⟩;simp [binOp,Op.intCmp];done)
set_option maxHeartbeats 1000000 in
theorem ZBI [NW] {op : BinOp} {t : Nat} {ox oy : Operand} {s s' : ByteArray} {z : CT} (hz : ZAO op s s' = some z) :
    ∃ cv, (do eqGuard op t ox oy (.string s) (.string s'); binOp op t (.string s) (.string s') : Sem Value).run P w = .ok cv w ∧ SVR g w (.p false [.c z]) cv := by
  have hg : (eqGuard op t ox oy (.string s) (.string s')).run P w = .ok () w := by
    cases op <;> rfl
  simp only[Sem.run_bind, hg, Result.andThen_ok]
  cases op <;> simp only[ZAO, A5, reduceCtorEq] at hz <;> (try subst hz) <;>
    first
      | (refine ⟨_, ?_, Zbo _⟩; simp only[binOp, Op.stringOp, sLt, sEq, ← ZvB]; rfl)
      | (split at hz
         · rename_i hl
           simp only[A5] at hz
           subst hz
           refine ⟨_, ?_, Zmh (by rw [ByteArray.size_append]; exact hl)⟩
           have hl' : ¬ ((s.size + s'.size : Nat) : Int) > IntKind.i64.max := by
             have : IntKind.i64.max = 9223372036854775807 := by decide
             omega
           simp only[binOp, Op.stringOp, hl', if_false]
           rfl
         · simp at hz)
theorem ZsY [NW] {op:BinOp}{t:Nat}{ox oy:Operand}{b b':Bool}{r:Bool}(ht:P.underlying t=some .bool) (a:(op=.eql/\r=(b==b'))\/(op=.neq/\r=!(b==b'))):
  (do eqGuard op t ox oy (.bool b) (.bool b');binOp op t (.bool b) (.bool b'):Sem Value).run P w=.ok (.bool r) w:=by
 have hg:(eqGuard op t ox oy (.bool b) (.bool b')).run P w=.ok () w:=by
  cases op<;>rfl
 have he:(Op.equal t (.bool b) (.bool b')).run P w=.ok (b==b') w:=by
  have key:∀d:Nat,(Op.equalIn (d+1) t (.bool b) (.bool b')).run P w=.ok (b==b') w:=fun d=>by
   rw [Op.equalIn]
   simp only[Sem.run_bind,YV ht,Result.andThen_ok,Sem.run_pure]
  exact key 9999
 simp only[Sem.run_bind,hg,Result.andThen_ok]
 rcases a with ⟨rfl,rfl⟩|⟨rfl,rfl⟩
 .simp only[binOp,Sem.run_bind,he,Result.andThen_ok,Sem.run_pure]
 .simp only[binOp,Sem.run_bind,he,Result.andThen_ok,Sem.run_pure]
theorem ZD8 [NW] (htt:∀t i,tt t=some i->TOk P t i) {op:BinOp}{t:Nat}{ox oy:Operand}{x y v:SV}{vx vy:Value}(h:ZAF (tt t) op x y=some v) (hx:SVR g w x vx) (hy:SVR g w y vy):
  ∃cv,(do eqGuard op t ox oy vx vy;binOp op t vx vy:Sem Value).run P w=.ok cv w/\SVR g w v cv/\svU U v:=by
 unfold ZAF at h
 split at h
 .have ex:=Zcg hx
  have ey:=Zcg hy
  subst ex ey
  split at h
  .rename_i hk
   obtain ⟨z,hz,rfl⟩:=A9.1 h
   obtain ⟨cv,h1,h2⟩:=ZCb (P:=P) (g:=g) (w:=w) (t:=t) (ox:=ox) (oy:=oy) hk hz
   exact ⟨cv,h1,h2,XZ _⟩
  .simp at h
 .obtain ⟨ex,lx⟩:=Zi7 hx
  obtain ⟨ey,ly⟩:=Zi7 hy
  subst ex ey
  obtain ⟨z,hz,rfl⟩:=A9.1 h
  obtain ⟨cv,h1,h2⟩:=ZBI (P:=P) (g:=g) (w:=w) (t:=t) (ox:=ox) (oy:=oy) hz
  exact ⟨cv,h1,h2,XZ _⟩
 .have ex:=Zgy hx
  have ey:=Zgy hy
  subst ex ey
  split at h
  .rename_i a
   simp only[A5]at h
   subst h
   obtain ⟨d,zv,i,h1,h2,_⟩:=htt t _ a
   have hd:d=.bool:=by cases d<;>simp [ZiB]at h2;rfl
   subst hd
   exact ⟨_,ZsY h1 (.inl ⟨rfl,rfl⟩),Zbo _,XZ _⟩
  .rename_i a
   simp only[A5]at h
   subst h
   obtain ⟨d,zv,i,h1,h2,_⟩:=htt t _ a
   have hd:d=.bool:=by cases d<;>simp [ZiB]at h2;rfl
   subst hd
   exact ⟨_,ZsY h1 (.inr ⟨rfl,rfl⟩),Zbo _,XZ _⟩
  .simp at h
 .simp at h
theorem ZpI {k:PK}{d:TypeDesc}(h:ZeB k d=true):Zr8 d=false:=by
 unfold ZeB at h
 split at h<;>first|rfl|simp at h
theorem ZEB [NW] {k:PK}{x y:AV}{vx vy:Value}{b:Bool}{t:Nat}{d:TypeDesc}(h:eqC k x y=some b) (hd:P.underlying t=some d) (hk:ZeB k d=true) (hx:AVR g w x vx) (hy:AVR g w y vy) (n:Nat):(Op.equalIn (n+1) t vx vy).run P w=.ok b w:=by
 unfold eqC at h
 split at h
 .split at h<;>simp only[A5,reduceCtorEq]at h
  rename_i kk;subst kk h
  obtain ⟨_,h1,_⟩:=hx;obtain ⟨_,h2,_⟩:=hy
  have e1:=h1.1;have e2:=h2.1;subst e1 e2
  cases d<;>simp [ZeB]at hk
  exact run_equalIn_int w n t _ _ _ _ hd
 .simp only[A5]at h;subst h
  obtain ⟨_,h1,_⟩:=hx;obtain ⟨_,h2,_⟩:=hy
  have e1:=h1.1;have e2:=h2.1;subst e1 e2
  cases d<;>simp [ZeB]at hk
  rw [run_equalIn_string w n t _ _ hd,sEq,ZvB]
 .simp only[A5]at h;subst h
  obtain ⟨_,h1,_⟩:=hx;obtain ⟨_,h2,_⟩:=hy
  have e1:=h1.1;have e2:=h2.1;subst e1 e2
  cases d<;>simp [ZeB]at hk
  exact run_equalIn_bool' w n t _ _ hd
 .simp at h
theorem Zvs [NW] (n:Nat) {X Y:Array Value}:∀{ks:List PK}{fs:List Field}{o:Nat}{xs ys:List AV}{vx vy:List Value}{b:Bool},ZoB ks xs ys=some b->EqF P ks fs o->ZI (AVR g w) xs vx->ZI (AVR g w) ys vy->(∀j v,vx[j]?=some v->X[o+j]?=some v)->(∀j v,vy[j]?=some v->Y[o+j]?=some v)->(Op.eqFields (n+1) X Y fs).run P w=.ok b w
 | [],[],_,[],[],_,_,b,h,_,_,_,_,_=>by simp [ZoB]at h;subst h;simp [Op.eqFields]
 |k::ks,f::fs,o,x::xs,y::ys,[],_,_,_,_,hx,_,_,_=>hx.elim
 |k::ks,f::fs,o,x::xs,y::ys,_::_,[],_,_,_,_,hy,_,_=>hy.elim
 |k::ks,f::fs,o,x::xs,y::ys,u::vx,v::vy,b,h,hf,hx,hy,hX,hY=>by
  simp only[ZoB]at h
  obtain ⟨b1,h1,h⟩:=AB.1 h
  obtain ⟨b2,h2,rfl⟩:=A9.1 h
  obtain ⟨f1,f2,⟨d,f3,f4⟩,f5⟩:=hf
  have e1:=ZEB h1 f3 f4 hx.1 hy.1 n
  have e2:=Zvs n h2 f5 hx.2 hy.2 (fun j v hj=>by have:=hX (j+1) v (by simpa using hj);rwa [show o+(j+1)=o+1+j by omega]at this) (fun j v hj=>by have:=hY (j+1) v (by simpa using hj);rwa [show o+(j+1)=o+1+j by omega]at this)
  have p1:(part f.type X f.offset).run P w=.ok u w:=by
   have:=hX 0 u yG
   simp only[part,Sem.run_bind,Zij f3,ZpI f4,Result.andThen_ok]
   rw [f2];simp at this;simp [this]
  have p2:(part f.type Y f.offset).run P w=.ok v w:=by
   have:=hY 0 v yG
   simp only[part,Sem.run_bind,Zij f3,ZpI f4,Result.andThen_ok]
   rw [f2];simp at this;simp [this]
  simp only[Op.eqFields,f1,ne_eq,not_false_eq_true,if_true,Sem.run_bind,p1,p2,e1,Result.andThen_ok]
  cases b1
  .simp
  .simpa using e2
 | [],_::_,_,_,_,_,_,_,_,hf,_,_,_,_=>hf.elim
 |_::_,[],_,_,_,_,_,_,_,hf,_,_,_,_=>hf.elim
 | [],[],_,_::_,_,_,_,_,h,_,_,_,_,_=>by simp [ZoB]at h
 | [],[],_,[],_::_,_,_,_,h,_,_,_,_,_=>by simp [ZoB]at h
 |_::_,_::_,_,[],_,_,_,_,h,_,_,_,_,_=>by simp [ZoB]at h
 |_::_,_::_,_,_::_,[],_,_,_,h,_,_,_,_,_=>by simp [ZoB]at h
theorem ZsC {op:BinOp}{b:Bool}{v:SV}(h:Zsj op b=some v):(op=.eql/\v=.p false [.c (.bool b)])\/(op=.neq/\v=.p false [.c (.bool (!b))]):=by
 unfold Zsj at h
 split at h<;>simp only[A5,reduceCtorEq]at h<;>subst h
 .exact .inl ⟨rfl,rfl⟩
 .exact .inr ⟨rfl,rfl⟩
theorem ZEd [NW] (htt:∀t i,tt t=some i->TOk P t i) {op:BinOp}{t:Nat}{ox oy:Operand}{x y v:SV}{vx vy:Value}(h:ZCh (tt (t+4000)) op x y=some v) (hx:SVR g w x vx) (hy:SVR g w y vy):
  ∃cv,(do eqGuard op t ox oy vx vy;binOp op t vx vy:Sem Value).run P w=.ok cv w/\SVR g w v cv/\svU U v:=by
 unfold ZCh at h
 split at h
 .obtain ⟨ks,a,h'⟩:=AB.1 h
  obtain ⟨b,hb,d⟩:=AB.1 h'
  have c:tt (t+4000)=some (.eqs ks):=by
   unfold Zx9 at a
   split at a<;>simp only[A5,reduceCtorEq]at a
   rename_i c
   rw [c,a]
  obtain ⟨u,e,h1,h2,h3,h4⟩:=htt _ _ c
  have e:t=u:=Nat.add_right_cancel e
  subst e
  obtain ⟨us,rfl,f⟩:=hx
  obtain ⟨vs,rfl,k⟩:=hy
  have hq:=Zvs (X:=us.toArray) (Y:=vs.toArray) 9998 hb h4 f k (fun j v hj=>by simpa using hj) (fun j v hj=>by simpa using hj)
  have hg:=run_eqGuard_agg (P:=P) w op t ox oy us.toArray vs.toArray h3
  rcases ZsC d with ⟨rfl,rfl⟩|⟨rfl,rfl⟩
  .refine ⟨_,?_,Zbo b,XZ _⟩
   simp only[Sem.run_bind,hg,Result.andThen_ok,run_eql_struct,run_equalIn_struct w 9999 t _ _ h1 h2,hq]
  .refine ⟨_,?_,Zbo (!b),XZ _⟩
   simp only[Sem.run_bind,hg,Result.andThen_ok,run_neq_struct,run_equalIn_struct w 9999 t _ _ h1 h2,hq]
 .simp at h
theorem ZDw [NW] {b:Bool}{v:Value}(h:SVR g w (.p false [.c (.ifc b)]) v):(b=true/\v=.nilIface)\/(b=false/\∃t x,v=.iface t x):=by
 obtain ⟨x,hx,h⟩:=h;simp at hx;subst hx;obtain ⟨L,h1,_⟩:=h
 have h2:=h1.2.2
 cases b with
 |true=>exact .inl ⟨rfl,h2⟩
 |false=>exact .inr ⟨rfl,h2⟩
theorem ZAS [NW] (htt:∀t i,tt t=some i->TOk P t i) {op:BinOp}{t:Nat}{ox oy:Operand}{x y v:SV}{vx:Value}(h:ZzR tt t (ZkU oy) op x y=some v) (hx:SVR g w x vx) (hy:SVR g w y (a.eval oy)):
  ∃cv,(do eqGuard op t ox oy vx (a.eval oy);binOp op t vx (a.eval oy):Sem Value).run P w=.ok cv w/\SVR g w v cv/\svU U v:=by
 unfold ZzR at h
 split at h
 .rename_i hn
  have ho:oy=.const .nilIface:=by
   cases oy with
   |const c=>cases c<;>first|rfl|(simp [ZkU,Zut]at hn;done)
   |_=>simp [ZkU]at hn
  subst ho
  split at h
  rotate_left
  .simp at h
  rename_i d
  have j:tt t=some .ifc:=by
   unfold ZAn at d
   split at d
   .assumption
   .simp at d
  obtain ⟨ms,e⟩:=htt _ _ j
  unfold ZD1 at h
  split at h
  .rename_i b
   have hb:=ZDw hx
   have k:a.eval (.const .nilIface)=.nilIface:=rfl
   rw [k]
   have hg:∀v:Value,(v=.nilIface\/∃t x,v=.iface t x)->(eqGuard op t ox (.const .nilIface) v .nilIface).run P w=.ok () w:=fun v hv=>by
    rcases hv with rfl|⟨t',x',rfl⟩
    .simp only[eqGuard]
     cases ox<;>cases op<;>rfl
    .simp only[eqGuard]
     cases op<;>rfl
   have he:(Op.equal t vx .nilIface).run P w=.ok b w:=by
    show (Op.equalIn (9999+1) t _ _).run P w=_
    rw [Op.equalIn]
    rcases hb with ⟨rfl,rfl⟩|⟨rfl,t',x',rfl⟩
    .simp only[Sem.run_bind,YV e,Result.andThen_ok,Sem.run_pure]
    .simp only[Sem.run_bind,YV e,Result.andThen_ok,Sem.run_pure]
   have f:=hg vx (hb.imp (fun h=>h.2) (fun h=>h.2))
   rcases ZsC h with ⟨rfl,rfl⟩|⟨rfl,rfl⟩
   .refine ⟨_,?_,Zbo b,XZ _⟩
    simp only[Sem.run_bind,f,Result.andThen_ok]
    rcases hb with ⟨rfl,rfl⟩|⟨rfl,t',x',rfl⟩<;>simp only[binOp,Sem.run_bind,he,Result.andThen_ok,Sem.run_pure]
   .refine ⟨_,?_,Zbo (!b),XZ _⟩
    simp only[Sem.run_bind,f,Result.andThen_ok]
    rcases hb with ⟨rfl,rfl⟩|⟨rfl,t',x',rfl⟩<;>simp only[binOp,Sem.run_bind,he,Result.andThen_ok,Sem.run_pure]
  .simp at h
 .split at h
  .exact ZEd htt h hx hy
  .exact ZD8 htt h hx hy
theorem ZHQ [NW] {op:UnOp}{x v:SV}{vx:Value}(h:unV op x=some v) (hx:SVR g w x vx):∃cv,(Op.unary op vx).run P w=.ok cv w/\SVR g w v cv/\svU U v:=by
 unfold unV at h
 split at h
 .have ex:=Zgy hx
  subst ex
  split at h<;>simp at h
  subst h
  exact ⟨_,by simp [Op.unary],Zbo _,XZ _⟩
 .have ex:=Zcg hx
  subst ex
  split at h<;>simp at h
  subst h
  exact ⟨_,by simp [Op.unary,Op.intArith],Zcb _ _,XZ _⟩
 .simp at h
end
end
section
open Go.RowKit
section
variable {P:Program} {W:QO} {U:Nat->Prop} {key:Nat} {st:St} {g:Gh} {w:World} {a:Act} {tt:Nat->Option TI}
theorem ZD5 {t:Nat}{z:AV}(htt:∀t i,tt t=some i->TOk P t i) (h:tt t=some (.atom z)):∃d,P.underlying t=some d:=by
 obtain ⟨d,_,_,h,_⟩:=htt t _ h;exact ⟨d,h⟩
theorem ZrX {t:Nat}(htt:∀t i,tt t=some i->TOk P t i) (h:Zct (tt t)=true):∃e,P.underlying t=some (.slice e):=by
 unfold Zct at h
 split at h
 .rename_i h1;exact ⟨_,(htt t _ h1).1⟩
 .simp at h
theorem Zh8 {t:Nat}(htt:∀t i,tt t=some i->TOk P t i) (h:ZdI (tt t)=true):P.underlying t=some .string:=by
 unfold ZdI at h
 split at h
 .rename_i h1
  obtain ⟨d,zv,i,h2,h3,_⟩:=htt t _ h1
  have hd:d=.string:=by cases d<;>simp [ZiB]at h3;rfl
  rw [hd]at h2;exact h2
 .simp at h
theorem ZBr [NW] (htt:∀t i,tt t=some i->TOk P t i) {s t:Nat}{x v:SV}{vx:Value}(h:Zs1 (tt s) (tt t) x=some v) (hx:SVR g w x vx):∃cv,(convert s t vx).run P w=.ok cv w/\SVR g w v cv/\svU U v:=by
 unfold Zs1 at h
 split at h
 .have ex:=Zcg hx
  subst ex
  split at h
  .rename_i h1 h2
   simp only[A5]at h
   subst h
   obtain ⟨d,zv,i,h3,h4,_⟩:=htt t _ h2
   have hd:∃k,d=.int k:=by cases d<;>simp [ZiB]at h4;exact ⟨_,rfl⟩
   obtain ⟨k,rfl⟩:=hd
   simp only[ZiB,beq_iff_eq]at h4
   subst h4
   obtain ⟨ds,hs⟩:=ZD5 htt h1
   refine ⟨_,?_,Zcb _ _,XZ _⟩
   simp [convert,YV hs,YV h3,Conv.intToInt]
  .simp at h
 .simp at h
theorem ZhJ [NW] {e m:Nat}{xs:List (List CT)}{v:Value}(h:SVR g w (.p false [.c (.sl e m xs)]) v):∃A cap cs L0 L1,v=.slice A xs.length cap/\xs.length<=cap/\cap<=maxLen/\0<m/\Sl w m A xs.length cs L0/\REs w m xs cs L1/\(∀b∈L0++L1,¬g.own b):=by
 obtain ⟨x,hx,h⟩:=h
 simp at hx
 subst hx
 obtain ⟨L,⟨A,cap,cs,L0,L1,h1,h2,h3,h4,h5,h6,h7⟩,ho⟩:=h
 exact ⟨A,cap,cs,L0,L1,h1,h2,h3,h5,h6,h7,fun b m=>ho b (h4 ▸ m)⟩
theorem Zgz [NW] {k:Nat}{v:Value}(h:SVR g w (.p false [.row k]) v):v=g.val k:=by
 obtain ⟨x,hx,h⟩:=h;simp at hx;subst hx;exact h.1
theorem Zuv [NW] {e m:Nat}{v:Value}(h:SVR g w (.p false [.nil e m]) v):v=.slice none 0 0:=by
 obtain ⟨x,hx,h⟩:=h;simp at hx;subst hx;exact h
theorem Zci {B e m n:Nat}{v:Value}{cs:List Value}(h:w.ownsV B e m v n cs):∃A cap,v=.slice A n cap:=by
 obtain ⟨A,c,hv,_⟩:=Y2 h
 exact ⟨A,c,hv⟩
theorem ZHS [NW] {x:CT}{v:Value}(h:SVR g w (.p false [.n x]) v):NR g w x v:=by
 obtain ⟨y,hy,h⟩:=h;simp at hy;subst hy;exact h
theorem ZCY [NW] (htt:∀t i,tt t=some i->TOk P t i) (hI:HI W g st.ob w) {t:Nat}{ts:Array TypeId}{ty:TypeId}(a:ts[0]?=some t) {x v:SV}{vx:Value}(h:ZoK st (tt t) x=some v) (hx:SVR g w x vx):
  ∃cv,(Builtin.len_ ts ty #[vx]).run P w=.ok cv w/\SVR g w v cv/\svU U v:=by
 have fin:∀(A:Option Addr) (n c:Nat),Zct (tt t)=true->(Builtin.len_ ts ty #[.slice A n c]).run P w=.ok (.int .i64 n) w:=fun A n c hs=>by
  obtain ⟨e,he⟩:=ZrX htt hs
  simp [Builtin.len_,a,YV he,goInt]
 unfold ZoK at h
 split at h
 .split at h<;>simp at h
  rename_i hs
  subst h
  obtain ⟨A,cap,_,_,_,rfl,_⟩:=ZhJ hx
  exact ⟨_,fin _ _ _ hs,Zcb _ _,XZ _⟩
 .split at h<;>simp at h
  rename_i hs
  subst h
  obtain ⟨_,_,_,_,_,h1,_,h3,_⟩:=ZHS hx
  simp only[CT.sl.injEq]at h1
  obtain ⟨_,_,rfl⟩:=h1
  obtain ⟨A,cap,rfl⟩:=Zci h3
  exact ⟨_,fin _ _ _ hs,Zcb _ _,XZ _⟩
 .split at h<;>simp at h
  rename_i hs
  subst h
  obtain ⟨rfl,_⟩:=Zi7 hx
  refine ⟨_,?_,Zcb _ _,XZ _⟩
  simp [Builtin.len_,a,YV (Zh8 htt hs),goInt]
 .split at h<;>simp at h
  rename_i hs
  subst h
  have:=Zuv hx
  subst this
  exact ⟨_,fin _ _ _ hs,Zcb _ _,XZ _⟩
 .split at h
  .rename_i k _ e m xs d hk
   split at h<;>simp at h
   rename_i hs
   subst h
   have hv:=Zgz hx
   subst hv
   have ho:=hI.obs k
   rw [hk]at ho
   obtain ⟨_,cs,L,h1,_⟩:=ho
   obtain ⟨A,cap,hv⟩:=Zci h1
   rw [hv]
   exact ⟨_,fin _ _ _ hs,Zcb _ _,XZ _⟩
  .simp at h
 .simp at h
theorem Zmt {f:Value->ByteArray->Sem (ForInStep ByteArray)}(hf:∀n s,f (.int .u8 n) s=pure (ForInStep.yield (s.push (Ad n.toNat)))):∀(l:List Int) (s:ByteArray),(forIn (l.map fun n=>Value.int .u8 n) s f).run P w=.ok ⟨s.data++(l.map fun n=>Ad n.toNat).toArray⟩ w
 | [],s=>by simp
 |n::l,s=>by
  have ih:=Zmt hf l (s.push (Ad n.toNat))
  simp only[List.map_cons,List.forIn_cons,hf,Sem.run_bind,Sem.run_pure,Result.andThen_ok,ih]
  congr 2
  apply Array.ext'
  simp [ByteArray.push]
theorem Zxi [NW] {b o cap:Nat}(l:List Int) (hc:∀j u,(l.map fun n=>Value.int .u8 n)[j]?=some u->w.cell? ⟨b,o+j,none⟩=some u):(Conv.bytesToString (.slice (some ⟨b,o,none⟩) l.length cap)).run P w=.ok (.string (XG l)) w:=by
 have h1:=run_loadCells_list (P:=P) w ⟨b,o,none⟩ (l.map fun n=>Value.int .u8 n) (fun j u hj=>by rw [ZdC];exact hc j u hj)
 rw [An]at h1
 unfold Conv.bytesToString
 simp only[Sem.run_bind,h1,Result.andThen_ok,<-Array.forIn_toList]
 rw [Zmt (fun _ _=>rfl)]
 simp [XG,ByteArray.empty,ByteArray.emptyWithCapacity]
 rfl
theorem ZmT {m:Nat}:∀{xs:List (List CT)}{l:List Int}{cs:List Value}{L:List Nat},Zfn xs=some l->REs w m xs cs L->cs=l.map (fun n=>Value.int .u8 n)/\xs.length=l.length
 | [],_,_,_,h,⟨h1,_⟩=>by simp [Zfn]at h;subst h h1;simp
 |x::r,l,_,_,h,⟨c1,c2,L1,L2,rfl,rfl,h3,h4⟩=>by
  unfold Zfn at h
  split at h
  .rename_i he;simp at he
  .rename_i n r' he
   simp only[List.cons.injEq]at he
   obtain ⟨rfl,rfl⟩:=he
   obtain ⟨l',hl,rfl⟩:=A9.1 h
   obtain ⟨i1,i2⟩:=ZmT hl h4
   obtain ⟨v,cs',_,_,rfl,rfl,a1,a2⟩:=h3.1
   obtain ⟨rfl,_⟩:=a2
   rw [a1.1,i1]
   exact ⟨rfl,by simp [i2]⟩
  .simp at h
theorem Zts (l:List Int):(XG l).size=l.length:=by simp [XG,ByteArray.size]
theorem ZzC [NW] (htt:∀t i,tt t=some i->TOk P t i) (hI:HI W g st.ob w) {s t:Nat}{x v:SV}{vx:Value}(y:ZdI (tt t)=true) (f:Zmr (Zrh tt (tt s))=true) (h:ZiE st x=some v) (hx:SVR g w x vx):∃cv,(convert s t vx).run P w=.ok cv w/\SVR g w v cv/\svU U v:=by
 have ht:=Zh8 htt y
 have hs:∃e,P.underlying s=some (.slice e)/\P.underlying e=some (.int .u8):=by
  unfold Zrh at f
  split at f
  .rename_i e m b z B
   have h1:=(htt _ _ B).1
   unfold Zmr at f
   split at f
   .rename_i C
    obtain ⟨d,zv,i,h2,h3,_⟩:=htt _ _ C
    cases d<;>simp [ZiB]at h3
    subst h3
    exact ⟨e,h1,h2⟩
   .simp at f
  .simp [Zmr]at f
 obtain ⟨e,hs,he⟩:=hs
 have go:∀A n c,(convert s t (.slice A n c)).run P w=(Conv.bytesToString (.slice A n c)).run P w:=fun A n c=>by
  unfold convert
  simp only[Sem.run_bind,YV hs,YV ht,YV he,Result.andThen_ok]
 have fin:∀(A:Option Addr) (n cap:Nat) (cs:List Value) (L:List Nat) (xs:List (List CT)) (l:List Int) (m:Nat),n=xs.length->0<m->Zfn xs=some l->REs w m xs cs L->n<=9223372036854775807->(n=0\/∃b o,A=some ⟨b,o,none⟩/\ZbF w b o cs)->∃cv,(convert s t (.slice A n cap)).run P w=.ok cv w/\SVR g w (.p false [.c (.str (XG l))]) cv/\svU U (.p false [.c (.str (XG l))]):=by
  intro A n cap cs L xs l m hn hm hl hR hsz hA
  obtain ⟨i1,i2⟩:=ZmT hl hR
  have q:(XG l).size<=9223372036854775807:=by rw [Zts];omega
  refine ⟨.string (XG l),?_,Zmh q,XZ _⟩
  rw [go]
  rcases hA with h0|⟨b,o,rfl,hc⟩
  .have:l=[]:=AX yE
   subst this
   cases A with
   |none=>rfl
   |some a=>
    have h1:=run_loadCells_list (P:=P) w a [] yG
    rw [h0]
    unfold Conv.bytesToString
    simp only[List.length_nil]at h1
    simp only[Sem.run_bind,h1,Result.andThen_ok]
    rfl
  .rw [hn,i2]
   exact Zxi l fun j u hj=>hc j u (by rw [i1];exact hj)
 unfold ZiE at h
 split at h
 .split at h
  .rename_i k _ e' m xs d hk
   obtain ⟨l,hl,rfl⟩:=A9.1 h
   have hv:=Zgz hx
   have ho:=hI.obs k
   rw [hk]at ho
   obtain ⟨hm,cs,L,h1,h2,_⟩:=ho
   rw [hv]
   rcases h1.2 with ⟨h3,h4⟩|⟨b,o,cap,cur,h3,h4,h5,h6,h7,h8,h9⟩
   .rw [h3]
    exact fin _ _ _ cs L xs l m yE hm hl h2 yE (.inl rfl)
   .rw [h3]
    refine fin _ _ _ cs L xs l m rfl hm hl h2 (by unfold maxLen at h7;omega) (.inr ⟨b,o,rfl,fun j u hj=>?_⟩)
    exact Zg7 h1 h3 j u hj
  .simp at h
 .obtain ⟨l,hl,rfl⟩:=A9.1 h
  obtain ⟨A,cap,cs,L0,L1,rfl,h2,h3,h5,h6,h7,_⟩:=ZhJ hx
  rename_i e' m' xs _
  refine fin _ _ _ cs L1 xs l _ rfl h5 hl h7 (by unfold maxLen at h3;omega) ?_
  rcases Nat.eq_zero_or_pos xs.length with h0|h0
  .exact .inl h0
  .obtain ⟨b,off,h8,h9,hc⟩:=h6.at_ h0
   exact .inr ⟨b,off,h8,hc⟩
 .simp at h
theorem ZzV [NW] (htt:∀t i,tt t=some i->TOk P t i) (hI:HI W g st.ob w) {s t:Nat}{x v:SV}{vx:Value}(h:Zg5 tt st s t x=some v) (hx:SVR g w x vx):∃cv,(convert s t vx).run P w=.ok cv w/\SVR g w v cv/\svU U v:=by
 unfold Zg5 at h
 split at h
 .rename_i hc
  simp only[AD]at hc
  exact ZzC htt hI hc.1 hc.2 h hx
 .exact ZBr htt h hx
theorem RCs.avr [NW] {e:List CT}{cs:List Value}{L:List Nat}:RCs w e cs L->(∀b∈L,¬g.own b)->ZI (AVR g w) (e.map .c) cs:=by
 induction e generalizing cs L with
 |nil=>intro h _;obtain ⟨rfl,rfl⟩:=h;trivial
 |cons x r ih=>
  rintro ⟨v,cs',L1,L2,rfl,rfl,h1,h2⟩ ho
  exact ⟨⟨L1,h1,fun b m=>ho b (by simp [m])⟩,ih h2 fun b m=>ho b (by simp [m])⟩
theorem ZiJ (a:Bool) (e:List CT):X3 U (e.map AV.c):=fun y m=>by
 obtain ⟨x,_,rfl⟩:=B6.1 m;trivial
theorem Zro [NW] (htt:∀t i,tt t=some i->TOk P t i) {t b lo off:Nat}{cs:List AV}{vs:List Value}{v:SV}(h:cut (tt t) cs off=some v) (hc:ZbF w b lo vs) (hr:ZI (AVR g w) cs vs) (hu:X3 U cs):
  ∃cv,(Instr.loadAt t (.pointer (some ⟨b,lo+off,none⟩))).run P w=.ok cv w/\SVR g w v cv/\svU U v:=by
 have hlen:=hr.len
 have c:∀d,P.underlying t=some d->Zr8 d=false->∀x,cs[off]?=some x->∃cv,(Instr.loadAt t (.pointer (some ⟨b,lo+off,none⟩))).run P w=.ok cv w/\SVR g w (.p false [x]) cv/\svU U (.p false [x]):=fun d hd ha x hx=>by
  obtain ⟨u,h1,h2⟩:=hr.at hx
  refine ⟨u,?_,⟨x,rfl,h2⟩,fun y m=>by simp at m;subst m;exact hu y (AW hx)⟩
  simp [Instr.loadAt,Instr.sureAddr,loadVar,Zij hd,ha,load,Sem.run,hc off u h1]
 unfold cut at h
 split at h
 .rename_i fs n z k
  split at h<;>simp at h
  rename_i hn
  subst h
  obtain ⟨fields,i,zvs,h1,h2,h3,_⟩:=htt t _ k
  refine ⟨.agg ((vs.drop off).take n).toArray,?_,⟨_,rfl,(hr.drop off).take n⟩,fun y m=>hu y (Ar (As m))⟩
  have hl:((vs.drop off).take n).length=i.size:=by simp;omega
  have a:=run_loadCells_list (P:=P) w ⟨b,lo+off,none⟩ ((vs.drop off).take n) (fun j u hj=>by
   rw [ZdC,AG]
   refine hc _ u ?_
   have l:j<n:=by
    have:=(AK.1 hj).1
    simp at this;omega
   rw [BB,if_pos l,BC]at hj
   exact hj)
  rw [hl]at a
  simp [Instr.loadAt,Instr.sureAddr,loadVar,Zij h1,Zr8,Xs h2,a]
 .simp at h
 .rename_i i k o f
  obtain ⟨x,hx,rfl⟩:=A9.1 h
  cases i with
  |atom z=>obtain ⟨d,zv,i,h1,h2,_⟩:=htt t _ f;exact c d h1 (ZzW h2) x hx
  |strct fs n z=>exact absurd rfl (k _ _ _)
  |slice e m b z=>exact c _ (htt t _ f).1 rfl x hx
  |map kk vk=>
   obtain ⟨kt,et,_,_,_,_,h1,_⟩:=htt t _ f
   exact c _ h1 rfl x hx
  |ifc=>obtain ⟨ms,h1⟩:=htt t _ f;exact c _ h1 rfl x hx
  |eqs ks=>exact absurd rfl (o _)
 .simp at h
end
end
section
open Go.RowKit
section
variable {P:Program} {W:QO} {U:Nat->Prop} {key:Nat} {st:St} {g:Gh} {w:World} {a:Act} {tt:Nat->Option TI}
theorem HI.deep [NW] {ob:Nat->Ob}{k e m:Nat}{xs:List (List CT)}{d:Nat}(hI:HI W g ob w) (hk:ob k=.row e m xs d):0<m/\∃cs L,w.ownsV 0 e m (g.val k) xs.length cs/\REs w m xs cs L/\(∀b∈L,¬g.own b)/\((d=2/\g.O k=(g.val k).ownBlock.toList/\g.D k=L)\/(d=1/\g.O k=(g.val k).ownBlock.toList/\g.D k=[])\/(d=0/\g.O k=[]/\g.D k=[]/\∀b∈(g.val k).ownBlock.toList,¬g.own b)):=by
 have ho:=hI.obs k
 rw [hk]at ho
 obtain ⟨hm,cs,L,h1,h2,h4⟩:=ho
 refine ⟨hm,cs,L,h1,h2,?_,?_⟩
 .rcases h4 with ⟨_,_,h4⟩|⟨_,_,_,h4⟩|⟨_,_,_,h4⟩
  .rintro b mb (⟨j,mj⟩|hz)
   .by_cases a:j=k
    .subst a
     have:=hI.nodup j
     rw [AL]at this
     exact this.2.2 b mj b (h4 ▸ mb) rfl
    .exact hI.apart j k a b (by simp [mj]) (by simp [h4,mb])
   .exact hI.nz (k:=k) (by simp [h4,mb]) hz
  .exact h4
  .exact fun b mb=>h4 b (by simp [mb])
 .rcases h4 with h4|⟨q1,q2,q3,_⟩|⟨q1,q2,q3,q4⟩
  .exact .inl h4
  .exact .inr (.inl ⟨q1,q2,q3⟩)
  .exact .inr (.inr ⟨q1,q2,q3,fun b mb=>q4 b (by simp [mb])⟩)
theorem HI.deepO [NW] {ob:Nat->Ob}{k e m:Nat}{xs:List (List CT)}{d:Nat}(hI:HI W g ob w) (hk:ob k=.row e m xs d) (hd:¬d=0):0<m/\∃cs L,w.ownsV 0 e m (g.val k) xs.length cs/\REs w m xs cs L/\(∀b∈L,¬g.own b)/\g.O k=(g.val k).ownBlock.toList/\((d=2/\g.D k=L)\/(d=1/\g.D k=[])):=by
 obtain ⟨hm,cs,L,h1,h2,h3,h4⟩:=hI.deep hk
 refine ⟨hm,cs,L,h1,h2,h3,?_⟩
 rcases h4 with ⟨q1,q2,q3⟩|⟨q1,q2,q3⟩|⟨q1,_⟩
 .exact ⟨q2,.inl ⟨q1,q3⟩⟩
 .exact ⟨q2,.inr ⟨q1,q3⟩⟩
 .exact absurd q1 hd
theorem REs.at {m:Nat}:∀{xs:List (List CT)}{cs:List Value}{L:List Nat}{i:Nat}{e:List CT},REs w m xs cs L->xs[i]?=some e->
  ∃c L',RCs w e c L'/\c.length=m/\(∀b∈L',b∈L)/\∀j u,c[j]?=some u->cs[i*m+j]?=some u
 | [],_,_,_,_,_,h=>by simp at h
 |x::r,_,_,0,e,⟨c1,c2,L1,L2,rfl,rfl,h3,h4⟩,h=>by
  simp at h;subst h
  exact ⟨c1,L1,h3.1,h3.2,fun b mb=>by simp [mb],fun j u hu=>by
   rw [At,AT,List.getElem?_append_left (AK.1 hu).1];exact hu⟩
 |x::r,_,_,i+1,e,⟨c1,c2,L1,L2,rfl,rfl,h3,h4⟩,h=>by
  obtain ⟨c,L',a1,a2,a3,a4⟩:=REs.at h4 (i:=i) (e:=e) (by simpa using h)
  refine ⟨c,L',a1,a2,fun b mb=>by simp [a3 b mb],fun j u hu=>?_⟩
  have hl:=h3.2
  rw [List.getElem?_append_right (by rw [AC];omega)]
  rw [<-a4 j u hu]
  congr 1
  rw [hl,AC];omega
theorem REs.len {m:Nat}:∀{xs:List (List CT)}{cs:List Value}{L:List Nat},REs w m xs cs L->cs.length=xs.length*m
 | [],_,_,h=>by simp [h.1]
 |x::r,_,_,⟨c1,c2,L1,L2,rfl,rfl,h3,h4⟩=>by simp [h3.2,REs.len h4,AC];omega
theorem ZFl [NW] (htt:∀t i,tt t=some i->TOk P t i) (hI:HI W g st.ob w) (hU:StU U st) {t e m a:Nat}{z:List AV}(p:tt t=some (.slice e m a z)) {x i v:SV}{vx vi:Value}(h:Zar st m x i=some v) (hx:SVR g w x vx) (B:svU U x) (hi:SVR g w i vi):
  ∃cv,(Instr.indexAt t vx vi).run P w=.ok cv w/\SVR g w v cv/\svU U v:=by
 obtain ⟨hu,hm,_,⟨ie,zv,C,D,_⟩,_⟩:=htt t _ p
 have f:∀(b o n c:Nat) (k:IntKind) (q:Int),0<=q->q<n->(Instr.indexAt t (.slice (some ⟨b,o,none⟩) n c) (.int k q)).run P w=.ok (.pointer (some ⟨b,o+q.toNat*m,none⟩)) w:=fun b o n c k q h0 h1=>by
  simp [Instr.indexAt,asIntOf,YV hu,h0,h1,Xs C,D,ZdC]
 unfold Zar at h
 split at h
 .have ei:=Zcg hi
  subst ei
  split at h
  .rename_i hq
   obtain ⟨x,l,rfl⟩:=A9.1 h
   obtain ⟨A,cap,cs,L0,L1,rfl,h2,h3,h5,h6,h7,ho⟩:=ZhJ hx
   obtain ⟨h0,rfl⟩:=hq
   have hlt:=(AK.1 l).1
   obtain ⟨b,off,rfl,rfl,hc⟩:=h6.at_ yE
   obtain ⟨c,L',a1,a2,a3,a4⟩:=h7.at l
   refine ⟨_,f b off _ _ _ _ h0 yE,⟨b,off+_,c,L',by rw [Nat.add_zero],fun j u hj=>?_,a1,fun y my=>?_,?_⟩,trivial⟩
   .rw [AG];exact hc _ u (a4 j u hj)
   .rcases AP.1 my with rfl|my
    .exact ho _ yG
    .exact ho _ (by simp [a3 y my])
   .exact h6.lt h5 b yG
  .simp at h
 .rename_i k _ _
  have ei:=Zcg hi
  subst ei
  split at h
  .rename_i e' m' xs d hk
   split at h
   .rename_i hq
    obtain ⟨h0,h1,rfl⟩:=hq
    simp only[A5]at h
    subst h
    have hv:=Zgz hx
    subst hv
    obtain ⟨_,cs,L,o1,_⟩:=hI.deep hk
    rcases o1.2 with ⟨_,hn⟩|⟨b,o,cap,cur,hv,_⟩
    .omega
    .refine ⟨_,by rw [hv];exact f b o _ _ _ _ h0 h1,⟨b,o,_,_,hv,yG⟩,by have:=B (.row k) yG;exact this⟩
   .simp at h
  .simp at h
 .simp at h
theorem ZBj [NW] (htt:∀t i,tt t=some i->TOk P t i) {t:Nat}{x i v:SV}{vx vi:Value}(h:Zm2 (tt t) x i=some v) (hx:SVR g w x vx) (hi:SVR g w i vi):
  ∃cv,(Instr.index t vx vi).run P w=.ok cv w/\SVR g w v cv/\svU U v:=by
 unfold Zm2 at h
 split at h
 .have ei:=Zcg hi
  subst ei
  obtain ⟨rfl,_⟩:=Zi7 hx
  split at h
  .rename_i hq
   obtain ⟨b,hb,rfl⟩:=A9.1 h
   refine ⟨_,?_,Zcb _ _,XZ _⟩
   simp [Instr.index,asIntOf,YV (Zh8 htt hq.2),hq.1,hb]
  .simp at h
 .simp at h
theorem Zu0 [NW] {e:List CT}{v:Value}(h:SVR g w (.p false [.c (.pt e)]) v):∃b cs L,v=.pointer (some ⟨b,0,none⟩)/\b<w.heap.size/\ZbF w b 0 cs/\RCs w e cs L/\∀x∈b::L,¬g.own x:=by
 obtain ⟨x,hx,h⟩:=h
 simp at hx
 subst hx
 obtain ⟨_,⟨b,cs,L,h1,h2,rfl,h4,h5⟩,ho⟩:=h
 exact ⟨b,cs,L,h1,h2,h4,h5,ho⟩
theorem ZvA [NW] (htt:∀t i,tt t=some i->TOk P t i) (hI:HI W g st.ob w) (hU:StU U st) {t:Nat}{x v:SV}{vx:Value}(h:QI st (tt t) x=some v) (hx:SVR g w x vx):
  ∃cv,(Instr.loadAt t vx).run P w=.ok cv w/\SVR g w v cv/\svU U v:=by
 unfold QI at h
 split at h
 .rename_i k off
  split at h
  .rename_i tb cs hk
   obtain ⟨b,h1,rfl⟩:=hx
   have ho:=hI.obs k
   rw [hk]at ho
   obtain ⟨b',vs,o1,o2,o3,o4,o5⟩:=ho
   have hb:b=b':=by rw [o1]at h1;simpa using h1.symm
   subst hb
   have hu:=hU.ob k
   rw [hk]at hu
   have hc:ZbF w b 0 vs:=fun j u hj=>by
    rw [AT,cell_of_row w b j vs.toArray tb (0,0) o4];simpa using hj
   have:=Zro (P:=P) htt h hc o5 hu
   simpa using this
  .simp at h
 .rename_i k m i off
  split at h
  .rename_i e m' xs d hk
   obtain ⟨x,a,h'⟩:=AB.1 h
   obtain ⟨b,o,n,c,h1,rfl⟩:=hx
   obtain ⟨hm,cs,L,o1,o2,o3,_⟩:=hI.deep hk
   split at h'
   .rename_i f
    subst f
    obtain ⟨c',L',a1,a2,a3,a4⟩:=o2.at a
    have hc:ZbF w b (o+i*m) c':=fun j u hj=>by
     rw [AG]
     exact Zg7 o1 h1 (i*m+j) u (a4 j u hj)
    rw [<-AG]
    exact Zro htt h' hc (a1.avr fun y my=>o3 y (a3 y my)) (ZiJ true _)
   .simp at h'
  .simp at h
 .obtain ⟨b,lo,cs,L,rfl,h2,h3,h4,h5⟩:=hx
  exact Zro htt h h2 (h3.avr fun y my=>h4 y (by simp [my])) (ZiJ true _)
 .obtain ⟨b,cs,L,rfl,h2,h3,h4,h5⟩:=Zu0 hx
  have:=Zro (P:=P) (U:=U) htt h h3 (h4.avr fun y my=>h5 y (by simp [my])) (ZiJ true _)
  simpa using this
 .simp at h
theorem ZDQ [NW] {d:Nat}{x v:SV}{vx:Value}(h:ZkC d x=some v) (hx:SVR g w x vx) (hu:svU U x):∃b o,vx=.pointer (some ⟨b,o,none⟩)/\SVR g w v (.pointer (some ⟨b,o+d,none⟩))/\svU U v:=by
 unfold ZkC at h
 split at h<;>simp at h<;>subst h
 .obtain ⟨b,h1,rfl⟩:=hx;exact ⟨b,_,rfl,⟨b,h1,rfl⟩,hu⟩
 .obtain ⟨b,o,n,c,h1,rfl⟩:=hx;exact ⟨b,_,rfl,⟨b,o,n,c,h1,by simp only[AG]⟩,hu⟩
 .obtain ⟨b,lo,cs,L,rfl,h⟩:=hx;exact ⟨b,_,rfl,⟨b,lo,cs,L,by rw [AG],h⟩,trivial⟩
 .obtain ⟨b,cs,L,rfl,h2,h3,h4,h5⟩:=Zu0 hx
  exact ⟨b,0,rfl,⟨b,0,cs,L,rfl,h3,h4,h5,h2⟩,trivial⟩
theorem ZEg [NW] (htt:∀t i,tt t=some i->TOk P t i) {t f n:Nat}{fs:List FI}{z:List AV}(c:tt t=some (.strct fs n z)) {fi:FI}(hf:fs[f]?=some fi) {x v:SV}{vx:Value}(h:ZkC fi.off x=some v) (hx:SVR g w x vx) (hu:svU U x):
  ∃cv,(Instr.fieldAt t vx f).run P w=.ok cv w/\SVR g w v cv/\svU U v:=by
 obtain ⟨b,o,rfl,h1,h2⟩:=ZDQ h hx hu
 obtain ⟨a,i,zvs,u1,_,_,_,_,u2⟩:=htt t _ c
 obtain ⟨fl,e1,e2,e3,j,d,e4,e5,_⟩:=u2.at hf
 have e:a[f]?=some fl:=by simpa using e1
 refine ⟨_,?_,h1,h2⟩
 simp [Instr.fieldAt,YV u1,e,Instr.sureAddr,fieldPlace,Xs e4,e5,e3,ZdC,e2]
theorem ZFq [NW] (htt:∀t i,tt t=some i->TOk P t i) {t f n:Nat}{fs:List FI}{z:List AV}(c:tt t=some (.strct fs n z)) {x v:SV}{vx:Value}(h:ZmA fs f x=some v) (hx:SVR g w x vx) (hu:svU U x):
  ∃cv,(Instr.field t vx f).run P w=.ok cv w/\SVR g w v cv/\svU U v:=by
 unfold ZmA at h
 split at h
 .rename_i cs
  obtain ⟨fi,hf,h⟩:=AB.1 h
  obtain ⟨vs,rfl,hr⟩:=hx
  obtain ⟨a,i,zvs,u1,_,_,_,_,u2⟩:=htt t _ c
  obtain ⟨fl,e1,e2,e3,j,d,e4,e5,e6,e7⟩:=u2.at hf
  have b:a[f]?=some fl:=by simpa using e1
  have hlen:=hr.len
  split at h
  .rename_i ha
   split at h<;>simp at h
   rename_i hn
   subst h
   refine ⟨.agg ((vs.drop fi.off).take fi.size).toArray,?_,⟨_,rfl,(hr.drop _).take _⟩,fun y m=>hu y (Ar (As m))⟩
   simp [Instr.field,YV u1,b,asAgg,part,Zij e6,e7,ha,Xs e4,e5,e2]
  .rename_i ha
   obtain ⟨y,hy,rfl⟩:=A9.1 h
   obtain ⟨u,b1,b2⟩:=hr.at hy
   refine ⟨u,?_,⟨y,rfl,b2⟩,fun z mz=>by simp at mz;subst mz;exact hu z (AW hy)⟩
   simp [Instr.field,YV u1,b,asAgg,part,Zij e6,e7,ha,e2,b1]
 .simp at h
theorem ZBk [NW] {c:Bool}{x y:SV}{vc vx vy:Value}(hc:SVR g w (.p false [.c (.bool c)]) vc) (hx:SVR g w x vx/\svU U x) (hy:SVR g w y vy/\svU U y):
  ∃cv,(do pure (Next.value (if <-asBool vc then vx else vy)):Sem Next).run P w=.ok (.value cv) w/\SVR g w (if c=true then x else y) cv/\svU U (if c=true then x else y):=by
 have:=Zgy hc
 subst this
 cases c
 .exact ⟨vy,by simp [asBool],by simpa using hy.1,by simpa using hy.2⟩
 .exact ⟨vx,by simp [asBool],by simpa using hx.1,by simpa using hx.2⟩
theorem ZFs [NW] {i:Nat}{x v:SV}{vx:Value}(h:Zzz i x=some v) (hx:SVR g w x vx) (hu:svU U x):∃cv,(Instr.extract vx i).run P w=.ok cv w/\SVR g w v cv/\svU U v:=by
 unfold Zzz at h
 split at h
 .obtain ⟨y,hy,rfl⟩:=A9.1 h
  obtain ⟨vs,rfl,hr⟩:=hx
  obtain ⟨u,b1,b2⟩:=hr.at hy
  exact ⟨u,by simp [Instr.extract,b1],b2,hu y (AW hy)⟩
 .simp at h
theorem ZAq [NW] {lo:Bool}{x y v:SV}{vx vy:Value}{ts:Array TypeId}{ty:TypeId}(h:Zzi lo x y=some v) (hx:SVR g w x vx) (hy:SVR g w y vy):
  ∃cv,((if lo then Builtin.min_ ts ty #[vx,vy] else Builtin.max_ ts ty #[vx,vy]):Sem Value).run P w=.ok cv w/\SVR g w v cv/\svU U v:=by
 unfold Zzi at h
 split at h
 .have ex:=Zcg hx
  have ey:=Zcg hy
  subst ex ey
  simp only[A5]at h
  subst h
  refine ⟨_,?_,Zcb _ _,XZ _⟩
  cases lo
  .simp [Builtin.max_,Builtin.max2]
  .simp [Builtin.min_,Builtin.min2]
 .simp at h
end
end
section
open Go.RowKit
theorem Zat {α:Type}(l:List α) (off:Nat) (vs:List α) (h:off+vs.length<=l.length):(splice l off vs).length=l.length:=by
 simp [splice];omega
theorem ZsT {α:Type}(l:List α) (n:Nat) (v:α) (r:List α) (h:n+(r.length+1)<=l.length):splice (l.set n v) (n+1) r=splice l n (v::r):=by
 unfold splice
 have e1:(l.set n v).take (n+1)=l.take n++[v]:=by
  rw [List.take_succ_eq_append_getElem (by simp;omega)]
  simp [List.take_set_of_le]
 have e2:(l.set n v).drop (n+1+r.length)=l.drop (n+(v::r).length):=by
  rw [List.drop_set_of_lt yE]
  congr 1
  simp;omega
 rw [e1,e2];simp
theorem ZpL [NW] (off:Nat):∀(vs:List Value) (k:Nat) (a:Array Value),off+k+vs.length<=a.size->
  (vs.zipIdx k).foldl (fun (cs:Array Value) (p:Value×Nat)=>cs.setIfInBounds (off+p.2) p.1) a=(splice a.toList (off+k) vs).toArray
 | [],k,a,h=>by simp [splice]
 |v::r,k,a,h=>by
  rw [List.zipIdx_cons,B5,ZpL off r (k+1) _ (by simp at h ⊢;omega)]
  have:=ZsT a.toList (off+k) v r (by simpa using h)
  rw [<-this]
  simp [AG]
theorem Znz [NW] (off:Nat) (v:Value) (vs:List Value) (hv:v.cells=vs.toArray) (a:Array Value) (h:off+vs.length<=a.size):
  v.cells.zipIdx.foldl (fun cs (c,j)=>cs.setIfInBounds (off+j) c) a=(splice a.toList off vs).toArray:=by
 have:=ZpL off vs 0 a (by simpa using h)
 rw [hv,<-Array.foldl_toList]
 simpa using this
section
variable {P:Program} {W:QO} {U:Nat->Prop} {key:Nat} {st:St} {g:Gh} {w:World} {a:Act} {tt:Nat->Option TI}
theorem ZI.splice {α β:Type}{R:α->β->Prop}{l vs:List α}{r us:List β}(h:ZI R l r) (h':ZI R vs us) (off:Nat):ZI R (splice l off vs) (splice r off us):=by
 unfold Go.Proofs.YtaafhjecikjhbaaGreatDoor.splice
 rw [h'.len]
 exact (h.take _).append (h'.append (h.drop _))
theorem Zln {l vs:List AV}(h:X3 U l) (h':X3 U vs) (off:Nat):X3 U (splice l off vs):=by
 intro y m
 unfold splice at m
 rcases A4.1 m with m|m
 .exact h y (As m)
 .rcases A4.1 m with m|m
  .exact h' y m
  .exact h y (Ar m)
theorem Zvi [NW] {a:Nat->Option (Nat×Nat)}{fs:List FI}(hp:∀i fi,fs[i]?=some fi->a i=some (fi.off,fi.size)):
  ∀{b:List (Nat×SV)} {ps:List (Nat×Value)} {cs c:List AV} {vs:List Value},Zj6 fs cs b=some c->ZI (fun p q=>p.1=q.1/\SVR g w p.2 q.2/\svU U p.2) b ps->ZI (AVR g w) cs vs->X3 U cs->
   ∃d:List Value,Instr.fill a vs.toArray ps=some d.toArray/\ZI (AVR g w) c d/\X3 U c
 | [],[],cs,c,vs,h,_,hr,hu=>by simp [Zj6]at h;subst h;exact ⟨vs,rfl,hr,hu⟩
 | [],_::_,_,_,_,_,h,_,_=>h.elim
 |_::_,[],_,_,_,_,h,_,_=>h.elim
 |(i,s)::r,(j,v)::ps,cs,c,vs,h,⟨⟨e,hs,hsu⟩,hps⟩,hr,hu=>by
  simp only at e hs hsu
  subst e
  cases s with
  |p ag us=>
   simp only[Zj6]at h
   obtain ⟨f,hf,h⟩:=AB.1 h
   split at h
   .rename_i hl
    obtain ⟨k,c1,c2⟩:=PVR.cells hs
    have hlen:=c2.len
    have hlen2:=hr.len
    obtain ⟨d,d1,d2,d3⟩:=Zvi hp h hps (hr.splice c2 f.off) (Zln hu hsu f.off)
    refine ⟨d,?_,d2,d3⟩
    have l:v.cells.size=k.length:=by simp [c1]
    rw [Instr.fill,hp i f hf]
    simp only
    rw [if_neg (by simp [l];omega),Znz f.off v k c1 _ (by simp;omega)]
    simpa using d1
   .simp at h
  |_=>simp [Zj6]at h
theorem ZI.of_map {α β γ:Type}{R:β->γ->Prop}(f:α->β) (h:α->γ):∀{l:List α},(∀x∈l,R (f x) (h x))->ZI R (l.map f) (l.map h)
 | [],_=>trivial
 |x::l,hh=>⟨hh x yG,ZI.of_map f h fun y m=>hh y (by simp [m])⟩
theorem ZiQ [NW]:∀{z:List AV}{zvs:List Value},ZI (fun a v=>Zbc a v=true) z zvs->ZI (AVR g w) z zvs/\X3 U z
 | [],[],_=>⟨trivial,fun _ m=>by simp at m⟩
 |x::z,v::zvs,h=>by
  obtain ⟨h1,h2⟩:=ZiQ (z:=z) (zvs:=zvs) h.2
  refine ⟨⟨ZfI h.1,h1⟩,fun y m=>?_⟩
  rcases AP.1 m with rfl|m
  .have:=h.1
   cases y<;>first|trivial|simp [Zbc]at this
  .exact h2 y m
 | [],_::_,h=>h.elim
 |_::_,[],h=>h.elim
theorem ZpB:∀{fs:List FI}{a:List Field},ZI (fun (fi:FI) (f:Field)=>f.offset=fi.off/\fi.size≠0/\∃j d,P.info? f.type=some j/\j.size=fi.size/\P.underlying f.type=some d/\Zr8 d=fi.agg) fs a->
  a.mapM (fun f=>(P.info? f.type).map fun i=>(f.offset,i.size))=some (fs.map fun fi=>(fi.off,fi.size))
 | [],[],_=>rfl
 |fi::fs,f::a,⟨⟨h1,_,j,d,h2,h3,_⟩,h⟩=>by
  simp [List.mapM_cons,h2,h3,h1,ZpB h]
 | [],_::_,h=>h.elim
 |_::_,[],h=>h.elim
theorem Zx3 [NW] (htt:∀t i,tt t=some i->TOk P t i) (hS:∀t,SVR g w (st.sl t) (a.tmps.getD t undef)) (hU:StU U st) {t n:Nat}{fs:List FI}{z:List AV}(f:tt t=some (.strct fs n z)) {b:Array (Nat×Operand)}{cs:List AV}(h:Zj6 fs z (b.toList.map (ZgG tt st fs z))=some cs):
  ∃cv,(Instr.build t (b.map fun (i,x)=>(i,a.eval x))).run P w=.ok cv w/\SVR g w (.p true cs) cv/\svU U (.p true cs):=by
 obtain ⟨fields,i,zvs,u1,u2,u3,u4,u5,u6⟩:=htt t _ f
 obtain ⟨hz,j⟩:=ZiQ (g:=g) (w:=w) (U:=U) u5
 have c:ZI (fun (p:Nat×SV) (q:Nat×Value)=>p.1=q.1/\SVR g w p.2 q.2/\svU U p.2) (b.toList.map (ZgG tt st fs z)) (b.toList.map fun p=>(p.1,a.eval p.2)):=by
  refine ZI.of_map _ _ fun p _=>?_
  unfold ZgG
  split
  .rename_i hc
   rw [hc]
   refine ⟨rfl,?_⟩
   dsimp only
   split
   .exact ⟨⟨_,rfl,rfl⟩,fun y m=>by simp at m;subst m;trivial⟩
   .exact ⟨trivial,trivial⟩
  .have:=Zlm htt hS hU 0 p.2
   exact ⟨rfl,this⟩
 have k:∀(i:Nat) (fi:FI),fs[i]?=some fi->((fs.map fun (fi:FI)=>(fi.off,fi.size)).toArray[i]?)=some (fi.off,fi.size):=fun i fi hf=>by simp [hf]
 obtain ⟨d,d1,d2,d3⟩:=Zvi k h c hz j
 refine ⟨.agg d.toArray,run_build w t _ _ ?_,⟨d,rfl,d2⟩,d3⟩
 unfold Program.built
 simp only[u1,u2,u4,ZpB u6]
 have e:(b.map fun (x:Nat×Operand)=>(x.1,a.eval x.2)).toList=b.toList.map fun p=>(p.1,a.eval p.2):=by simp
 have e2:(b.map fun x=>match x with|(i,x)=>(i,a.eval x))=b.map fun (x:Nat×Operand)=>(x.1,a.eval x.2):=rfl
 rw [e2,e]
 exact d1
theorem Sl.sub {m n:Nat}{A:Option Addr}{cs:List Value}{L:List Nat}(h:Sl w m A n cs L) (l q cap:Nat) (hm:0<m) (hq:l+q<=n) (hcap:n<=cap):
  ∃A' L',A'=(if cap=l then A else A.map (·.add (l*m)))/\Sl w m A' q ((cs.drop (l*m)).take (q*m)) L'/\∀b∈L',b∈L:=by
 have hlen:=h.1
 have hlm:l*m+q*m<=n*m:=by rw [<-AC];exact AY m hq
 refine ⟨_,if q=0 then [] else L,rfl,⟨by simp;omega,?_⟩,fun b mb=>?_⟩
 .by_cases a:q=0
  .exact .inl ⟨a,by simp [a]⟩
  .rcases h.2 with ⟨h0,_⟩|⟨_,b,off,rfl,rfl,hc⟩
   .omega
   .refine .inr ⟨yE,b,off+l*m,by rw [if_neg yE];simp [ZdC],by simp [a],fun j u hj=>?_⟩
    rw [AG]
    refine hc _ u ?_
    have c:j<q*m:=by
     have:=(AK.1 hj).1
     simp at this;omega
    rw [BB,if_pos c,BC]at hj
    exact hj
 .split at mb
  .simp at mb
  .exact mb
theorem REs.drop {m:Nat}:∀{xs:List (List CT)}{cs:List Value}{L:List Nat}(l:Nat),REs w m xs cs L->∃L',REs w m (xs.drop l) (cs.drop (l*m)) L'/\∀b∈L',b∈L
 |xs,cs,L,0,h=>⟨L,by simpa using h,fun _ mb=>mb⟩
 | [],cs,L,l+1,h=>⟨[],by obtain ⟨rfl,rfl⟩:=h;simp [REs],yG⟩
 |x::r,_,_,l+1,⟨c1,c2,L1,L2,rfl,rfl,h3,h4⟩=>by
  obtain ⟨L',h5,h6⟩:=REs.drop l h4
  refine ⟨L',?_,fun b mb=>by simp [h6 b mb]⟩
  have e:(l+1)*m=c1.length+l*m:=by rw [h3.2,AC];omega
  have e2:(c1++c2).drop (c1.length+l*m)=c2.drop (l*m):=by
   rw [Ag,Ah (Au _ _),Ai,AZ]
  rw [e,e2]
  simpa using h5
theorem REs.take {m:Nat}:∀{xs:List (List CT)}{cs:List Value}{L:List Nat}(l:Nat),REs w m xs cs L->∃L',REs w m (xs.take l) (cs.take (l*m)) L'/\∀b∈L',b∈L
 |xs,cs,L,0,h=>⟨[],by simp [REs],yG⟩
 | [],cs,L,l+1,h=>⟨[],by obtain ⟨rfl,rfl⟩:=h;simp [REs],yG⟩
 |x::r,_,_,l+1,⟨c1,c2,L1,L2,rfl,rfl,h3,h4⟩=>by
  obtain ⟨L',h5,h6⟩:=REs.take l h4
  refine ⟨L1++L',?_,fun b mb=>by
   rcases A4.1 mb with mb|mb
   .simp [mb]
   .simp [h6 b mb]⟩
  have e:(l+1)*m=c1.length+l*m:=by rw [h3.2,AC];omega
  rw [e,BD]
  exact ⟨c1,_,L1,L',rfl,rfl,h3,h5⟩
theorem Zo5 {k:IntKind}{i:Int}{y:Nat}{a:BoundsCode}(h0:0<=i) (h1:i<=y):(Instr.sliceBound (.int k i) y a).run P w=.ok i.toNat w:=by
 simp [Instr.sliceBound,asIntOf,h0,h1]
def Zm5 [NW] (g:Gh) (w:World):Option SV->Option Value->Prop
 |none,none=>True
 |some s,some u=>SVR g w s u
 |_,_=>False
theorem Zja [NW] {lo hi:Option SV}{vlo vhi:Option Value}{len cap l h:Nat}{b:Bool}(hh:hiB len hi=some h) (hl:loB h lo=some l) (hlo:Zm5 g w lo vlo) (hhi:Zm5 g w hi vhi) (hc:len<=cap):
  (Instr.sliceBounds b len cap vlo vhi none).run P w=.ok (l,h,cap) w/\l<=h/\h<=len:=by
 have e1 : ((match vhi, (none : Option Value) with | some v, some _ => Instr.sliceBound v cap .slice3B | some v, none => Instr.sliceBound v cap (if b then .sliceAcap else .sliceAlen) | none, none => pure len | none, some _ => stuck "Slice: max without high") : Sem Nat).run P w = .ok h w ∧ h ≤ len := by
  unfold hiB at hh
  split at hh
  .simp only[A5]at hh
   subst hh
   cases vhi with
   |none=>exact ⟨rfl,AF _⟩
   |some v=>exact hhi.elim
  .split at hh<;>simp only[A5,reduceCtorEq]at hh
   rename_i hq
   subst hh
   cases vhi with
   |none=>exact hhi.elim
   |some v=>
    have e:=Zcg hhi
    subst e
    exact ⟨Zo5 hq.1 yE,yE⟩
  .simp at hh
 have e2:((match vlo with|some v=>Instr.sliceBound v h .sliceB|none=>pure 0):Sem Nat).run P w=.ok l w/\l<=h:=by
  unfold loB at hl
  split at hl
  .simp only[A5]at hl
   subst hl
   cases vlo with
   |none=>exact ⟨rfl,AO _⟩
   |some v=>exact hlo.elim
  .split at hl<;>simp only[A5,reduceCtorEq]at hl
   rename_i hq
   subst hl
   cases vlo with
   |none=>exact hlo.elim
   |some v=>
    have e:=Zcg hlo
    subst e
    exact ⟨Zo5 hq.1 hq.2,yE⟩
  .simp at hl
 refine ⟨?_,e2.2,e1.2⟩
 unfold Instr.sliceBounds
 simp only[Sem.run_bind,Sem.run_pure,Result.andThen_ok,Option.isSome_none,Bool.false_eq_true,if_false]
 have e1':=e1.1
 have e2':=e2.1
 cases vhi<;>cases vlo<;>simp_all
theorem Ztp [NW] (htt:∀t i,tt t=some i->TOk P t i) {t:Nat}{x v:SV}{lo hi:Option SV}{vx:Value}{vlo vhi:Option Value}(h:Zm1 (tt t) lo hi x=some v) (hx:SVR g w x vx)
  (f:Zm5 g w lo vlo) (j:Zm5 g w hi vhi):∃cv,(Instr.sliceAt t vx vlo vhi none).run P w=.ok cv w/\SVR g w v cv/\svU U v:=by
 unfold Zm1 at h
 split at h
 .rename_i s
  split at h
  .rename_i k
   have hu:=Zh8 htt k
   obtain ⟨q,hq,h⟩:=AB.1 h
   obtain ⟨l,hl,rfl⟩:=A9.1 h
   obtain ⟨rfl,hs⟩:=Zi7 hx
   obtain ⟨b1,b2,b3⟩:=Zja (P:=P) (b:=false) hq hl f j (AF _)
   refine ⟨_,?_,Zmh (by rw [ByteArray.size_extract];omega),XZ _⟩
   simp [Instr.sliceAt,YV hu,Instr.slice,b1]
  .simp at h
 .rename_i e m xs
  split at h
  .rename_i d
   obtain ⟨q,hq,h⟩:=AB.1 h
   obtain ⟨l,hl,rfl⟩:=A9.1 h
   obtain ⟨A,cap,cs,L0,L1,rfl,h2,h3,h5,h6,h7,ho⟩:=ZhJ hx
   obtain ⟨b1,b2,b3⟩:=Zja (P:=P) (b:=true) hq hl f j h2
   obtain ⟨e',b',z',o⟩:∃e' b' z',tt t=some (.slice e' m b' z'):=by
    unfold ZkA at d
    split at d
    .rename_i h1;subst d;exact ⟨_,_,_,h1⟩
    .omega
   obtain ⟨hu,_,_,⟨ie,zv,u,y,_⟩,_⟩:=htt t _ o
   have fin:SVR g w (.p false [.c (.sl e m ((xs.take q).drop l))]) (.slice (if cap=l then A else A.map (·.add (l*m))) (q - l) (cap - l)):=by
    obtain ⟨A',L',rfl,s1,s2⟩:=h6.sub l (q - l) cap h5 yE h2
    obtain ⟨M1,r1,r2⟩:=h7.take q
    obtain ⟨M2,r3,r4⟩:=r1.drop l
    have a:((xs.take q).drop l).length=q - l:=by simp;omega
    have e1:(cs.drop (l*m)).take ((q - l)*m)=(cs.take (q*m)).drop (l*m):=by
     rw [Aw,Nat.sub_mul]
    rw [e1]at s1
    refine ⟨_,rfl,L'++M2,⟨_,_,_,L',M2,by rw [a],by rw [a];omega,yE,rfl,h5,by rw [a];exact s1,r3⟩,fun b mb=>?_⟩
    rcases A4.1 mb with mb|mb
    .exact ho b (by simp [s2 b mb])
    .exact ho b (by simp [r2 b (r4 b mb)])
   refine ⟨_,?_,fin,XZ _⟩
   simp [Instr.sliceAt,YV hu,Instr.slice,b1,Xs u,y]
  .simp at h
 .simp at h
end
end
section
open Go.RowKit
theorem ZF {α:Type}(f:Nat->α) (k:Nat) (v:α):upd f k v k=v:=by simp [upd]
theorem ZO {α:Type}(f:Nat->α) {k j:Nat}(v:α) (h:j≠k):upd f k v j=f j:=by simp [upd,h]
theorem Yz (ob:Nat->Ob) (u v:List (Nat×Ob)):Zl ob (u++v)=Zl (Zl ob u) v:=by
 induction u generalizing ob with
 |nil=>rfl
 |cons p r ih=>exact ih _
theorem Ze0:∀(ks:List Nat) (ob:Nat->Ob) (k:Nat),Zl ob (YD ks) k=if k∈ks then .gone else ob k
 | [],ob,k=>by simp [YD,Zl]
 |x::ks,ob,k=>by
  have:YD (x::ks)=(x,Ob.gone)::YD ks:=rfl
  rw [this,Zl,Ze0 ks]
  by_cases h1:k∈ks
  .simp [h1]
  .by_cases h2:k=x
   .subst h2;simp [upd]
   .simp [h1,h2,upd]
theorem ZaK [NW] (ks:List Nat) (ob:Nat->Ob) (key:Nat) (o:Ob) (k:Nat):Zl ob (YD ks++[(key,o)]) k=if k=key then o else if k∈ks then .gone else ob k:=by
 rw [Yz]
 simp only[Zl,upd,Ze0]
def Gh.turn (g:Gh) (ks:List Nat) (key:Nat) (v:Value) (O D:List Nat):Gh:=
 ⟨upd g.val key v,fun k=>if k=key then O else if k∈ks then [] else g.O k,fun k=>if k=key then D else if k∈ks then [] else g.D k,g.Z⟩
section
variable {P:Program} {W:QO} {U:Nat->Prop} {key:Nat} {st:St} {g:Gh} {w w':World} {a:Act} {tt:Nat->Option TI}
theorem ZfL {ks:List Nat}{v:Value}{O D:List Nat}{b:Nat}(h:(g.turn ks key v O D).own b):b∈O\/(∃k,k∉ks/\k≠key/\b∈g.O k)\/g.Z b:=by
 rcases h with ⟨k,hk⟩|h
 .simp only[Gh.turn]at hk
  split at hk
  .exact .inl hk
  .rename_i h1
   split at hk
   .simp at hk
   .rename_i h2;exact .inr (.inl ⟨k,h2,h1,hk⟩)
 .exact .inr (.inr h)
theorem Zpu {n:Nat}{ks:List Nat}{v:Value}{O D:List Nat}(hO:∀b∈O,(∃k∈ks,b∈g.O k)\/n<=b) (hD:∀b∈D,(∃k∈ks,b∈g.O k++g.D k)\/n<=b):Qw g (g.turn ks key v O D) n:=by
 refine .of (fun b hb=>?_) fun j b mb=>?_
 .rcases ZfL hb with m|⟨k,_,_,m⟩|m
  .rcases hO b m with ⟨k,_,m⟩|m
   .exact .inl (.inl ⟨k,m⟩)
   .exact .inr m
  .exact .inl (.inl ⟨k,m⟩)
  .exact .inl (.inr m)
 .simp only[Gh.turn]at mb
  split at mb
  .refine (hD b mb).imp (fun ⟨k,_,mk⟩=>?_) id
   rcases A4.1 mk with m1|m1
   .exact .inl (.inl ⟨k,m1⟩)
   .exact .inr ⟨k,m1⟩
  .split at mb
   .simp at mb
   .exact .inl (.inr ⟨j,mb⟩)
theorem HI.turn [NW] {ob:Nat->Ob}(h:HI W g ob w) (i:∀k,obU U (ob k)) (c:¬U key) (ks:List Nat) (z:∀k∈ks,U k)
  (l:Bel W w') (A:w.heap.size<=w'.heap.size) (hw:∀b,b<w.heap.size->(∀k∈ks,b∉g.O k)->w'.heap[b]?=w.heap[b]?)
  {v:Value} {O D:List Nat} {o:Ob} (hO:∀b∈O,(∃k∈ks,b∈g.O k)\/w.heap.size<=b) (hD:∀b∈D,(∃k∈ks,b∈g.O k++g.D k)\/w.heap.size<=b)
  (B:(O++D).Nodup) (C:∀b∈O++D,(W.heap.size<=b\/W.x b\/W.y b)/\Xp w' o b)
  (E:Qw g (g.turn ks key v O D) w.heap.size->ObR (g.turn ks key v O D) w' key o):
  HI W (g.turn ks key v O D) (Zl ob (YD ks++[(key,o)])) w'/\∀x u,svU U x->SVR g w x u->SVR (g.turn ks key v O D) w' x u:=by
 have hkk:key∉ks:=fun m=>c (z key m)
 have d:∀k,U k->(g.turn ks key v O D).val k=g.val k:=fun k hk=>ZO _ _ fun e=>c (e ▸ hk)
 have a:Qw g (g.turn ks key v O D) w.heap.size:=Zpu hO hD
 have f:∀b∈O++D,(∃k∈ks,b∈g.O k++g.D k)\/w.heap.size<=b:=fun b m=>by
  rcases A4.1 m with m|m
  .exact (hO b m).imp (fun ⟨k,h1,h2⟩=>⟨k,h1,by simp [h2]⟩) id
  .exact hD b m
 refine ⟨h.step (fun k=>k=key\/k∈ks) l rfl (fun b hb hn=>hw b hb fun k hk=>hn k (.inr hk)) (fun k hk=>?_) i d a (fun k hk=>?_),fun x u hx hu=>hu.move hx d (fun b hb hn=>hw b hb fun k _ m=>hn (.inl ⟨k,m⟩)) a A⟩
 .have h1:k≠key:=fun e=>hk (.inl e)
  have h2:k∉ks:=fun e=>hk (.inr e)
  rw [ZaK]
  simp [Gh.turn,h1,h2,upd]
 .rw [ZaK]
  by_cases h1:k=key
  .subst h1
   have eO:(g.turn ks k v O D).O k=O:=by simp [Gh.turn]
   have eD:(g.turn ks k v O D).D k=D:=by simp [Gh.turn]
   rw [if_pos rfl,eO,eD]
   refine ⟨E a,B,C,fun j hj b m mj=>?_⟩
   have p:¬j=k:=fun e=>hj e.symm
   by_cases h2:j∈ks
   .simp [Gh.turn,p,h2]at mj
   .have t:b∈g.O j++g.D j:=by simpa [Gh.turn,p,h2]using mj
    rcases f b m with ⟨q,q1,q2⟩|q
    .exact h.apart q j (fun e=>h2 (e ▸ q1)) b q2 t
    .have:=h.lt j b t;omega
  .have h2:k∈ks:=hk.resolve_left h1
   have eO:(g.turn ks key v O D).O k=[]:=by simp [Gh.turn,h1,h2]
   have eD:(g.turn ks key v O D).D k=[]:=by simp [Gh.turn,h1,h2]
   rw [if_neg h1,if_pos h2,eO,eD]
   exact ⟨⟨eO,eD⟩,yG,yG,yG⟩
theorem ZjG [NW] (hU:StU U st) (ks:List Nat) {o:Ob}(ho:obU (Uk U key) o):(∀k,obU (Uk U key) (Zl st.ob (YD ks++[(key,o)]) k))/\∀k,¬Uk U key k->Zl st.ob (YD ks++[(key,o)]) k=.gone:=by
 constructor
 .intro k
  rw [ZaK]
  split
  .exact ho
  .split
   .trivial
   .exact (hU.ob k).mono fun _=>.inl
 .intro k hk
  rw [ZaK,if_neg (fun e=>hk (.inr yE))]
  split
  .rfl
  .exact hU.gone k fun h=>hk (.inl h)
theorem ZkK:Uk U key key:=.inr yE
theorem ZAr [NW] (hI:HI W g st.ob w) (hU:StU U st) (a:¬U key) {t:TypeId}{cs:List AV}{vs:List Value}(hr:ZI (AVR g w) cs vs) (hu:X3 U cs) {s:Sem Next}
  (d:s.run P w=.ok (.value (.pointer (some ⟨w.heap.size,0,none⟩))) (w.alloc (.cells vs.toArray t))):Fin P W U key st g w s (.bp key 0,[(key,.box t cs)]):=by
 have hb:Below w.heap.size w (w.alloc (.cells vs.toArray t)):=(Below.refl _ _).alloc (AF _) _
 obtain ⟨h1,h2⟩:=hI.turn (key:=key) (U:=U) (w':=w.alloc (.cells vs.toArray t)) (v:=.pointer (some ⟨w.heap.size,0,none⟩)) (O:=[w.heap.size]) (D:=[]) (o:=.box t cs) hU.ob a [] yG
  (hI.below.trans hb) hb.size (fun b c _=>hb.block b c) yG yG yG (fun b m=>by
   simp at m;subst m;exact ⟨.inl hI.below.size,_,_,heap_alloc_new w _⟩) (fun f=>⟨w.heap.size,vs,by simp [Gh.turn,upd],by simp [Gh.turn],by simp [Gh.turn],heap_alloc_new w _,
    AVRs.move hr hu (fun k hk=>ZO _ _ fun e=>a (e ▸ hk)) (fun b c _=>hb.block b c) f⟩)
 have i:=ZjG (key:=key) (o:=.box t cs) hU [] (X3.mono (fun _=>.inl) hu)
 exact ⟨_,_,_,.inl d,h1,⟨w.heap.size,by simp [Gh.turn,upd],rfl⟩,h2,ZkK,i.1,i.2⟩
theorem Zk3 (b:Nat) (cs a:Array Value) (t:TypeId) (hb:w.heap[b]?=some (.cells cs t (0,0))):(w.setRow b a).heap[b]?=some (.cells a t (0,0))/\(∀k,k≠b->(w.setRow b a).heap[k]?=w.heap[k]?)/\(w.setRow b a).heap.size=w.heap.size/\(w.setRow b a).os=w.os/\(w.setRow b a).tape=w.tape/\(w.setRow b a).output=w.output:=by
 refine ⟨setRow_heap w b cs a t _ hb,fun k hk=>?_,?_,rfl,rfl,rfl⟩
 .have c:¬b=k:=fun e=>hk e.symm
  simp [World.setRow,Array.getElem?_modify,c]
 .simp [World.setRow]
theorem Zx8 [NW] (htt:∀t i,tt t=some i->TOk P t i) (hI:HI W g st.ob w) (hU:StU U st) {t k off tb:Nat}{cs vs:List AV}{va vv:Value}{ag:Bool}(hk:st.ob k=.box tb cs) (hl:vs.length=Zgd (tt t)) (ho:off+vs.length<=cs.length)
  (ha:SVR g w (.bp k off) va) (hv:SVR g w (.p ag vs) vv) (o:X3 U vs) (a:0<vs.length) {s:Sem Next} (hs:s=(do Instr.storeAt t va vv;pure .skip)):Fin P W U key st g w s (.und,[(k,.box tb (splice cs off vs))]):=by
 obtain ⟨b,h1,rfl⟩:=ha
 have v:=hI.obs k
 rw [hk]at v
 obtain ⟨b',us,o1,o2,o3,o4,o5⟩:=v
 have hb:b=b':=by rw [o1]at h1;simpa using h1.symm
 subst hb
 have hlen:=o5.len
 obtain ⟨xs,c1,c2⟩:=PVR.cells hv
 have C:=c2.len
 have c:=hU.ob k
 rw [hk]at c
 obtain ⟨r1,r2,r3,r4,r5,r6⟩:=Zk3 b us.toArray (splice us off xs).toArray tb o4
 have f:(sizeOf t).run P w=.ok xs.length w:=by
  rw [<-C,hl]
  unfold Zgd at hl ⊢
  cases hti:tt t with
  |none=>rw [hti]at hl;simp at hl;simp [hl]at a
  |some i=>
   cases i with
   |atom z=>obtain ⟨d,zv,i,_,_,h3,_,h4,_⟩:=htt t _ hti;rw [Xs h3,h4]
   |strct fs n z=>obtain ⟨_,i,_,_,h3,h4,_⟩:=htt t _ hti;rw [Xs h3,h4]
   |slice e m b z=>obtain ⟨_,_,_,_,j,h3,h4,_⟩:=htt t _ hti;rw [Xs h3,h4]
   |_=>rw [hti]at hl;simp at hl;simp [hl]at a
 have y:=run_storeCells_at (P:=P) b off tb xs 0 us.toArray w o4 (by simp;omega) (AVRs.one c2)
 have A:s.run P w=.ok .skip (w.setRow b (splice us off xs).toArray):=by
  subst hs
  have e:(us.toArray.toList.take (off+0)++xs++us.toArray.toList.drop (off+0+xs.length)).toArray=(splice us off xs).toArray:=by simp [splice]
  rw [e]at y
  simp [Instr.storeAt,Instr.sureAddr,storeVar,c1,f,y]
 have l:∀b',b'<w.heap.size->¬g.own b'->(w.setRow b (splice us off xs).toArray).heap[b']?=w.heap[b']?:=fun b' _ hn=>r2 b' fun e=>hn (.inl ⟨k,by simp [o2,e]⟩)
 have B:W.heap.size<=b\/W.x b:=hI.oy k b (by simp [o2])
 refine ⟨g,undef,_,.inr ⟨A,rfl⟩,?_,rfl,fun x u hx hu=>hu.move hx (fun _ _=>rfl) l (Qw.refl _ _) yE,trivial,fun q=>?_,fun q hq=>?_⟩
 .refine hI.step (U:=U) (fun q=>q=k) ?_ rfl (fun b' _ hn=>r2 b' fun e=>hn k rfl (by simp [o2,e])) (fun q hq=>⟨ZO _ _ hq,rfl,rfl,rfl⟩) hU.ob (fun _ _=>rfl) (Qw.refl _ _) (fun q hq=>?_)
  .exact ⟨r4.trans hI.below.os,r5.trans hI.below.tape,r6.trans hI.below.output,by have:=hI.below.size;omega,fun q hq hx=>by rw [r2 q (fun e=>by subst e;rcases B with h|h;omega;exact hx h)];exact hI.below.block q hq hx⟩
  .subst hq
   refine ⟨?_,hI.nodup q,fun b' m=>?_,hI.apart q⟩
   .simp only[Zl,ZF]
    exact ⟨b,_,o1,o2,o3,r1,(AVRs.move o5 c (fun _ _=>rfl) l (Qw.refl _ _)).splice (AVRs.move c2 o (fun _ _=>rfl) l (Qw.refl _ _)) off⟩
   .simp [o2,o3]at m
    subst m
    refine ⟨B.imp_right .inl,?_⟩
    simp only[Zl,ZF]
    exact ⟨_,_,r1⟩
 .simp only[Zl,upd]
  split
  .exact X3.mono (fun _=>.inl) (Zln c o off)
  .exact (hU.ob q).mono fun _=>.inl
 .simp only[Zl,upd]
  split
  .rename_i e;subst e
   exact absurd (hU.gone q fun h=>hq (.inl h)) (by simp [hk])
  .exact hU.gone q fun h=>hq (.inl h)
end
end
section
open Go.RowKit
section
variable {P:Program} {W:QO} {U:Nat->Prop} {key:Nat} {st:St} {g:Gh} {w w':World} {a:Act} {tt:Nat->Option TI}
def Gh.F (g:Gh) (ks:List Nat):List Nat:=ks.flatMap fun k=>g.O k++g.D k
def FP (g:Gh) (ks:List Nat) (d:Nat) (L:List Nat):Prop:=(d=2->L.Sublist (g.F ks))/\d<=2/\0<d/\∀b∈L,¬g.own b\/∃k∈ks,b∈g.O k
theorem FP.nil:FP g [] 2 []:=⟨fun _=>by simp [Gh.F],yG⟩
theorem FP.append {ks a:List Nat}{d d':Nat}{L L':List Nat}(h:FP g ks d L) (h':FP g a d' L'):FP g (ks++a) (Zba d d') (L++L'):=by
 have q1:=h.2.1
 have q2:=h'.2.1
 have q3:=h.2.2.1
 have q4:=h'.2.2.1
 refine ⟨fun hd=>?_,by unfold Zba;split<;>omega,by unfold Zba;split<;>omega,fun b m=>?_⟩
 .have c:d=2/\d'=2:=by unfold Zba at hd;split at hd<;>omega
  simp only[Gh.F,BE]
  exact AH (h.1 c.1) (h'.1 c.2)
 .rcases A4.1 m with m|m
  .exact (h.2.2.2 b m).imp id fun ⟨k,h1,h2⟩=>⟨k,by simp [h1],h2⟩
  .exact (h'.2.2.2 b m).imp id fun ⟨k,h1,h2⟩=>⟨k,by simp [h1],h2⟩
theorem HI.nodupF [NW] {ob:Nat->Ob}(hI:HI W g ob w):∀{ks:List Nat},ks.Nodup->(g.F ks).Nodup
 | [],_=>by simp [Gh.F]
 |k::ks,h=>by
  simp only[Gh.F,Ax,AL]
  rw [AU]at h
  refine ⟨AL.1 (hI.nodup k),hI.nodupF h.2,fun x hx y hy e=>?_⟩
  subst e
  obtain ⟨j,hj,hy⟩:=AI.1 hy
  exact hI.apart k j (fun e=>h.1 (e ▸ hj)) x hx hy
theorem ZgR {ks:List Nat}{b:Nat}(h:b∈g.F ks):∃k∈ks,b∈g.O k++g.D k:=by simpa [Gh.F]using h
theorem Sl.row {B e m n:Nat}{v:Value}{cs:List Value}(h:w.ownsV B e m v n cs):∃A cap L0,v=.slice A n cap/\n<=cap/\cap<=maxLen/\Sl w m A n cs L0/\L0.Sublist v.ownBlock.toList:=by
 obtain ⟨A,cap,rfl,h1,h2⟩:=Y2 h
 obtain ⟨L0,h3,_,h4⟩:=Sl.of_ownV h
 refine ⟨A,cap,L0,rfl,h1,h2,h3,?_⟩
 rcases h3.2 with ⟨_,rfl⟩|⟨_,b,off,rfl,rfl,_⟩
 .exact AQ _
 .simp [Value.ownBlock]
theorem NR.toC [NW] {x:CT}{v:Value}(h:NR g w x v):∃L,RC w x v L/\∀b∈L,¬g.own b:=by
 obtain ⟨e,m,xs,cs,L,rfl,h2,h3,h4,h5,h6⟩:=h
 obtain ⟨A,cap,L0,s1,s2,s3,s4,s5⟩:=Sl.row h3
 refine ⟨L0++L,⟨A,cap,cs,L0,L,s1,s2,s3,rfl,h2,s4,h4⟩,fun b mb o=>(h6 b ?_).1 (.inl o)⟩
 rcases A4.1 mb with m1|m1
 .simp [s5.subset m1]
 .simp [m1]
theorem ZCI [NW] (hI:HI W g st.ob w) {x:AV}{ct:CT}{ks:List Nat}{d:Nat}{v:Value}(h:avT st x=some (ct,ks,d)) (hx:AVR g w x v) (hu:avU U x):∃L,RC w ct v L/\FP g ks d L/\∀k∈ks,U k:=by
 cases x with
 |c y=>
  obtain ⟨L,h1,h2⟩:=hx
  cases y<;>simp only[avT,A5,A6]at h<;>obtain ⟨rfl,rfl,rfl⟩:=h
  .exact ⟨L,h1,⟨fun _=>by rw [h1.2];simp [Gh.F],yG,yG,fun b m=>.inl (h2 b m)⟩,yG⟩
  .exact ⟨L,h1,⟨fun _=>by rw [h1.2];simp [Gh.F],yG,yG,fun b m=>.inl (h2 b m)⟩,yG⟩
  .exact ⟨L,h1,⟨fun _=>by rw [h1.2.1];simp [Gh.F],yG,yG,fun b m=>.inl (h2 b m)⟩,yG⟩
  all_goals exact ⟨L,h1,⟨fun e=>by simp at e,yG,yG,fun b m=>.inl (h2 b m)⟩,yG⟩
 |row k=>
  simp only[avT]at h
  split at h
  .rename_i e m xs d' hk
   obtain ⟨hm,cs,L1,o1,o2,o3,o5⟩:=hI.deep hk
   obtain ⟨A,cap,L0,s1,s2,s3,s4,s5⟩:=Sl.row o1
   have a:RC w (.sl e m xs) v (L0++L1):=⟨A,cap,cs,L0,L1,by rw [hx.1,s1],s2,s3,rfl,hm,s4,o2⟩
   split at h
   .rename_i f
    simp only[A5,A6]at h
    obtain ⟨rfl,rfl,rfl⟩:=h
    refine ⟨L0++L1,a,⟨fun e=>by simp at e,yG,yG,fun b m=>.inl ?_⟩,yG⟩
    rcases o5 with ⟨q,_⟩|⟨q,_⟩|⟨_,_,_,q⟩
    .omega
    .omega
    .rcases A4.1 m with m|m
     .exact q b (s5.subset m)
     .exact o3 b m
   .rename_i f
    simp only[A5,A6]at h
    obtain ⟨rfl,rfl,rfl⟩:=h
    have hO:g.O k=(g.val k).ownBlock.toList:=by
     rcases o5 with ⟨_,q,_⟩|⟨_,q,_⟩|⟨q,_⟩
     .exact q
     .exact q
     .exact absurd q f
    refine ⟨L0++L1,a,⟨fun hd=>?_,?_,yE,fun b m=>?_⟩,fun q mq=>by simp at mq;subst mq;exact hu⟩
    .rcases o5 with ⟨_,_,o5⟩|⟨o5,_⟩|⟨o5,_⟩
     .simp only[Gh.F,Ax,List.flatMap_nil,Ay,hO,o5]
      exact AH s5 (AE _)
     .omega
     .omega
    .rcases o5 with ⟨o5,_⟩|⟨o5,_⟩|⟨o5,_⟩<;>omega
    .rcases A4.1 m with m|m
     .exact .inr ⟨k,yG,by rw [hO];exact s5.subset m⟩
     .exact .inl (o3 b m)
  .simp at h
 |nil e m=>
  simp only[avT]at h
  split at h
  .rename_i hm
   simp only[A5,A6]at h
   obtain ⟨rfl,rfl,rfl⟩:=h
   refine ⟨[],⟨none,0,[],[],[],hx,yG,AO _,rfl,hm,Sl.zero,rfl,rfl⟩,FP.nil,yG⟩
  .simp at h
 |n x=>simp [avT]at h
 |dead=>simp [avT]at h
theorem ZqC [NW] (hI:HI W g st.ob w):∀{xs:List AV}{cts:List CT}{ks:List Nat}{d:Nat}{vs:List Value},ZdF st xs=some (cts,ks,d)->ZI (AVR g w) xs vs->X3 U xs->∃L,RCs w cts vs L/\FP g ks d L/\∀k∈ks,U k
 | [],_,_,_,[],h,_,_=>by
  simp only[ZdF,A5,A6]at h
  obtain ⟨rfl,rfl,rfl⟩:=h
  exact ⟨[],⟨rfl,rfl⟩,FP.nil,yG⟩
 | [],_,_,_,_::_,_,h,_=>h.elim
 |_::_,_,_,_,[],_,h,_=>h.elim
 |x::r,cts,ks,d,v::vs,h,hr,hu=>by
  simp only[ZdF]at h
  obtain ⟨⟨c1,k1,d1⟩,h1,h⟩:=AB.1 h
  obtain ⟨⟨c2,k2,d2⟩,h2,h⟩:=A9.1 h
  simp only[A6]at h
  obtain ⟨rfl,rfl,rfl⟩:=h
  obtain ⟨L1,a1,a2,a3⟩:=ZCI hI h1 hr.1 (hu x yG)
  obtain ⟨L2,b1,b2,b3⟩:=ZqC hI h2 hr.2 (fun y m=>hu y (by simp [m]))
  exact ⟨L1++L2,⟨v,vs,L1,L2,rfl,rfl,a1,b1⟩,a2.append b2,fun k m=>(A4.1 m).elim (a3 k) (b3 k)⟩
theorem ZrM [NW] (hI:HI W g st.ob w) {m:Nat}:∀{xs:List SV}{es:List (List CT)}{ks:List Nat}{d:Nat}{vs:List Value},Xy st m xs=some (es,ks,d)->ZI (fun s v=>SVR g w s v/\svU U s) xs vs->
  ∃(cs:List (List Value)) (L:List Nat),ZI (fun (c:List Value) (v:Value)=>v.cells=c.toArray/\c.length=m/\∀u∈c,u.oneCell'=true) cs vs/\REs w m es cs.flatten L/\FP g ks d L/\∀k∈ks,U k
 | [],_,_,_,[],h,_=>by
  simp only[Xy,A5,A6]at h
  obtain ⟨rfl,rfl,rfl⟩:=h
  exact ⟨[],[],trivial,⟨rfl,rfl⟩,FP.nil,yG⟩
 | [],_,_,_,_::_,_,h=>h.elim
 |_::_,_,_,_,[],_,h=>h.elim
 |s::r,es,ks,d,v::vs,h,⟨⟨hs,hsu⟩,hr⟩=>by
  cases s with
  |p ag us=>
   simp only[Xy]at h
   split at h
   .rename_i hl
    obtain ⟨⟨c1,k1,d1⟩,h1,h⟩:=AB.1 h
    obtain ⟨⟨c2,k2,d2⟩,h2,h⟩:=A9.1 h
    simp only[A6]at h
    obtain ⟨rfl,rfl,rfl⟩:=h
    obtain ⟨a,p1,p2⟩:=PVR.cells hs
    obtain ⟨L1,a1,a2,a3⟩:=ZqC hI h1 p2 hsu
    obtain ⟨cs,L2,b1,b2,b3,b4⟩:=ZrM hI h2 hr
    have b:a.length=m:=by rw [<-p2.len];exact hl
    exact ⟨a::cs,L1++L2,⟨⟨p1,b,AVRs.one p2⟩,b1⟩,⟨a,cs.flatten,L1,L2,yG,rfl,⟨a1,b⟩,b2⟩,a2.append b3,fun k mk=>(A4.1 mk).elim (a3 k) (b4 k)⟩
   .simp at h
  |_=>simp [Xy]at h
theorem Zsf [NW] {m:Nat}:∀(cs:List (List Value)) (vs:List Value) (i:Nat) (a base:List Value),ZI (fun (c:List Value) (v:Value)=>v.cells=c.toArray/\c.length=m/\∀u∈c,u.oneCell'=true) cs vs->a.length=i*m->base.length=vs.length*m->
  Instr.fill (fun i=>some (i*m,m)) (a++base).toArray ((List.range' i vs.length).zip vs)=some (a++cs.flatten).toArray
 | [],[],i,a,base,_,_,hb=>by
  have:base=[]:=AX (by simpa using hb)
  subst this
  simp [Instr.fill]
 | [],_::_,_,_,_,h,_,_=>h.elim
 |_::_,[],_,_,_,h,_,_=>h.elim
 |c::cs,v::vs,i,a,base,⟨⟨h1,h2,_⟩,h⟩,hp,hb=>by
  have hb':base.length=m+vs.length*m:=by rw [hb];simp [AC];omega
  have b:v.cells.size=m:=by simp [h1,h2]
  simp only[B7,List.range'_succ,List.zip_cons_cons,Instr.fill]
  rw [if_neg (by simp [b];omega),Znz (i*m) v c h1 _ (by simp;omega)]
  have e:splice (a++base).toArray.toList (i*m) c=(a++c)++base.drop m:=by
   unfold splice
   simp only[<-hp]
   rw [Az,Ag,Ah yE]
   .simp [h2]
   .rfl
  rw [e,Zsf cs vs (i+1) (a++c) (base.drop m) h (by simp [hp,h2,AC]) (by simp;omega)]
  simp
theorem Zx0 [NW] (hI:HI W g st.ob w) (hU:StU U st) (i:¬U key) {e m:Nat}(hm:0<m) {xs:List (List CT)}{ks:List Nat}{d:Nat}{L:List Nat}{cs:List Value}{v:Value}(f:w'.ownsV 0 e m v xs.length cs) (hv:v.ownBlock=some w.heap.size)
  (hb:Below w.heap.size w w') (x:∃z e,w'.heap[w.heap.size]?=some (.cells z e (0,0))) (hr:REs w m xs cs L) (hf:FP g ks d L) (B:∀k∈ks,U k) (j:∀k∈ks,∃e m xs d,st.ob k=.row e m xs d) (C:ks.Nodup) {s:Sem Next} (l:s.run P w=.ok (.value v) w'):
  Fin P W U key st g w s (.p false [.row key],YD ks++[(key,.row e m xs d)]):=by
 have c:=hr.lt
 have hF:=hI.nodupF C
 have a:∀b∈(if d=2 then L else []),b∈L/\d=2:=fun b mb=>by
  split at mb
  .rename_i hd;exact ⟨mb,hd⟩
  .simp at mb
 obtain ⟨h1,h2⟩:=hI.turn (key:=key) (U:=U) (w':=w') (v:=v) (O:=[w.heap.size]) (D:=if d=2 then L else []) (o:=.row e m xs d) hU.ob i ks B
  (hI.below.trans hb) hb.size (fun b t _=>hb.block b t) yG (fun b mb=>by
   obtain ⟨m1,m2⟩:=a b mb
   exact .inl (ZgR ((hf.1 m2).subset m1)))
  (by
   simp only[AR,AU]
   refine ⟨fun mb=>?_,?_⟩
   .have:=c _ (a _ mb).1;omega
   .split
    .rename_i hd;exact hF.sublist (hf.1 hd)
    .simp)
  (fun b mb=>by
   simp only[AR,AP]at mb
   rcases mb with rfl|mb
   .exact ⟨.inl hI.below.size,x⟩
   .obtain ⟨m1,m2⟩:=a b mb
    obtain ⟨k,k1,mk⟩:=ZgR ((hf.1 m2).subset m1)
    obtain ⟨p1,p2⟩:=hI.plain k b mk
    obtain ⟨_,_,_,_,E⟩:=j k k1
    rw [E]at p2
    exact ⟨p1,p2.keep (hb.block b (c b m1))⟩)
  (fun _=>⟨hm,cs,L,by simpa [Gh.turn,upd]using f,hr.keep fun b mb=>hb.block b (c b mb),by
   have q1:=hf.2.1
   have q2:=hf.2.2.1
   by_cases hd:d=2
   .exact .inl ⟨hd,by simp [Gh.turn,upd,hv],by simp [Gh.turn,hd]⟩
   .refine .inr (.inl ⟨yE,by simp [Gh.turn,upd,hv],by simp [Gh.turn,hd],fun b mb ho=>?_⟩)
    have t:=c b mb
    rcases ZfL ho with mo|⟨k,k1,_,mk⟩|hz
    .simp at mo;omega
    .rcases hf.2.2.2 b mb with hn|⟨q,q1,q2⟩
     .exact hn (.inl ⟨k,mk⟩)
     .exact hI.apart k q (fun e=>k1 (e ▸ q1)) b (by simp [mk]) (by simp [q2])
    .rcases hf.2.2.2 b mb with hn|⟨q,q1,q2⟩
     .exact hn (.inr hz)
     .exact hI.nz (k:=q) (by simp [q2]) hz⟩)
 have u:=ZjG (key:=key) (o:=.row e m xs d) hU ks trivial
 refine ⟨_,_,_,.inl l,h1,⟨_,rfl,⟨by simp [Gh.turn,upd],?_⟩⟩,h2,fun y my=>by simp at my;subst my;exact ZkK,u.1,u.2⟩
 obtain ⟨A,cap,F⟩:=Zci f
 simp [F,Value.oneCell']
theorem ZmW (st:St):∀(ks:List Nat) (ob:Nat->Ob) (k:Nat),Zl ob (ZK st ks) k=if k∈ks then Yq (st.ob k) else ob k
 | [],ob,k=>by simp [ZK,Zl]
 |j::r,ob,k=>by
  show Zl (upd ob j (Yq (st.ob j))) (ZK st r) k=_
  rw [ZmW st r]
  by_cases h:k∈r
  .simp [h]
  .by_cases hj:k=j
   .subst hj;simp [h,upd]
   .simp [h,hj,upd]
theorem Zd7 [NW] (st:St) (ks:List Nat) (ob:Nat->Ob) (key:Nat) (o:Ob) (k:Nat):Zl ob (ZK st ks++[(key,o)]) k=if k=key then o else if k∈ks then Yq (st.ob k) else ob k:=by
 rw [Yz]
 show upd (Zl ob (ZK st ks)) key o k=_
 by_cases h:k=key
 .simp [upd,h]
 .simp only[upd,h,if_false];exact ZmW st ks ob k
theorem ZzZ {x:AV}{ct:CT}{ks:List Nat}{d:Nat}(h:avT st x=some (ct,ks,d)):∀k∈ks,∃e m xs d,st.ob k=.row e m xs d:=by
 intro k mk
 cases x with
 |c y=>cases y<;>simp only[avT,A5,A6]at h<;>(rw [<-h.2.1]at mk;simp at mk)
 |nil e m=>
  simp only[avT]at h
  split at h<;>simp only[A5,A6,reduceCtorEq]at h
  rw [<-h.2.1]at mk;simp at mk
 |row j=>
  simp only[avT]at h
  split at h
  .rename_i e m xs d' hj
   split at h<;>simp only[A5,A6]at h
   .rw [<-h.2.1]at mk;simp at mk
   .rw [<-h.2.1]at mk;simp at mk;subst mk;exact ⟨_,_,_,_,hj⟩
  .simp at h
 |n x=>simp [avT]at h
 |dead=>simp [avT]at h
theorem Zo1 [NW]:∀{xs:List AV}{cts:List CT}{ks:List Nat}{d:Nat},ZdF st xs=some (cts,ks,d)->∀k∈ks,∃e m xs d,st.ob k=.row e m xs d
 | [],_,_,_,h,k,mk=>by simp only[ZdF,A5,A6]at h;rw [<-h.2.1]at mk;simp at mk
 |x::r,_,_,_,h,k,mk=>by
  simp only[ZdF]at h
  obtain ⟨⟨c1,k1,d1⟩,h1,h⟩:=AB.1 h
  obtain ⟨⟨c2,k2,d2⟩,h2,h⟩:=A9.1 h
  simp only[A6]at h
  rw [<-h.2.1]at mk
  rcases A4.1 mk with mk|mk
  .exact ZzZ h1 k mk
  .exact Zo1 h2 k mk
theorem Zk7 [NW] {m:Nat}:∀{xs:List SV}{es:List (List CT)}{ks:List Nat}{d:Nat},Xy st m xs=some (es,ks,d)->∀k∈ks,∃e m xs d,st.ob k=.row e m xs d
 | [],_,_,_,h,k,mk=>by simp only[Xy,A5,A6]at h;rw [<-h.2.1]at mk;simp at mk
 |x::r,_,_,_,h,k,mk=>by
  cases x with
  |p a cs=>
   simp only[Xy]at h
   split at h
   .obtain ⟨⟨c1,k1,d1⟩,h1,h⟩:=AB.1 h
    obtain ⟨⟨c2,k2,d2⟩,h2,h⟩:=A9.1 h
    simp only[A6]at h
    rw [<-h.2.1]at mk
    rcases A4.1 mk with mk|mk
    .exact Zo1 h1 k mk
    .exact Zk7 h2 k mk
   .simp at h
  |_=>simp [Xy]at h
theorem ZuM [NW] (hI:HI W g st.ob w) (hU:StU U st) (t:¬U key) {e m:Nat}(hm:0<m) {xs:List (List CT)}{ks:List Nat}{d:Nat}{L:List Nat}{cs:List Value}{v:Value}(u:w'.ownsV 0 e m v xs.length cs) (hv:v.ownBlock=some w.heap.size)
  (hb:Below w.heap.size w w') (H:∃I e,w'.heap[w.heap.size]?=some (.cells I e (0,0))) (hr:REs w m xs cs L) (hf:FP g ks d L) (z:∀k∈ks,U k) (i:∀k∈ks,∃e m xs d,st.ob k=.row e m xs d) (J:ks.Nodup) {s:Sem Next} (B:s.run P w=.ok (.value v) w'):
  Fin P W U key st g w s (.p false [.row key],ZK st ks++[(key,.row e m xs d)]):=by
 have l:=hr.lt
 have hF:=hI.nodupF J
 have c:∀b∈(if d=2 then L else []),b∈L/\d=2:=fun b mb=>by
  split at mb
  .rename_i hd;exact ⟨mb,hd⟩
  .simp at mb
 obtain ⟨h1,h2⟩:=hI.turn (key:=key) (U:=U) (w':=w') (v:=v) (O:=[w.heap.size]) (D:=if d=2 then L else []) (o:=.row e m xs d) hU.ob t ks z
  (hI.below.trans hb) hb.size (fun b C _=>hb.block b C) yG (fun b mb=>by
   obtain ⟨m1,m2⟩:=c b mb
   exact .inl (ZgR ((hf.1 m2).subset m1)))
  (by
   simp only[AR,AU]
   refine ⟨fun mb=>?_,?_⟩
   .have:=l _ (c _ mb).1;omega
   .split
    .rename_i hd;exact hF.sublist (hf.1 hd)
    .simp)
  (fun b mb=>by
   simp only[AR,AP]at mb
   rcases mb with rfl|mb
   .exact ⟨.inl hI.below.size,H⟩
   .obtain ⟨m1,m2⟩:=c b mb
    obtain ⟨k,k1,mk⟩:=ZgR ((hf.1 m2).subset m1)
    obtain ⟨p1,p2⟩:=hI.plain k b mk
    obtain ⟨_,_,_,_,f⟩:=i k k1
    rw [f]at p2
    exact ⟨p1,p2.keep (hb.block b (l b m1))⟩)
  (fun _=>⟨hm,cs,L,by simpa [Gh.turn,upd]using u,hr.keep fun b mb=>hb.block b (l b mb),by
   have q1:=hf.2.1
   have q2:=hf.2.2.1
   by_cases hd:d=2
   .exact .inl ⟨hd,by simp [Gh.turn,upd,hv],by simp [Gh.turn,hd]⟩
   .refine .inr (.inl ⟨yE,by simp [Gh.turn,upd,hv],by simp [Gh.turn,hd],fun b mb ho=>?_⟩)
    have C:=l b mb
    rcases ZfL ho with mo|⟨k,k1,_,mk⟩|hz
    .simp at mo;omega
    .rcases hf.2.2.2 b mb with hn|⟨q,q1,q2⟩
     .exact hn (.inl ⟨k,mk⟩)
     .exact hI.apart k q (fun e=>k1 (e ▸ q1)) b (by simp [mk]) (by simp [q2])
    .rcases hf.2.2.2 b mb with hn|⟨q,q1,q2⟩
     .exact hn (.inr hz)
     .exact hI.nz (k:=q) (by simp [q2]) hz⟩)
 have hkk:∀k∈ks,k≠key:=fun k mk e=>t (e ▸ z k mk)
 have K:HI W (g.turn ks key v [w.heap.size] (if d=2 then L else [])) (Zl st.ob (ZK st ks++[(key,.row e m xs d)])) w':=by
  refine ⟨h1.below,fun k=>?_,h1.nodup,h1.apart,fun k b mb=>?_,h1.gz,h1.zx,h1.nw,h1.oy⟩
  rotate_left
  .have hp:=h1.plain k b mb
   rw [ZaK]at hp
   rw [Zd7]
   by_cases hk:k=key
   .rw [if_pos hk]at hp ⊢;exact hp
   .rw [if_neg hk]at hp ⊢
    by_cases a:k∈ks
    .rw [if_pos a]at hp ⊢
     obtain ⟨e2,m2,M,d2,f⟩:=i k a
     rw [f]
     exact hp
    .rw [if_neg a]at hp ⊢;exact hp
  have ho:=h1.obs k
  rw [ZaK]at ho
  rw [Zd7]
  by_cases hk:k=key
  .rw [if_pos hk]at ho ⊢;exact ho
  .rw [if_neg hk]at ho ⊢
   by_cases a:k∈ks
   .rw [if_pos a]at ho ⊢
    obtain ⟨e2,m2,M,d2,f⟩:=i k a
    obtain ⟨p1,N,L2,p2,p3,p4,p5⟩:=hI.deep f
    rw [f]
    have x:(g.turn ks key v [w.heap.size] (if d=2 then L else [])).val k=g.val k:=by simp [Gh.turn,upd,hk]
    have E:=p3.lt
    have F:=Zgh p2
    refine ⟨p1,N,L2,by rw [x];exact XT p2 fun b mb=>hb.block b (F b mb),p3.keep fun b mb=>hb.block b (E b mb),.inr (.inr ⟨rfl,ho.1,ho.2,fun b mb G=>?_⟩)⟩
    rw [x]at mb
    have hbl:b<w.heap.size:=by
     rcases A4.1 mb with m1|m1
     .exact F b m1
     .exact E b m1
    rcases ZfL G with mo|⟨j,j1,_,mj⟩|hz
    .simp at mo;omega
    .rcases A4.1 mb with m1|m1
     .rcases p5 with ⟨_,q1,_⟩|⟨_,q1,_⟩|⟨_,_,_,q⟩
      .exact hI.apart j k (fun e=>j1 (e ▸ a)) b (by simp [mj]) (by simp [q1,m1])
      .exact hI.apart j k (fun e=>j1 (e ▸ a)) b (by simp [mj]) (by simp [q1,m1])
      .exact q b m1 (.inl ⟨j,mj⟩)
     .exact p4 b m1 (.inl ⟨j,mj⟩)
    .rcases A4.1 mb with m1|m1
     .rcases p5 with ⟨_,q1,_⟩|⟨_,q1,_⟩|⟨_,_,_,q⟩
      .exact hI.nz (k:=k) (by simp [q1,m1]) hz
      .exact hI.nz (k:=k) (by simp [q1,m1]) hz
      .exact q b m1 (.inr hz)
     .exact p4 b m1 (.inr hz)
   .rw [if_neg a]at ho ⊢;exact ho
 have Q:∀k,obU U (Yq (st.ob k)):=fun k=>by
  have:=hU.ob k
  cases hk:st.ob k<;>simp only[Yq]<;>first|trivial|(rw [hk]at this;exact this)
 refine ⟨_,_,_,.inl B,K,⟨_,rfl,⟨by simp [Gh.turn,upd],?_⟩⟩,h2,fun y my=>by simp at my;subst my;exact ZkK,fun k=>?_,fun k hk=>?_⟩
 .obtain ⟨A,cap,R⟩:=Zci u
  simp [R,Value.oneCell']
 .rw [Zd7]
  split
  .trivial
  .split
   .exact (Q k).mono fun _=>.inl
   .exact (hU.ob k).mono fun _=>.inl
 .rw [Zd7,if_neg (fun e=>hk (.inr yE))]
  have e:=hU.gone k fun h=>hk (.inl h)
  split
  .rw [e];rfl
  .exact e
end
end
section
open Go.RowKit
section
variable {P:Program} {W:QO} {U:Nat->Prop} {key:Nat} {st:St} {g:Gh} {w w':World} {a:Act} {tt:Nat->Option TI}
theorem ZCZ [NW] (htt:∀t i,tt t=some i->TOk P t i) (hI:HI W g st.ob w) (hS:∀t,SVR g w (st.sl t) (a.tmps.getD t undef)) (hU:StU U st) (q:¬U key) {t len e m l:Nat}{z:List AV}(H:tt t=some (.slice e m l z)) {b:Array (Nat×Operand)}{xs:List (List CT)}{ks:List Nat}{d:Nat}
  (h:Xy st m (b.toList.map fun p=>st.ev tt e p.2)=some (xs,ks,d)) (hr:b.toList.map (·.1)=List.range len) (hl:len*m<=16777216) (I:ks.Nodup) {s:Sem Next} (hs:s=(do pure (.value (<-Instr.buildSlice t len (b.map fun (i,x)=>(i,a.eval x)))))):
  Fin P W U key st g w s (.p false [.row key],ZK st ks++[(key,.row e m xs d)]):=by
 obtain ⟨hu,hm,_,⟨ie,zv,y,o,hby,hz,hzc,hzl⟩,_⟩:=htt t _ H
 have A:ZI (fun s v=>SVR g w s v/\svU U s) (b.toList.map fun p=>st.ev tt e p.2) (b.toList.map fun p=>a.eval p.2):=ZI.of_map _ _ fun p _=>Zlm htt hS hU e p.2
 obtain ⟨cs,L,c1,c2,c3,c4⟩:=ZrM hI h A
 have f:b.toList.length=len:=by have:=congrArg List.length hr;simpa using this
 have B:cs.length=len:=by rw [c1.len];simpa using f
 have C:xs.length=len:=by
  have h1:=c2.len
  have h2:cs.flatten.length=len*m:=by
   have:∀(cs:List (List Value)) (vs:List Value),ZI (fun (c:List Value) (v:Value)=>v.cells=c.toArray/\c.length=m/\∀u∈c,u.oneCell'=true) cs vs->cs.flatten.length=cs.length*m:=by
    intro cs
    induction cs with
    |nil=>intro _ _;simp
    |cons c cs ih=>
     intro vs hh
     cases vs with
     |nil=>exact hh.elim
     |cons v vs=>simp [ih vs hh.2,hh.1.2.1,AC];omega
   rw [this cs _ c1,B]
  rw [h2]at h1
  exact (Nat.eq_of_mul_eq_mul_right hm h1).symm
 have j:(b.map fun x=>match x with|(i,x)=>(i,a.eval x)).toList=(List.range' 0 (b.toList.map fun p=>a.eval p.2).length).zip (b.toList.map fun p=>a.eval p.2):=by
  have e1:(b.map fun x=>match x with|(i,x)=>(i,a.eval x)).toList=(b.toList.map (·.1)).zip (b.toList.map fun p=>a.eval p.2):=by
   rw [List.zip_map'];simp
  rw [e1,hr,List.range_eq_range']
  simp [f]
 have D:(Instr.buildSlice t len (b.map fun (i,x)=>(i,a.eval x))).run P w=.ok (.slice (some ⟨w.heap.size,0,none⟩) len len) (w.alloc (.cells cs.flatten.toArray e)):=by
  have k:∀base:List Value,base.length=len*m->Instr.fill (fun i=>some (i*m,m)) base.toArray (b.map fun x=>match x with|(i,x)=>(i,a.eval x)).toList=some cs.flatten.toArray:=fun base hb=>by
   rw [j]
   have:=Zsf cs (b.toList.map fun p=>a.eval p.2) 0 [] base c1 yG (by simpa [f]using hb)
   simpa using this
  by_cases h0:len=0
  .subst h0
   have E:cs=[]:=AX B
   subst E
   have J:b=#[]:=by
    have:b.toList=[]:=AX f
    simpa using this
   subst J
   simp [Instr.buildSlice,YV hu,Xs y,Instr.fill,newRow,Array.range_zero']
  .have F:¬len*ie.size=0:=by
    rw [o];intro e;rcases Nat.mul_eq_zero.1 e with e|e<;>omega
   refine run_buildSlice w t e len _ _ ie zv hu y hz (by rw [o];omega) F ?_
   rw [o]
   have hb:=k ((Array.range (len*m)).map (zv.cells[· % zv.cells.size]!)).toList yG
   rw [Array.toArray_toList]at hb
   exact hb
 have G:=ZjU <| World.ownsRow_lit (base:=0) (e:=e) (size:=m) w cs.flatten.toArray len (AO _) (by unfold maxLen;have:=Nat.le_mul_of_pos_right len hm;omega) (by
  have h1:=c2.len
  rw [C]at h1
  simpa using h1)
 refine ZuM hI hU q hm (v:=.slice (some ⟨w.heap.size,0,none⟩) len len) (cs:=cs.flatten) (w':=w.alloc (.cells cs.flatten.toArray e)) (by rw [C];simpa using G) rfl ((Below.refl _ _).alloc (AF _) _) ⟨_,_,heap_alloc_new w _⟩ c2 c3 c4 (Zk7 h) I ?_
 subst hs
 simp only[Sem.run_bind,D,Result.andThen_ok,Sem.run_pure]
theorem ZiC {m:Nat}{ze:List CT}{zc:List Value}(h:RCs w ze zc []) (hl:zc.length=m):∀n:Nat,REs w m (Aa n ze) (Aa n zc).flatten []
 |0=>by simp [REs]
 |n+1=>by
  rw [BF,BF,BG]
  exact ⟨zc,_,[],[],rfl,rfl,⟨h,hl⟩,ZiC h hl n⟩
theorem ZqQ [NW]:∀{z:List AV}{zs:List Value}{ze:List CT},ZlS z=some ze->ZI (fun a v=>Zbc a v=true) z zs->RCs w ze zs []
 | [],[],ze,h,_=>by simp [ZlS]at h;subst h;exact ⟨rfl,rfl⟩
 | [],_::_,_,_,h=>h.elim
 |_::_,[],_,_,h=>h.elim
 |.c x::z,v::zs,ze,h,hr=>by
  simp only[ZlS]at h
  obtain ⟨b,h1,rfl⟩:=A9.1 h
  have hx:=ZfI (g:=⟨fun _=>undef,fun _=>[],fun _=>[],fun _=>False⟩) (w:=w) hr.1
  obtain ⟨L,hL,_⟩:=hx
  have d:L=[]:=by
   have:=hr.1
   cases x with
   |int k n=>exact hL.2
   |bool b=>exact hL.2
   |str s=>exact hL.2.1
   |_=>simp [Zbc]at this
  subst d
  exact ⟨v,zs,[],[],rfl,rfl,hL,ZqQ h1 hr.2⟩
 |.nil e m::z,v::zs,ze,h,hr=>by
  simp only[ZlS]at h
  split at h
  .rename_i hm
   obtain ⟨b,h1,rfl⟩:=A9.1 h
   have hv:v=.slice none 0 0:=ZfI (g:=⟨fun _=>undef,fun _=>[],fun _=>[],fun _=>False⟩) (w:=w) hr.1
   subst hv
   exact ⟨_,zs,[],[],rfl,rfl,⟨none,0,[],[],[],rfl,yG,AO _,rfl,hm,Sl.zero,rfl,rfl⟩,ZqQ h1 hr.2⟩
  .simp at h
 |.row k::z,v::zs,ze,h,_=>by simp [ZlS]at h
 |.n x::z,v::zs,ze,h,_=>by simp [ZlS]at h
 |.dead::z,v::zs,ze,h,_=>by simp [ZlS]at h
theorem ZpZ (z:Array Value) (m:Nat) (hz:z.size=m) (hm:0<m):∀n:Nat,(madeCells z (n*m)).toList=(Aa n z.toList).flatten
 |0=>by simp [madeCells]
 |n+1=>by
  have ih:=ZpZ z m hz hm n
  rw [List.replicate_succ',List.flatten_append,<-ih]
  simp only[madeCells,Array.toList_map,Array.toList_range,AC,Nat.one_mul,List.range_add,List.map_append,List.map_map,BG,List.flatten_nil,Ay]
  congr 1
  apply List.ext_getElem?
  intro j
  by_cases hj:j<m
  .simp only[List.getElem?_map,List.getElem?_range hj,Aq,Function.comp]
   have e:(n*m+j) % z.size=j:=by
    rw [hz,Nat.add_comm,Nat.add_mul_mod_self_right,Nat.mod_eq_of_lt hj]
   have a:j<z.size:=by omega
   simp [e,a]
  .have h1:z.size<=j:=by omega
   simp [hj,h1]
theorem ZBN [NW] (htt:∀t i,tt t=some i->TOk P t i) (hI:HI W g st.ob w) (hU:StU U st) (c:¬U key) {t e m a:Nat}{z:List AV}(k:tt t=some (.slice e m a z)) {n:Nat}{ze:List CT}(hz:ZlS z=some ze) (hn:n<=1073741824) {s:Sem Next}
  (hs:s=(do pure (.value (<-Instr.makeSlice t (.int .i64 n) (.int .i64 n))))):Fin P W U key st g w s (.p false [.row key],[(key,.row e m (Aa n ze) 2)]):=by
 obtain ⟨hu,hm,hby0,⟨ie,zv,l,o,hby,q,f,u⟩,_⟩:=htt t _ k
 have v:ie.bytes*n<=281474976710656:=by
  have:=BH (show ie.bytes<=131072 by omega) hn
  omega
 obtain ⟨w',r1,r2,r3⟩:=run_make_full (P:=P) w 0 t e ie zv m hu l q o .i64 .i64 n v (by unfold maxLen;omega) (AO _)
 have j:zv.cells.size=m:=by rw [<-u,f.len];simp
 rw [ZpZ zv.cells m j hm n]at r2
 have x:=ZiC (ZqQ (w:=w) hz f) (by simpa using j) n
 have hb:Below w.heap.size w w':=(Below.refl _ _).grown r3 (AF _) yG
 have y:∃b e,w'.heap[w.heap.size]?=some (.cells b e (0,0)):=by
  rcases r2.2 with ⟨h',_⟩|⟨g',cap',b,h',_,hg,_⟩
  .simp at h'
  .simp at h'
   rw [<-h'.1]at hg
   exact ⟨b,e,hg⟩
 have:=Zx0 (ks:=[]) (d:=2) hI hU c hm (xs:=Aa n ze) (by simpa using ZjU r2) rfl hb y x FP.nil yG yG yG (s:=s) (P:=P) (by subst hs;simp only[Sem.run_bind,r1,Result.andThen_ok,Sem.run_pure])
 simpa [YD]using this
theorem ZsU [NW] {t e:TypeId}{ty:TypeId}{ie:TypeInfo}(hu:P.underlying t=some (.slice e)) (a:P.info? e=some ie) (A B:Option Addr) (n c c':Nat) (b:n<=c):
  (Builtin.append_ #[t,t] ty #[.slice A n c,.slice B 0 c']).run P w=.ok (.slice A n c) w:=by
 cases A<;>cases B<;>simp [Builtin.append_,YV hu,Xs a,Builtin.lenOf,Builtin.firstCells,loadCells,loadCellsFrom,storeCells,b]
theorem Ztn:∀{e:List CT}{cs:List Value}{L:List Nat},RCs w e cs L->e.all CT.flat=true->L=[]
 | [],_,_,h,_=>h.2
 |x::r,_,_,⟨v,cs',L1,L2,rfl,rfl,h1,h2⟩,hf=>by
  simp only[BI,AD]at hf
  have e1:L1=[]:=by
   cases x with
   |int k n=>exact h1.2
   |bool b=>exact h1.2
   |str s=>exact h1.2.1
   |_=>simp [CT.flat]at hf
  rw [e1,Ztn h2 hf.2];rfl
theorem Zhr [NW] {m:Nat}:∀{xs:List (List CT)}{cs:List Value}{L:List Nat},REs w m xs cs L->ZbL xs=true->L=[]
 | [],_,_,h,_=>h.2
 |x::r,_,_,⟨c1,c2,L1,L2,rfl,rfl,h1,h2⟩,hf=>by
  simp only[ZbL,BI,AD]at hf
  rw [Ztn h1.1 hf.1,Zhr h2 hf.2];rfl
theorem REs.append {m:Nat}:∀{xs ys:List (List CT)}{us vs:List Value}{L M:List Nat},REs w m xs us L->REs w m ys vs M->REs w m (xs++ys) (us++vs) (L++M)
 | [],_,_,_,_,_,h,h'=>by obtain ⟨rfl,rfl⟩:=h;simpa using h'
 |_::_,_,_,_,_,_,⟨c1,c2,L1,L2,rfl,rfl,h3,h4⟩,h'=>⟨c1,c2++_,L1,L2++_,yG,yG,h3,h4.append h'⟩
theorem REs.one {m:Nat}:∀{xs:List (List CT)}{cs:List Value}{L:List Nat},REs w m xs cs L->∀u∈cs,u.oneCell'=true
 | [],_,_,h=>by simp [h.1]
 |_::_,_,_,⟨c1,c2,L1,L2,rfl,rfl,h3,h4⟩=>fun u mu=>by
  rcases A4.1 mu with mu|mu
  .exact h3.1.one u mu
  .exact h4.one u mu
theorem Zz8 {a b:Nat}(h:Zba a b=2) (ha:a<=2) (hb:b<=2):a=2/\b=2:=by unfold Zba at h;split at h<;>omega
theorem ZpO {fl:Bool}{xs:List (List CT)}(h:ZjK fl xs=2):ZbL xs=true:=by unfold ZjK at h;split at h<;>simp_all
theorem Zsv (fl:Bool) (xs:List (List CT)):ZjK fl xs<=2:=by unfold ZjK;split<;>omega
theorem Zp4 (fl:Bool) (xs:List (List CT)):0<ZjK fl xs:=by unfold ZjK;split<;>omega
theorem HI.plainD [NW] {ob:Nat->Ob}(h:HI W g ob w) {k b:Nat}(m:b∈g.D k):(W.heap.size<=b\/W.x b\/W.y b)/\∃a e,w.heap[b]?=some (.cells a e (0,0)):=by
 have h1:=h.plain k b (by simp [m])
 have h2:=h.obs k
 cases hk:ob k with
 |map kk vk kv=>
  rw [hk]at h2
  obtain ⟨_,_,_,_,_,h3,_⟩:=h2
  rw [h3]at m;simp at m
 |_=>rw [hk]at h1;exact h1
theorem ZEK [NW] (hI:HI W g st.ob w) {x:SV}{v:Value}{e m:Nat}{xs:List (List CT)}{ks:List Nat}{d:Nat}(h:Zgo st x=some (xs,ks,d)) (a:ZnD st e m x=true) (hx:SVR g w x v) (hu:svU U x):
  ∃cs L,w.ownsV 0 e m v xs.length cs/\REs w m xs cs L/\(∀b∈L,¬g.own b)/\(d=2->L=ks.flatMap g.D)/\v.ownBlock.toList=ks.flatMap g.O/\(∀k∈ks,U k)/\d<=2/\0<d:=by
 unfold Zgo at h
 split at h
 .simp only[A5,A6]at h
  obtain ⟨rfl,rfl,rfl⟩:=h
  have:=Zuv hx
  subst this
  exact ⟨[],[],ZfQ _ _ _ _,⟨rfl,rfl⟩,yG,yG,by simp [Value.ownBlock],yG,yG,yG⟩
 .rename_i k
  split at h
  .rename_i e' m' xs' d' hk
   split at h
   .simp at h
   rename_i c
   simp only[A5,A6]at h
   obtain ⟨rfl,rfl,rfl⟩:=h
   simp only[ZnD,hk,AD,beq_iff_eq]at a
   obtain ⟨rfl,rfl⟩:=a
   have:=Zgz hx
   subst this
   obtain ⟨hm,cs,L,o1,o2,o3,o4,o5⟩:=hI.deepO hk c
   refine ⟨cs,L,o1,o2,o3,fun hd=>?_,by simp [o4],fun q mq=>by simp at mq;subst mq;exact hu (.row q) yG,?_,yE⟩
   .rcases o5 with ⟨_,o5⟩|⟨o5,_⟩
    .simp [o5]
    .omega
   .rcases o5 with ⟨o5,_⟩|⟨o5,_⟩<;>omega
  .simp at h
 .simp at h
theorem ZDv [NW] (hI:HI W g st.ob w) {x:SV}{v:Value}{m:Nat}{xs:List (List CT)}{ks:List Nat}{d:Nat}{fl:Bool}(h:Zgi st fl x=some (xs,ks,d)) (a:ZlE st m x=true) (hx:SVR g w x v) (hu:svU U x):
  ∃A c cs L,v=.slice A xs.length c/\REs w m xs cs L/\(0<xs.length->∃b off,A=some ⟨b,off,none⟩/\ZbF w b off cs)/\(∀b∈L,¬g.own b)/\(d=2->L.Sublist (ks.flatMap g.D))/\(∀k∈ks,U k)/\d<=2/\0<d:=by
 unfold Zgi at h
 split at h
 .simp only[A5,A6]at h
  obtain ⟨rfl,rfl,rfl⟩:=h
  simp only[ZlE,beq_iff_eq]at a
  subst a
  obtain ⟨A,cap,cs,L0,L1,rfl,h2,h3,h5,h6,h7,ho⟩:=ZhJ hx
  refine ⟨A,cap,cs,L1,rfl,h7,fun hp=>?_,fun b mb=>ho b (by simp [mb]),fun hd=>by rw [Zhr h7 (ZpO hd)];simp,yG,Zsv _ _,Zp4 _ _⟩
  obtain ⟨b,off,h8,_,h9⟩:=h6.at_ hp
  exact ⟨b,off,h8,h9⟩
 .simp only[A5,A6]at h
  obtain ⟨rfl,rfl,rfl⟩:=h
  have:=Zuv hx
  subst this
  exact ⟨none,0,[],[],rfl,⟨rfl,rfl⟩,yG,yG,yG,yG,yG,yG⟩
 .rename_i k
  split at h
  .rename_i e' m' f d' hk
   simp only[ZlE,hk,beq_iff_eq]at a
   subst a
   have:=Zgz hx
   subst this
   obtain ⟨hm,cs,L,o1,o2,o3,o5⟩:=hI.deep hk
   obtain ⟨A,cap,L0,s1,s2,s3,s4,s5⟩:=Sl.row o1
   have e:0<f.length->∃b off,A=some ⟨b,off,none⟩/\ZbF w b off cs:=fun hp=>by
    obtain ⟨b,off,h8,_,h9⟩:=s4.at_ hp
    exact ⟨b,off,h8,h9⟩
   split at h
   .simp only[A5,A6]at h
    obtain ⟨rfl,rfl,rfl⟩:=h
    exact ⟨A,cap,cs,L,s1,o2,e,o3,fun hd=>by rw [Zhr o2 (ZpO hd)];simp,yG,Zsv _ _,Zp4 _ _⟩
   .rename_i hd0
    simp only[A5,A6]at h
    obtain ⟨rfl,rfl,rfl⟩:=h
    refine ⟨A,cap,cs,L,s1,o2,e,o3,fun hd=>?_,fun q mq=>by simp at mq;subst mq;exact hu (.row q) yG,?_,yE⟩
    .rcases o5 with ⟨_,_,o5⟩|⟨o5,_⟩|⟨o5,_⟩
     .simp [o5]
     .omega
     .omega
    .rcases o5 with ⟨o5,_⟩|⟨o5,_⟩|⟨o5,_⟩<;>omega
  .simp at h
 .simp at h
theorem HI.nodupD [NW] {ob:Nat->Ob}(hI:HI W g ob w):∀{ks:List Nat},ks.Nodup->(ks.flatMap g.D).Nodup
 | [],_=>by simp
 |k::ks,h=>by
  simp only[Ax,AL]
  rw [AU]at h
  refine ⟨(AL.1 (hI.nodup k)).2.1,hI.nodupD h.2,fun x hx y hy e=>?_⟩
  subst e
  obtain ⟨j,hj,hy⟩:=AI.1 hy
  exact hI.apart k j (fun e=>h.1 (e ▸ hj)) x (by simp [hx]) (by simp [hy])
theorem ZEU [NW] (htt:∀t i,tt t=some i->TOk P t i) (hI:HI W g st.ob w) (hU:StU U st) (I:¬U key) {t:Nat}{s x:SV}{vs vx:Value}{r:SV×List (Nat×Ob)}(h:ZoC st key (tt t) s x=some r) (hs:SVR g w s vs/\svU U s) (hx:SVR g w x vx/\svU U x) {ty:TypeId}{q:Sem Next}
  (hq:q=(do pure (.value (<-Builtin.append_ #[t,t] ty #[vs,vx])))):Fin P W U key st g w q r:=by
 unfold ZoC at h
 split at h
 .rename_i e m p z V
  obtain ⟨⟨xs,k1,d1⟩,h1,h⟩:=AB.1 h
  obtain ⟨⟨ys,k2,d2⟩,h2,h⟩:=AB.1 h
  split at h
  .rename_i hc
   simp only[A5]at h
   subst h
   obtain ⟨X,Y,J,K⟩:=hc
   simp only at J K
   obtain ⟨hu,hm,L,⟨ie,zv,M,Z,aa,ab,ac,ad⟩,_⟩:=htt t _ V
   obtain ⟨cs,Lx,a1,a2,a3,a4,a5,a6,a7,a8⟩:=ZEK hI h1 X hs.1 hs.2
   obtain ⟨A,c,a,Ly,b0,b1,b2,b3,b4,b5,b7,b8⟩:=ZDv hI h2 Y hx.1 hx.2
   subst b0
   obtain ⟨A1,cap1,ae,af,hv3⟩:=Y2 a1
   have N:a.length=ys.length*m:=b1.len
   obtain ⟨v',w',r1,r2,r3,r4⟩:∃v' w',(Builtin.append_ #[t,t] ty #[vs,.slice A ys.length c]).run P w=.ok v' w'/\w'.ownsV 0 e m v' (xs.length+ys.length) (cs++a)/\w.grownBy w' vs.ownBlock/\(v'.ownBlock=vs.ownBlock\/v'.ownBlock=some w.heap.size):=by
    by_cases hy:ys.length=0
    .have ag:a=[]:=AX (by rw [N,hy];simp)
     refine ⟨vs,w,?_,by rw [ag,hy,Ay];exact a1,World.grownBy.refl _ _,.inl rfl⟩
     rw [ae,hy]
     exact ZsU hu M A1 A _ _ _ af
    .obtain ⟨b,off,rfl,E⟩:=b2 yE
     have B:(xs.length+ys.length)*p<=140737488355328:=by
      have:=BH K L
      omega
     obtain ⟨v',w',q1,q2,q3,q5⟩:=ZgQ (P:=P) w 0 t ty e ie zv m p hu M ab Z aa (by rw [<-ad,ac.len];simp) hm vs xs.length cs a1 ⟨b,off,none⟩ ys.length c a N
      (fun j u hj=>by rw [ZdC];exact E j u hj) b1.one (by unfold maxLen;omega) B (AO _)
     exact ⟨v',w',q1,q2,q3,q5⟩
   have C:∀b,¬g.own b->some b≠vs.ownBlock:=fun b hn e=>hn (by
    have:b∈vs.ownBlock.toList:=by simp [<-e]
    rw [a5]at this
    obtain ⟨k,_,mk⟩:=AI.1 this
    exact .inl ⟨k,mk⟩)
   have d:∀b∈Lx++Ly,w'.heap[b]?=w.heap[b]?:=fun b mb=>by
    rcases A4.1 mb with mb|mb
    .exact r3.block b (a2.lt b mb) (C b (a3 b mb))
    .exact r3.block b (b1.lt b mb) (C b (b3 b mb))
   have Q:REs w' m (xs++ys) (cs++a) (Lx++Ly):=(a2.keep fun b mb=>d b (by simp [mb])).append (b1.keep fun b mb=>d b (by simp [mb]))
   have l:∀b∈v'.ownBlock.toList,b∈k1.flatMap g.O\/b=w.heap.size:=fun b mb=>by
    rcases r4 with r4|r4
    .rw [r4,a5]at mb;exact .inl mb
    .rw [r4]at mb;simp at mb;exact .inr mb
   have f:(Zba d1 d2)=2->(Lx++Ly).Sublist ((k1++k2).flatMap g.D):=fun hd=>by
    have hd:=Zz8 hd a7 b7
    rw [BE]
    exact AH (by rw [a4 hd.1];exact AE _) (b4 hd.2)
   have F:∀b∈(if (Zba d1 d2)=2 then Lx++Ly else []),b∈Lx++Ly/\(Zba d1 d2)=2:=fun b mb=>by
    split at mb
    .rename_i hd;exact ⟨mb,hd⟩
    .simp at mb
   have R:Bel W w':=by
    refine ⟨r3.os.trans hI.below.os,r3.tape.trans hI.below.tape,r3.output.trans hI.below.output,Ao hI.below.size r3.size,fun b hb S=>?_⟩
    rw [r3.block b (B8 hb hI.below.size) fun e=>?_]
    .exact hI.below.block b hb S
    .have:b∈vs.ownBlock.toList:=by simp [<-e]
     rw [a5]at this
     obtain ⟨k,_,mk⟩:=AI.1 this
     rcases hI.oy k b mk with h|h
     .omega
     .exact S h
   obtain ⟨t1,t2⟩:=hI.turn (key:=key) (U:=U) (w':=w') (v:=v') (O:=v'.ownBlock.toList) (D:=if (Zba d1 d2)=2 then Lx++Ly else []) (o:=.row e m (xs++ys) (Zba d1 d2)) hU.ob I (k1++k2)
    (fun k mk=>(A4.1 mk).elim (a6 k) (b5 k)) R r3.size (fun b hb hn=>r3.block b hb fun e=>by
     have:b∈vs.ownBlock.toList:=by simp [<-e]
     rw [a5]at this
     obtain ⟨k,hk,mk⟩:=AI.1 this
     exact hn k (by simp [hk]) mk)
    (fun b mb=>by
     rcases l b mb with mb|rfl
     .obtain ⟨k,hk,mk⟩:=AI.1 mb
      exact .inl ⟨k,by simp [hk],mk⟩
     .exact .inr (AF _))
    (fun b mb=>by
     obtain ⟨m1,m2⟩:=F b mb
     obtain ⟨k,hk,mk⟩:=AI.1 ((f m2).subset m1)
     exact .inl ⟨k,hk,by simp [mk]⟩)
    (by
     rw [AL]
     refine ⟨by cases v'.ownBlock<;>simp,?_,fun b mb b' ah e=>?_⟩
     .split
      .rename_i hd;exact (hI.nodupD J).sublist (f hd)
      .simp
     .subst e
      obtain ⟨m1,m2⟩:=F b ah
      rcases l b mb with mb|rfl
      .obtain ⟨k,_,mk⟩:=AI.1 mb
       rcases A4.1 m1 with m1|m1
       .exact a3 b m1 (.inl ⟨k,mk⟩)
       .exact b3 b m1 (.inl ⟨k,mk⟩)
      .rcases A4.1 m1 with m1|m1
       .have:=a2.lt _ m1;omega
       .have:=b1.lt _ m1;omega)
    (fun b mb=>by
     rcases A4.1 mb with mb|mb
     .have ai:W.heap.size<=b\/W.x b\/W.y b:=by
       rcases l b mb with mb|rfl
       .obtain ⟨k,_,mk⟩:=AI.1 mb
        exact (hI.plain k b (by simp [mk])).1
       .exact .inl hI.below.size
      rcases r2.2 with ⟨h',_⟩|⟨g',o',cap',G,h',hg0,hg,_⟩
      .simp [h',Value.ownBlock]at mb
      .simp [h',Value.ownBlock]at mb
       subst mb
       exact ⟨ai,G,e,hg⟩
     .obtain ⟨m1,m2⟩:=F b mb
      obtain ⟨k,hk,mk⟩:=AI.1 ((f m2).subset m1)
      obtain ⟨p1,G,e',p2⟩:=hI.plainD mk
      exact ⟨p1,G,e',by rw [d b m1];exact p2⟩)
    (fun hown=>⟨hm,cs++a,Lx++Ly,by simpa [Gh.turn,upd]using r2,Q,by
     by_cases hd:Zba d1 d2=2
     .exact .inl ⟨hd,by simp [Gh.turn,upd],by simp [Gh.turn,hd]⟩
     .have aj:Zba d1 d2=1:=by unfold Zba at hd ⊢;split<;>simp_all<;>omega
      refine .inr (.inl ⟨aj,by simp [Gh.turn,upd],by simp [Gh.turn,hd],fun b mb ho=>?_⟩)
      have H:¬g.own b:=by
       rcases A4.1 mb with m1|m1
       .exact a3 b m1
       .exact b3 b m1
      rcases ZfL ho with mo|⟨k,_,_,mk⟩|hz
      .rcases l b mo with mo|rfl
       .obtain ⟨k,_,mk⟩:=AI.1 mo
        exact H (.inl ⟨k,mk⟩)
       .rcases A4.1 mb with m1|m1
        .have:=a2.lt _ m1;omega
        .have:=b1.lt _ m1;omega
      .exact H (.inl ⟨k,mk⟩)
      .exact H (.inr hz)⟩)
   have T:=ZjG (key:=key) (o:=.row e m (xs++ys) (Zba d1 d2)) hU (k1++k2) trivial
   refine ⟨_,v',w',.inl (by subst hq;simp only[Sem.run_bind,r1,Result.andThen_ok,Sem.run_pure]),t1,⟨_,rfl,⟨by simp [Gh.turn,upd],?_⟩⟩,t2,fun y my=>by simp at my;subst my;exact ZkK,T.1,T.2⟩
   obtain ⟨A2,cap2,ak⟩:=Zci r2
   simp [ak,Value.oneCell']
  .simp at h
 .simp at h
end
end
section
open Go.RowKit
section
variable {P:Program} {W:QO} {U:Nat->Prop} {key:Nat} {st:St} {g:Gh} {w w':World} {a:Act} {tt:Nat->Option TI}
theorem RCs.dropS:∀{x:List CT}{c:List Value}{L:List Nat}(n:Nat),RCs w x c L->∃L',RCs w (x.drop n) (c.drop n) L'/\L'.Sublist L
 |x,c,L,0,h=>⟨L,by simpa using h,AE _⟩
 | [],c,L,n+1,h=>⟨[],by obtain ⟨rfl,rfl⟩:=h;simp [RCs],AQ _⟩
 |x::r,_,_,n+1,⟨v,cs',L1,L2,rfl,rfl,h1,h2⟩=>by
  obtain ⟨L',a1,a2⟩:=RCs.dropS n h2
  exact ⟨L',by simpa using a1,a2.trans (BJ L1 L2)⟩
theorem RCs.spliceS [NW] {x:List CT}{c:List Value}{L:List Nat}{ys:List CT}{us:List Value}(h:RCs w x c L) (h':RCs w ys us []):∀(off:Nat),∃L',RCs w (splice x off ys) (splice c off us) L'/\L'.Sublist L:=by
 have hl:us.length=ys.length:=h'.len
 intro off
 induction off generalizing x c L with
 |zero=>
  obtain ⟨L',a1,a2⟩:=h.dropS (0+ys.length)
  refine ⟨[]++L',?_,a2⟩
  simp only[splice,BK,Ai,hl]
  exact h'.append a1
 |succ off ih=>
  cases x with
  |nil=>
   obtain ⟨rfl,rfl⟩:=h
   refine ⟨[],?_,AQ _⟩
   simpa [splice]using h'
  |cons x r=>
   obtain ⟨v,a,L1,L2,rfl,rfl,h1,h2⟩:=h
   obtain ⟨L',a1,a2⟩:=ih h2
   refine ⟨L1++L',?_,AH (AE _) a2⟩
   have e1:splice (x::r) (off+1) ys=x::splice r off ys:=by
    simp only[splice,Aj,Ak]
    rw [show off+1+ys.length=(off+ys.length)+1 by omega,Al]
   have e2:splice (v::a) (off+1) us=v::splice a off us:=by
    simp only[splice,Aj,Ak]
    rw [show off+1+us.length=(off+us.length)+1 by omega,Al]
   rw [e1,e2]
   exact ⟨v,_,L1,L',rfl,rfl,h1,a1⟩
theorem Zf6 {α:Type}(c1 c2:List α) (off:Nat) (us:List α):splice (c1++c2) (c1.length+off) us=c1++splice c2 off us:=by
 simp only[splice]
 rw [BD,AG,Ag,Ah (Au _ _),AZ]
 simp
theorem ZbG {α:Type}(c1 c2:List α) (off:Nat) (us:List α) (h:off+us.length<=c1.length):splice (c1++c2) off us=splice c1 off us++c2:=by
 simp only[splice]
 rw [List.take_append_of_le_length yE,B1 h]
 simp
theorem REs.set [NW] {m:Nat}{ys:List CT}{us:List Value}(h':RCs w ys us []):∀{xs:List (List CT)}{cs:List Value}{L:List Nat}{i off:Nat}{x:List CT},REs w m xs cs L->xs[i]?=some x->off+us.length<=m->
  ∃L',REs w m (xs.set i (splice x off ys)) (splice cs (i*m+off) us) L'/\L'.Sublist L
 | [],_,_,_,_,_,_,hx,_=>by simp at hx
 |e::r,_,_,0,off,x,⟨c1,c2,L1,L2,rfl,rfl,h3,h4⟩,hx,ho=>by
  simp at hx;subst hx
  obtain ⟨L',a1,a2⟩:=h3.1.spliceS h' off
  refine ⟨L'++L2,?_,AH a2 (AE _)⟩
  rw [At,AT,ZbG _ _ _ _ (by rw [h3.2];exact ho)]
  exact ⟨splice c1 off us,c2,L',L2,rfl,rfl,⟨a1,by rw [Zat _ _ _ (by rw [h3.2];exact ho)];exact h3.2⟩,h4⟩
 |e::r,_,_,i+1,off,x,⟨c1,c2,L1,L2,rfl,rfl,h3,h4⟩,hx,ho=>by
  obtain ⟨L',a1,a2⟩:=REs.set h' h4 (i:=i) (off:=off) (x:=x) (by simpa using hx) ho
  refine ⟨L1++L',?_,AH (AE _) a2⟩
  have e:(i+1)*m+off=c1.length+(i*m+off):=by rw [h3.2,AC];omega
  rw [e,Zf6]
  exact ⟨c1,_,L1,L',rfl,rfl,h3,a1⟩
theorem Zqa [NW]:∀{vs:List AV}{ys:List CT}{us:List Value},Zgx vs=some ys->ZI (AVR g w) vs us->RCs w ys us []
 | [],_,[],h,_=>by simp [Zgx]at h;subst h;exact ⟨rfl,rfl⟩
 | [],_,_::_,_,h=>h.elim
 |_::_,_,[],_,h=>h.elim
 |x::vs,ys,u::us,h,hr=>by
  simp only[Zgx]at h
  obtain ⟨y,h1,h⟩:=AB.1 h
  obtain ⟨b,h2,rfl⟩:=A9.1 h
  have hx:x=.c y/\y.flat=true:=by
   cases x with
   |c z=>cases z<;>simp [Zu6]at h1<;>subst h1<;>exact ⟨rfl,rfl⟩
   |_=>simp [Zu6]at h1
  obtain ⟨rfl,hf⟩:=hx
  obtain ⟨L,hL,_⟩:=hr.1
  have a:L=[]:=by
   cases y with
   |int k n=>exact hL.2
   |bool b=>exact hL.2
   |str s=>exact hL.2.1
   |_=>simp [CT.flat]at hf
  subst a
  exact ⟨u,us,[],[],rfl,rfl,hL,Zqa h2 hr.2⟩
theorem RCs.spliceG [NW] {x:List CT}{c:List Value}{L:List Nat}{ys:List CT}{us:List Value}{M:List Nat}(h:RCs w x c L) (h':RCs w ys us M):∀(off:Nat),∃A C,RCs w (splice x off ys) (splice c off us) (A++(M++C))/\(A++C).Sublist L:=by
 have hl:us.length=ys.length:=h'.len
 intro off
 induction off generalizing x c L with
 |zero=>
  obtain ⟨L',a1,a2⟩:=h.dropS (0+ys.length)
  refine ⟨[],L',?_,by simpa using a2⟩
  simp only[splice,BK,Ai,hl]
  exact h'.append a1
 |succ off ih=>
  cases x with
  |nil=>
   obtain ⟨rfl,rfl⟩:=h
   refine ⟨[],[],?_,AQ _⟩
   simpa [splice]using h'
  |cons x r=>
   obtain ⟨v,a,L1,L2,rfl,rfl,h1,h2⟩:=h
   obtain ⟨A,C,a1,a2⟩:=ih h2
   refine ⟨L1++A,C,?_,by rw [AN];exact AH (AE _) a2⟩
   have e1:splice (x::r) (off+1) ys=x::splice r off ys:=by
    simp only[splice,Aj,Ak]
    rw [show off+1+ys.length=(off+ys.length)+1 by omega,Al]
   have e2:splice (v::a) (off+1) us=v::splice a off us:=by
    simp only[splice,Aj,Ak]
    rw [show off+1+us.length=(off+us.length)+1 by omega,Al]
   rw [e1,e2]
   exact ⟨v,_,L1,A++(M++C),rfl,by simp [AN],h1,a1⟩
theorem REs.setG [NW] {m:Nat}{ys:List CT}{us:List Value}{M:List Nat}(h':RCs w ys us M):∀{xs:List (List CT)}{cs:List Value}{L:List Nat}{i off:Nat}{x:List CT},REs w m xs cs L->xs[i]?=some x->off+us.length<=m->
  ∃A C,REs w m (xs.set i (splice x off ys)) (splice cs (i*m+off) us) (A++(M++C))/\(A++C).Sublist L
 | [],_,_,_,_,_,_,hx,_=>by simp at hx
 |e::r,_,_,0,off,x,⟨c1,c2,L1,L2,rfl,rfl,h3,h4⟩,hx,ho=>by
  simp at hx;subst hx
  obtain ⟨A,C,a1,a2⟩:=h3.1.spliceG h' off
  refine ⟨A,C++L2,?_,by rw [<-AN];exact AH a2 (AE _)⟩
  rw [At,AT,ZbG _ _ _ _ (by rw [h3.2];exact ho)]
  exact ⟨splice c1 off us,c2,A++(M++C),L2,rfl,by simp [AN],⟨a1,by rw [Zat _ _ _ (by rw [h3.2];exact ho)];exact h3.2⟩,h4⟩
 |e::r,_,_,i+1,off,x,⟨c1,c2,L1,L2,rfl,rfl,h3,h4⟩,hx,ho=>by
  obtain ⟨A,C,a1,a2⟩:=REs.setG h' h4 (i:=i) (off:=off) (x:=x) (by simpa using hx) ho
  refine ⟨L1++A,C,?_,by rw [AN];exact AH (AE _) a2⟩
  have e:(i+1)*m+off=c1.length+(i*m+off):=by rw [h3.2,AC];omega
  rw [e,Zf6]
  exact ⟨c1,_,L1,A++(M++C),rfl,by simp [AN],h3,a1⟩
theorem Zp0:∀{xs:List AV}{cts:List CT}{ks:List Nat}{d:Nat},ZdF st xs=some (cts,ks,d)->∀k∈ks,∃e m xs d,st.ob k=.row e m xs d
 | [],_,_,_,h=>by
  simp only[ZdF,A5,A6]at h
  obtain ⟨_,rfl,_⟩:=h
  simp
 |x::r,cts,ks,d,h=>by
  simp only[ZdF]at h
  obtain ⟨⟨c1,k1,d1⟩,h1,h⟩:=AB.1 h
  obtain ⟨⟨c2,k2,d2⟩,h2,h⟩:=A9.1 h
  simp only[A6]at h
  obtain ⟨_,rfl,_⟩:=h
  have e1:∀k∈k1,∃e m xs d,st.ob k=.row e m xs d:=by
   cases x with
   |c y=>cases y<;>simp only[avT,A5,A6]at h1<;>obtain ⟨_,rfl,_⟩:=h1<;>simp
   |row k=>
    simp only[avT]at h1
    split at h1
    .rename_i e m xs d hk
     split at h1
     .simp only[A5,A6]at h1
      obtain ⟨_,rfl,_⟩:=h1
      simp
     .simp only[A5,A6]at h1
      obtain ⟨_,rfl,_⟩:=h1
      intro j hj
      simp only[BL]at hj
      subst hj
      exact ⟨e,m,xs,d,hk⟩
    .simp at h1
   |nil e m=>
    simp only[avT]at h1
    split at h1
    .simp only[A5,A6]at h1
     obtain ⟨_,rfl,_⟩:=h1
     simp
    .simp at h1
   |n y=>simp [avT]at h1
   |dead=>simp [avT]at h1
  exact fun k mk=>(A4.1 mk).elim (e1 k) (Zp0 h2 k)
theorem Zy6 [NW] (htt:∀t i,tt t=some i->TOk P t i) (hI:HI W g st.ob w) (hU:StU U st) {t k m i off e:Nat}{xs:List (List CT)}{d:Nat}{x ys:List CT}{vs:List AV}{va vv:Value}{ag:Bool}(hk:st.ob k=.row e m xs d) (S:¬d=0) (hx:xs[i]?=some x) (T:Zgx vs=some ys) (hl:vs.length=Zgd (tt t)) (ho:off+vs.length<=m)
  (ha:SVR g w (.rp k m i off) va) (hv:SVR g w (.p ag vs) vv) (l:0<vs.length) {s:Sem Next} (hs:s=(do Instr.storeAt t va vv;pure .skip)):Fin P W U key st g w s (.und,[(k,.row e m (xs.set i (splice x off ys)) d)]):=by
 obtain ⟨b,o,n,c,h1,rfl⟩:=ha
 obtain ⟨hm,cs,L,o1,o2,o3,o4,o5⟩:=hI.deepO hk S
 obtain ⟨us,c1,c2⟩:=PVR.cells hv
 have V:=c2.len
 have hi:i<xs.length:=(AK.1 hx).1
 rcases o1.2 with ⟨_,hn⟩|⟨b',o',cap,a,y,X,hg,F,Y,aa,ab⟩
 .omega
 have ac:b=b'/\o=o':=by rw [y]at h1;simp at h1;exact ⟨h1.1.1.symm,h1.1.2.symm⟩
 obtain ⟨rfl,rfl⟩:=ac
 have hlt:i*m+off+us.length<=xs.length*m:=by
  have:=AY m (show i+1<=xs.length by omega)
  rw [AC]at this
  omega
 have hcap:xs.length*m<=cap*m:=AY m F
 have A:(sizeOf t).run P w=.ok us.length w:=by
  rw [<-V,hl]
  unfold Zgd at hl ⊢
  cases hti:tt t with
  |none=>rw [hti]at hl;simp at hl;simp [hl]at l
  |some i=>
   cases i with
   |atom z=>obtain ⟨d,zv,i,_,_,h3,_,h4,_⟩:=htt t _ hti;rw [Xs h3,h4]
   |strct fs n z=>obtain ⟨_,i,_,_,h3,h4,_⟩:=htt t _ hti;rw [Xs h3,h4]
   |slice e m b z=>obtain ⟨_,_,_,_,j,h3,h4,_⟩:=htt t _ hti;rw [Xs h3,h4]
   |_=>rw [hti]at hl;simp at hl;simp [hl]at l
 have G:=run_storeCells_at (P:=P) b (o+(i*m+off)) e us 0 a w hg yE (AVRs.one c2)
 obtain ⟨r1,r2,r3,r4,r5,r6⟩:=Zk3 b a (splice a.toList (o+(i*m+off)) us).toArray e hg
 have H:s.run P w=.ok .skip (w.setRow b (splice a.toList (o+(i*m+off)) us).toArray):=by
  subst hs
  have e:(a.toList.take (o+(i*m+off)+0)++us++a.toList.drop (o+(i*m+off)+0+us.length)).toArray=(splice a.toList (o+(i*m+off)) us).toArray:=by simp [splice]
  rw [e]at G
  simp [Instr.storeAt,Instr.sureAddr,storeVar,c1,A,G]
 have B:g.O k=[b]:=by rw [o4,y];rfl
 have I:∀b',b'<w.heap.size->¬g.own b'->(w.setRow b (splice a.toList (o+(i*m+off)) us).toArray).heap[b']?=w.heap[b']?:=fun b' _ hn=>r2 b' fun e=>hn (.inl ⟨k,by simp [B,e]⟩)
 obtain ⟨L',q1,q2⟩:=o2.set (Zqa T c2) hx (show off+us.length<=m by omega)
 have C:(w.setRow b (splice a.toList (o+(i*m+off)) us).toArray).ownsV 0 e m (g.val k) (xs.set i (splice x off ys)).length (splice cs (i*m+off) us):=by
  have J:cs.length=xs.length*m:=o1.1
  refine ⟨by rw [Zat _ _ _ yE,J];simp,.inr ⟨b,o,cap,_,by simpa using y,X,r1,by simpa using F,Y,by rw [BM,Zat _ _ _ (show o+(i*m+off)+us.length<=a.toList.length by simp;omega)];simpa using aa,?_⟩⟩
  have h0:((splice a.toList (o+(i*m+off)) us).toArray.toList).drop o=splice (a.toList.drop o) (i*m+off) us:=by
   show (splice a.toList (o+(i*m+off)) us).drop o=_
   unfold splice
   have ad:o<=(a.toList.take (o+(i*m+off))).length:=by simp;omega
   rw [B1 ad,Aw,AZ,BN,AG]
  rw [h0]
  have:a.toList.drop o=cs++(a.toList.drop o).drop (xs.length*m):=by rw [<-ab];exact (BP _ _).symm
  rw [this,ZbG _ _ _ _ yE]
  have e2:(xs.set i (splice x off ys)).length*m=(splice cs (i*m+off) us).length:=by rw [Zat _ _ _ yE,J];simp
  rw [e2]
  exact Az rfl
 have K:=o2.lt
 have E:REs (w.setRow b (splice a.toList (o+(i*m+off)) us).toArray) m (xs.set i (splice x off ys)) (splice cs (i*m+off) us) L':=q1.keep fun b' mb=>I b' (K b' (q2.subset mb)) (o3 b' (q2.subset mb))
 let g':Gh:=⟨g.val,g.O,upd g.D k (if d=2 then L' else []),g.Z⟩
 have hgo:∀b',g'.own b'↔g.own b':=fun b'=>Iff.rfl
 have M:(∀b'∈g'.D k,b'∈g.D k)->Qw g g' w.heap.size:=fun hs=>.of (fun b' h=>.inl h) fun j b' mb=>by
  by_cases hj:j=k
  .subst hj;exact .inl (.inr ⟨j,hs b' mb⟩)
  .exact .inl (.inr ⟨j,by simpa [g',ZO _ _ hj]using mb⟩)
 have f:∀b'∈g'.D k,b'∈g.D k:=fun b' mb=>by
  simp only[g',ZF]at mb
  split at mb
  .rename_i hd
   rcases o5 with ⟨_,o5⟩|⟨o5,_⟩
   .rw [o5];exact q2.subset mb
   .omega
  .simp at mb
 refine ⟨g',undef,_,.inr ⟨H,rfl⟩,?_,rfl,fun x u hx hu=>hu.move hx (fun _ _=>rfl) I (M f) yE,trivial,fun q=>?_,fun q hq=>?_⟩
 .refine hI.step (U:=U) (fun q=>q=k) ?_ rfl (fun b' _ hn=>r2 b' fun e=>hn k rfl (by simp [B,e])) (fun q hq=>⟨ZO _ _ hq,rfl,rfl,ZO _ _ hq⟩) hU.ob (fun _ _=>rfl) (M f) (fun q hq=>?_)
  .exact ⟨r4.trans hI.below.os,r5.trans hI.below.tape,r6.trans hI.below.output,by have:=hI.below.size;omega,fun q hq N=>by rw [r2 q (fun e=>by subst e;rcases hI.oy k q (by simp [B]) with h|h;omega;exact N h)];exact hI.below.block q hq N⟩
  .subst hq
   have v:∀b'∈g'.O q++g'.D q,b'∈g.O q++g.D q:=fun b' mb=>by
    rcases A4.1 mb with mb|mb
    .exact A4.2 (.inl mb)
    .exact A4.2 (.inr (f b' mb))
   refine ⟨?_,?_,fun b' mb=>?_,fun j hj b' mb mj=>?_⟩
   .simp only[Zl,ZF]
    refine ⟨hm,_,L',C,E,?_⟩
    rcases o5 with ⟨o5,_⟩|⟨o5,_⟩
    .exact .inl ⟨o5,o4,by simp [g',upd,o5]⟩
    .exact .inr (.inl ⟨o5,o4,by simp [g',upd,o5],fun b' mb=>o3 b' (q2.subset mb)⟩)
   .have hn:=hI.nodup q
    refine hn.sublist (AH (AE _) ?_)
    simp only[g',ZF]
    split
    .rename_i hd
     rcases o5 with ⟨_,o5⟩|⟨o5,_⟩
     .rw [o5];exact q2
     .omega
    .exact AQ _
   .have hp:=hI.plain q b' (v b' mb)
    rw [hk]at hp
    obtain ⟨p1,Q,e',p2⟩:=hp
    refine ⟨p1,?_⟩
    simp only[Zl,ZF]
    show ∃a e,_=_
    by_cases R:b'=b
    .subst R;exact ⟨_,_,r1⟩
    .exact ⟨Q,e',by rw [r2 b' R];exact p2⟩
   .have ae:b'∈g.O j++g.D j:=by
     rcases A4.1 mj with mj|mj
     .exact A4.2 (.inl mj)
     .simp only[g',ZO _ _ (fun e:j=q=>hj e.symm)]at mj;exact A4.2 (.inr mj)
    exact hI.apart q j hj b' (v b' mb) ae
 .simp only[Zl,upd]
  split
  .trivial
  .exact (hU.ob q).mono fun _=>.inl
 .simp only[Zl,upd]
  split
  .rename_i e;subst e
   exact absurd (hU.gone q fun h=>hq (.inl h)) (by simp [hk])
  .exact hU.gone q fun h=>hq (.inl h)
theorem ZwT [NW] (htt:∀t i,tt t=some i->TOk P t i) (hI:HI W g st.ob w) (hU:StU U st) {t k m i off e:Nat}{xs:List (List CT)}{d:Nat}{x ys:List CT}{vs:List AV}{va vv:Value}{ag:Bool}(hk:st.ob k=.row e m xs d) (ar:¬d=0) (hx:xs[i]?=some x) {ks:List Nat}{dv:Nat}(ab:ZdF st vs=some (ys,ks,dv)) (E:(k::ks).Nodup) (hl:vs.length=Zgd (tt t)) (ho:off+vs.length<=m)
  (au:X3 U vs) (ha:SVR g w (.rp k m i off) va) (hv:SVR g w (.p ag vs) vv) (J:0<vs.length) {s:Sem Next} (hs:s=(do Instr.storeAt t va vv;pure .skip)):Fin P W U key st g w s (.und,YD ks++[(k,.row e m (xs.set i (splice x off ys)) (Zba d dv))]):=by
 obtain ⟨b,o,n,c,h1,rfl⟩:=ha
 obtain ⟨hm,cs,L,o1,o2,o3,o4,o5⟩:=hI.deepO hk ar
 obtain ⟨us,c1,c2⟩:=PVR.cells hv
 have av:=c2.len
 have hi:i<xs.length:=(AK.1 hx).1
 rcases o1.2 with ⟨_,hn⟩|⟨b',o',cap,a,G,aw,hg,ac,ax,ay,az⟩
 .omega
 have a0:b=b'/\o=o':=by rw [G]at h1;simp at h1;exact ⟨h1.1.1.symm,h1.1.2.symm⟩
 obtain ⟨rfl,rfl⟩:=a0
 have hlt:i*m+off+us.length<=xs.length*m:=by
  have:=AY m (show i+1<=xs.length by omega)
  rw [AC]at this
  omega
 have hcap:xs.length*m<=cap*m:=AY m ac
 have K:(sizeOf t).run P w=.ok us.length w:=by
  rw [<-av,hl]
  unfold Zgd at hl ⊢
  cases hti:tt t with
  |none=>rw [hti]at hl;simp at hl;simp [hl]at J
  |some i=>
   cases i with
   |atom z=>obtain ⟨d,zv,i,_,_,h3,_,h4,_⟩:=htt t _ hti;rw [Xs h3,h4]
   |strct fs n z=>obtain ⟨_,i,_,_,h3,h4,_⟩:=htt t _ hti;rw [Xs h3,h4]
   |slice e m b z=>obtain ⟨_,_,_,_,j,h3,h4,_⟩:=htt t _ hti;rw [Xs h3,h4]
   |_=>rw [hti]at hl;simp at hl;simp [hl]at J
 have ad:=run_storeCells_at (P:=P) b (o+(i*m+off)) e us 0 a w hg yE (AVRs.one c2)
 obtain ⟨r1,r2,r3,r4,r5,r6⟩:=Zk3 b a (splice a.toList (o+(i*m+off)) us).toArray e hg
 have ae:s.run P w=.ok .skip (w.setRow b (splice a.toList (o+(i*m+off)) us).toArray):=by
  subst hs
  have e:(a.toList.take (o+(i*m+off)+0)++us++a.toList.drop (o+(i*m+off)+0+us.length)).toArray=(splice a.toList (o+(i*m+off)) us).toArray:=by simp [splice]
  rw [e]at ad
  simp [Instr.storeAt,Instr.sureAddr,storeVar,c1,K,ad]
 let x_:=x
 have B:g.O k=[b]:=by rw [o4,G];rfl
 have N:g.own b:=.inl ⟨k,by simp [B]⟩
 obtain ⟨M,y1,y2,y3⟩:=ZqC hI ab c2 au
 have af:=Zp0 ab
 obtain ⟨A,C,q1,q2⟩:=o2.setG y1 hx (show off+us.length<=m by omega)
 rw [AU]at E
 have hdv:=y2.2.1
 have hdv0:=y2.2.2.1
 have ah:∀x∈g.F ks,∃j∈ks,x∈g.O j++g.D j:=fun x mx=>ZgR mx
 have Q:b∉M:=fun mb=>by
  rcases y2.2.2.2 b mb with h|⟨j,hj,mj⟩
  .exact h N
  .exact hI.apart k j (fun e=>E.1 (e ▸ hj)) b (by simp [B]) (by simp [mj])
 have R:b∉L:=fun mb=>o3 b mb N
 have l:∀x∈A++(M++C),x∈L\/x∈M:=fun x mx=>by
  simp only[A4]at mx
  rcases mx with mx|mx|mx
  .exact .inl (q2.subset (by simp [mx]))
  .exact .inr mx
  .exact .inl (q2.subset (by simp [mx]))
 have S:(w.setRow b (splice a.toList (o+(i*m+off)) us).toArray).ownsV 0 e m (g.val k) (xs.set i (splice x off ys)).length (splice cs (i*m+off) us):=by
  have ai:cs.length=xs.length*m:=o1.1
  refine ⟨by rw [Zat _ _ _ yE,ai];simp,.inr ⟨b,o,cap,_,by simpa using G,aw,r1,by simpa using ac,ax,by rw [BM,Zat _ _ _ (show o+(i*m+off)+us.length<=a.toList.length by simp;omega)];simpa using ay,?_⟩⟩
  have h0:((splice a.toList (o+(i*m+off)) us).toArray.toList).drop o=splice (a.toList.drop o) (i*m+off) us:=by
   show (splice a.toList (o+(i*m+off)) us).drop o=_
   unfold splice
   have a1:o<=(a.toList.take (o+(i*m+off))).length:=by simp;omega
   rw [B1 a1,Aw,AZ,BN,AG]
  rw [h0]
  have:a.toList.drop o=cs++(a.toList.drop o).drop (xs.length*m):=by rw [<-az];exact (BP _ _).symm
  rw [this,ZbG _ _ _ _ yE]
  have e2:(xs.set i (splice x off ys)).length*m=(splice cs (i*m+off) us).length:=by rw [Zat _ _ _ yE,ai];simp
  rw [e2]
  exact Az rfl
 have T:REs (w.setRow b (splice a.toList (o+(i*m+off)) us).toArray) m (xs.set i (splice x off ys)) (splice cs (i*m+off) us) (A++(M++C)):=q1.keep fun b' mb=>r2 b' fun e=>by
  rcases l b' mb with h|h
  .exact R (e ▸ h)
  .exact Q (e ▸ h)
 let g':Gh:=⟨g.val,fun j=>if j∈ks then [] else g.O j,fun j=>if j=k then (if Zba d dv=2 then A++(M++C) else []) else if j∈ks then [] else g.D j,g.Z⟩
 have gK:∀j∈ks,g'.O j=[]/\g'.D j=[]:=fun j hj=>by
  have f:¬j=k:=fun e=>E.1 (e ▸ hj)
  exact ⟨if_pos hj,by simp only[g',if_neg f,if_pos hj]⟩
 have gk:g'.O k=[b]/\g'.D k=if Zba d dv=2 then A++(M++C) else []:=⟨by simp only[g',if_neg E.1,B],by simp only[g',if_true]⟩
 have gN:∀j,¬j=k->j∉ks->g'.O j=g.O j/\g'.D j=g.D j:=fun j h1 h2=>⟨if_neg h2,by simp only[g',if_neg h1,if_neg h2]⟩
 have V:∀x,g'.own x->g.own x:=fun x hx=>by
  rcases hx with ⟨j,mj⟩|hz
  .by_cases hj:j∈ks
   .rw [(gK j hj).1]at mj;simp at mj
   .exact .inl ⟨j,by simpa [g',hj]using mj⟩
  .exact .inr hz
 have aj:Zba d dv=2->d=2/\dv=2:=fun h=>by
  have hd:d<=2:=by rcases o5 with ⟨q,_⟩|⟨q,_⟩<;>omega
  unfold Zba at h;split at h<;>omega
 have H:∀x∈g'.D k,(∃j,x∈g.D j/\j=k)\/∃j∈ks,x∈g.O j++g.D j:=fun x mx=>by
  rw [gk.2]at mx
  split at mx
  .rename_i hd
   obtain ⟨e1,e2⟩:=aj hd
   rcases l x mx with h|h
   .rcases o5 with ⟨_,o5⟩|⟨q,_⟩
    .exact .inl ⟨k,by rw [o5];exact h,rfl⟩
    .omega
   .exact .inr (ah x ((y2.1 e2).subset h))
  .simp at mx
 have ak:Qw g g' w.heap.size:=.of (fun x hx=>.inl (V x hx)) fun j x mj=>by
  by_cases hj:j=k
  .subst hj
   rcases H x mj with ⟨i,mi,_⟩|⟨i,_,mi⟩
   .exact .inl (.inr ⟨i,mi⟩)
   .rcases A4.1 mi with mi|mi
    .exact .inl (.inl (.inl ⟨i,mi⟩))
    .exact .inl (.inr ⟨i,mi⟩)
  .by_cases f:j∈ks
   .rw [(gK j f).2]at mj;simp at mj
   .rw [(gN j hj f).2]at mj;exact .inl (.inr ⟨j,mj⟩)
 have a2:∀b',b'<w.heap.size->¬g.own b'->(w.setRow b (splice a.toList (o+(i*m+off)) us).toArray).heap[b']?=w.heap[b']?:=fun b' _ hn=>r2 b' fun e=>hn (e ▸ N)
 have a3:U k:=Classical.byContradiction fun h=>by have:=hU.gone k h;rw [hk]at this;simp at this
 have v:∀j,Zl st.ob (YD ks++[(k,.row e m (xs.set i (splice x off ys)) (Zba d dv))]) j=if j=k then .row e m (xs.set i (splice x off ys)) (Zba d dv) else if j∈ks then .gone else st.ob j:=fun j=>ZaK _ _ _ _ _
 have al:∀x∈g'.D k,(W.heap.size<=x\/W.x x\/W.y x)/\Xp (w.setRow b (splice a.toList (o+(i*m+off)) us).toArray) (.row e m (xs.set i (splice x_ off ys)) (Zba d dv)) x:=fun x mx=>by
  have am:x≠b:=fun h=>by
   rw [gk.2]at mx
   split at mx
   .rcases l x mx with q|q
    .exact R (h ▸ q)
    .exact Q (h ▸ q)
   .simp at mx
  rcases H x mx with ⟨j,mj,_⟩|⟨j,hj,mj⟩
  .exact ⟨(hI.plainD mj).1,Xp.keep (o:=.row e m (xs.set i (splice x_ off ys)) (Zba d dv)) (hI.plainD mj).2 (r2 x am)⟩
  .obtain ⟨p1,p2⟩:=hI.plain j x mj
   obtain ⟨_,_,_,_,a4⟩:=af j hj
   rw [a4]at p2
   exact ⟨p1,Xp.keep (o:=.row e m (xs.set i (splice x_ off ys)) (Zba d dv)) p2 (r2 x am)⟩
 refine ⟨g',undef,_,.inr ⟨ae,rfl⟩,?_,rfl,fun x u hx hu=>hu.move hx (fun _ _=>rfl) a2 ak yE,trivial,fun q=>?_,fun q hq=>?_⟩
 .refine hI.step (U:=U) (fun q=>q=k\/q∈ks) ?_ rfl (fun b' _ hn=>r2 b' fun e=>hn k (.inl rfl) (by simp [B,e])) (fun q hq=>?_) hU.ob (fun _ _=>rfl) ak (fun q hq=>?_)
  .exact ⟨r4.trans hI.below.os,r5.trans hI.below.tape,r6.trans hI.below.output,by have:=hI.below.size;omega,fun q hq an=>by rw [r2 q (fun e=>by subst e;rcases hI.oy k q (by simp [B]) with h|h;omega;exact an h)];exact hI.below.block q hq an⟩
  .have h1:¬q=k:=fun e=>hq (.inl e)
   have h2:q∉ks:=fun e=>hq (.inr e)
   exact ⟨by rw [v,if_neg h1,if_neg h2],rfl,(gN q h1 h2).1,(gN q h1 h2).2⟩
  .by_cases X:q=k
   .subst X
    rw [v,if_pos rfl]
    have a5:∀j,q≠j->∀x∈g'.O q++g'.D q,x∉g'.O j++g'.D j:=fun j hj x mx mj=>by
     by_cases f:j∈ks
     .rw [(gK j f).1,(gK j f).2]at mj;simp at mj
     .rw [(gN j (fun e=>hj e.symm) f).1,(gN j (fun e=>hj e.symm) f).2]at mj
      rcases A4.1 mx with mx|mx
      .rw [gk.1]at mx
       exact hI.apart q j hj x (by rw [B];simp at mx;simp [mx]) mj
      .rcases H x mx with ⟨i',mi,rfl⟩|⟨i',I,mi⟩
       .exact hI.apart i' j hj x (by simp [mi]) mj
       .exact hI.apart i' j (fun e=>f (e ▸ I)) x mi mj
    refine ⟨⟨hm,_,A++(M++C),S,T,?_⟩,?_,fun x mx=>?_,a5⟩
    .by_cases hd:Zba d dv=2
     .exact .inl ⟨hd,by rw [gk.1,G];rfl,by rw [gk.2,if_pos hd]⟩
     .have a6:Zba d dv=1:=by
       unfold Zba at hd ⊢
       split
       .rename_i Y;rw [if_pos Y]at hd;rcases o5 with ⟨q,_⟩|⟨q,_⟩<;>omega
       .rename_i Y;rw [if_neg Y]at hd;omega
      refine .inr (.inl ⟨a6,by rw [gk.1,G];rfl,by rw [gk.2,if_neg hd],fun x mx aa=>?_⟩)
      rcases l x mx with h|h
      .exact o3 x h (V x aa)
      .rcases y2.2.2.2 x h with h|⟨j,hj,mj⟩
       .exact h (V x aa)
       .rcases aa with ⟨i',mi⟩|hz
        .by_cases I:i'∈ks
         .rw [(gK i' I).1]at mi;simp at mi
         .have a7:x∈g.O i':=by simpa [g',I]using mi
          exact hI.apart j i' (fun e=>I (e ▸ hj)) x (by simp [mj]) (by simp [a7])
        .exact hI.nz (k:=j) (by simp [mj]) hz
    .rw [gk.1,gk.2]
     simp only[AR,AU]
     refine ⟨fun mb=>?_,?_⟩
     .split at mb
      .rcases l b mb with h|h
       .exact R h
       .exact Q h
      .simp at mb
     .split
      .rename_i hd
       obtain ⟨e1,e2⟩:=aj hd
       have hL:L.Nodup:=by
        rcases o5 with ⟨_,o5⟩|⟨q',_⟩
        .have:=(AL.1 (hI.nodup q)).2.1
         rw [o5]at this;exact this
        .omega
       have hM:M.Nodup:=(hI.nodupF E.2).sublist (y2.1 e2)
       have ao:∀x∈L,x∉M:=fun x h1 h2=>by
        obtain ⟨j,hj,mj⟩:=ah x ((y2.1 e2).subset h2)
        rcases o5 with ⟨_,o5⟩|⟨q',_⟩
        .exact hI.apart q j (fun e=>E.1 (e ▸ hj)) x (by rw [o5];simp [h1]) mj
        .omega
       have ap:=hL.sublist q2
       rw [AL]at ap ⊢
       obtain ⟨n1,n2,n3⟩:=ap
       refine ⟨n1,AL.2 ⟨hM,n2,fun x h1 y h2 e=>ao y (q2.subset (by simp [h2])) (e ▸ h1)⟩,fun x h1 y h2 e=>?_⟩
       rcases A4.1 h2 with h2|h2
       .exact ao x (q2.subset (by simp [h1])) (e ▸ h2)
       .exact n3 x h1 y h2 e
      .simp
    .rcases A4.1 mx with mx|mx
     .rw [gk.1]at mx
      simp only[BL]at mx
      subst mx
      exact ⟨(hI.plain q x (by simp [B])).1,_,_,r1⟩
     .exact al x mx
   .have aq:q∈ks:=hq.resolve_left X
    obtain ⟨e2,e3⟩:=gK q aq
    rw [v,if_neg X,if_pos aq,e2,e3]
    exact ⟨⟨e2,e3⟩,yG,yG,yG⟩
 .rw [v]
  split
  .trivial
  .split
   .trivial
   .exact (hU.ob q).mono fun _=>.inl
 .rw [v,if_neg (by rintro rfl;exact hq (.inl a3))]
  split
  .rfl
  .exact hU.gone q fun h=>hq (.inl h)
end
end
section
open Go.RowKit
section
variable {P:Program} {W:QO} {U:Nat->Prop} {key:Nat} {st:St} {g:Gh} {w w':World} {a:Act} {tt:Nat->Option TI}
theorem Zuh [NW] {α:Type}(f:Nat->α) (k:Nat):upd f k (f k)=f:=by
 funext j;by_cases hj:j=k
 .subst hj;rw [ZF]
 .rw [ZO _ _ hj]
theorem AVR.less [NW] {g1:Gh}{x:AV}{v:Value}(h:AVR g w x v) (hv:g1.val=g.val) (ho:X0 g1 g):AVR g1 w x v:=by
 cases x with
 |c x=>obtain ⟨L,h1,h2⟩:=h;exact ⟨L,h1,fun b mb hb=>h2 b mb (ho.own b hb)⟩
 |n x=>exact NR.move h (fun _ _ _=>rfl) (ho.grow _)
 |row k=>exact ⟨h.1.trans (by rw [hv]),h.2⟩
 |nil e m=>exact h
 |dead=>exact h
theorem SVR.less [NW] {g1:Gh}{x:SV}{v:Value}(h:SVR g w x v) (hv:g1.val=g.val) (ho:X0 g1 g):SVR g1 w x v:=
 h.move (U:=fun _=>True) (by (cases x<;>try trivial);(intro y my;cases y<;>trivial);(intro y my z mz;cases z<;>trivial)) (fun k _=>by rw [hv]) (fun _ _ _=>rfl) (ho.grow _) (AF _)
theorem Zj0 [NW] {ob:Nat->Ob}(hI:HI W g ob w) (k:Nat):∃g1:Gh,HI W g1 (upd ob k (Yq (ob k))) w/\g1.val=g.val/\X0 g1 g/\((∃e m xs d,ob k=.row e m xs d)->∀b∈g.O k++g.D k,¬g1.low b):=by
 cases hk:ob k with
 |gone=>exact ⟨g,by rw [show Yq Ob.gone=ob k from hk.symm,Zuh];exact hI,rfl,X0.refl _,yG⟩
 |box t cs=>exact ⟨g,by rw [show Yq (Ob.box t cs)=ob k from hk.symm,Zuh];exact hI,rfl,X0.refl _,yG⟩
 |map kk vk kv=>exact ⟨g,by rw [show Yq (Ob.map kk vk kv)=ob k from hk.symm,Zuh];exact hI,rfl,X0.refl _,yG⟩
 |row e m xs d=>
  obtain ⟨hm,cs,L,o1,o2,o3,o5⟩:=hI.deep hk
  let g1:Gh:=⟨g.val,upd g.O k [],upd g.D k [],g.Z⟩
  have hO:∀j b,b∈g1.O j->j≠k/\b∈g.O j:=fun j b mb=>by
   by_cases hj:j=k
   .subst hj;simp [g1,upd]at mb
   .exact ⟨hj,by simpa [g1,upd,hj]using mb⟩
  have hD:∀j b,b∈g1.D j->j≠k/\b∈g.D j:=fun j b mb=>by
   by_cases hj:j=k
   .subst hj;simp [g1,upd]at mb
   .exact ⟨hj,by simpa [g1,upd,hj]using mb⟩
  have l:∀j b,b∈g1.O j++g1.D j->j≠k/\b∈g.O j++g.D j:=fun j b mb=>by
   rcases A4.1 mb with m1|m1
   .exact ⟨(hO j b m1).1,by simp [(hO j b m1).2]⟩
   .exact ⟨(hD j b m1).1,by simp [(hD j b m1).2]⟩
  have a:∀b,g1.own b->g.own b:=fun b hb=>by
   rcases hb with ⟨j,mj⟩|hz
   .exact .inl ⟨j,(hO j b mj).2⟩
   .exact .inr hz
  have f:X0 g1 g:=.of a fun j b mb=>⟨j,(hD j b mb).2⟩
  have o:∀b∈(g.val k).ownBlock.toList,¬g1.own b:=fun b mb hb=>by
   rcases o5 with ⟨_,q,_⟩|⟨_,q,_⟩|⟨_,_,_,q⟩
   .have mk:b∈g.O k++g.D k:=by simp [q,mb]
    rcases hb with ⟨j,mj⟩|hz
    .exact hI.apart k j (fun e=>(hO j b mj).1 e.symm) b mk (by simp [(hO j b mj).2])
    .exact hI.nz mk hz
   .have mk:b∈g.O k++g.D k:=by simp [q,mb]
    rcases hb with ⟨j,mj⟩|hz
    .exact hI.apart k j (fun e=>(hO j b mj).1 e.symm) b mk (by simp [(hO j b mj).2])
    .exact hI.nz mk hz
   .exact q b mb (a b hb)
  refine ⟨g1,⟨hI.below,fun j=>?_,fun j=>?_,fun i j p b mb mj=>?_,fun j b mb=>?_,hI.gz,hI.zx,hI.nw,fun j b mb=>hI.oy j b (hO j b mb).2⟩,rfl,f,fun _ b mb hb=>?_⟩
  rotate_right
  .rcases hb with (⟨j,mj⟩|hz)|⟨j,mj⟩
   .exact hI.apart k j (fun e=>(hO j b mj).1 e.symm) b mb (by simp [(hO j b mj).2])
   .exact hI.nz mb hz
   .exact hI.apart k j (fun e=>(hD j b mj).1 e.symm) b mb (by simp [(hD j b mj).2])
  .by_cases hj:j=k
   .subst hj
    rw [ZF]
    refine ⟨hm,cs,L,o1,o2,.inr (.inr ⟨rfl,by simp [g1,upd],by simp [g1,upd],fun b mb=>?_⟩)⟩
    rcases A4.1 mb with m1|m1
    .exact o b m1
    .exact fun hb=>o3 b m1 (a b hb)
   .rw [ZO _ _ hj]
    have ho:=hI.obs j
    cases hoj:ob j with
    |gone=>rw [hoj]at ho;exact ⟨by simpa [g1,upd,hj]using ho.1,by simpa [g1,upd,hj]using ho.2⟩
    |box t ds=>
     rw [hoj]at ho
     obtain ⟨b,vs,h1,h2,h3,h4,h5⟩:=ho
     exact ⟨b,vs,h1,by simpa [g1,upd,hj]using h2,by simpa [g1,upd,hj]using h3,h4,h5.mono fun x u _ hx=>AVR.less hx rfl f⟩
    |map kk vk kv=>
     rw [hoj]at ho
     obtain ⟨b,es,c,h1,h2,h3,h4⟩:=ho
     exact ⟨b,es,c,h1,by simpa [g1,upd,hj]using h2,by simpa [g1,upd,hj]using h3,h4⟩
    |row e' m' xs' d'=>
     rw [hoj]at ho
     obtain ⟨v,y,L',p1,p2,p3⟩:=ho
     refine ⟨v,y,L',p1,p2,?_⟩
     have e1:g1.O j=g.O j:=by simp [g1,upd,hj]
     have e2:g1.D j=g.D j:=by simp [g1,upd,hj]
     rw [e1,e2]
     rcases p3 with p3|⟨q1,q2,q3,q4⟩|⟨q1,q2,q3,q4⟩
     .exact .inl p3
     .exact .inr (.inl ⟨q1,q2,q3,fun b mb hb=>q4 b mb (a b hb)⟩)
     .exact .inr (.inr ⟨q1,q2,q3,fun b mb hb=>q4 b mb (a b hb)⟩)
  .by_cases hj:j=k
   .subst hj;simp [g1,upd]
   .have:=hI.nodup j;simpa [g1,upd,hj]using this
  .exact hI.apart i j p b (l i b mb).2 (l j b mj).2
  .rw [ZO _ _ (l j b mb).1];exact hI.plain j b (l j b mb).2
theorem ZyV [NW] {ob:Nat->Ob}(hI:HI W g ob w) {k t:Nat}{cs:List AV}(hk:ob k=.box t cs):∃g1:Gh,HI W g1 (upd ob k .gone) w/\g1.val=g.val/\X0 g1 g/\∃b vs,g.val k=.pointer (some ⟨b,0,none⟩)/\¬g1.own b/\b<w.heap.size/\ZbF w b 0 vs/\ZI (AVR g w) cs vs:=by
 have ho:=hI.obs k
 rw [hk]at ho
 obtain ⟨b,vs,h1,h2,h3,h4,h5⟩:=ho
 let g1:Gh:=⟨g.val,upd g.O k [],upd g.D k [],g.Z⟩
 have hO:∀j x,x∈g1.O j++g1.D j->j≠k/\x∈g.O j++g.D j:=fun j x mx=>by
  by_cases hj:j=k
  .subst hj;simp [g1,upd]at mx
  .exact ⟨hj,by simpa [g1,upd,hj]using mx⟩
 have a:∀x,g1.own x->g.own x/\x≠b:=fun x hx=>by
  rcases hx with ⟨j,mj⟩|hz
  .have:=hO j x (by simp [mj])
   refine ⟨.inl ⟨j,?_⟩,fun e=>?_⟩
   .have hj:=this.1
    simpa [g1,upd,hj]using mj
   .subst e
    exact hI.apart j k this.1 x this.2 (by simp [h2])
  .exact ⟨.inr hz,fun e=>by subst e;exact hI.nz (k:=k) (by simp [h2]) hz⟩
 have d:X0 g1 g:=.of (fun x hx=>(a x hx).1) fun j b mb=>⟨j,by
  have hj:=(hO j b (by simp [mb])).1
  simpa [g1,upd,hj]using mb⟩
 refine ⟨g1,⟨hI.below,fun j=>?_,fun j=>?_,fun i j f x mx mj=>?_,fun j x mx=>?_,hI.gz,hI.zx,hI.nw,fun j x mx=>by
  by_cases hj:j=k
  .subst hj;simp [g1,upd]at mx
  .exact hI.oy j x (by simpa [g1,upd,hj]using mx)⟩,rfl,d,b,vs,h1,fun hb=>(a b hb).2 rfl,(Ae.1 h4).1,fun j u hj=>?_,h5⟩
 .by_cases hj:j=k
  .subst hj;rw [ZF];exact ⟨by simp [g1,upd],by simp [g1,upd]⟩
  .rw [ZO _ _ hj]
   have ho:=hI.obs j
   have e1:g1.O j=g.O j:=by simp [g1,upd,hj]
   have e2:g1.D j=g.D j:=by simp [g1,upd,hj]
   cases hoj:ob j with
   |gone=>rw [hoj]at ho;exact ⟨e1.trans ho.1,e2.trans ho.2⟩
   |box t ds=>
    rw [hoj]at ho
    obtain ⟨b,vs,h1,h2,h3,h4,h5⟩:=ho
    exact ⟨b,vs,h1,e1.trans h2,e2.trans h3,h4,h5.mono fun x u _ hx=>AVR.less hx rfl d⟩
   |map kk vk kv=>
    rw [hoj]at ho
    obtain ⟨b,es,c,h1,h2,h3,h4⟩:=ho
    exact ⟨b,es,c,h1,e1.trans h2,e2.trans h3,h4⟩
   |row e' m' xs' d'=>
    rw [hoj]at ho
    obtain ⟨l,m,L',p1,p2,p3⟩:=ho
    refine ⟨l,m,L',p1,p2,?_⟩
    rw [e1,e2]
    rcases p3 with p3|⟨q1,q2,q3,q4⟩|⟨q1,q2,q3,q4⟩
    .exact .inl p3
    .exact .inr (.inl ⟨q1,q2,q3,fun b mb hb=>q4 b mb (a b hb).1⟩)
    .exact .inr (.inr ⟨q1,q2,q3,fun b mb hb=>q4 b mb (a b hb).1⟩)
 .by_cases hj:j=k
  .subst hj;simp [g1,upd]
  .have:=hI.nodup j;simpa [g1,upd,hj]using this
 .exact hI.apart i j f x (hO i x mx).2 (hO j x mj).2
 .rw [ZO _ _ (hO j x mx).1];exact hI.plain j x (hO j x mx).2
 .rw [AT,cell_of_row w b j vs.toArray t (0,0) h4];simpa using hj
theorem Zsh [NW] {ob:Nat->Ob}(hI:HI W g ob w) {k e m:Nat}{xs:List (List CT)}(hk:ob k=.row e m xs 0):∃L,RC w (.sl e m xs) (g.val k) L/\∀b∈L,¬g.own b:=by
 obtain ⟨hm,cs,L1,o1,o2,o3,o5⟩:=hI.deep hk
 obtain ⟨A,cap,L0,s1,s2,s3,s4,s5⟩:=Sl.row o1
 refine ⟨L0++L1,⟨A,cap,cs,L0,L1,s1,s2,s3,rfl,hm,s4,o2⟩,fun b mb=>?_⟩
 rcases A4.1 mb with m1|m1
 .rcases o5 with ⟨q,_⟩|⟨q,_⟩|⟨_,_,_,q⟩
  .omega
  .omega
  .exact q b (s5.subset m1)
 .exact o3 b m1
theorem REs.dropS {m:Nat}:∀{xs:List (List CT)}{cs:List Value}{L:List Nat}(l:Nat),REs w m xs cs L->∃L',REs w m (xs.drop l) (cs.drop (l*m)) L'/\L'.Sublist L
 |xs,cs,L,0,h=>⟨L,by simpa using h,AE _⟩
 | [],cs,L,l+1,h=>⟨[],by obtain ⟨rfl,rfl⟩:=h;simp [REs],AQ _⟩
 |x::r,_,_,l+1,⟨c1,c2,L1,L2,rfl,rfl,h3,h4⟩=>by
  obtain ⟨L',h5,h6⟩:=REs.dropS l h4
  refine ⟨L',?_,h6.trans (BJ _ _)⟩
  have e:(l+1)*m=c1.length+l*m:=by rw [h3.2,AC];omega
  have e2:(c1++c2).drop (c1.length+l*m)=c2.drop (l*m):=by
   rw [Ag,Ah (Au _ _),Ai,AZ]
  rw [e,e2]
  simpa using h5
theorem Zy8 [NW] (htt:∀t i,tt t=some i->TOk P t i) (hI:HI W g st.ob w) (hU:StU U st) (c:¬U key) {t k e m d l:Nat}{xs:List (List CT)}(hk:st.ob k=.row e m xs d) (E:¬d=0) (a:ZkA (tt t)=m) {lo:Option SV}{vx:Value}{vlo:Option Value}(hl:loB xs.length lo=some l) (hx:SVR g w (.p false [.row k]) vx)
  (F:Zm5 g w lo vlo) {s:Sem Next} (hs:s=(do pure (.value (<-Instr.sliceAt t vx vlo none none)))):Fin P W U key st g w s (.p false [.row key],[(k,.gone),(key,.row e m (xs.drop l) d)]):=by
 obtain ⟨hm,cs,L,o1,o2,o3,o4,o5⟩:=hI.deepO hk E
 have hv:=Zgz hx
 subst hv
 obtain ⟨A,cap,hv,G,hcm⟩:=Y2 o1
 obtain ⟨b1,b2,_⟩:=Zja (P:=P) (w:=w) (g:=g) (b:=true) (len:=xs.length) (cap:=cap) (h:=xs.length) (hi:=none) (vhi:=none) rfl hl F trivial G
 obtain ⟨e',b',z',H⟩:∃e' b' z',tt t=some (.slice e' m b' z'):=by
  unfold ZkA at a
  split at a
  .rename_i h1;subst a;exact ⟨_,_,_,h1⟩
  .omega
 obtain ⟨hu,_,_,⟨ie,zv,I,J,_⟩,_⟩:=htt t _ H
 have hO:g.O k=(Value.slice A xs.length cap).ownBlock.toList:=by rw [o4,hv]
 have f:=o1
 rw [hv]at f
 obtain ⟨t1,t2⟩:=Zug (l:=l) f b2
 generalize hw:(Value.slice (if cap=l then A else A.map (·.add (l*m))) (xs.length - l) (cap - l))=v' at t1 t2
 have u:s.run P w=.ok (.value v') w:=by
  subst hs
  have:(Instr.sliceAt t (.slice A xs.length cap) vlo none none).run P w=.ok v' w:=by
   rw [<-hw]
   simp [Instr.sliceAt,YV hu,Instr.slice,b1,Xs I,J]
  rw [hv]
  simp only[Sem.run_bind,this,Result.andThen_ok,Sem.run_pure]
 obtain ⟨M,r1,r2⟩:=o2.dropS l
 have K:U k:=Classical.byContradiction fun hn=>by have:=hU.gone _ hn;rw [hk]at this;simp at this
 have x:∀b∈(if d=2 then M else []),b∈g.D k:=fun b mb=>by
  split at mb
  .rename_i hd
   rcases o5 with ⟨_,q⟩|⟨q,_⟩
   .rw [q];exact r2.subset mb
   .omega
  .simp at mb
 have z:(xs.drop l).length=xs.length - l:=by simp
 obtain ⟨i1,i2⟩:=hI.turn (key:=key) (U:=U) (w':=w) (v:=v') (O:=v'.ownBlock.toList) (D:=if d=2 then M else []) (o:=.row e m (xs.drop l) d) hU.ob c [k]
  (fun j mj=>by simp at mj;subst mj;exact K) hI.below (AF _) (fun b hb hn=>rfl)
  (fun b mb=>.inl ⟨k,yG,by rw [hO,<-t2];exact mb⟩)
  (fun b mb=>.inl ⟨k,yG,A4.2 (.inr (x b mb))⟩)
  (by
   have hn:=hI.nodup k
   refine hn.sublist (AH (by rw [hO,<-t2];exact AE _) ?_)
   split
   .rename_i hd
    rcases o5 with ⟨_,q⟩|⟨q,_⟩
    .rw [q];exact r2
    .omega
   .exact AQ _)
  (fun b mb=>by
   have B:b∈g.O k++g.D k:=by
    rcases A4.1 mb with mb|mb
    .exact A4.2 (.inl (by rw [hO,<-t2];exact mb))
    .exact A4.2 (.inr (x b mb))
   obtain ⟨p1,p2⟩:=hI.plain k b B
   exact ⟨p1,p2.of (by rw [hk];rfl)⟩)
  (fun hown=>⟨hm,cs.drop (l*m),M,by simp only[Gh.turn,ZF];rw [z];exact t1,r1,by
   rcases o5 with ⟨q,_⟩|⟨q,_⟩
   .exact .inl ⟨q,by simp [Gh.turn,ZF],by simp [Gh.turn,q]⟩
   .refine .inr (.inl ⟨q,by simp [Gh.turn,ZF],by simp [Gh.turn,q],fun b mb ho=>?_⟩)
    rcases ZfL ho with mo|⟨j,_,_,mj⟩|hz
    .exact o3 b (r2.subset mb) (.inl ⟨k,by rw [hO,<-t2];exact mo⟩)
    .exact o3 b (r2.subset mb) (.inl ⟨j,mj⟩)
    .exact o3 b (r2.subset mb) (.inr hz)⟩)
 have C:=ZjG (key:=key) (o:=.row e m (xs.drop l) d) hU [k] trivial
 refine ⟨_,v',w,.inl u,i1,⟨_,rfl,⟨by simp [Gh.turn,ZF],?_⟩⟩,i2,fun y my=>by simp at my;subst my;exact ZkK,C.1,C.2⟩
 rw [<-hw]
 simp [Value.oneCell']
theorem Zwz [NW] (htt:∀t i,tt t=some i->TOk P t i) (hI:HI W g st.ob w) (hU:StU U st) (o:¬U key) {t:Nat}{x:SV}{r:SV×List (Nat×Ob)}{lo hi:Option SV}{vx:Value}{vlo vhi:Option Value}(h:ZaJ st key (tt t) lo hi x=some r) (hx:SVR g w x vx)
  (a:Zm5 g w lo vlo) (b:Zm5 g w hi vhi) {s:Sem Next} (hs:s=(do pure (.value (<-Instr.sliceAt t vx vlo vhi none)))):Fin P W U key st g w s r:=by
 unfold ZaJ at h
 split at h
 .rename_i k
  split at h
  rotate_left
  .simp at h
  split at h
  .rename_i e m xs d hk
   split at h
   .rename_i u
    split at h
    .rename_i f
     obtain ⟨l,hl,rfl⟩:=A9.1 h
     unfold mvS at f
     split at f
     .have A:¬d=0:=fun e=>by subst e;simp at f
      cases vhi with
      |some _=>exact b.elim
      |none=>exact Zy8 htt hI hU o hk A u hl hx a hs
     .simp at f
    obtain ⟨q,hq,h⟩:=AB.1 h
    obtain ⟨l,hl,rfl⟩:=A9.1 h
    obtain ⟨g1,i1,i2,i3,_⟩:=Zj0 hI k
    rw [hk]at i1
    obtain ⟨L,t1,t2⟩:=Zsh i1 (ZF st.ob k (.row e m xs 0))
    have B:vx=g1.val k:=by rw [i2];exact Zgz hx
    have C:SVR g1 w (.p false [.c (.sl e m xs)]) vx:=⟨_,rfl,L,B ▸ t1,t2⟩
    have D:Zm5 g1 w lo vlo:=by
     cases lo<;>cases vlo<;>simp only[Zm5]at a ⊢
     exact a.less i2 i3
    have E:Zm5 g1 w hi vhi:=by
     cases hi<;>cases vhi<;>simp only[Zm5]at b ⊢
     exact b.less i2 i3
    obtain ⟨cv,c1,c2,c3⟩:=Ztp (t:=t) (U:=U) (g:=g1) (P:=P) (x:=.p false [.c (.sl e m xs)]) (v:=.p false [.c (.sl e m ((xs.take q).drop l))]) htt (by simp only[Zm1,u,if_true,hq,hl,A0,Aq]) C D E
    have F:U k:=Classical.byContradiction fun hn=>by have:=hU.gone _ hn;rw [hk]at this;simp at this
    refine ⟨g1,cv,w,.inl (by rw [hs];simp only[Sem.run_bind,c1,Result.andThen_ok,Sem.run_pure]),i1,c2,fun y v _ hy=>hy.less i2 i3,c3.mono fun _=>.inl,fun j=>?_,fun j hj=>?_⟩
    .show obU _ (upd st.ob k (.row e m xs 0) j)
     by_cases z:j=k
     .subst z;rw [ZF];trivial
     .rw [ZO _ _ z];exact (hU.ob j).mono fun _=>.inl
    .show upd st.ob k (.row e m xs 0) j=_
     rw [ZO _ _ (show j≠k from fun e=>hj (.inl (e ▸ F)))];exact hU.gone j fun h=>hj (.inl h)
   .simp at h
  .simp at h
 .obtain ⟨v,hv,rfl⟩:=A9.1 h
  obtain ⟨cv,c1,c2,c3⟩:=Ztp (U:=U) htt hv hx a b
  exact Zbf hI hU (by rw [hs];simp only[Sem.run_bind,c1,Result.andThen_ok,Sem.run_pure]) c2 c3
 .simp at h
end
end
end Go.Proofs.YtaafhjecikjhbaaGreatDoor
