/- A part of the proof; no conditions. -/
import Derived.Test.YtlpkbfjcdaanmaaGreatDoorMissedQ4
import Derived.Laws.CopyRow
import Derived.Laws.OwnMore
import Derived.Laws.StructEq
import Derived.Laws.Tables
import Derived.Great.BuildSlice
import Derived.MapKept
open Array renaming getElem?_eq_some_iff→AP
open Bool renaming and_eq_true→AE
open Go.ByteArray renaming toList_eq→As
open Int renaming toNat→A6,toNat_natCast→AJ
open List renaming mem_append→A3,mem_flatMap→AB,mem_cons→AC,nodup_append→AI,getElem?_eq_getElem→AK,mem_of_mem_drop→AL,nil_sublist→AM,singleton_append→AN,eq_nil_of_length_eq_zero→AQ,getElem?_eq_some_iff→AR,replicate→AT,flatMap_cons→AU,length_cons→AW,mem_of_mem_take→AX,drop_append→AZ,drop_of_length_le→Aa,nodup_cons→Ac,mem_map→Af,mem_of_getElem?→Ag,nil_append→Ak,append_nil→Al,getElem_mem→Am,length_map→Aq,map_cons→At,getElem?_take→Au,getElem?_drop→Aw,take_length_add_append→Ax,drop_take→Ay,flatMap_append→Az,take_left'→B2,replicate_succ→B3,flatten_cons→B4,map_append→B5,all_cons→B7,sublist_append_right→B8,take_succ_cons→B9,cons_append→BB,drop_succ_cons→BC,drop_append_of_le_length→BE
open List.Sublist renaming refl→AF,append→AG
open List.cons renaming inj→Ad
open Nat renaming add_mul→A9,le_refl→AA,add_assoc→AD,zero_le→AH,zero_add→AS,add_sub_cancel_left→Ab,le_trans→Ae,mul_le_mul_right→Ah,le_add_right→Aj,lt_of_lt_of_le→Ar,mul_le_mul→B6
open Option renaming bind_some→A0,map_eq_some_iff→A5,bind_eq_some_iff→A8,map_some→AY
open Option.some renaming injEq→A4
open Prod.mk renaming injEq→A7
open UInt8 renaming ofNat→AO
set_option linter.unusedSimpArgs false
set_option linter.unusedVariables false
set_option maxRecDepth 1000000
set_option maxHeartbeats 4000000
namespace Go.Proofs.YtlpkbfjcdaanmaaGreatDoor
open Go.IntKind (i64)
noncomputable section
theorem yO{p:Prop}(h:p:=by kernel_rfl):p:=h
theorem yP{α:Type}{a:Option α}{b c:α}(h:a=some b)(e:b=c:=by kernel_rfl):a=some c:=h.trans (congrArg some e)
section
/- one computation is another one wherever it comes to an end -/
def Ref {α:Type}(a b:Option α):Prop:=∀r,a=some r->b=some r
theorem Ref.refl {α:Type}(a:Option α):Ref a a:=fun _ h=>h
theorem Ref.bind {α β:Type}{a b:Option α}{f g:α->Option β}(h:Ref a b) (k:∀x,Ref (f x) (g x)):Ref (a.bind f) (b.bind g):=fun r hr=>by
 obtain ⟨x,h1,h2⟩:=A8.1 hr;rw [h x h1,A0];exact k x r h2
theorem Ref.ite {α:Type}{c:Prop}[Decidable c] {a b a' b':Option α}(h:Ref a a') (k:Ref b b'):Ref (if c then a else b) (if c then a' else b'):=by
 split
 .exact h
 .exact k
theorem Ref.chk {α:Type}{p:Prop}[Decidable p] {a b:Option α}(h:Ref a b):Ref (chk p a) (chk p b):=fun r hr=>by
 unfold Go.Proofs.YtlpkbfjcdaanmaaGreatDoor.chk at hr ⊢;split at hr
 .rename_i hp;rw [if_pos hp];exact h r hr
 .simp at hr
theorem Ref.forL {α σ ρ:Type}{body a:Nat->α->σ->Option (σ ⊕ ρ)}{fin b:σ->Option ρ}(h:∀i x s,Ref (body i x s) (a i x s)) (k:∀s,Ref (fin s) (b s)):∀(l:List α) (i:Nat) (s:σ),Ref (forL body fin l i s) (forL a b l i s)
 | [],_,s=>k s
 |x::l,i,s=>fun r hr=>by
  cases e:body i x s with
  |none=>simp only[Go.Proofs.YtlpkbfjcdaanmaaGreatDoor.forL,e]at hr;simp at hr
  |some y=>
   cases y with
   |inl s'=>
    rw [Z4 e]at hr;rw [Z4 (h i x s _ e)];exact Ref.forL h k l (i+1) s' r hr
   |inr q=>
    rw [YF e]at hr;rw [YF (h i x s _ e)];exact hr
theorem Ref.iter {σ ρ:Type}{body a:σ->Option (σ ⊕ ρ)}(h:∀s,Ref (body s) (a s)):∀(n:Nat) (s:σ),Ref (Zdj body n s) (iter a s)
 |0,_=>fun r hr=>by simp [Zdj]at hr
 |n+1,s=>fun r hr=>by
  simp only[Zdj]at hr;cases e:body s with
  |none=>rw [e]at hr;simp at hr
  |some y=>
   rw [e]at hr;cases y with
   |inl s'=>rw [YV (h s _ e)];exact Ref.iter h n s' r hr
   |inr q=>rw [YI (h s _ e)];exact hr
def ZNs (s sep:ByteArray):Nat->Nat->Nat->List ByteArray
 |0,f,_=>[s.extract f s.size]
 |m+1,f,i=>if i+sep.size<=s.size then (if sEq (s.extract i (i+sep.size)) sep=true then s.extract f i::ZNs s sep m (i+sep.size) (i+sep.size) else ZNs s sep m f (i+1)) else [s.extract f s.size]
theorem ZPo {σ ρ:Type}{s sep:ByteArray}(hsep:0<sep.size) (st:List ByteArray->Nat->Nat->σ) (g:List ByteArray->ρ) {body:σ->Option (σ ⊕ ρ)}
  (h1:∀row a i,a<=i->i+sep.size<=s.size->row.length<=i->body (st row a i)=some (.inl (if sEq (s.extract i (i+sep.size)) sep=true then st (row++[s.extract a i]) (i+sep.size) (i+sep.size) else st row a (i+1))))
  (h2:∀row a i,a<=i->i<=s.size->¬i+sep.size<=s.size->row.length<=i->body (st row a i)=some (.inr (g (row++[s.extract a s.size])))):
  iter body (st [] 0 0)=some (g (ZNs s sep s.size 0 0)):=by
 have key:∀m row a i,s.size-i<=m->a<=i->i<=s.size->row.length<=i->iter body (st row a i)=some (g (row++ZNs s sep m a i)):=by
  intro m;induction m with
  |zero=>
   intro row a i hm hf hi hr;exact YI (h2 row a i hf hi yE hr)
  |succ m ih=>
   intro row a i hm hf hi hr;unfold ZNs;by_cases hn:i+sep.size<=s.size
   .rw [YV (h1 row a i hf hn hr),if_pos hn];split
    .rw [ih _ _ _ yE (AA _) hn (by simp;omega),List.append_assoc,AN]
    .exact ih _ _ _ yE yE yE yE
   .rw [if_neg hn];exact YI (h2 row a i hf hi hn hr)
 exact key s.size [] 0 0 yE (AA _) (AH _) (AA _)
theorem ZOY {s sep:ByteArray}(hs:s.size<=1000) (h0:0<sep.size) (h1:sep.size<=10):ZMF s sep=some (ZNs s sep s.size 0 0):=by
 unfold ZMF;rw [if_neg (by rw [ZQ];intro e;rw [e]at h0;exact absurd h0 yF)];refine ZPo h0 (fun row f i=>(row,(f:Int),(i:Int))) (fun l=>l) ?_ ?_
 .intro row f i hf hi hr;have e:i64.wrap ((i:Int)+(sep.size:Int))=((i+sep.size:Nat):Int):=by rw [ZeT yE yE];omega
  have e1:i64.wrap ((i:Int)+1)=((i+1:Nat):Int):=by rw [ZeT yE yE];omega
  simp only[e,e1,AJ];rw [if_pos (by simp;omega),Zj _ yE];split
  .rw [Zj _ yE,Zj _ yE]
  .rfl
 .intro row f i hf hi hn hr;have e:i64.wrap ((i:Int)+(sep.size:Int))=((i+sep.size:Nat):Int):=by rw [ZeT yE yE];omega
  simp only[e,AJ];rw [if_neg (by simp;omega),Zj _ yE,Zj _ yE]
def ZMV (s sep:ByteArray):Option (List ByteArray):=if s.size<=1000/\0<sep.size/\sep.size<=10 then some (ZNs s sep s.size 0 0) else none
theorem ZM5 (s sep:ByteArray):Ref (ZMV s sep) (ZMF s sep):=fun r h=>by
 unfold ZMV at h;split at h
 .rename_i hc;rw [ZOY hc.1 hc.2.1 hc.2.2];exact h
 .simp at h
def ZNG (p:Zx):Option Bool:=some (Z9 p)
theorem ZN7 (p:Zx):Ref (ZNG p) (Xq p):=fun r h=>by rw [ZbD];exact h
def ZOu (x:Zl):Option Bool:=some (Y1 x)
theorem ZO1 (x:Zl):Ref (ZOu x) (Zej x):=fun r h=>by rw [ZeH];exact h
def ZN1 (s:ByteArray):Option (Int×Bool):=some (ZeB s)
theorem ZOh (s:ByteArray):Ref (ZN1 s) (Zag s):=fun r h=>by rw [ZcH];exact h
def ZN2 (r:Zg):Option Bool:=if r.cond.length<=100/\r.thn.length<=100/\(∀x∈r.cond,x.pattern.args.length<=100)/\(∀a∈r.thn,a.pattern.args.length<=100) then some (YP r) else none
theorem ZOR (r:Zg):Ref (ZN2 r) (ZcZ r):=fun x h=>by
 unfold ZN2 at h;split at h
 .rename_i hc;rw [ZeJ r ⟨yE,yE,fun x mx=>by have:=hc.2.2.1 x mx;omega,fun a ma=>by have:=hc.2.2.2 a ma;omega⟩];exact h
 .simp at h
def ZOq (g:ByteArray):Option (ByteArray×(List ByteArray)×Bool):=
 (ZMV g (⟨#[40]⟩)).bind fun f=>
 if ((f.length:Int) != 2)=true then
  some ((⟨#[]⟩),[],false)
 else
  chk (0<=1/\1<(f.length:Int)) <|
  (f[(A6 1)]?).bind fun a=>
  if ((a.size:Int)==0)=true then
   some ((⟨#[]⟩),[],false)
  else
   (sAt a (i64.wrap ((a.size:Int)-1))).bind fun b=>
   if ((b.toNat:Int) != 41)=true then
    some ((⟨#[]⟩),[],false)
   else
    chk (0<=(i64.wrap ((a.size:Int)-1))/\(i64.wrap ((a.size:Int)-1))<=(a.size:Int)) <|
    if (sEq (a.extract 0 (A6 (i64.wrap ((a.size:Int)-1)))) ⟨#[]⟩)=true then
     chk (0<=0/\0<(f.length:Int)) <|
     (f[(A6 0)]?).bind fun c=>
     some (c,[],true)
    else
     chk (0<=0/\0<(f.length:Int)) <|
     (f[(A6 0)]?).bind fun d=>
     (ZMV (a.extract 0 (A6 (i64.wrap ((a.size:Int)-1)))) (⟨#[44]⟩)).bind fun e=>
     some (d,e,true)
def ZMY (c:ByteArray):Option (Zx×Bool):=
 (ZOq c).bind fun b=>
 if b.2.2=true then
  (ZNG ({rel:=b.1,args:=b.2.1}:Zx)).bind fun a=>
  if a=true then
   some (({rel:=b.1,args:=b.2.1}:Zx),true)
  else
   some (({rel:=(⟨#[]⟩),args:=[]}:Zx),false)
 else
  some (({rel:=(⟨#[]⟩),args:=[]}:Zx),false)
def ZOW (a:ByteArray):Option (Zl×Bool):=
 (fun body s=>Zdj body 5 s)
  (fun b=>
   if (decide (b<=5))=true then
    (ZHq b).bind fun j=>
    (ZMV a j).bind fun c=>
    if ((c.length:Int)==2)=true then
     chk (0<=0/\0<(c.length:Int)) <|
     (c[(A6 0)]?).bind fun d=>
     chk (0<=1/\1<(c.length:Int)) <|
     (c[(A6 1)]?).bind fun e=>
     (ZOu ({kind:=b,pattern:=({rel:=(⟨#[]⟩),args:=[]}:Zx),left:=d,right:=e}:Zl)).bind fun k=>
     if k=true then
      some (.inr (({kind:=b,pattern:=({rel:=(⟨#[]⟩),args:=[]}:Zx),left:=d,right:=e}:Zl),true))
     else
      some (.inl (i64.wrap (b+1)))
    else
     some (.inl (i64.wrap (b+1)))
   else
    if (decide (4<(a.size:Int)))=true then
     chk (0<=4/\4<=(a.size:Int)) <|
     if (sEq (a.extract 0 (A6 4)) ⟨#[110,111,116,32]⟩)=true then
      (ZMY (a.extract (A6 4) a.size)).bind fun f=>
      if f.2=true then
       some (.inr (({kind:=2,pattern:=f.1,left:=(⟨#[]⟩),right:=(⟨#[]⟩)}:Zl),true))
      else
       some (.inr (({kind:=0,pattern:=({rel:=(⟨#[]⟩),args:=[]}:Zx),left:=(⟨#[]⟩),right:=(⟨#[]⟩)}:Zl),false))
     else
      (ZMY a).bind fun g=>
      if g.2=true then
       some (.inr (({kind:=1,pattern:=g.1,left:=(⟨#[]⟩),right:=(⟨#[]⟩)}:Zl),true))
      else
       some (.inr (({kind:=0,pattern:=({rel:=(⟨#[]⟩),args:=[]}:Zx),left:=(⟨#[]⟩),right:=(⟨#[]⟩)}:Zl),false))
    else
     (ZMY a).bind fun i=>
     if i.2=true then
      some (.inr (({kind:=1,pattern:=i.1,left:=(⟨#[]⟩),right:=(⟨#[]⟩)}:Zl),true))
     else
      some (.inr (({kind:=0,pattern:=({rel:=(⟨#[]⟩),args:=[]}:Zx),left:=(⟨#[]⟩),right:=(⟨#[]⟩)}:Zl),false)))
  3
def ZNQ (g:ByteArray):Option (Zu×Bool):=
 if (sEq g ⟨#[115,116,111,112]⟩)=true then
  some (({kind:=3,pattern:=({rel:=(⟨#[]⟩),args:=[]}:Zx)}:Zu),true)
 else
  (ZMV g (⟨#[32]⟩)).bind fun f=>
  if ((f.length:Int) != 2)=true then
   some (({kind:=0,pattern:=({rel:=(⟨#[]⟩),args:=[]}:Zx)}:Zu),false)
  else
   chk (0<=0/\0<(f.length:Int)) <|
   (f[(A6 0)]?).bind fun a=>
   if (sEq a ⟨#[97,100,100]⟩)=true then
    chk (0<=1/\1<(f.length:Int)) <|
    (f[(A6 1)]?).bind fun d=>
    (ZMY d).bind fun b=>
    some (({kind:=1,pattern:=b.1}:Zu),b.2)
   else
    if (sEq a ⟨#[100,114,111,112]⟩)=true then
     chk (0<=1/\1<(f.length:Int)) <|
     (f[(A6 1)]?).bind fun e=>
     (ZMY e).bind fun c=>
     some (({kind:=2,pattern:=c.1}:Zu),c.2)
    else
     some (({kind:=0,pattern:=({rel:=(⟨#[]⟩),args:=[]}:Zx)}:Zu),false)
def ZOk (h:Zg) (j:ByteArray) (k:ByteArray):Option (Zg×Bool):=
 (ZMV j (⟨#[32,38,32]⟩)).bind fun l=>
 forL (σ:=(List Zl))
  (fun (m:Nat) (e:ByteArray) a=>
   (ZOW e).bind fun c=>
   if c.2=true then
    chk (a.length+1<=1073741824) <|
    some (.inl (a++[c.1]))
   else
    some (.inr (({name:=h.name,priority:=h.priority,cond:=a,thn:=[]}:Zg),false)))
  (fun a=>
   (ZMV k (⟨#[32,38,32]⟩)).bind fun f=>
   forL (σ:=(List Zu))
    (fun (n:Nat) (g:ByteArray) b=>
     (ZNQ g).bind fun d=>
     if d.2=true then
      chk (b.length+1<=1073741824) <|
      some (.inl (b++[d.1]))
     else
      some (.inr (({name:=h.name,priority:=h.priority,cond:=a,thn:=b}:Zg),false)))
    (fun b=>
     (ZN2 ({name:=h.name,priority:=h.priority,cond:=a,thn:=b}:Zg)).bind fun i=>
     some (({name:=h.name,priority:=h.priority,cond:=a,thn:=b}:Zg),i))
    f 0 [])
  l 0 []
def ZO2 (l:ByteArray):Option (Zg×Bool):=
 (ZMV l (⟨#[58,32]⟩)).bind fun h=>
 if ((h.length:Int) != 2)=true then
  some (({name:=(⟨#[]⟩),priority:=0,cond:=[],thn:=[]}:Zg),false)
 else
  chk (0<=0/\0<(h.length:Int)) <|
  (h[(A6 0)]?).bind fun e=>
  (ZMV e (⟨#[32]⟩)).bind fun a=>
  chk (0<=1/\1<(h.length:Int)) <|
  (h[(A6 1)]?).bind fun f=>
  (ZMV f (⟨#[32,45,62,32]⟩)).bind fun b=>
  if ((a.length:Int) != 2)=true then
   some (({name:=(⟨#[]⟩),priority:=0,cond:=[],thn:=[]}:Zg),false)
  else
   if ((b.length:Int) != 2)=true then
    some (({name:=(⟨#[]⟩),priority:=0,cond:=[],thn:=[]}:Zg),false)
   else
    chk (1<(a.length:Int)) <|
    (a[(A6 1)]?).bind fun g=>
    (ZN1 g).bind fun c=>
    if c.2=true then
     chk (0<(a.length:Int)) <|
     (a[(A6 0)]?).bind fun i=>
     chk (0<(b.length:Int)) <|
     (b[(A6 0)]?).bind fun j=>
     chk (1<(b.length:Int)) <|
     (b[(A6 1)]?).bind fun k=>
     (ZOk ({name:=i,priority:=c.1,cond:=[],thn:=[]}:Zg) j k).bind fun d=>
     if d.2=true then
      some (d.1,true)
     else
      some (({name:=(⟨#[]⟩),priority:=0,cond:=[],thn:=[]}:Zg),false)
    else
     some (({name:=(⟨#[]⟩),priority:=0,cond:=[],thn:=[]}:Zg),false)
theorem ZO8 (s:ByteArray):Ref (ZOq s) (ZMX s):=by
 unfold ZOq ZMX
 repeat' (first|with_reducible exact Ref.refl _|exact ZM5 _ _|apply Ref.bind|apply Ref.ite|apply Ref.chk|intro _)
theorem ZNI (s:ByteArray):Ref (ZMY s) (ZMy s):=by
 unfold ZMY ZMy
 repeat' (first|with_reducible exact Ref.refl _|exact ZO8 _|exact ZN7 _|apply Ref.bind|apply Ref.ite|intro _)
theorem ZPv (s:ByteArray):Ref (ZOW s) (ZMI s):=by
 unfold ZOW ZMI;refine Ref.iter ?_ 5 3
 repeat' (first|with_reducible exact Ref.refl _|exact ZM5 _ _|exact ZNI _|exact ZO1 _|apply Ref.bind|apply Ref.ite|apply Ref.chk|intro _)
theorem ZOK (s:ByteArray):Ref (ZNQ s) (ZMK s):=by
 unfold ZNQ ZMK
 repeat' (first|with_reducible exact Ref.refl _|exact ZM5 _ _|exact ZNI _|apply Ref.bind|apply Ref.ite|apply Ref.chk|intro _)
theorem ZPl (r:Zg) (a b:ByteArray):Ref (ZOk r a b) (ZMW r a b):=by
 unfold ZOk ZMW;refine Ref.bind (ZM5 _ _) fun _=>Ref.forL (fun _ _ _=>?_) (fun _=>Ref.bind (ZM5 _ _) fun _=>Ref.forL (fun _ _ _=>?_) (fun _=>?_) _ _ _) _ _ _
 .repeat' (first|with_reducible exact Ref.refl _|exact ZPv _|apply Ref.bind|apply Ref.ite|apply Ref.chk|intro _)
 .repeat' (first|with_reducible exact Ref.refl _|exact ZOK _|apply Ref.bind|apply Ref.ite|apply Ref.chk|intro _)
 .exact Ref.bind (ZOR _) fun _=>Ref.refl _
theorem ZPm (s:ByteArray):Ref (ZO2 s) (ZMB s):=by
 unfold ZO2 ZMB
 repeat' (first|with_reducible exact Ref.refl _|exact ZM5 _ _|exact ZOh _|exact ZPl _ _ _|apply Ref.bind|apply Ref.ite|apply Ref.chk|intro _)
def ZOD (s:ByteArray):Bool:=match ZO2 s with|some (r,_)=>decide (1<=r.cond.length)&&decide (1<=r.thn.length)|none=>false
theorem ZPr {s:ByteArray}(h:ZOD s=true):∃r ok,ZMB s=some (r,ok)/\1<=r.cond.length/\1<=r.thn.length:=by
 unfold ZOD at h;split at h
 .rename_i r ok e;rw [AE,decide_eq_true_iff,decide_eq_true_iff]at h;exact ⟨r,ok,ZPm s _ e,h⟩
 .simp at h
theorem ZPe:([(⟨#[114,32,49,58,32,111,110,40,63,120,44,63,121,41,32,38,32,111,110,40,63,121,44,63,122,41,32,45,62,32,97,100,100,32,111,110,40,63,120,44,63,122,41]⟩),(⟨#[114,32,50,58,32,111,110,40,63,120,44,63,121,41,32,38,32,112,40,63,121,41,32,45,62,32,97,100,100,32,112,40,63,120,41]⟩),(⟨#[114,32,48,58,32,112,40,63,120,41,32,38,32,111,110,40,63,120,44,63,121,41,32,38,32,63,120,32,33,61,32,63,121,32,45,62,32,97,100,100,32,97,116,40,63,121,44,63,120,41]⟩),(⟨#[114,32,51,58,32,97,116,40,63,120,44,63,121,41,32,38,32,112,40,63,120,41,32,38,32,112,40,63,121,41,32,38,32,63,120,32,60,32,63,121,32,45,62,32,97,100,100,32,122,40,41]⟩),(⟨#[114,32,52,58,32,111,110,40,63,120,44,97,41,32,45,62,32,97,100,100,32,113,40,63,120,41,32,38,32,97,100,100,32,112,40,97,41]⟩),(⟨#[114,32,49,58,32,97,116,40,63,120,44,63,120,41,32,38,32,113,40,49,41,32,45,62,32,97,100,100,32,111,110,40,63,120,44,49,41]⟩),(⟨#[114,32,49,58,32,112,40,63,120,41,32,38,32,110,111,116,32,113,40,63,120,41,32,45,62,32,97,100,100,32,97,116,40,63,120,44,98,41]⟩),(⟨#[114,32,50,58,32,111,110,40,63,120,44,63,121,41,32,38,32,110,111,116,32,97,116,40,63,121,44,63,122,41,32,45,62,32,97,100,100,32,113,40,63,121,41]⟩),(⟨#[114,32,53,58,32,97,116,40,63,120,44,63,121,41,32,38,32,110,111,116,32,112,40,63,121,41,32,38,32,63,120,32,33,61,32,63,121,32,45,62,32,97,100,100,32,122,40,41]⟩),(⟨#[114,32,57,58,32,113,40,63,120,41,32,38,32,112,40,63,120,41,32,45,62,32,100,114,111,112,32,112,40,63,120,41]⟩),(⟨#[114,32,48,58,32,97,116,40,63,120,44,49,41,32,38,32,97,116,40,63,121,44,50,41,32,38,32,63,120,32,61,32,63,121,32,45,62,32,100,114,111,112,32,97,116,40,63,120,44,49,41,32,38,32,115,116,111,112]⟩),(⟨#[114,32,49,58,32,111,110,40,63,120,44,63,120,41,32,45,62,32,115,116,111,112]⟩),(⟨#[114,32,55,58,32,122,40,41,32,38,32,111,110,40,63,120,44,63,121,41,32,45,62,32,100,114,111,112,32,122,40,41,32,38,32,97,100,100,32,111,110,40,63,121,44,63,120,41]⟩)]:List ByteArray).all ZOD=true:=yO
theorem ZOB:∀s∈([(⟨#[114,32,49,58,32,111,110,40,63,120,44,63,121,41,32,38,32,111,110,40,63,121,44,63,122,41,32,45,62,32,97,100,100,32,111,110,40,63,120,44,63,122,41]⟩),(⟨#[114,32,50,58,32,111,110,40,63,120,44,63,121,41,32,38,32,112,40,63,121,41,32,45,62,32,97,100,100,32,112,40,63,120,41]⟩),(⟨#[114,32,48,58,32,112,40,63,120,41,32,38,32,111,110,40,63,120,44,63,121,41,32,38,32,63,120,32,33,61,32,63,121,32,45,62,32,97,100,100,32,97,116,40,63,121,44,63,120,41]⟩),(⟨#[114,32,51,58,32,97,116,40,63,120,44,63,121,41,32,38,32,112,40,63,120,41,32,38,32,112,40,63,121,41,32,38,32,63,120,32,60,32,63,121,32,45,62,32,97,100,100,32,122,40,41]⟩),(⟨#[114,32,52,58,32,111,110,40,63,120,44,97,41,32,45,62,32,97,100,100,32,113,40,63,120,41,32,38,32,97,100,100,32,112,40,97,41]⟩),(⟨#[114,32,49,58,32,97,116,40,63,120,44,63,120,41,32,38,32,113,40,49,41,32,45,62,32,97,100,100,32,111,110,40,63,120,44,49,41]⟩),(⟨#[114,32,49,58,32,112,40,63,120,41,32,38,32,110,111,116,32,113,40,63,120,41,32,45,62,32,97,100,100,32,97,116,40,63,120,44,98,41]⟩),(⟨#[114,32,50,58,32,111,110,40,63,120,44,63,121,41,32,38,32,110,111,116,32,97,116,40,63,121,44,63,122,41,32,45,62,32,97,100,100,32,113,40,63,121,41]⟩),(⟨#[114,32,53,58,32,97,116,40,63,120,44,63,121,41,32,38,32,110,111,116,32,112,40,63,121,41,32,38,32,63,120,32,33,61,32,63,121,32,45,62,32,97,100,100,32,122,40,41]⟩),(⟨#[114,32,57,58,32,113,40,63,120,41,32,38,32,112,40,63,120,41,32,45,62,32,100,114,111,112,32,112,40,63,120,41]⟩),(⟨#[114,32,48,58,32,97,116,40,63,120,44,49,41,32,38,32,97,116,40,63,121,44,50,41,32,38,32,63,120,32,61,32,63,121,32,45,62,32,100,114,111,112,32,97,116,40,63,120,44,49,41,32,38,32,115,116,111,112]⟩),(⟨#[114,32,49,58,32,111,110,40,63,120,44,63,120,41,32,45,62,32,115,116,111,112]⟩),(⟨#[114,32,55,58,32,122,40,41,32,38,32,111,110,40,63,120,44,63,121,41,32,45,62,32,100,114,111,112,32,122,40,41,32,38,32,97,100,100,32,111,110,40,63,121,44,63,120,41]⟩)]:List ByteArray),ZOD s=true:=fun s ms=>List.all_eq_true.1 ZPe s ms
structure RS (r:Zg):Prop where
 cl:r.cond.length<=200
 tl:r.thn.length<=200
 ca:∀x∈r.cond,x.pattern.args.length<=200
 ta:∀a∈r.thn,a.pattern.args.length<=200
theorem ZNo.rs {s:ByteArray}{r:Zg}(h:ZNo s r) (hs:s.size<=100):RS r:=⟨by have:=h.cl;omega,by have:=h.tl;omega,fun x mx=>by have:=(h.ca x mx).1;omega,fun x mx=>by have:=h.ta x mx;omega⟩
theorem RS.name {r:Zg}(h:RS r) (n:ByteArray) (p:Int):RS {name:=n,priority:=p,cond:=r.cond,thn:=r.thn}:=⟨h.cl,h.tl,h.ca,h.ta⟩
theorem RS.small {r:Zg}(h:RS r):ZaL r:=⟨by have:=h.cl;omega,by have:=h.tl;omega,fun x mx=>by have:=h.ca x mx;omega,fun x mx=>by have:=h.ta x mx;omega⟩
theorem RK.rs {b:Bool}{r:Zg}(h:RK b r):RS r:=by
 obtain ⟨s,h1,_,h3⟩:=h;exact h3.rs h1
theorem ZPf (L:List ByteArray) (N:Nat) (n:Int) (hN:L.length=N) (h0:0<n) (hn:n<=N) (hN2:N<=200) (hs:∀s∈L,s.size<=100) (hg:∀s∈L,ZOD s=true) {c:ZwG}(hc:ZMv c):∃r c',((ZMw c n).bind fun v1=>chk (0<=v1.1/\v1.1<(N:Int)) <| (L[(A6 v1.1)]?).bind fun x2=>(ZMB x2).bind fun v3=>some (v3.1,v1.2))=some (r,c')/\RS r/\1<=r.cond.length/\1<=r.thn.length/\ZMv c':=by
 obtain ⟨x,c',e,hx,hx2,a⟩:=ZMx hc h0 yE;have hl:x.toNat<L.length:=by omega
 have ml:=Am hl;obtain ⟨r,ok,er,hr⟩:=ZNA (s:=L[x.toNat]) (by have:=hs _ ml;omega);obtain ⟨r2,b,d,q1,q2⟩:=ZPr (hg _ ml);obtain ⟨rfl,rfl⟩:r=r2/\ok=b:=by
  have:=Option.some.inj (er.symm.trans d);exact ⟨congrArg Prod.fst this,congrArg Prod.snd this⟩
 refine ⟨r,c',?_,hr.rs (hs _ ml),q1,q2,a⟩;rw [e,A0,Zj _ yE,AK hl,A0,er];rfl
theorem ZNq {c:ZwG}(h:ZMv c) {m:Int}(h0:0<m):∃r c',ZMC c m=some (r,c')/\RS r/\1<=r.cond.length/\1<=r.thn.length/\ZMv c':=by
 unfold ZMC;exact ZPf _ 13 _ rfl (by split<;>omega) (by split<;>omega) yE yF ZOB h
theorem ZNB {c:ZwG}(h:ZMv c):∃x c',ZM3 c=some (x,c')/\ZMv c':=by
 unfold ZM3;obtain ⟨b,c1,e1,h1⟩:=ZNf h (n:=4) yE yE;rw [e1,A0];split
 .obtain ⟨x,c2,e2,h2⟩:=ZNn h1;exact ⟨x,c2,by rw [e2];rfl,h2⟩
 .obtain ⟨x,c2,e2,_,h2⟩:=ZM1 h1 (l:=[(⟨#[63,120]⟩),(⟨#[63,121]⟩),(⟨#[63,122]⟩)]) yG yG;exact ⟨x,c2,by rw [e2];rfl,h2⟩
theorem ZNm {c:ZwG}(h:ZMv c):∃p c',ZMO c=some (p,c')/\p.args.length<=2/\ZMv c':=by
 unfold ZMO;obtain ⟨r,n,c1,e,n0,n1,_,hc⟩:=ZOz h;rw [e,A0];obtain ⟨row,c2,e2,h1,h2⟩:=ZOa (tm:=ZM3) (fun c hc=>ZNB hc) (fun row c=>(({rel:=r,args:=row}:Zx),c)) n0 yE hc;exact ⟨{rel:=r,args:=row},c2,e2,by show row.length<=2;omega,h2⟩
theorem ZOE {c:ZwG}(h:ZMv c):∃p c',ZNl c=some (p,c')/\p.args.length<=4/\ZMv c':=by
 unfold ZNl;obtain ⟨f,c1,e1,a1,h1⟩:=ZNm h;obtain ⟨k,c2,e2,k0,k1,h2⟩:=ZMx h1 (n:=10) yE yE;rw [e1,A0,e2,A0];split
 .obtain ⟨w,c3,e3,h3⟩:=ZM4 h2;exact ⟨{rel:=w,args:=f.args},c3,by rw [e3];rfl,by show f.args.length<=4;omega,h3⟩
 .split
  .obtain ⟨w,c3,e3,h3⟩:=ZM4 h2;exact ⟨{rel:=f.rel,args:=f.args++[w]},c3,by rw [e3,A0,Zj _ (by show f.args.length+1<=_;omega)],by simp;omega,h3⟩
  .split
   .obtain ⟨w,c3,e3,w0,w1,h3⟩:=ZMx h2 (n:=5) yE yE;refine ⟨_,c3,by rw [e3,A0,Zj _ yE],?_,h3⟩;simp;omega
   .exact ⟨f,c2,rfl,yE,h2⟩
theorem ZOd {c:ZwG}(h:ZMv c):∃x c',ZNd c=some (x,c')/\x.pattern.args.length<=2/\ZMv c':=by
 unfold ZNd;obtain ⟨k,c1,e1,k0,k1,h1⟩:=ZMx h (n:=5) yE yE;rw [e1,A0];have b:∀kd:Int,∃x c',((ZMO c1).bind fun v2=>some (({kind:=kd,pattern:=v2.1,left:=(⟨#[]⟩),right:=(⟨#[]⟩)}:Zl),v2.2))=some (x,c')/\x.pattern.args.length<=2/\ZMv c':=fun kd=>by
  obtain ⟨p,c2,e2,a,h2⟩:=ZNm h1;exact ⟨{kind:=kd,pattern:=p,left:=⟨#[]⟩,right:=⟨#[]⟩},c2,by rw [e2];rfl,a,h2⟩
 split
 .exact b 1
 .split
  .exact b 1
  .split
   .exact b 2
   .obtain ⟨x,c2,e2,h2⟩:=ZNB h1;obtain ⟨y,c3,e3,h3⟩:=ZNB h2;obtain ⟨k,c4,e4,_,h4⟩:=ZM2 h3 (l:=[3,4,4,5]) yG yG;refine ⟨{kind:=k,pattern:={rel:=⟨#[]⟩,args:=[]},left:=x,right:=y},c4,?_,yG,h4⟩;rw [e2,A0,e3,A0];unfold ZNx;rw [e4];rfl
theorem ZPy {c:ZwG}(h:ZMv c):∃x c',ZNy c=some (x,c')/\x.pattern.args.length<=4/\ZMv c':=by
 unfold ZNy;obtain ⟨x,c1,e1,a1,h1⟩:=ZOd h;obtain ⟨k,c2,e2,k0,k1,h2⟩:=ZMx h1 (n:=12) yE yE;rw [e1,A0,e2,A0];split
 .obtain ⟨w,c3,e3,_,h3⟩:=ZM2 h2 (l:=[0,1,3,5,6,(-1)]) yG yG;exact ⟨{kind:=w,pattern:=x.pattern,left:=x.left,right:=x.right},c3,by rw [e3];rfl,by show x.pattern.args.length<=4;omega,h3⟩
 .split
  .obtain ⟨w,c3,e3,h3⟩:=ZM4 h2;exact ⟨{kind:=x.kind,pattern:=x.pattern,left:=w,right:=x.right},c3,by rw [e3];rfl,by show x.pattern.args.length<=4;omega,h3⟩
  .split
   .obtain ⟨p,c3,e3,a,h3⟩:=ZOE h2;exact ⟨{kind:=x.kind,pattern:=p,left:=x.left,right:=x.right},c3,by rw [e3];rfl,a,h3⟩
   .exact ⟨x,c2,rfl,yE,h2⟩
def DrR (o:Option (Zg×ZwG)):Prop:=∃r c',o=some (r,c')/\RS r/\1<=r.cond.length/\1<=r.thn.length/\ZMv c'
theorem ZPq {R:List Zl}(hR:R.length<=3) (h1:1<=R.length) (ha:∀x∈R,x.pattern.args.length<=2) {T:List Zu}(hT:T.length<=2) (h2:1<=T.length) (hb:∀a∈T,a.pattern.args.length<=3) (nm:ByteArray) (pr:Int) {c:ZwG}(hc:ZMv c) {σ:Type}:∃r c',((ZcZ ({name:=nm,priority:=pr,cond:=R,thn:=T}:Zg)).bind fun d=>
        if d=true then
         some (.inr (.inr (({name:=nm,priority:=pr,cond:=R,thn:=T}:Zg),c)))
        else
         (ZMC c 99).bind fun b=>
         some (.inr (.inr (b.1,b.2))))=some (.inr (.inr (r,c')):(List Int×Int×Int×List ByteArray×Int) ⊕ (σ ⊕ (Zg×ZwG)))/\RS r/\1<=r.cond.length/\1<=r.thn.length/\ZMv c':=by
 have hs:RS ({name:=nm,priority:=pr,cond:=R,thn:=T}:Zg):=⟨by show R.length<=200;omega,by show T.length<=200;omega,fun x mx=>by have:=ha x mx;omega,fun a ma=>by have:=hb a ma;omega⟩
 rw [ZeJ _ hs.small,A0];split
 .exact ⟨_,_,rfl,hs,h1,h2,hc⟩
 .obtain ⟨r,c2,e2,q⟩:=ZNq hc (m:=99) yE;exact ⟨r,c2,by rw [e2];rfl,q⟩
theorem ZOG {c:ZwG} (h:ZMv c):DrR (ZM8 c):=by
 unfold ZM8;obtain ⟨pr,c1,e1,_,_,h1⟩:=ZMx h (n:=4) (by omega) (by omega);obtain ⟨p0,c2,e2,a2,h2⟩:=ZNm h1;obtain ⟨n,c3,e3,n0,n1,h3⟩:=ZMx h2 (n:=3) (by omega) (by omega);rw [e1,A0,e2,A0,e3,A0];have inner:∀(R:List Zl),R.length≤3→1≤R.length→(∀x∈R,x.pattern.args.length≤2)→∀(rel:ByteArray) (V:List ByteArray) (m k:Nat) (cc:ZwG) (row:List ByteArray),k+m=row.length→row.length≤3→ZMv cc→∃r c',iter (σ:=(List Int) × Int × Int × (List ByteArray) × Int) (ρ:=(List Int × Int × Int × List Zl × Int) ⊕ (Zg × ZwG))
     (fun s=>
      match s with
      | (f_22,f_23,f_24,row_25,u_17)=>
      if (decide (u_17<(row_25.length:Int)))=true then
       chk (0≤u_17∧u_17<(row_25.length:Int)) <|
       (row_25[(A6 u_17)]?).bind fun x26=>
       (Za3 x26).bind fun v27=>
       if v27=true then
        (ZW V x26).bind fun v28=>
        if v28=true then
         some (.inl (f_22,f_23,f_24,row_25,(i64.wrap (u_17+1))))
        else
         (ZMR ({b:=f_22,i:=f_23,h:=f_24}:ZwG)).bind fun v29=>
         some (.inl (v29.2.b,v29.2.i,v29.2.h,(List.set row_25 (A6 u_17) v29.1),(i64.wrap (u_17+1))))
       else
        some (.inl (f_22,f_23,f_24,row_25,(i64.wrap (u_17+1))))
      else
       (ZMN ({b:=f_22,i:=f_23,h:=f_24}:ZwG) [1,1,2]).bind fun v30=>
       (ZMP v30.2 6).bind fun v31=>
       if v31.1=true then
        (ZcZ ({name:=(⟨#[114]⟩),priority:=pr,cond:=R,thn:=[({kind:=v30.1,pattern:=({rel:=rel,args:=row_25}:Zx)}:Zu),({kind:=3,pattern:=({rel:=(⟨#[]⟩),args:=[]}:Zx)}:Zu)]}:Zg)).bind fun v32=>
        if v32=true then
         some (.inr (.inr (({name:=(⟨#[114]⟩),priority:=pr,cond:=R,thn:=[({kind:=v30.1,pattern:=({rel:=rel,args:=row_25}:Zx)}:Zu),({kind:=3,pattern:=({rel:=(⟨#[]⟩),args:=[]}:Zx)}:Zu)]}:Zg),v31.2)))
        else
         (ZMC v31.2 99).bind fun v33=>
         some (.inr (.inr (v33.1,v33.2)))
       else
        (ZcZ ({name:=(⟨#[114]⟩),priority:=pr,cond:=R,thn:=[({kind:=v30.1,pattern:=({rel:=rel,args:=row_25}:Zx)}:Zu)]}:Zg)).bind fun v34=>
        if v34=true then
         some (.inr (.inr (({name:=(⟨#[114]⟩),priority:=pr,cond:=R,thn:=[({kind:=v30.1,pattern:=({rel:=rel,args:=row_25}:Zx)}:Zu)]}:Zg),v31.2)))
        else
         (ZMC v31.2 99).bind fun v35=>
         some (.inr (.inr (v35.1,v35.2))))
     (cc.b,cc.i,cc.h,row,(k:Int))=some (.inr (r,c'))∧RS r∧1≤r.cond.length∧1≤r.thn.length∧ZMv c':=by
  intro R hR hR1 ha rel V m;induction m with
  | zero=>
   intro k cc row hk hl hcc;obtain ⟨kd,d1,g1,_,hd1⟩:=ZM2 hcc (l:=[1,1,2]) (by simp) (by simp);obtain ⟨o,d2,g2,hd2⟩:=ZNf hd1 (n:=6) (by omega) (by omega);have fin:∀T:List Zu,T.length≤2→1≤T.length→(∀a∈T,a.pattern.args.length≤3)→_:=fun T t1 t2 t3=>ZPq (σ:=List Int × Int × Int × List Zl × Int) hR hR1 ha (T:=T) t1 t2 t3 (⟨#[114]⟩) pr hd2;cases o with
   | true=>
    obtain ⟨r,c',e,q⟩:=fin [({kind:=kd,pattern:=({rel:=rel,args:=row}:Zx)}:Zu),({kind:=3,pattern:=({rel:=(⟨#[]⟩),args:=[]}:Zx)}:Zu)] (by simp) (by simp) (by simp;omega);refine ⟨r,c',YI ?_,q⟩;simp only;rw [if_neg (by simp;omega),show ({b:=cc.b,i:=cc.i,h:=cc.h}:ZwG)=cc from rfl,g1,A0,g2,A0,if_pos rfl];exact e
   | false=>
    obtain ⟨r,c',e,q⟩:=fin [({kind:=kd,pattern:=({rel:=rel,args:=row}:Zx)}:Zu)] (by simp) (by simp) (by simp;omega);refine ⟨r,c',YI ?_,q⟩;simp only;rw [if_neg (by simp;omega),show ({b:=cc.b,i:=cc.i,h:=cc.h}:ZwG)=cc from rfl,g1,A0,g2,A0,if_neg (by simp)];exact e
  | succ m ih=>
   intro k cc row hk hl hcc;have hkl:k<row.length:=by omega
   have hw:i64.wrap ((k:Int)+1)=((k+1:Nat):Int):=by rw [ZeT (by omega) (by omega)];omega
   obtain ⟨a,d1,g1,hd1⟩:=ZNn hcc;by_cases hv:Yr row[k]=true
   ·by_cases ht:YM V row[k]=true
    ·refine (YV (s':=(cc.b,cc.i,cc.h,row,((k+1:Nat):Int))) ?_) ▸ ih (k+1) cc row (by omega) hl hcc
     simp only;rw [if_pos (by simp;omega),Zj _ (by omega),AJ,AK hkl,A0,Zaj,A0,if_pos hv,Xc,A0,if_pos ht,hw]
    ·refine (YV (s':=(d1.b,d1.i,d1.h,row.set k a,((k+1:Nat):Int))) ?_) ▸ ih (k+1) d1 (row.set k a) (by simp;omega) (by simpa using hl) hd1
     simp only;rw [if_pos (by simp;omega),Zj _ (by omega),AJ,AK hkl,A0,Zaj,A0,if_pos hv,Xc,A0,if_neg ht,show ({b:=cc.b,i:=cc.i,h:=cc.h}:ZwG)=cc from rfl,g1,A0,hw]
   ·refine (YV (s':=(cc.b,cc.i,cc.h,row,((k+1:Nat):Int))) ?_) ▸ ih (k+1) cc row (by omega) hl hcc
    simp only;rw [if_pos (by simp;omega),Zj _ (by omega),AJ,AK hkl,A0,Zaj,A0,if_neg hv,hw]
 have outer:∀{body:(List Int × Int × Int × List Zl × Int)→Option ((List Int × Int × Int × List Zl × Int) ⊕ (Zg × ZwG))},(∀(cc:ZwG) (R:List Zl) (k:Nat),ZMv cc→∃x c',x.pattern.args.length≤2∧ZMv c'∧(R.length≤3→k≤3→body (cc.b,cc.i,cc.h,R,((k+1:Nat):Int))=some (.inl (c'.b,c'.i,c'.h,R++[x],(k:Int)))))→(∀(cc:ZwG) (R:List Zl),ZMv cc→R.length≤3→1≤R.length→(∀x∈R,x.pattern.args.length≤2)→∃r c',body (cc.b,cc.i,cc.h,R,0)=some (.inr (r,c'))∧RS r∧1≤r.cond.length∧1≤r.thn.length∧ZMv c')→∀(k:Nat) (cc:ZwG) (R:List Zl),ZMv cc→R.length+k≤3→1≤R.length→(∀x∈R,x.pattern.args.length≤2)→DrR (iter body (cc.b,cc.i,cc.h,R,(k:Int))):=by
  intro body hs he k;induction k with
  | zero=>
   intro cc R hcc hl hl1 ha;obtain ⟨r,c',e,q⟩:=he cc R hcc (by omega) hl1 ha;exact ⟨r,c',YI e,q⟩
  | succ k ih=>
   intro cc R hcc hl hl1 ha;obtain ⟨x,c',hx,hc',e⟩:=hs cc R k hcc;rw [YV (e (by omega) (by omega))];exact ih c' (R++[x]) hc' (by simp;omega) (by simp) fun y my=>by
    rcases A3.1 my with my | my
    ·exact ha y my
    ·simp at my;subst my;exact hx
 have hn:n=(n.toNat:Int):=by omega
 rw [hn];refine outer ?_ ?_ n.toNat c3 [{kind:=1,pattern:=p0,left:=⟨#[]⟩,right:=⟨#[]⟩}] h3 (by simp;omega) (by simp) (by simp;exact a2)
 ·intro cc R k hcc
  obtain ⟨x,c',e,hx,hc'⟩:=ZOd hcc;refine ⟨x,c',hx,hc',fun hR hk3=>?_⟩;have hw:i64.wrap ((((k+1:Nat)):Int)-1)=(k:Int):=by rw [ZeT (by omega) (by omega)];omega
  simp only;rw [if_pos (decide_eq_true (by omega)),show ({b:=cc.b,i:=cc.i,h:=cc.h}:ZwG)=cc from rfl,e,A0,Zj _ (by omega),hw]
 ·intro cc R hcc hR hR1 ha
  obtain ⟨p,c4,e4,a4,h4⟩:=ZNm hcc;obtain ⟨r,c',e,q⟩:=inner R hR hR1 ha p.rel (YY ({name:=(⟨#[114]⟩),priority:=pr,cond:=R,thn:=[]}:Zg) R.length) p.args.length 0 c4 p.args (by omega) (by omega) h4;refine ⟨r,c',?_,q⟩;simp only;rw [if_neg (by simp),Zek _ _ ⟨by show R.length≤_;omega,by simp,fun x mx=>by have:=ha x mx;omega,by simp⟩ (by show R.length≤4;omega),A0,AJ,show ({b:=cc.b,i:=cc.i,h:=cc.h}:ZwG)=cc from rfl,e4,A0];exact e
theorem ZOb {c:ZwG}(h:ZMv c):DrR (ZM6 c):=by
 unfold ZM6;obtain ⟨b,c1,e1,h1⟩:=ZNf h (n:=3) yE yE;rw [e1,A0];split
 .obtain ⟨r,c2,e2,q⟩:=ZOG h1;exact ⟨r,c2,by rw [e2];rfl,q⟩
 .obtain ⟨r,c2,e2,q⟩:=ZNq h1 (m:=99) yE;exact ⟨r,c2,by rw [e2];rfl,q⟩
theorem ZPs {c:ZwG}(h:ZMv c):∃r c',ZNz c=some (r,c')/\r.cond.length<=201/\r.thn.length<=201/\(∀x∈r.cond,x.pattern.args.length<=200)/\(∀a∈r.thn,a.pattern.args.length<=200)/\ZMv c':=by
 unfold ZNz;obtain ⟨r,c1,e1,q,q1,q2,h1⟩:=ZOb h;obtain ⟨k,c2,e2,k0,k1,h2⟩:=ZMx h1 (n:=14) yE yE;have b1:=q.cl;have b2:=q.tl;rw [e1,A0,e2,A0];split
 .obtain ⟨w,c3,e3,h3⟩:=ZM4 h2;exact ⟨{name:=w,priority:=r.priority,cond:=r.cond,thn:=r.thn},c3,by rw [e3];rfl,by show r.cond.length<=_;omega,by show r.thn.length<=_;omega,q.ca,q.ta,h3⟩
 split
 .obtain ⟨w,c3,e3,_,h3⟩:=ZM2 h2 (l:=[(-1),0,9,10]) yG yG;exact ⟨{name:=r.name,priority:=w,cond:=r.cond,thn:=r.thn},c3,by rw [e3];rfl,by show r.cond.length<=_;omega,by show r.thn.length<=_;omega,q.ca,q.ta,h3⟩
 split
 .obtain ⟨x,c3,e3,ax,h3⟩:=ZPy h2;refine ⟨{name:=r.name,priority:=r.priority,cond:=r.cond++[x],thn:=r.thn},c3,by rw [e3,A0,Zj _ (by show r.cond.length+1<=_;omega)],by simp;omega,by show r.thn.length<=_;omega,fun y my=>?_,q.ta,h3⟩;rcases A3.1 my with my|my
  .exact q.ca y my
  .simp at my;subst my;omega
 split
 .obtain ⟨kd,c3,e3,_,h3⟩:=ZM2 h2 (l:=[0,1,2,3,4]) yG yG;obtain ⟨p,c4,e4,ap,h4⟩:=ZOE h3;refine ⟨{name:=r.name,priority:=r.priority,cond:=r.cond,thn:=r.thn++[{kind:=kd,pattern:=p}]},c4,by rw [e3,A0,e4,A0,Zj _ (by show r.thn.length+1<=_;omega)],by show r.cond.length<=_;omega,by simp;omega,q.ca,fun y my=>?_,h4⟩;rcases A3.1 my with my|my
  .exact q.ta y my
  .simp at my;subst my;show p.args.length<=200;omega
 split
 .exact ⟨{name:=r.name,priority:=r.priority,cond:=r.cond.drop 1,thn:=r.thn},c2,by rw [Zj _ (by show 0<=1/\(1:Int)<=(r.cond.length:Int);omega)];rfl,by simp;omega,by show r.thn.length<=_;omega,fun y my=>q.ca y (AL my),q.ta,h2⟩
 split
 .exact ⟨{name:=r.name,priority:=r.priority,cond:=r.cond,thn:=r.thn.drop 1},c2,by rw [Zj _ (by show 0<=1/\(1:Int)<=(r.thn.length:Int);omega)];rfl,by show r.cond.length<=_;omega,by simp;omega,q.ca,fun y my=>q.ta y (AL my),h2⟩
 split
 .obtain ⟨w1,c3,e3,_,h3⟩:=ZM1 h2 (l:=[(⟨#[63,102]⟩),(⟨#[63,97]⟩),(⟨#[63,103]⟩)]) yG yG;obtain ⟨w2,c4,e4,_,h4⟩:=ZM2 h3 (l:=[1,2]) yG yG;obtain ⟨w3,c5,e5,_,h5⟩:=ZM1 h4 (l:=[(⟨#[63,102]⟩),(⟨#[63,120]⟩)]) yG yG;exact ⟨_,c5,by rw [e3,A0,e4,A0,e5,A0],yG,yG,yG,yG,h5⟩
 .exact ⟨r,c2,rfl,yE,yE,q.ca,q.ta,h2⟩
structure RB (r:Zg):Prop where
 cl:r.cond.length<=201
 tl:r.thn.length<=201
 ca:∀x∈r.cond,x.pattern.args.length<=200
 ta:∀a∈r.thn,a.pattern.args.length<=200
theorem RS.rb {r:Zg}(h:RS r):RB r:=⟨by have:=h.cl;omega,by have:=h.tl;omega,h.ca,h.ta⟩
theorem ZPB {R:List Zg}(hl:R.length<=100) (h:∀r∈R,RB r):Zaz R:=by
 refine ⟨fun r mr=>?_,?_⟩
 .have q:=h r mr;exact ⟨by have:=q.cl;omega,by have:=q.tl;omega,fun x mx=>by have:=q.ca x mx;omega,fun x mx=>by have:=q.ta x mx;omega⟩
 have:∀l:List Zg,(∀r∈l,r∈R)->(l.flatMap Yw).length<=201*l.length:=by
  intro l;induction l with
  |nil=>intro _;simp
  |cons r l ih=>
   intro hm;have h1:=ih fun q mq=>hm q (by simp [mq]);have h2:=Zmp r;have h3:=(h r (hm r yG)).cl;rw [AU,List.length_append,AW];omega
 have:=this R fun _ h=>h;omega
theorem ZPA {c:ZwG}(h:ZMv c) {m:Int}(h0:0<=m) (h7:m<=7):∃R c',ZNu c m=some (R,c')/\R.length<=7/\(∀r∈R,RB r)/\ZMv c':=by
 unfold ZNu;have hw:i64.wrap (m+1)=m+1:=ZeT yE yE;rw [hw];obtain ⟨n,c1,e,n0,n1,hc⟩:=ZMx h (n:=m+1) yE yE;rw [e,A0];have key:∀(k:Nat) (cc:ZwG) (row:List Zg),ZMv cc->row.length+k<=7->(∀r∈row,RB r)->∃R c',iter (σ:=(List Int)×Int×Int×(List Zg)×Int)
  (fun s=>
   match s with
   |(f_4,f_5,f_6,row_7,n_8)=>
   if (decide (0<n_8))=true then
    (ZM6 ({b:=f_4,i:=f_5,h:=f_6}:ZwG)).bind fun v9=>
    (Zbl n_8).bind fun d=>
    chk ((⟨#[114]⟩:ByteArray).size+d.size<=9223372036854775807) <|
    chk (row_7.length+1<=1073741824) <|
    some (.inl (v9.2.b,v9.2.i,v9.2.h,(row_7++[({name:=((⟨#[114]⟩:ByteArray)++d),priority:=v9.1.priority,cond:=v9.1.cond,thn:=v9.1.thn}:Zg)]),(i64.wrap (n_8-1))))
   else
    some (.inr (row_7,({b:=f_4,i:=f_5,h:=f_6}:ZwG))))
  (cc.b,cc.i,cc.h,row,(k:Int))=some (R,c')/\R.length<=7/\(∀r∈R,RB r)/\ZMv c':=by
  intro k;induction k with
  |zero=>
   intro cc row a hl hr;exact ⟨row,cc,YI rfl,yE,hr,a⟩
  |succ k ih=>
   intro cc row a hl hr;obtain ⟨r,c2,e2,g,_,_,j⟩:=ZOb a;have f:decide (0<(((k+1:Nat)):Int))=true:=decide_eq_true yE;have hw:i64.wrap ((((k+1:Nat)):Int)-1)=(k:Int):=by rw [ZeT yE yE];omega
   have hsz:(ofL (Lib.itoa ((k+1:Nat):Int))).size<=21:=ZJe ⟨yE,yE⟩;refine (YV (s':=(c2.b,c2.i,c2.h,row++[({name:=((⟨#[114]⟩:ByteArray)++ofL (Lib.itoa ((k+1:Nat):Int))),priority:=r.priority,cond:=r.cond,thn:=r.thn}:Zg)],(k:Int))) ?_) ▸ ih c2 _ j (by simp;omega) fun q mq=>?_
   .simp only[f,if_true];rw [show ({b:=cc.b,i:=cc.i,h:=cc.h}:ZwG)=cc from rfl,e2,A0,ZmZ ⟨yE,yE⟩,A0,Zj _ (by have:(⟨#[114]⟩:ByteArray).size=1:=rfl;omega),Zj _ yE,hw]
   .rcases A3.1 mq with mq|mq
    .exact hr q mq
    .simp at mq;subst mq;exact (g.name _ _).rb
 have e5:n=(n.toNat:Int):=by omega
 have:=key n.toNat c1 [] hc (by simp;omega) (fun y hy=>by simp at hy);rw [<-e5]at this;exact this
theorem ZPk {c:ZwG}(h:ZMv c):∃R c',ZPY c=some (R,c')/\R.length<=20/\(∀r∈R,RB r)/\ZMv c':=by
 unfold ZPY;obtain ⟨R,c1,e1,r1,r2,h1⟩:=ZPA h (m:=3) yE yE;obtain ⟨k,c2,e2,k0,k1,h2⟩:=ZMx h1 (n:=10) yE yE;rw [e1,A0,e2,A0];split
 .obtain ⟨r,c3,e3,q1,q2,q3,q4,h3⟩:=ZPs h2;refine ⟨R++[r],c3,by rw [e3,A0,Zj _ (by show R.length+1<=_;omega)],by simp;omega,fun y my=>?_,h3⟩;rcases A3.1 my with my|my
  .exact r2 y my
  .simp at my;subst my;exact ⟨q1,q2,q3,q4⟩
 split
 .obtain ⟨n,c3,e3,hn,h3⟩:=ZM2 h2 (l:=[6,7]) yG yG;rw [e3,A0];have n67:n<=7:=by simp at hn;omega
  have key:∀(m j:Nat) (cc:ZwG) (row:List Zg),20-row.length<=m->j<=row.length->ZMv cc->row.length<=20->(∀r∈row,RB r)->∃R c',iter (σ:=(List Int)×Int×Int×(List Zg)×Int)
    (fun s=>
     match s with
     |(f_7,f_8,f_9,row_10,i_11)=>
     if (decide ((row_10.length:Int)<n))=true then
      (ZMC ({b:=f_7,i:=f_8,h:=f_9}:ZwG) 6).bind fun a=>
      (Zbl i_11).bind fun e=>
      chk ((⟨#[107]⟩:ByteArray).size+e.size<=9223372036854775807) <|
      chk (row_10.length+1<=1073741824) <|
      some (.inl (a.2.b,a.2.i,a.2.h,(row_10++[({name:=((⟨#[107]⟩:ByteArray)++e),priority:=a.1.priority,cond:=a.1.cond,thn:=a.1.thn}:Zg)]),(i64.wrap (i_11+1))))
     else
      some (.inr (row_10,({b:=f_7,i:=f_8,h:=f_9}:ZwG))))
    (cc.b,cc.i,cc.h,row,(j:Int))=some (R,c')/\R.length<=20/\(∀r∈R,RB r)/\ZMv c':=by
   intro m;induction m with
   |zero=>
    intro j cc row hm hj d hl hr;refine ⟨row,cc,YI ?_,hl,hr,d⟩;simp only;rw [if_neg (by simp;omega)]
   |succ m ih=>
    intro j cc row hm hj d hl hr;by_cases f:(row.length:Int)<n
    .obtain ⟨r,c4,e4,g,_,_,h4⟩:=ZNq d (m:=6) yE;have hw:i64.wrap ((j:Int)+1)=((j+1:Nat):Int):=by rw [ZeT yE yE];omega
     have hsz:(ofL (Lib.itoa (j:Int))).size<=21:=ZJe ⟨yE,yE⟩;refine (YV (s':=(c4.b,c4.i,c4.h,row++[({name:=((⟨#[107]⟩:ByteArray)++ofL (Lib.itoa (j:Int))),priority:=r.priority,cond:=r.cond,thn:=r.thn}:Zg)],((j+1:Nat):Int))) ?_) ▸ ih (j+1) c4 _ (by simp;omega) (by simp;omega) h4 (by simp;omega) fun q mq=>?_
     .simp only;rw [if_pos (by simpa using f),show ({b:=cc.b,i:=cc.i,h:=cc.h}:ZwG)=cc from rfl,e4,A0,ZmZ ⟨yE,yE⟩,A0,Zj _ (by have:(⟨#[107]⟩:ByteArray).size=1:=rfl;omega),Zj _ yE,hw]
     .rcases A3.1 mq with mq|mq
      .exact hr q mq
      .simp at mq;subst mq;exact (g.name _ _).rb
    .refine ⟨row,cc,YI ?_,hl,hr,d⟩;simp only;rw [if_neg (by simpa using f)]
  exact key 20 0 c3 R yE yE h3 yE r2
 .exact ⟨R,c2,rfl,yE,r2,h2⟩
theorem ZNV {f:Zc}:∀{l:List Zc},f∉l->(ZeF l f).length=l.length+1
 | [],_=>rfl
 |x::l,h=>by
  unfold ZeF;split
  .rw [AW,ZNV fun m=>h (by simp [m]),AW]
  .split
   .rename_i h0;exact absurd ((ZeR.eq x f).1 h0) fun e=>h (by simp [e])
   .simp
def ZNP (k:Nat):Zc:={rel:=⟨#[110]⟩,args:=[ofL (Lib.itoa (k:Int))]}
theorem ZPH {a b:List UInt8}(h:ofL a=ofL b):a=b:=by
 have:=congrArg toL h;simpa [toL,ofL]using this
theorem ZPn {j k:Nat}(hj:j<25) (hk:k<25) (h:ZNP j=ZNP k):j=k:=by
 have h1:ofL (Lib.itoa (j:Int))=ofL (Lib.itoa (k:Int)):=by
  have:=congrArg Zc.args h;simpa [ZNP]using this
 have h2:=ZPH h1;rw [Lib.itoa_nonneg,Lib.itoa_nonneg]at h2;have one:∀a b:Nat,a<200->b<200->AO a=AO b->a=b:=fun a b ha hb e=>by
  have:=congrArg UInt8.toNat e;simp only[UInt8.toNat_ofNat']at this;omega
 by_cases a:j<10<;>by_cases b:k<10
 .rw [Lib.decDigits_one a,Lib.decDigits_one b]at h2;have:=one _ _ yE yE (Ad h2).1;omega
 .rw [Lib.decDigits_one a,Lib.decDigits_two b yE]at h2;simp at h2
 .rw [Lib.decDigits_two a yE,Lib.decDigits_one b]at h2;simp at h2
 .rw [Lib.decDigits_two a yE,Lib.decDigits_two b yE]at h2;obtain ⟨e1,e2⟩:=Ad h2;have q1:=one _ _ yE yE e1;have q2:=one _ _ yE yE (Ad e2).1;omega
theorem ZPx {c:ZwG}(h:ZMv c) {m:Int}(h0:0<=m) (h7:m<=7):∃l c',ZNw c m=some (l,c')/\l.length<=7/\(∀f∈l,f.args.length<=2/\f.rel≠⟨#[110]⟩)/\ZMv c':=by
 unfold ZNw;have hw:i64.wrap (m+1)=m+1:=ZeT yE yE;rw [hw];obtain ⟨n,c1,e,n0,n1,hc⟩:=ZMx h (n:=m+1) yE yE;rw [e,A0];have key:∀(k:Nat) (cc:ZwG) (row:List Zc),ZMv cc->row.length+k<=7->(∀f∈row,f.args.length<=2/\f.rel≠⟨#[110]⟩)->∃l c',iter (σ:=(List Int)×Int×Int×(List Zc)×Int)
  (fun s=>
   match s with
   |(f_4,f_5,f_6,row_7,n_8)=>
   if (decide (0<n_8))=true then
    (ZNa ({b:=f_4,i:=f_5,h:=f_6}:ZwG)).bind fun v9=>
    (ZcF row_7 v9.1).bind fun g=>
    some (.inl (v9.2.b,v9.2.i,v9.2.h,g,(i64.wrap (n_8-1))))
   else
    some (.inr (row_7,({b:=f_4,i:=f_5,h:=f_6}:ZwG))))
  (cc.b,cc.i,cc.h,row,(k:Int))=some (l,c')/\l.length<=7/\(∀f∈l,f.args.length<=2/\f.rel≠⟨#[110]⟩)/\ZMv c':=by
  intro k;induction k with
  |zero=>
   intro cc row a hl hr;exact ⟨row,cc,YI rfl,yE,hr,a⟩
  |succ k ih=>
   intro cc row a hl hr;obtain ⟨f,c2,e2,hf,j,o⟩:=ZOf a;have d:decide (0<(((k+1:Nat)):Int))=true:=decide_eq_true yE;have hw:i64.wrap ((((k+1:Nat)):Int)-1)=(k:Int):=by rw [ZeT yE yE];omega
   have hil:=Zsd f row;refine (YV (s':=(c2.b,c2.i,c2.h,ZeF row f,(k:Int))) ?_) ▸ ih c2 _ o yE fun q mq=>?_
   .simp only[d,if_true];rw [show ({b:=cc.b,i:=cc.i,h:=cc.h}:ZwG)=cc from rfl,e2,A0,Zt4 row f yE (fun x mx=>by have:=(hr x mx).1;omega) yE,A0,hw]
   .rcases ZaT.1 mq with rfl|mq
    .exact ⟨hf,j⟩
    .exact hr q mq
 have e5:n=(n.toNat:Int):=by omega
 have:=key n.toNat c1 [] hc (by simp;omega) (fun y hy=>by simp at hy);rw [<-e5]at this;exact this
theorem ZO7 {c:ZwG}(h:ZMv c):∃l c',ZNi c=some (l,c')/\l.length<=50/\(∀f∈l,f.args.length<=4)/\ZMv c':=by
 unfold ZNi;obtain ⟨l,c1,e1,l1,l2,h1⟩:=ZPx h (m:=6) yE yE;obtain ⟨k,c2,e2,k0,k1,h2⟩:=ZMx h1 (n:=8) yE yE;rw [e1,A0,e2,A0];split
 .obtain ⟨f,c3,e3,q,h3⟩:=ZNU h2;refine ⟨l++[f],c3,by rw [e3,A0,Zj _ (by show l.length+1<=_;omega)],by simp;omega,fun y my=>?_,h3⟩;rcases A3.1 my with my|my
  .have:=(l2 y my).1;omega
  .simp at my;subst my;exact q
 split
 .have key:∀(m k:Nat) (row:List Zc),k+m=25->k<=row.length->row.length<=7+k->(∀f∈row,f.args.length<=4/\(f.rel≠⟨#[110]⟩\/∃j,j<k/\f=ZNP j))->∃l' c',iter (σ:=(List Zc)×Int)
    (fun s=>
     match s with
     |(row_6,i_7)=>
     if (decide (i_7<25))=true then
      (Zbl i_7).bind fun v8=>
      (ZcF row_6 ({rel:=(⟨#[110]⟩),args:=[v8]}:Zc)).bind fun v9=>
      some (.inl (v9,(i64.wrap (i_7+1))))
     else
      (ZMN c2 [23,24,25]).bind fun a=>
      chk (0<=a.1/\a.1<=(row_6.length:Int)) <|
      some (.inr ((List.drop 0 (List.take (A6 a.1) row_6)),a.2)))
    (row,(k:Int))=some (l',c')/\l'.length<=50/\(∀f∈l',f.args.length<=4)/\ZMv c':=by
   intro m;induction m with
   |zero=>
    intro k row hk h1 h3 hr;obtain ⟨x,c3,e3,hx,h4⟩:=ZM2 h2 (l:=[23,24,25]) yG yG;have hx2:0<=x/\x<=25:=by simp at hx;omega
    refine ⟨(row.take x.toNat).drop 0,c3,YI ?_,by rw [List.drop_zero,List.length_take];omega,fun f mf=>(hr f (AX (AL mf))).1,h4⟩;simp only;rw [if_neg (by simp;omega),e3,A0,Zj _ (by show 0<=x/\x<=_;omega)]
   |succ m ih=>
    intro k row hk h1 h3 hr;have hw:i64.wrap ((k:Int)+1)=((k+1:Nat):Int):=by rw [ZeT yE yE];omega
    have b:ZNP k∉row:=fun mk=>by
     rcases (hr _ mk).2 with hn|⟨j,hj,e⟩
     .exact hn rfl
     .have:=ZPn yE yE e;omega
    have hil:=ZNV b;refine (YV (s':=(ZeF row (ZNP k),((k+1:Nat):Int))) ?_) ▸ ih (k+1) (ZeF row (ZNP k)) yE yE yE fun q mq=>?_
    .simp only;rw [if_pos (by simp;omega),ZmZ ⟨yE,yE⟩,A0,show ({rel:=(⟨#[110]⟩),args:=[ofL (Lib.itoa (k:Int))]}:Zc)=ZNP k from rfl,Zt4 row (ZNP k) yE (fun x mx=>by have:=(hr x mx).1;omega) (by simp [ZNP]),A0,hw]
    .rcases ZaT.1 mq with rfl|mq
     .exact ⟨by simp [ZNP],.inr ⟨k,yE,rfl⟩⟩
     .obtain ⟨a1,a2⟩:=hr q mq;refine ⟨a1,?_⟩;rcases a2 with a2|⟨j,hj,e⟩
      .exact .inl a2
      .exact .inr ⟨j,yE,e⟩
  exact key 25 0 l rfl yE yE fun f mf=>⟨by have:=(l2 f mf).1;omega,.inl (l2 f mf).2⟩
 .exact ⟨l,c2,rfl,yE,fun f mf=>by have:=(l2 f mf).1;omega,h2⟩
structure DrB (R:List Zg) (l:List Zc):Prop where
 rl:R.length<=20
 r:∀r∈R,RB r
 ll:l.length<=50
 a:∀f∈l,f.args.length<=4
theorem ZOM {c:ZwG}(h:ZMv c):∃R l c',ZPW c=some (R,l,c')/\DrB R l/\ZMv c':=by
 unfold ZPW;obtain ⟨R,c1,e1,r1,r2,h1⟩:=ZOx h true;obtain ⟨l,c2,e2,b1,b2,h2⟩:=ZOI h1 (m:=5) yE yE;obtain ⟨k,c3,e3,k0,k1,h3⟩:=ZMx h2 (n:=12) yE yE;rw [e1,A0,e2,A0,e3,A0];have rb:∀r∈R,RB r:=fun r mr=>(r2 r mr).rs.rb;have la:∀f∈l,f.args.length<=4:=fun f mf=>by have:=b2 f mf;omega
 split
 .obtain ⟨Q,c4,e4,q1,q2,h4⟩:=ZPk h3;exact ⟨Q,l,c4,by rw [e4];rfl,⟨q1,q2,yE,la⟩,h4⟩
 split
 .obtain ⟨m,c4,e4,q1,q2,h4⟩:=ZO7 h3;exact ⟨R,m,c4,by rw [e4];rfl,⟨yE,rb,q1,q2⟩,h4⟩
 .exact ⟨R,l,c3,rfl,⟨yE,rb,yE,la⟩,h3⟩
theorem DrB.small {R:List Zg}{l:List Zc}(h:DrB R l):Zaz R:=ZPB (by have:=h.rl;omega) h.r
theorem ZPF {R:List Zg}{base:List Zc}{x:List Zc×Bool}(h:x=([],false)\/(YW R&&R.all (Xo R))=true/\Yj base=true/\Res R base x):∀f∈x.1,f.args.length<=3:=by
 rcases h with rfl|⟨_,_,hr⟩
 .simp
 .rcases hr with ⟨_,hg,_,_⟩|⟨_,e,_⟩
  .exact fun f mf=>Y8 (hg.ok f mf)
  .rw [e];simp
theorem ZOQ {c:ZwG}(h:ZMv c):∃R l f c',ZPX c=some (R,l,f,c')/\DrB R l/\f.args.length<=4/\ZMv c':=by
 unfold ZPX;obtain ⟨R,l,c1,e1,hD,h1⟩:=ZOM h;obtain ⟨x,p1,p2,p3⟩:=Zjm hD.small l (by have:=hD.ll;omega);have hx:=ZPG p3;rw [e1];simp only[A0];rw [p1,A0];split
 .rename_i a;obtain ⟨o,c6,e6,h6⟩:=ZNf h1 (n:=4) yE yE;rw [e6,A0];split
  .obtain ⟨f,c7,e7,q,h7⟩:=ZNU h6;exact ⟨R,l,f,c7,by rw [e7];rfl,hD,q,h7⟩
  .have hpos':0<x.1.length:=by simpa using a
   obtain ⟨i,c7,e7,i0,i1,h7⟩:=ZMx h6 (n:=(x.1.length:Int)) yE yE;have hi:i.toNat<x.1.length:=by omega
   exact ⟨R,l,x.1[i.toNat],c7,by rw [e7,A0,Zj _ ⟨i0,i1⟩,AK hi];rfl,hD,by have:=ZPF p3 _ (Am hi);omega,h7⟩
 .obtain ⟨f,c7,e7,q,h7⟩:=ZNU h1;exact ⟨R,l,f,c7,by rw [e7];rfl,hD,q,h7⟩
open Classical
end
section
open Classical
theorem ZN4 (a:List Int) (h:a.length<=4096):∃R l f,ZPS a=some (R,l,f)/\DrB R l/\f.args.length<=4:=by
 unfold ZPS;obtain ⟨c,e0,h0⟩:=ZPu a h;obtain ⟨R,l,f,c1,e1,hD,hf,h1⟩:=ZOQ h0;obtain ⟨b,c2,e2,h2⟩:=ZNf h1 (n:=2) yE yE;rw [e0,A0,e1,A0];dsimp only;rw [e2,A0];cases b with
 |false=>exact ⟨R,l,f,rfl,hD,hf⟩
 |true=>
  obtain ⟨x,c3,e3,_,h3⟩:=ZM1 h2 (l:=[(⟨#[112]⟩),(⟨#[113]⟩),(⟨#[115]⟩)]) yG yG;obtain ⟨y,c4,e4,h4⟩:=ZNn h3;rw [if_pos rfl];dsimp only;rw [e3,A0];dsimp only;rw [e4,A0];exact ⟨R,l,_,rfl,hD,yG⟩
theorem ZND {r:Zg}{M:List Zc}(hr:ZaL r) (hv:YP r=true) (hM:Yj M=true):ZMH r M=some ((ZPp r.cond M:Nat):Int):=by
 have h4:=(Zbk hv).1;unfold ZMH ZPp;refine ZH3 (ρ:=Unit) _ r.cond.length (fun k s hk=>?_) (fun s=>?_)
 .show (if _ then _ else _)=_
  rw [if_pos (decide_eq_true yE),ZId hr hv hM hk,A0,Zk (n:=k+1) yE yE];by_cases h:0<(Zz (r.cond.take k) M).length
  .rw [if_pos (decide_eq_true yE),if_pos (decide_eq_true h)]
  .rw [if_neg (by simpa using h),if_neg (by simpa using h)]
 .show (if _ then _ else _)=_
  rw [if_neg (by simp;omega)]
theorem ZPJ (l:List Zwt):0<(noT l).length:=by
 unfold noT;split
 .simp
 .rw [Aq];omega
theorem FnMissed_plain (b:List Int):w_FnMissed b=some true:=by
 unfold w_FnMissed;rw [ZPw,A0];split
 .rfl
 rename_i hb;obtain ⟨R,base,f,e1,hD,hfa⟩:=ZN4 b (ZPh hb);have hR:=hD.small;have hbl:=hD.ll;obtain ⟨M,ok,m1,m2,hM⟩:=Zkp hR base yE;obtain ⟨w1,w2⟩:=ZIv hR m1 m2 hM f;obtain ⟨s,k,x1,x2,x3,x4,x5,x6⟩:=ZKl hR m1 m2 hM yE f;have c:=hM.few;rw [e1];simp only[A0];rw [w1];simp only[A0];rw [m1];simp only[A0];rw [x1,Zli,ZOZ];simp only[A0];cases ok with
 |false=>
  have hk:k=false:=by
   cases k with
   |false=>rfl
   |true=>exact absurd (x6.1 rfl).1 yG
  subst hk;rfl
 |true=>
  rw [if_pos rfl];by_cases hf:Y3 f=true
  .rw [if_pos hf];by_cases hm:f∈M
   .have hk:k=true:=x6.2 ⟨rfl,hm⟩;subst hk;rw [ZMo ⟨rfl,hm⟩,decide_eq_true hm];have:0<(ZJV R M true f s true).length:=by
     unfold ZJV;rw [if_pos rfl,List.length_mapIdx];exact x5.1 rfl
    simp only[forL,Bool.not_true,beq_self_eq_true,if_true,hf];simp [this]
   .have hk:k=false:=by
     cases k with
     |false=>rfl
     |true=>exact absurd (x6.1 rfl).2 hm
    subst hk;have hw:ZHt R M true f=(ZG5 M f R,true):=by unfold ZHt;rw [if_pos ⟨rfl,hf,hm⟩]
    have hp:0<(ZJV R M true f s false).length:=by
     unfold ZJV;rw [if_neg yG,hw,if_pos rfl];exact ZPJ _
    rw [hw,decide_eq_false hm,if_pos yH];obtain ⟨hA,hL,l⟩:=hM.rules;have m:ZNE R base M:=by
     rcases hM with ⟨h,_⟩|⟨_,F,hG,o,rfl⟩
     .cases h
     .exact ZPD hG o
    rw [Z0 (p:=fun _=>true) (r:=false)]
    .rw [if_pos yG,hf];simp [hp]
    .intro i x mx;obtain ⟨r,mr,mx⟩:=AB.1 mx;obtain ⟨a,ma,hx⟩:=List.mem_filterMap.1 mx;unfold ZHD at hx;obtain ⟨q,d,rfl⟩:=A5.1 hx;obtain ⟨j,t,u⟩:=ZPI hA mr;have e:=ZHG (hL r mr).1;have h0:0<r.cond.length:=by
      have:=e;simp only[YP,AE,decide_eq_true_eq]at this;omega
     have g:=ZPL m (fun r mr=>(hL r mr).1) c.ok mr h0 ma hm d;have hdp:=ZPz r.cond M q;dsimp only;rw [Zov,A0,t,if_neg yG,if_neg yG,Za1,u,A0,if_neg (by simp;omega),Za1,AK g,A0,ZHP,A0,if_pos g,if_pos (ZxA _),ZND (hR.s r mr) e l,A0,if_neg (by simp;omega)];rfl
  .rw [if_neg hf];have hm:f∉M:=fun h=>hf (c.ok f h);have hk:k=false:=by
    cases k with
    |false=>rfl
    |true=>exact absurd (x6.1 rfl).2 hm
   subst hk;have hw:ZHt R M true f=([],false):=by unfold ZHt;rw [if_neg (fun h=>hf h.2.1)]
   have hp:ZJV R M true f s false=[]:=by
    unfold ZJV;rw [if_neg yG,hw,if_neg yG]
   rw [hw,hp];rw [Bool.not_eq_true]at hf;rw [hf];rfl
end
section
open Go.RowKit
def ZM {α β:Type}(R:α->β->Prop):List α->List β->Prop
 | [],[]=>True
 |a::l,b::r=>R a b/\ZM R l r
 |_,_=>False
section
variable {α β:Type} {R R':α->β->Prop}
theorem ZM.len:∀{l:List α}{r:List β},ZM R l r->l.length=r.length
 | [],[],_=>rfl
 |_::_,_::_,h=>by simp [h.2.len]
 | [],_::_,h=>h.elim
 |_::_,[],h=>h.elim
theorem ZM.mono:∀{l:List α}{r:List β},ZM R l r->(∀a b,a∈l->R a b->R' a b)->ZM R' l r
 | [],[],_,_=>trivial
 |_::_,_::_,h,f=>⟨f _ _ yG h.1,h.2.mono fun a b m=>f a b (by simp [m])⟩
 | [],_::_,h,_=>h.elim
 |_::_,[],h,_=>h.elim
theorem ZM.at:∀{l:List α}{r:List β}{i:Nat}{a:α},ZM R l r->l[i]?=some a->∃b,r[i]?=some b/\R a b
 | [],[],_,_,_,h=>by simp at h
 |_::_,b::_,0,_,h,e=>by simp at e;subst e;exact ⟨b,yG,h.1⟩
 |_::_,_::_,i+1,a,h,e=>by
  obtain ⟨b,h1,h2⟩:=h.2.at (i:=i) (a:=a) (by simpa using e);exact ⟨b,by simpa using h1,h2⟩
 | [],_::_,_,_,h,_=>h.elim
 |_::_,[],_,_,h,_=>h.elim
theorem ZM.set:∀{l:List α}{r:List β}{i:Nat}{a:α}{b:β},ZM R l r->R a b->ZM R (l.set i a) (r.set i b)
 | [],[],_,_,_,_,_=>trivial
 |_::_,_::_,0,_,_,h,e=>⟨e,h.2⟩
 |_::_,_::_,_+1,_,_,h,e=>⟨h.1,h.2.set e⟩
 | [],_::_,_,_,_,h,_=>h.elim
 |_::_,[],_,_,_,h,_=>h.elim
theorem ZM.drop:∀{l:List α}{r:List β}(n:Nat),ZM R l r->ZM R (l.drop n) (r.drop n)
 |_,_,0,h=>by simpa using h
 | [],[],n+1,_=>by simp [ZM]
 |_::_,_::_,n+1,h=>by simpa using h.2.drop n
 | [],_::_,_+1,h=>h.elim
 |_::_,[],_+1,h=>h.elim
theorem ZM.take:∀{l:List α}{r:List β}(n:Nat),ZM R l r->ZM R (l.take n) (r.take n)
 |_,_,0,h=>by simp [ZM]
 | [],[],n+1,_=>by simp [ZM]
 |_::_,_::_,n+1,h=>by simpa using ⟨h.1,h.2.take n⟩
 | [],_::_,_+1,h=>h.elim
 |_::_,[],_+1,h=>h.elim
theorem ZM.append:∀{l l':List α}{r r':List β},ZM R l r->ZM R l' r'->ZM R (l++l') (r++r')
 | [],_,[],_,_,h=>h
 |_::_,_,_::_,_,h,h'=>⟨h.1,h.2.append h'⟩
 | [],_,_::_,_,h,_=>h.elim
 |_::_,_,[],_,h,_=>h.elim
end
class NW where
 B0:Nat
structure Gh where
 val:Nat->Value
 O:Nat->List Nat
 D:Nat->List Nat
 Z:Nat->Prop
def Gh.own (g:Gh) (b:Nat):Prop:=(∃k,b∈g.O k)\/g.Z b
def Gh.low (g:Gh) (b:Nat):Prop:=g.own b\/∃k,b∈g.D k
structure QU (g g':Gh) (n:Nat):Prop where
 own:∀b,g'.own b->g.own b\/n<=b
 low:∀b,g'.low b->g.low b\/n<=b
structure XJ (g' g:Gh):Prop where
 own:∀b,g'.own b->g.own b
 low:∀b,g'.low b->g.low b
theorem QU.refl (g:Gh) (n:Nat):QU g g n:=⟨fun _ h=>.inl h,fun _ h=>.inl h⟩
theorem XJ.refl (g:Gh):XJ g g:=⟨fun _ h=>h,fun _ h=>h⟩
theorem XJ.trans {a b c:Gh}(h:XJ a b) (k:XJ b c):XJ a c:=⟨fun x hx=>k.own x (h.own x hx),fun x hx=>k.low x (h.low x hx)⟩
theorem XJ.grow {g' g:Gh}(h:XJ g' g) (n:Nat):QU g g' n:=⟨fun x hx=>.inl (h.own x hx),fun x hx=>.inl (h.low x hx)⟩
theorem XJ.of {g' g:Gh}(h:∀b,g'.own b->g.own b) (k:∀j b,b∈g'.D j->∃i,b∈g.D i):XJ g' g:=⟨h,fun x hx=>hx.imp (h x) fun ⟨j,mj⟩=>k j x mj⟩
theorem QU.of {g g':Gh}{n:Nat}(h:∀b,g'.own b->g.own b\/n<=b) (k:∀j b,b∈g'.D j->g.low b\/n<=b):QU g g' n:=⟨h,fun x hx=>by
 rcases hx with hx|⟨j,mj⟩
 .exact (h x hx).imp (fun q=>.inl q) id
 .exact k j x mj⟩
structure ZaK extends World where
 z:Nat->Prop
 x:Nat->Prop
 hv:Option Value
structure Bel (W:ZaK) (w:World):Prop where
 os:w.os=W.os
 tape:w.tape=W.tape
 output:w.output=W.output
 size:W.heap.size<=w.heap.size
 block:∀k,k<W.heap.size->¬W.x k->w.heap[k]?=W.heap[k]?
theorem Bel.trans {W:ZaK}{w w':World}(h:Bel W w) (k:Below w.heap.size w w'):Bel W w':=
 ⟨k.os.trans h.os,k.tape.trans h.tape,k.output.trans h.output,Ae h.size k.size,fun i hi hx=>(k.block i (Ar hi h.size)).trans (h.block i hi hx)⟩
def NR [NW] (g:Gh) (w:World) (x:CT) (v:Value):Prop:=
 ∃e m xs cs L,x=.sl e m xs/\0<m/\w.ownsV 0 e m v xs.length cs/\REs w m xs cs L/\(v.ownBlock.toList++L).Nodup/\∀b∈v.ownBlock.toList++L,¬g.low b/\NW.B0<=b/\∃cur t,w.heap[b]?=some (.cells cur t (0,0))
def AVR [NW] (g:Gh) (w:World):AV->Value->Prop
 |.c x,v=>∃L,RC w x v L/\∀b∈L,¬g.own b
 |.n x,v=>NR g w x v
 |.row k,v=>v=g.val k/\v.oneCell'=true
 |.nil _ _,v=>v=.slice none 0 0
 |.dead,v=>v.oneCell'=true
def PVR [NW] (g:Gh) (w:World):Bool->List AV->Value->Prop
 |true,cs,v=>∃vs:List Value,v=.agg vs.toArray/\ZM (AVR g w) cs vs
 |false,cs,v=>∃x,cs=[x]/\AVR g w x v
def SVR [NW] (g:Gh) (w:World):SV->Value->Prop
 |.any,_=>True
 |.und,v=>v=undef
 |.p a cs,v=>PVR g w a cs v
 |.tup xs,v=>∃vs:List Value,v=.tuple vs.toArray/\ZM (fun x u=>PVR g w x.1 x.2 u) xs vs
 |.bp k off,v=>∃b,g.val k=.pointer (some ⟨b,0,none⟩)/\v=.pointer (some ⟨b,off,none⟩)
 |.rp k m i off,v=>∃b o n c,g.val k=.slice (some ⟨b,o,none⟩) n c/\v=.pointer (some ⟨b,o+(i*m+off),none⟩)
 |.ep e off,v=>∃b lo cs L,v=.pointer (some ⟨b,lo+off,none⟩)/\Qh w b lo cs/\RCs w e cs L/\(∀x∈b::L,¬g.own x)/\b<w.heap.size
 |.fn f,v=>v=.func (.func f) #[] #[]
def ObR [NW] (g:Gh) (w:World) (k:Nat):Ob->Prop
 |.gone=>g.O k=[]/\g.D k=[]
 |.box t cs=>∃b vs,g.val k=.pointer (some ⟨b,0,none⟩)/\g.O k=[b]/\g.D k=[]/\w.heap[b]?=some (.cells vs.toArray t (0,0))/\ZM (AVR g w) cs vs
 |.row e m xs d=>0<m/\∃cs L,w.ownsV 0 e m (g.val k) xs.length cs/\REs w m xs cs L/\((d=2/\g.O k=(g.val k).ownBlock.toList/\g.D k=L)\/(d=1/\g.O k=(g.val k).ownBlock.toList/\g.D k=[]/\∀b∈L,¬g.own b)\/(d=0/\g.O k=[]/\g.D k=[]/\∀b∈(g.val k).ownBlock.toList++L,¬g.own b))
 |.map kk vk kv=>∃b es c,g.val k=.map (some b)/\g.O k=[b]/\g.D k=[]/\w.heap[b]?=some (.map es c)/\ZdP es=kv/\Zjp kk vk kv
def Qf (w:World) (o:Ob) (b:Nat):Prop:=
 match o with
 |.map _ _ _=>∃es c,w.heap[b]?=some (.map es c)
 |_=>∃cur e,w.heap[b]?=some (.cells cur e (0,0))
theorem Qf.lt {w:World}{o:Ob}{b:Nat}(h:Qf w o b):b<w.heap.size:=by
 unfold Qf at h;split at h
 .obtain ⟨_,_,h⟩:=h;exact (AP.1 h).1
 .obtain ⟨_,_,h⟩:=h;exact (AP.1 h).1
theorem Qf.keep {w w':World}{o:Ob}{b:Nat}(h:Qf w o b) (e:w'.heap[b]?=w.heap[b]?):Qf w' o b:=by
 unfold Qf at h ⊢;rw [e];exact h
def ZkR:Ob->Bool
 |.map _ _ _=>true
 |_=>false
theorem Qf.of {w:World}{o o':Ob}{b:Nat}(h:Qf w o b) (e:ZkR o'=ZkR o):Qf w o' b:=by
 cases o<;>cases o'<;>simp [ZkR]at e<;>exact h
structure HI [NW] (W:ZaK) (g:Gh) (ob:Nat->Ob) (w:World):Prop where
 below:Bel W w
 obs:∀k,ObR g w k (ob k)
 nodup:∀k,(g.O k++g.D k).Nodup
 apart:∀k j,k≠j->∀b∈g.O k++g.D k,b∉g.O j++g.D j
 plain:∀k,∀b∈g.O k++g.D k,(W.heap.size<=b\/W.x b)/\Qf w (ob k) b
 gz:g.Z=W.z
 zx:∀b,W.z b->b<W.heap.size/\¬W.x b
 nw:∀b,(W.heap.size<=b\/W.x b)->NW.B0<=b
def avU (U:Nat->Prop):AV->Prop
 |.row k=>U k
 |_=>True
def QW (U:Nat->Prop) (cs:List AV):Prop:=∀x∈cs,avU U x
def svU (U:Nat->Prop):SV->Prop
 |.p _ cs=>QW U cs
 |.tup xs=>∀x∈xs,QW U x.2
 |.bp k _=>U k
 |.rp k _ _ _=>U k
 |_=>True
def obU (U:Nat->Prop):Ob->Prop
 |.box _ cs=>QW U cs
 |_=>True
structure StU (U:Nat->Prop) (st:St):Prop where
 sl:∀t,svU U (st.sl t)
 ob:∀k,obU U (st.ob k)
 gone:∀k,¬U k->st.ob k=.gone
theorem HI.lt [NW] {W:ZaK}{g:Gh}{ob:Nat->Ob}{w:World}(h:HI W g ob w) (k:Nat):∀b∈g.O k++g.D k,b<w.heap.size:=by
 intro b m;exact (h.plain k b m).2.lt
theorem HI.nz [NW] {W:ZaK}{g:Gh}{ob:Nat->Ob}{w:World}(h:HI W g ob w) {k b:Nat}(m:b∈g.O k++g.D k):¬g.Z b:=fun hz=>by
 rw [h.gz]at hz;obtain ⟨h1,h2⟩:=h.zx b hz;rcases (h.plain k b m).1 with h3|h3
 .omega
 .exact h2 h3
section
variable {g g':Gh} {w w':World} {U:Nat->Prop}
theorem NR.move [NW] {x:CT}{v:Value}(h:NR g w x v)
  (hw:∀b,b<w.heap.size->¬g.own b->w'.heap[b]?=w.heap[b]?) (ho:QU g g' w.heap.size):NR g' w' x v:=by
 obtain ⟨e,m,xs,cs,L,h1,h2,h3,h4,h5,h6⟩:=h;have a:∀b∈v.ownBlock.toList++L,b<w.heap.size:=fun b mb=>by
  obtain ⟨_,_,_,_,q⟩:=h6 b mb;exact (AP.1 q).1
 have hs:∀b∈v.ownBlock.toList++L,w'.heap[b]?=w.heap[b]?:=fun b mb=>hw b (a b mb) fun o=>(h6 b mb).1 (.inl o);refine ⟨e,m,xs,cs,L,h1,h2,Zcc h3 fun b mb=>hs b (by simp [mb]),h4.keep fun b mb=>hs b (by simp [mb]),h5,fun b mb=>⟨fun o=>?_,(h6 b mb).2.1,by rw [hs b mb];exact (h6 b mb).2.2⟩⟩;rcases ho.low b o with o|o
 .exact (h6 b mb).1 o
 .have:=a b mb;omega
theorem AVR.move [NW] {x:AV}{v:Value}(h:AVR g w x v) (hx:avU U x) (hv:∀k,U k->g'.val k=g.val k)
  (hw:∀b,b<w.heap.size->¬g.own b->w'.heap[b]?=w.heap[b]?) (ho:QU g g' w.heap.size):AVR g' w' x v:=by
 cases x with
 |c x=>
  obtain ⟨L,h1,h2⟩:=h;have a:=h1.lt;refine ⟨L,h1.keep fun b m=>hw b (a b m) (h2 b m),fun b m o=>?_⟩;rcases ho.own b o with o|o
  .exact h2 b m o
  .have:=a b m;omega
 |n x=>exact NR.move h hw ho
 |row k=>exact ⟨h.1.trans (hv k hx).symm,h.2⟩
 |nil e m=>exact h
 |dead=>exact h
theorem AVRs.move [NW] {cs:List AV}{vs:List Value}(h:ZM (AVR g w) cs vs) (hx:QW U cs) (hv:∀k,U k->g'.val k=g.val k)
  (hw:∀b,b<w.heap.size->¬g.own b->w'.heap[b]?=w.heap[b]?) (ho:QU g g' w.heap.size):ZM (AVR g' w') cs vs:=
 h.mono fun a _ m r=>r.move (hx a m) hv hw ho
theorem PVR.move [NW] {a:Bool}{cs:List AV}{v:Value}(h:PVR g w a cs v) (hx:QW U cs) (hv:∀k,U k->g'.val k=g.val k)
  (hw:∀b,b<w.heap.size->¬g.own b->w'.heap[b]?=w.heap[b]?) (ho:QU g g' w.heap.size):PVR g' w' a cs v:=by
 cases a with
 |true=>obtain ⟨vs,h1,h2⟩:=h;exact ⟨vs,h1,AVRs.move h2 hx hv hw ho⟩
 |false=>obtain ⟨x,h1,h2⟩:=h;exact ⟨x,h1,h2.move (hx x (by simp [h1])) hv hw ho⟩
theorem SVR.move [NW] {s:SV}{v:Value}(h:SVR g w s v) (hx:svU U s) (hv:∀k,U k->g'.val k=g.val k)
  (hw:∀b,b<w.heap.size->¬g.own b->w'.heap[b]?=w.heap[b]?) (ho:QU g g' w.heap.size) (hs:w.heap.size<=w'.heap.size):SVR g' w' s v:=by
 cases s with
 |any=>exact h
 |und=>exact h
 |p a cs=>exact PVR.move h hx hv hw ho
 |tup xs=>
  obtain ⟨vs,h1,h2⟩:=h;exact ⟨vs,h1,h2.mono fun x _ m r=>r.move (hx x m) hv hw ho⟩
 |bp k off=>obtain ⟨b,h1,h2⟩:=h;exact ⟨b,(hv k hx).trans h1,h2⟩
 |rp k m i off=>obtain ⟨b,o,n,c,h1,h2⟩:=h;exact ⟨b,o,n,c,(hv k hx).trans h1,h2⟩
 |ep e off=>
  obtain ⟨b,lo,cs,L,h1,h2,h3,h4,h5⟩:=h;have d:=h3.lt;refine ⟨b,lo,cs,L,h1,fun j u hu=>?_,h3.keep fun x m=>hw x (d x m) (h4 x (by simp [m])),fun x m o=>?_,yE⟩
  .rw [<-h2 j u hu];exact World.cell?_of_block (hw b h5 (h4 b yG))
  .rcases ho.own x o with o|o
   .exact h4 x m o
   .rcases AC.1 m with rfl|m
    .omega
    .have:=d x m;omega
 |fn f=>exact h
theorem HI.step [NW] {W:ZaK}{ob ob':Nat->Ob}(h:HI W g ob w) (T:Nat->Prop)
  (v:Bel W w') (hZ:g'.Z=g.Z)
  (hw:∀b,b<w.heap.size->(∀k,T k->b∉g.O k)->w'.heap[b]?=w.heap[b]?)
  (hk:∀k,¬T k->ob' k=ob k/\g'.val k=g.val k/\g'.O k=g.O k/\g'.D k=g.D k)
  (y:∀k,obU U (ob k)) (hv:∀k,U k->g'.val k=g.val k)
  (ho:QU g g' w.heap.size)
  (hT:∀k,T k->ObR g' w' k (ob' k)/\(g'.O k++g'.D k).Nodup/\(∀b∈g'.O k++g'.D k,(W.heap.size<=b\/W.x b)/\Qf w' (ob' k) b)/\∀j,k≠j->∀b∈g'.O k++g'.D k,b∉g'.O j++g'.D j):
  HI W g' ob' w':=by
 have p:∀b,b<w.heap.size->¬g.own b->w'.heap[b]?=w.heap[b]?:=fun b hb hn=>hw b hb fun k _ m=>hn (.inl ⟨k,m⟩);have i:∀k,¬T k->∀b∈g.O k++g.D k,w'.heap[b]?=w.heap[b]?:=fun k hk b m=>
  hw b (h.lt k b m) fun j hj mj=>h.apart j k (fun e=>hk (e ▸ hj)) b (by simp [mj]) m
 refine ⟨v,fun k=>?_,fun k=>?_,fun k j q b m=>?_,fun k b m=>?_,hZ.trans h.gz,h.zx,h.nw⟩
 .by_cases a:T k
  .exact (hT k a).1
  .obtain ⟨e1,e2,e3,e4⟩:=hk k a;have f:=h.obs k;have hF:=i k a;have hU:=y k;rw [e1];cases hok:ob k with
   |gone=>rw [hok]at f;exact ⟨e3.trans f.1,e4.trans f.2⟩
   |box t cs=>
    rw [hok]at f hU;obtain ⟨b,vs,h1,h2,h3,h4,h5⟩:=f;exact ⟨b,vs,e2.trans h1,e3.trans h2,e4.trans h3,by rw [hF b (by simp [h2])];exact h4,AVRs.move h5 hU hv p ho⟩
   |map kk vk kv=>
    rw [hok]at f;obtain ⟨b,es,c,h1,h2,h3,h4,h5⟩:=f;exact ⟨b,es,c,e2.trans h1,e3.trans h2,e4.trans h3,by rw [hF b (by simp [h2])];exact h4,h5⟩
   |row e m xs d=>
    rw [hok]at f;obtain ⟨hm,cs,L,h1,h2,h4⟩:=f;have l:=h2.lt;have hL:∀b∈L,w'.heap[b]?=w.heap[b]?:=fun b mb=>by
     rcases h4 with ⟨_,_,h4⟩|⟨_,_,_,h4⟩|⟨_,_,_,h4⟩
     .exact hF b (by simp [h4,mb])
     .exact p b (l b mb) (h4 b mb)
     .exact p b (l b mb) (h4 b (by simp [mb]))
    have A:∀b∈(g.val k).ownBlock.toList,w'.heap[b]?=w.heap[b]?:=fun b mb=>by
     rcases h4 with ⟨_,h3,_⟩|⟨_,h3,_⟩|⟨_,_,_,h4⟩
     .exact hF b (by simp [h3,mb])
     .exact hF b (by simp [h3,mb])
     .exact p b (Zi6 h1 b mb) (h4 b (by simp [mb]))
    refine ⟨hm,cs,L,by rw [e2];exact Zcc h1 A,h2.keep hL,?_⟩;rw [e2,e3,e4];have u:∀b,b<w.heap.size->¬g.own b->¬g'.own b:=fun b hb hn o=>by
     rcases ho.own b o with o|o
     .exact hn o
     .omega
    rcases h4 with h4|⟨hd,h3,h4,h5⟩|⟨hd,h3,h4,h5⟩
    .exact .inl h4
    .exact .inr (.inl ⟨hd,h3,h4,fun b mb=>u b (l b mb) (h5 b mb)⟩)
    .refine .inr (.inr ⟨hd,h3,h4,fun b mb=>?_⟩);rcases A3.1 mb with m1|m1
     .exact u b (Zi6 h1 b m1) (h5 b mb)
     .exact u b (l b m1) (h5 b mb)
 .by_cases a:T k
  .exact (hT k a).2.1
  .obtain ⟨e1,e2,e3,e4⟩:=hk k a;rw [e3,e4];exact h.nodup k
 .by_cases a:T k
  .exact (hT k a).2.2.2 j q b m
  .by_cases z:T j
   .exact fun mj=>(hT j z).2.2.2 k (fun e=>q e.symm) b mj m
   .obtain ⟨_,_,e3,e4⟩:=hk k a;obtain ⟨_,_,f3,f4⟩:=hk j z;rw [e3,e4]at m;rw [f3,f4];exact h.apart k j q b m
 .by_cases a:T k
  .exact (hT k a).2.2.1 b m
  .obtain ⟨_,_,e3,e4⟩:=hk k a;rw [e3,e4]at m;obtain ⟨p1,p2⟩:=h.plain k b m;obtain ⟨e1,_⟩:=hk k a;exact ⟨p1,by rw [e1];exact p2.keep (i k a b m)⟩
end
structure Inv [NW] (W:ZaK) (U:Nat->Prop) (st:St) (a:Act) (w:World):Prop where
 ex:∃g,HI W g st.ob w/\∀t,SVR g w (st.sl t) (a.tmps.getD t undef)
 wf:StU U st
 defers:a.defers=[]
 hand:∀v,W.hv=some v->a.tmps.getD 0 undef=v
end
section
open Go.RowKit
def ZaM:AV->Value->Bool
 |.c (.int k n),.int k' n'=>k==k'&&n==n'
 |.c (.bool b),.bool b'=>b==b'
 |.c (.str s),.string s'=>s.data.toList==s'.data.toList&&ZbS s
 |.nil _ m,.slice none 0 0=>Nat.blt 0 m
 |_,_=>false
def Zif:TypeDesc->AV->Bool
 |.int k,.c (.int k' _)=>k==k'
 |.bool,.c (.bool _)=>true
 |.string,.c (.str _)=>true
 |_,_=>false
def ZsK:TypeDesc->Bool
 |.struct _=>true
 |.array _ _=>true
 |_=>false
def Zd8:PK->TypeDesc->Bool
 |.int k,.int k'=>k==k'
 |.str,.string=>true
 |.bool,.bool=>true
 |_,_=>false
def EqF (P:Program):List PK->List Field->Nat->Prop
 | [],[],_=>True
 | k :: ks, f :: fs, n => f.name ≠ "_" ∧ f.offset=n ∧ (∃ d, P.underlying f.type=some d ∧ Zd8 k d=true) ∧ EqF P ks fs (n + 1)
 |_,_,_=>False
def TOk (P:Program) (t:TypeId):TI->Prop
 |.atom z=>∃d zv i,P.underlying t=some d/\Zif d z=true/\P.info? t=some i/\i.zero=some zv/\i.size=1/\ZaM z zv=true
 |.strct fs n z=>∃(fields:Array Field) (i:TypeInfo) (zvs:Array Value),P.underlying t=some (.struct fields)/\P.info? t=some i/\i.size=n/\i.zero=some (.agg zvs)/\ZM (fun a v=>ZaM a v=true) z zvs.toList/\
   ZM (fun (fi:FI) (f:Field)=>f.offset=fi.off/\fi.size≠0/\∃j d,P.info? f.type=some j/\j.size=fi.size/\P.underlying f.type=some d/\ZsK d=fi.agg) fs fields.toList
 |.slice e m bytes z=>P.underlying t=some (.slice e)/\0<m/\bytes<=131072/\(∃(i:TypeInfo) (zv:Value),P.info? e=some i/\i.size=m/\i.bytes=bytes/\i.zero=some zv/\ZM (fun a v=>ZaM a v=true) z zv.cells.toList/\z.length=m)/\
   ∃j:TypeInfo,P.info? t=some j/\j.size=1/\j.zero=some (.slice none 0 0)
 |.ifc=>∃ms,P.underlying t=some (.interface ms)
 |.map kk vk=>∃kt et dk dv i zv,P.underlying t=some (.map kt et)/\P.underlying kt=some dk/\Zd8 kk dk=true/\P.underlying et=some dv/\Zd8 vk dv=true/\P.info? et=some i/\i.zero=some zv/\ZaM (Zfc vk) zv=true
 |.eqs ks=>∃u,t=u+4000/\P.underlying u=some (.struct (P.fieldsOf u))/\P.stoodInHeld u=false/\P.eqGuardType P.depth u=false/\EqF P ks (P.fieldsOf u).toList 0
section
variable {P:Program} {w:World} {t:TypeId}
theorem Zra {i:TypeInfo}(h:P.info? t=some i):(typeInfo t).run P w=.ok i w:=by simp [typeInfo,program,Sem.run,h]
theorem YC {d:TypeDesc}(h:P.underlying t=some d):(underlying t).run P w=.ok d w:=by simp [underlying,program,Sem.run,h]
theorem XX [NW] {i:TypeInfo}(h:P.info? t=some i):(sizeOf t).run P w=.ok i.size w:=by simp [sizeOf,Zra h]
theorem Zko [NW] {i:TypeInfo}{z:Value}(h:P.info? t=some i) (hz:i.zero=some z):(zeroValue t).run P w=.ok z w:=by simp [zeroValue,Zra h,hz]
theorem ZhY [NW] {d:TypeDesc}(h:P.underlying t=some d):(isAgg t).run P w=.ok (ZsK d) w:=by
 simp only[isAgg,Sem.run_bind,YC h,Result.andThen_ok];cases d<;>rfl
theorem Zwz {d:TypeDesc}{z:AV}(h:Zif d z=true):ZsK d=false:=by
 unfold Zif at h;split at h<;>first|rfl|simp at h
end
section
variable {g:Gh} {w:World}
theorem ZsO {s:ByteArray}(h:ZbS s=true):s.size<=9223372036854775807:=by
 unfold ZbS at h;have:=Nat.le_of_ble_eq_true h;rw [Array.length_toList]at this;exact this
theorem ZfU [NW] {x:AV}{v:Value}(h:ZaM x v=true):AVR g w x v:=by
 unfold ZaM at h;split at h
 .simp only[AE,beq_iff_eq]at h;exact ⟨[],⟨by rw [h.1,h.2],rfl⟩,yG⟩
 .simp only[beq_iff_eq]at h;exact ⟨[],⟨by rw [h],rfl⟩,yG⟩
 .rename_i s s';simp only[AE,beq_iff_eq]at h;have e:s=s':=by
   cases s;cases s';simpa using h.1
  exact ⟨[],⟨by rw [e],rfl,ZsO h.2⟩,yG⟩
 .rfl
 .simp at h
theorem AVR.one [NW] {x:AV}{v:Value}(h:AVR g w x v):v.oneCell'=true:=by
 cases x with
 |c x=>obtain ⟨L,h1,_⟩:=h;exact h1.one
 |n x=>
  obtain ⟨e,m,xs,cs,L,h1,h2,h3,_⟩:=h;obtain ⟨A,c,hv,_⟩:=QP h3;simp [hv,Value.oneCell']
 |row k=>exact h.2
 |nil e m=>simp [AVR]at h;simp [h,Value.oneCell']
 |dead=>exact h
theorem ZpZ {v:Value}(h:v.oneCell'=true):v.cells=#[v]:=by
 cases v<;>simp [Value.oneCell']at h<;>rfl
theorem PVR.cells [NW] {a:Bool}{cs:List AV}{v:Value}(h:PVR g w a cs v):∃vs:List Value,v.cells=vs.toArray/\ZM (AVR g w) cs vs:=by
 cases a with
 |true=>obtain ⟨vs,rfl,h2⟩:=h;exact ⟨vs,rfl,h2⟩
 |false=>obtain ⟨x,rfl,h2⟩:=h;exact ⟨[v],by rw [ZpZ h2.one],⟨h2,trivial⟩⟩
theorem AVRs.one [NW] {cs:List AV}{vs:List Value}(h:ZM (AVR g w) cs vs):∀u∈vs,u.oneCell'=true:=by
 induction vs generalizing cs with
 |nil=>simp
 |cons v r ih=>
  cases cs with
  |nil=>exact h.elim
  |cons c cs=>
   intro u m;rcases AC.1 m with rfl|m
   .exact h.1.one
   .exact ih h.2 u m
end
theorem Zuw (x y:ByteArray):(x.toList==y.toList)=decide (x=y):=by
 rw [Bool.eq_iff_iff];simp only[beq_iff_eq,decide_eq_true_eq];constructor
 .intro h;have h':x.data.toList=y.data.toList:=by rw [<-As,<-As];exact h
  cases x;cases y;simpa using h'
 .rintro rfl;rfl
end
section
open Go.RowKit
def Uk (U:Nat->Prop) (key:Nat):Nat->Prop:=fun k=>U k\/(key<=k/\k<key+16)
theorem avU.mono {U U':Nat->Prop}(h:∀k,U k->U' k) {x:AV}(hx:avU U x):avU U' x:=by cases x<;>first|exact h _ hx|trivial
theorem QW.mono [NW] {U U':Nat->Prop}(h:∀k,U k->U' k) {x:List AV}(hx:QW U x):QW U' x:=fun y m=>(hx y m).mono h
theorem svU.mono [NW] {U U':Nat->Prop}(h:∀k,U k->U' k) {x:SV}(hx:svU U x):svU U' x:=by
 cases x<;>first|exact QW.mono h hx|exact fun y m=>QW.mono h (hx y m)|exact h _ hx|trivial
theorem obU.mono [NW] {U U':Nat->Prop}(h:∀k,U k->U' k) {x:Ob}(hx:obU U x):obU U' x:=by
 cases x<;>first|exact QW.mono h hx|trivial
def Fin [NW] (P:Program) (W:ZaK) (U:Nat->Prop) (key:Nat) (st:St) (g:Gh) (w:World) (s:Sem Next) (r:SV×List (Nat×Ob)):Prop:=
 ∃g' cv w',(s.run P w=.ok (.value cv) w'\/(s.run P w=.ok .skip w'/\cv=undef))/\HI W g' (Zn st.ob r.2) w'/\SVR g' w' r.1 cv/\(∀x v,svU U x->SVR g w x v->SVR g' w' x v)/\
  svU (Uk U key) r.1/\(∀k,obU (Uk U key) (Zn st.ob r.2 k))/\∀k,¬Uk U key k->Zn st.ob r.2 k=.gone
section
variable {P:Program} {W:ZaK} {U:Nat->Prop} {key:Nat} {st:St} {g:Gh} {w:World} {a:Act} {tt:Nat->Option TI}
theorem ZaW [NW] {s:Sem Next}{v:SV}{cv:Value}(hI:HI W g st.ob w) (hU:StU U st) (a:s.run P w=.ok (.value cv) w) (hv:SVR g w v cv) (hu:svU U v):Fin P W U key st g w s (v,[]):=
 ⟨g,cv,w,.inl a,hI,hv,fun _ _ _ h=>h,hu.mono fun _=>.inl,fun k=>(hU.ob k).mono fun _=>.inl,fun k hk=>hU.gone k fun h=>hk (.inl h)⟩
theorem XK (x:CT):svU U (.p false [.c x]):=fun y m=>by simp at m;subst m;trivial
theorem Zb7 [NW] (k:IntKind) (n:Int):SVR g w (.p false [.c (.int k n)]) (.int k n):=⟨_,rfl,[],⟨rfl,rfl⟩,yG⟩
theorem ZaU [NW] (b:Bool):SVR g w (.p false [.c (.bool b)]) (.bool b):=⟨_,rfl,[],⟨rfl,rfl⟩,yG⟩
theorem ZlX [NW] {s:ByteArray}(h:s.size<=9223372036854775807):SVR g w (.p false [.c (.str s)]) (.string s):=⟨_,rfl,[],⟨rfl,rfl,h⟩,yG⟩
theorem ZbZ [NW] {k:IntKind}{n:Int}{v:Value}(h:SVR g w (.p false [.c (.int k n)]) v):v=.int k n:=by
 obtain ⟨x,hx,h⟩:=h;simp at hx;subst hx;obtain ⟨L,h1,_⟩:=h;exact h1.1
theorem Zgr [NW] {b:Bool}{v:Value}(h:SVR g w (.p false [.c (.bool b)]) v):v=.bool b:=by
 obtain ⟨x,hx,h⟩:=h;simp at hx;subst hx;obtain ⟨L,h1,_⟩:=h;exact h1.1
theorem Zjh [NW] {s:ByteArray}{v:Value}(h:SVR g w (.p false [.c (.str s)]) v):v=.string s/\s.size<=9223372036854775807:=by
 obtain ⟨x,hx,h⟩:=h;simp at hx;subst hx;obtain ⟨L,h1,_⟩:=h;exact ⟨h1.1,h1.2.2⟩
theorem ZE8 [NW] {t:Nat}(htt:∀t i,tt t=some i->TOk P t i) (v:Value):SVR g w (cvT (tt t) v) v/\svU U (cvT (tt t) v):=by
 unfold cvT;split
 .exact ⟨Zb7 _ _,XK _⟩
 .exact ⟨ZaU _,XK _⟩
 .split
  .rename_i h;exact ⟨ZlX (ZsO h),XK _⟩
  .exact ⟨trivial,trivial⟩
 .split
  .exact ⟨⟨_,rfl,rfl⟩,fun y m=>by simp at m;subst m;trivial⟩
  .exact ⟨trivial,trivial⟩
 .exact ⟨trivial,trivial⟩
theorem Zlm [NW] (htt:∀t i,tt t=some i->TOk P t i) (hS:∀t,SVR g w (st.sl t) (a.tmps.getD t undef)) (hU:StU U st) (t:Nat) (x:Operand):
  SVR g w (st.ev tt t x) (a.eval x)/\svU U (st.ev tt t x):=by
 cases x with
 |tmp s=>exact ⟨hS s,hU.sl s⟩
 |const v=>exact ZE8 htt v
 |global _=>exact ⟨trivial,trivial⟩
 |func f=>exact ⟨rfl,trivial⟩
theorem Zyo [NW] {op:BinOp}{t:Nat}{ox oy:Operand}{k k':IntKind}{n n':Int}{z:CT}(hk:k=k'\/op=.shl\/op=.shr) (hz:Zzz op k n n'=some z):
  ∃cv,(do eqGuard op t ox oy (.int k n) (.int k' n');binOp op t (.int k n) (.int k' n'):Sem Value).run P w=.ok cv w/\SVR g w (.p false [.c z]) cv:=by
 have hg:(eqGuard op t ox oy (.int k n) (.int k' n')).run P w=.ok () w:=by
  cases op<;>rfl
 simp only[Sem.run_bind,hg,Result.andThen_ok];cases op<;>simp only[Zzz,ZAz,ZFE,orI,ZEC,Zu7,ZET,ZER,Option.map_none,AY,A4,reduceCtorEq]at hz<;>(try subst hz)<;>
  (try (split at hz<;>simp only[A4,reduceCtorEq]at hz;subst hz))<;>
  simp only[reduceCtorEq,or_false,or_true]at hk<;>(try subst hk)<;>
  first
   |(refine ⟨_,?_,Zb7 _ _⟩;simp [binOp,Op.intArith,Op.intDiv,Op.intBits,Op.shift, *];done)
   |(refine ⟨_,?_,ZaU _⟩;simp [binOp,Op.intCmp];done)
set_option maxHeartbeats 1000000 in
theorem Zzo [NW] {op:BinOp} {t:Nat} {ox oy:Operand} {s s':ByteArray} {z:CT} (hz:Zyn op s s'=some z) :
    ∃ cv, (do eqGuard op t ox oy (.string s) (.string s'); binOp op t (.string s) (.string s'):Sem Value).run P w=.ok cv w ∧ SVR g w (.p false [.c z]) cv:=by
  have hg:(eqGuard op t ox oy (.string s) (.string s')).run P w=.ok () w:=by
    cases op <;> rfl
  simp only[Sem.run_bind, hg, Result.andThen_ok];cases op <;> simp only[Zyn, A4, reduceCtorEq] at hz <;> (try subst hz) <;>
    first
      | (refine ⟨_, ?_, ZaU _⟩; simp only[binOp, Op.stringOp, sLt, sEq, ← Zuw]; rfl)
      | (split at hz
         · rename_i hl
           simp only[A4] at hz;subst hz;refine ⟨_, ?_, ZlX (by rw [ByteArray.size_append]; exact hl)⟩;have hl':¬ ((s.size+s'.size:Nat):Int) > IntKind.i64.max:=by
             have:IntKind.i64.max=9223372036854775807:=by decide
             omega
           simp only[binOp, Op.stringOp, hl', if_false];rfl
         · simp at hz)
theorem Ztd [NW] {op:BinOp}{t:Nat}{ox oy:Operand}{b b':Bool}{r:Bool}(ht:P.underlying t=some .bool) (a:(op=.eql/\r=(b==b'))\/(op=.neq/\r=!(b==b'))):
  (do eqGuard op t ox oy (.bool b) (.bool b');binOp op t (.bool b) (.bool b'):Sem Value).run P w=.ok (.bool r) w:=by
 have hg:(eqGuard op t ox oy (.bool b) (.bool b')).run P w=.ok () w:=by
  cases op<;>rfl
 have he:(Op.equal t (.bool b) (.bool b')).run P w=.ok (b==b') w:=by
  have key:∀d:Nat,(Op.equalIn (d+1) t (.bool b) (.bool b')).run P w=.ok (b==b') w:=fun d=>by
   rw [Op.equalIn];simp only[Sem.run_bind,YC ht,Result.andThen_ok,Sem.run_pure]
  exact key 9999
 simp only[Sem.run_bind,hg,Result.andThen_ok];rcases a with ⟨rfl,rfl⟩|⟨rfl,rfl⟩
 .simp only[binOp,Sem.run_bind,he,Result.andThen_ok,Sem.run_pure]
 .simp only[binOp,Sem.run_bind,he,Result.andThen_ok,Sem.run_pure]
theorem ZCo [NW] (htt:∀t i,tt t=some i->TOk P t i) {op:BinOp}{t:Nat}{ox oy:Operand}{x y v:SV}{vx vy:Value}(h:Zyz (tt t) op x y=some v) (hx:SVR g w x vx) (hy:SVR g w y vy):
  ∃cv,(do eqGuard op t ox oy vx vy;binOp op t vx vy:Sem Value).run P w=.ok cv w/\SVR g w v cv/\svU U v:=by
 unfold Zyz at h;split at h
 .have ex:=ZbZ hx;have ey:=ZbZ hy;subst ex ey;split at h
  .rename_i hk;obtain ⟨z,hz,rfl⟩:=A5.1 h;obtain ⟨cv,h1,h2⟩:=Zyo (P:=P) (g:=g) (w:=w) (t:=t) (ox:=ox) (oy:=oy) hk hz;exact ⟨cv,h1,h2,XK _⟩
  .simp at h
 .obtain ⟨ex,lx⟩:=Zjh hx;obtain ⟨ey,ly⟩:=Zjh hy;subst ex ey;obtain ⟨z,hz,rfl⟩:=A5.1 h;obtain ⟨cv,h1,h2⟩:=Zzo (P:=P) (g:=g) (w:=w) (t:=t) (ox:=ox) (oy:=oy) hz;exact ⟨cv,h1,h2,XK _⟩
 .have ex:=Zgr hx;have ey:=Zgr hy;subst ex ey;split at h
  .rename_i a;simp only[A4]at h;subst h;obtain ⟨d,zv,i,h1,h2,_⟩:=htt t _ a;have hd:d=.bool:=by cases d<;>simp [Zif]at h2;rfl
   subst hd;exact ⟨_,Ztd h1 (.inl ⟨rfl,rfl⟩),ZaU _,XK _⟩
  .rename_i a;simp only[A4]at h;subst h;obtain ⟨d,zv,i,h1,h2,_⟩:=htt t _ a;have hd:d=.bool:=by cases d<;>simp [Zif]at h2;rfl
   subst hd;exact ⟨_,Ztd h1 (.inr ⟨rfl,rfl⟩),ZaU _,XK _⟩
  .simp at h
 .simp at h
theorem ZoS {k:PK}{d:TypeDesc}(h:Zd8 k d=true):ZsK d=false:=by
 unfold Zd8 at h;split at h<;>first|rfl|simp at h
theorem ZDc [NW] {k:PK}{x y:AV}{vx vy:Value}{b:Bool}{t:Nat}{d:TypeDesc}(h:eqC k x y=some b) (hd:P.underlying t=some d) (hk:Zd8 k d=true) (hx:AVR g w x vx) (hy:AVR g w y vy) (n:Nat):(Op.equalIn (n+1) t vx vy).run P w=.ok b w:=by
 unfold eqC at h;split at h
 .split at h<;>simp only[A4,reduceCtorEq]at h
  rename_i kk;subst kk h;obtain ⟨_,h1,_⟩:=hx;obtain ⟨_,h2,_⟩:=hy;have e1:=h1.1;have e2:=h2.1;subst e1 e2;cases d<;>simp [Zd8]at hk
  exact run_equalIn_int w n t _ _ _ _ hd
 .simp only[A4]at h;subst h;obtain ⟨_,h1,_⟩:=hx;obtain ⟨_,h2,_⟩:=hy;have e1:=h1.1;have e2:=h2.1;subst e1 e2;cases d<;>simp [Zd8]at hk
  rw [run_equalIn_string w n t _ _ hd,sEq,Zuw]
 .simp only[A4]at h;subst h;obtain ⟨_,h1,_⟩:=hx;obtain ⟨_,h2,_⟩:=hy;have e1:=h1.1;have e2:=h2.1;subst e1 e2;cases d<;>simp [Zd8]at hk
  exact run_equalIn_bool' w n t _ _ hd
 .simp at h
theorem Zuq [NW] (n:Nat) {X Y:Array Value}:∀{ks:List PK}{fs:List Field}{o:Nat}{xs ys:List AV}{vx vy:List Value}{b:Bool},ZnZ ks xs ys=some b->EqF P ks fs o->ZM (AVR g w) xs vx->ZM (AVR g w) ys vy->(∀j v,vx[j]?=some v->X[o+j]?=some v)->(∀j v,vy[j]?=some v->Y[o+j]?=some v)->(Op.eqFields (n+1) X Y fs).run P w=.ok b w
 | [],[],_,[],[],_,_,b,h,_,_,_,_,_=>by simp [ZnZ]at h;subst h;simp [Op.eqFields]
 |k::ks,f::fs,o,x::xs,y::ys,[],_,_,_,_,hx,_,_,_=>hx.elim
 |k::ks,f::fs,o,x::xs,y::ys,_::_,[],_,_,_,_,hy,_,_=>hy.elim
 |k::ks,f::fs,o,x::xs,y::ys,u::vx,v::vy,b,h,hf,hx,hy,hX,hY=>by
  simp only[ZnZ]at h;obtain ⟨b1,h1,h⟩:=A8.1 h;obtain ⟨b2,h2,rfl⟩:=A5.1 h;obtain ⟨f1,f2,⟨d,f3,f4⟩,f5⟩:=hf;have e1:=ZDc h1 f3 f4 hx.1 hy.1 n;have e2:=Zuq n h2 f5 hx.2 hy.2 (fun j v hj=>by have:=hX (j+1) v (by simpa using hj);rwa [show o+(j+1)=o+1+j by omega]at this) (fun j v hj=>by have:=hY (j+1) v (by simpa using hj);rwa [show o+(j+1)=o+1+j by omega]at this)
  have p1:(part f.type X f.offset).run P w=.ok u w:=by
   have:=hX 0 u yG;simp only[part,Sem.run_bind,ZhY f3,ZoS f4,Result.andThen_ok];rw [f2];simp at this;simp [this]
  have p2:(part f.type Y f.offset).run P w=.ok v w:=by
   have:=hY 0 v yG;simp only[part,Sem.run_bind,ZhY f3,ZoS f4,Result.andThen_ok];rw [f2];simp at this;simp [this]
  simp only[Op.eqFields,f1,ne_eq,not_false_eq_true,if_true,Sem.run_bind,p1,p2,e1,Result.andThen_ok];cases b1
  .simp
  .simpa using e2
 | [],_::_,_,_,_,_,_,_,_,hf,_,_,_,_=>hf.elim
 |_::_,[],_,_,_,_,_,_,_,hf,_,_,_,_=>hf.elim
 | [],[],_,_::_,_,_,_,_,h,_,_,_,_,_=>by simp [ZnZ]at h
 | [],[],_,[],_::_,_,_,_,h,_,_,_,_,_=>by simp [ZnZ]at h
 |_::_,_::_,_,[],_,_,_,_,h,_,_,_,_,_=>by simp [ZnZ]at h
 |_::_,_::_,_,_::_,[],_,_,_,h,_,_,_,_,_=>by simp [ZnZ]at h
theorem Zsx {op:BinOp}{b:Bool}{v:SV}(h:ZsH op b=some v):(op=.eql/\v=.p false [.c (.bool b)])\/(op=.neq/\v=.p false [.c (.bool (!b))]):=by
 unfold ZsH at h;split at h<;>simp only[A4,reduceCtorEq]at h<;>subst h
 .exact .inl ⟨rfl,rfl⟩
 .exact .inr ⟨rfl,rfl⟩
theorem ZA6 [NW] (htt:∀t i,tt t=some i->TOk P t i) {op:BinOp}{t:Nat}{ox oy:Operand}{x y v:SV}{vx vy:Value}(h:Zzm (tt (t+4000)) op x y=some v) (hx:SVR g w x vx) (hy:SVR g w y vy):
  ∃cv,(do eqGuard op t ox oy vx vy;binOp op t vx vy:Sem Value).run P w=.ok cv w/\SVR g w v cv/\svU U v:=by
 unfold Zzm at h;split at h
 .obtain ⟨ks,a,h'⟩:=A8.1 h;obtain ⟨b,hb,d⟩:=A8.1 h';have c:tt (t+4000)=some (.eqs ks):=by
   unfold Zx0 at a;split at a<;>simp only[A4,reduceCtorEq]at a
   rename_i c;rw [c,a]
  obtain ⟨u,e,h1,h2,h3,h4⟩:=htt _ _ c;have e:t=u:=Nat.add_right_cancel e;subst e;obtain ⟨us,rfl,f⟩:=hx;obtain ⟨vs,rfl,k⟩:=hy;have hq:=Zuq (X:=us.toArray) (Y:=vs.toArray) 9998 hb h4 f k (fun j v hj=>by simpa using hj) (fun j v hj=>by simpa using hj);have hg:=run_eqGuard_agg (P:=P) w op t ox oy us.toArray vs.toArray h3;rcases Zsx d with ⟨rfl,rfl⟩|⟨rfl,rfl⟩
  .refine ⟨_,?_,ZaU b,XK _⟩;simp only[Sem.run_bind,hg,Result.andThen_ok,run_eql_struct,run_equalIn_struct w 9999 t _ _ h1 h2,hq]
  .refine ⟨_,?_,ZaU (!b),XK _⟩;simp only[Sem.run_bind,hg,Result.andThen_ok,run_neq_struct,run_equalIn_struct w 9999 t _ _ h1 h2,hq]
 .simp at h
theorem ZEi [NW] {b:Bool}{v:Value}(h:SVR g w (.p false [.c (.ifc b)]) v):(b=true/\v=.nilIface)\/(b=false/\∃t x,v=.iface t x):=by
 obtain ⟨x,hx,h⟩:=h;simp at hx;subst hx;obtain ⟨L,h1,_⟩:=h;have h2:=h1.2.2;cases b with
 |true=>exact .inl ⟨rfl,h2⟩
 |false=>exact .inr ⟨rfl,h2⟩
theorem ZyV [NW] (htt:∀t i,tt t=some i->TOk P t i) {op:BinOp}{t:Nat}{ox oy:Operand}{x y v:SV}{vx:Value}(h:Zx6 tt t (ZkC oy) op x y=some v) (hx:SVR g w x vx) (hy:SVR g w y (a.eval oy)):
  ∃cv,(do eqGuard op t ox oy vx (a.eval oy);binOp op t vx (a.eval oy):Sem Value).run P w=.ok cv w/\SVR g w v cv/\svU U v:=by
 unfold Zx6 at h;split at h
 .rename_i hn;have ho:oy=.const .nilIface:=by
   cases oy with
   |const c=>cases c<;>first|rfl|(simp [ZkC,Zub]at hn;done)
   |_=>simp [ZkC]at hn
  subst ho;split at h
  rotate_left
  .simp at h
  rename_i d;have j:tt t=some .ifc:=by
   unfold ZxJ at d;split at d
   .assumption
   .simp at d
  obtain ⟨ms,e⟩:=htt _ _ j;unfold ZCl at h;split at h
  .rename_i b;have hb:=ZEi hx;have k:a.eval (.const .nilIface)=.nilIface:=rfl;rw [k];have hg:∀v:Value,(v=.nilIface\/∃t x,v=.iface t x)->(eqGuard op t ox (.const .nilIface) v .nilIface).run P w=.ok () w:=fun v hv=>by
    rcases hv with rfl|⟨t',x',rfl⟩
    .simp only[eqGuard];cases ox<;>cases op<;>rfl
    .simp only[eqGuard];cases op<;>rfl
   have he:(Op.equal t vx .nilIface).run P w=.ok b w:=by
    show (Op.equalIn (9999+1) t _ _).run P w=_
    rw [Op.equalIn];rcases hb with ⟨rfl,rfl⟩|⟨rfl,t',x',rfl⟩
    .simp only[Sem.run_bind,YC e,Result.andThen_ok,Sem.run_pure]
    .simp only[Sem.run_bind,YC e,Result.andThen_ok,Sem.run_pure]
   have f:=hg vx (hb.imp (fun h=>h.2) (fun h=>h.2));rcases Zsx h with ⟨rfl,rfl⟩|⟨rfl,rfl⟩
   .refine ⟨_,?_,ZaU b,XK _⟩;simp only[Sem.run_bind,f,Result.andThen_ok];rcases hb with ⟨rfl,rfl⟩|⟨rfl,t',x',rfl⟩<;>simp only[binOp,Sem.run_bind,he,Result.andThen_ok,Sem.run_pure]
   .refine ⟨_,?_,ZaU (!b),XK _⟩;simp only[Sem.run_bind,f,Result.andThen_ok];rcases hb with ⟨rfl,rfl⟩|⟨rfl,t',x',rfl⟩<;>simp only[binOp,Sem.run_bind,he,Result.andThen_ok,Sem.run_pure]
  .simp at h
 .split at h
  .exact ZA6 htt h hx hy
  .exact ZCo htt h hx hy
theorem ZE3 [NW] {op:UnOp}{x v:SV}{vx:Value}(h:unV op x=some v) (hx:SVR g w x vx):∃cv,(Op.unary op vx).run P w=.ok cv w/\SVR g w v cv/\svU U v:=by
 unfold unV at h;split at h
 .have ex:=Zgr hx;subst ex;split at h<;>simp at h
  subst h;exact ⟨_,by simp [Op.unary],ZaU _,XK _⟩
 .have ex:=ZbZ hx;subst ex;split at h<;>simp at h
  subst h;exact ⟨_,by simp [Op.unary,Op.intArith],Zb7 _ _,XK _⟩
 .simp at h
end
end
section
open Go.RowKit
section
variable {P:Program} {W:ZaK} {U:Nat->Prop} {key:Nat} {st:St} {g:Gh} {w:World} {a:Act} {tt:Nat->Option TI}
theorem ZB2 {t:Nat}{z:AV}(htt:∀t i,tt t=some i->TOk P t i) (h:tt t=some (.atom z)):∃d,P.underlying t=some d:=by
 obtain ⟨d,_,_,h,_⟩:=htt t _ h;exact ⟨d,h⟩
theorem ZrJ {t:Nat}(htt:∀t i,tt t=some i->TOk P t i) (h:Zb4 (tt t)=true):∃e,P.underlying t=some (.slice e):=by
 unfold Zb4 at h;split at h
 .rename_i h1;exact ⟨_,(htt t _ h1).1⟩
 .simp at h
theorem ZhT {t:Nat}(htt:∀t i,tt t=some i->TOk P t i) (h:ZcV (tt t)=true):P.underlying t=some .string:=by
 unfold ZcV at h;split at h
 .rename_i h1;obtain ⟨d,zv,i,h2,h3,_⟩:=htt t _ h1;have hd:d=.string:=by cases d<;>simp [Zif]at h3;rfl
  rw [hd]at h2;exact h2
 .simp at h
theorem Zzv [NW] (htt:∀t i,tt t=some i->TOk P t i) {s t:Nat}{x v:SV}{vx:Value}(h:ZrI (tt s) (tt t) x=some v) (hx:SVR g w x vx):∃cv,(convert s t vx).run P w=.ok cv w/\SVR g w v cv/\svU U v:=by
 unfold ZrI at h;split at h
 .have ex:=ZbZ hx;subst ex;split at h
  .rename_i h1 h2;simp only[A4]at h;subst h;obtain ⟨d,zv,i,h3,h4,_⟩:=htt t _ h2;have hd:∃k,d=.int k:=by cases d<;>simp [Zif]at h4;exact ⟨_,rfl⟩
   obtain ⟨k,rfl⟩:=hd;simp only[Zif,beq_iff_eq]at h4;subst h4;obtain ⟨ds,hs⟩:=ZB2 htt h1;refine ⟨_,?_,Zb7 _ _,XK _⟩;simp [convert,YC hs,YC h3,Conv.intToInt]
  .simp at h
 .simp at h
theorem Zhv [NW] {e m:Nat}{xs:List (List CT)}{v:Value}(h:SVR g w (.p false [.c (.sl e m xs)]) v):∃A cap cs L0 L1,v=.slice A xs.length cap/\xs.length<=cap/\cap<=maxLen/\0<m/\Sl w m A xs.length cs L0/\REs w m xs cs L1/\(∀b∈L0++L1,¬g.own b):=by
 obtain ⟨x,hx,h⟩:=h;simp at hx;subst hx;obtain ⟨L,⟨A,cap,cs,L0,L1,h1,h2,h3,h4,h5,h6,h7⟩,ho⟩:=h;exact ⟨A,cap,cs,L0,L1,h1,h2,h3,h5,h6,h7,fun b m=>ho b (h4 ▸ m)⟩
theorem Zgn [NW] {k:Nat}{v:Value}(h:SVR g w (.p false [.row k]) v):v=g.val k:=by
 obtain ⟨x,hx,h⟩:=h;simp at hx;subst hx;exact h.1
theorem ZtI [NW] {e m:Nat}{v:Value}(h:SVR g w (.p false [.nil e m]) v):v=.slice none 0 0:=by
 obtain ⟨x,hx,h⟩:=h;simp at hx;subst hx;exact h
theorem Zdl {B e m n:Nat}{v:Value}{cs:List Value}(h:w.ownsV B e m v n cs):∃A cap,v=.slice A n cap:=by
 obtain ⟨A,c,hv,_⟩:=QP h;exact ⟨A,c,hv⟩
theorem ZFF [NW] {x:CT}{v:Value}(h:SVR g w (.p false [.n x]) v):NR g w x v:=by
 obtain ⟨y,hy,h⟩:=h;simp at hy;subst hy;exact h
theorem ZC0 [NW] (htt:∀t i,tt t=some i->TOk P t i) (hI:HI W g st.ob w) {t:Nat}{ts:Array TypeId}{ty:TypeId}(a:ts[0]?=some t) {x v:SV}{vx:Value}(h:Zn4 st (tt t) x=some v) (hx:SVR g w x vx):
  ∃cv,(Builtin.len_ ts ty #[vx]).run P w=.ok cv w/\SVR g w v cv/\svU U v:=by
 have fin:∀(A:Option Addr) (n c:Nat),Zb4 (tt t)=true->(Builtin.len_ ts ty #[.slice A n c]).run P w=.ok (.int .i64 n) w:=fun A n c hs=>by
  obtain ⟨e,he⟩:=ZrJ htt hs;simp [Builtin.len_,a,YC he,goInt]
 unfold Zn4 at h;split at h
 .split at h<;>simp at h
  rename_i hs;subst h;obtain ⟨A,cap,_,_,_,rfl,_⟩:=Zhv hx;exact ⟨_,fin _ _ _ hs,Zb7 _ _,XK _⟩
 .split at h<;>simp at h
  rename_i hs;subst h;obtain ⟨_,_,_,_,_,h1,_,h3,_⟩:=ZFF hx;simp only[CT.sl.injEq]at h1;obtain ⟨_,_,rfl⟩:=h1;obtain ⟨A,cap,rfl⟩:=Zdl h3;exact ⟨_,fin _ _ _ hs,Zb7 _ _,XK _⟩
 .split at h<;>simp at h
  rename_i hs;subst h;obtain ⟨rfl,_⟩:=Zjh hx;refine ⟨_,?_,Zb7 _ _,XK _⟩;simp [Builtin.len_,a,YC (ZhT htt hs),goInt]
 .split at h<;>simp at h
  rename_i hs;subst h;have:=ZtI hx;subst this;exact ⟨_,fin _ _ _ hs,Zb7 _ _,XK _⟩
 .split at h
  .rename_i k _ e m xs d hk;split at h<;>simp at h
   rename_i hs;subst h;have hv:=Zgn hx;subst hv;have ho:=hI.obs k;rw [hk]at ho;obtain ⟨_,cs,L,h1,_⟩:=ho;obtain ⟨A,cap,hv⟩:=Zdl h1;rw [hv];exact ⟨_,fin _ _ _ hs,Zb7 _ _,XK _⟩
  .simp at h
 .simp at h
theorem Zmq {f:Value->ByteArray->Sem (ForInStep ByteArray)}(hf:∀n s,f (.int .u8 n) s=pure (ForInStep.yield (s.push (AO n.toNat)))):∀(l:List Int) (s:ByteArray),(forIn (l.map fun n=>Value.int .u8 n) s f).run P w=.ok ⟨s.data++(l.map fun n=>AO n.toNat).toArray⟩ w
 | [],s=>by simp
 |n::l,s=>by
  have ih:=Zmq hf l (s.push (AO n.toNat));simp only[At,List.forIn_cons,hf,Sem.run_bind,Sem.run_pure,Result.andThen_ok,ih];congr 2
  apply Array.ext';simp [ByteArray.push]
theorem Zvx [NW] {b o cap:Nat}(l:List Int) (hc:∀j u,(l.map fun n=>Value.int .u8 n)[j]?=some u->w.cell? ⟨b,o+j,none⟩=some u):(Conv.bytesToString (.slice (some ⟨b,o,none⟩) l.length cap)).run P w=.ok (.string (Xn l)) w:=by
 have h1:=run_loadCells_list (P:=P) w ⟨b,o,none⟩ (l.map fun n=>Value.int .u8 n) (fun j u hj=>by rw [ZbY];exact hc j u hj);rw [Aq]at h1;unfold Conv.bytesToString;simp only[Sem.run_bind,h1,Result.andThen_ok,<-Array.forIn_toList];rw [Zmq (fun _ _=>rfl)];simp [Xn,ByteArray.empty,ByteArray.emptyWithCapacity];rfl
theorem ZmP {m:Nat}:∀{xs:List (List CT)}{l:List Int}{cs:List Value}{L:List Nat},Ze6 xs=some l->REs w m xs cs L->cs=l.map (fun n=>Value.int .u8 n)/\xs.length=l.length
 | [],_,_,_,h,⟨h1,_⟩=>by simp [Ze6]at h;subst h h1;simp
 |x::r,l,_,_,h,⟨c1,c2,L1,L2,rfl,rfl,h3,h4⟩=>by
  unfold Ze6 at h;split at h
  .rename_i he;simp at he
  .rename_i n r' he;simp only[List.cons.injEq]at he;obtain ⟨rfl,rfl⟩:=he;obtain ⟨l',hl,rfl⟩:=A5.1 h;obtain ⟨i1,i2⟩:=ZmP hl h4;obtain ⟨v,cs',_,_,rfl,rfl,a1,a2⟩:=h3.1;obtain ⟨rfl,_⟩:=a2;rw [a1.1,i1];exact ⟨rfl,by simp [i2]⟩
  .simp at h
theorem Zro (l:List Int):(Xn l).size=l.length:=by simp [Xn,ByteArray.size]
theorem Zxn [NW] (htt:∀t i,tt t=some i->TOk P t i) (hI:HI W g st.ob w) {s t:Nat}{x v:SV}{vx:Value}(y:ZcV (tt t)=true) (f:Zni (Zqi tt (tt s))=true) (h:ZiG st x=some v) (hx:SVR g w x vx):∃cv,(convert s t vx).run P w=.ok cv w/\SVR g w v cv/\svU U v:=by
 have ht:=ZhT htt y;have hs:∃e,P.underlying s=some (.slice e)/\P.underlying e=some (.int .u8):=by
  unfold Zqi at f;split at f
  .rename_i e m b z B;have h1:=(htt _ _ B).1;unfold Zni at f;split at f
   .rename_i C;obtain ⟨d,zv,i,h2,h3,_⟩:=htt _ _ C;cases d<;>simp [Zif]at h3
    subst h3;exact ⟨e,h1,h2⟩
   .simp at f
  .simp [Zni]at f
 obtain ⟨e,hs,he⟩:=hs;have go:∀A n c,(convert s t (.slice A n c)).run P w=(Conv.bytesToString (.slice A n c)).run P w:=fun A n c=>by
  unfold convert;simp only[Sem.run_bind,YC hs,YC ht,YC he,Result.andThen_ok]
 have fin:∀(A:Option Addr) (n cap:Nat) (cs:List Value) (L:List Nat) (xs:List (List CT)) (l:List Int) (m:Nat),n=xs.length->0<m->Ze6 xs=some l->REs w m xs cs L->n<=9223372036854775807->(n=0\/∃b o,A=some ⟨b,o,none⟩/\Qh w b o cs)->∃cv,(convert s t (.slice A n cap)).run P w=.ok cv w/\SVR g w (.p false [.c (.str (Xn l))]) cv/\svU U (.p false [.c (.str (Xn l))]):=by
  intro A n cap cs L xs l m hn hm hl hR hsz hA;obtain ⟨i1,i2⟩:=ZmP hl hR;have q:(Xn l).size<=9223372036854775807:=by rw [Zro];omega
  refine ⟨.string (Xn l),?_,ZlX q,XK _⟩;rw [go];rcases hA with h0|⟨b,o,rfl,hc⟩
  .have:l=[]:=AQ yE;subst this;cases A with
   |none=>rfl
   |some a=>
    have h1:=run_loadCells_list (P:=P) w a [] yG;rw [h0];unfold Conv.bytesToString;simp only[List.length_nil]at h1;simp only[Sem.run_bind,h1,Result.andThen_ok];rfl
  .rw [hn,i2];exact Zvx l fun j u hj=>hc j u (by rw [i1];exact hj)
 unfold ZiG at h;split at h
 .split at h
  .rename_i k _ e' m xs d hk;obtain ⟨l,hl,rfl⟩:=A5.1 h;have hv:=Zgn hx;have ho:=hI.obs k;rw [hk]at ho;obtain ⟨hm,cs,L,h1,h2,_⟩:=ho;rw [hv];rcases h1.2 with ⟨h3,h4⟩|⟨b,o,cap,cur,h3,h4,h5,h6,h7,h8,h9⟩
   .rw [h3];exact fin _ _ _ cs L xs l m yE hm hl h2 yE (.inl rfl)
   .rw [h3];refine fin _ _ _ cs L xs l m rfl hm hl h2 (by unfold maxLen at h7;omega) (.inr ⟨b,o,rfl,fun j u hj=>?_⟩);exact ZjA h1 h3 j u hj
  .simp at h
 .obtain ⟨l,hl,rfl⟩:=A5.1 h;obtain ⟨A,cap,cs,L0,L1,rfl,h2,h3,h5,h6,h7,_⟩:=Zhv hx;rename_i e' m' xs _;refine fin _ _ _ cs L1 xs l _ rfl h5 hl h7 (by unfold maxLen at h3;omega) ?_;rcases Nat.eq_zero_or_pos xs.length with h0|h0
  .exact .inl h0
  .obtain ⟨b,off,h8,h9,hc⟩:=h6.at_ h0;exact .inr ⟨b,off,h8,hc⟩
 .simp at h
theorem Zwr [NW] (htt:∀t i,tt t=some i->TOk P t i) (hI:HI W g st.ob w) {s t:Nat}{x v:SV}{vx:Value}(h:ZgN tt st s t x=some v) (hx:SVR g w x vx):∃cv,(convert s t vx).run P w=.ok cv w/\SVR g w v cv/\svU U v:=by
 unfold ZgN at h;split at h
 .rename_i hc;simp only[AE]at hc;exact Zxn htt hI hc.1 hc.2 h hx
 .exact Zzv htt h hx
theorem RCs.avr [NW] {e:List CT}{cs:List Value}{L:List Nat}:RCs w e cs L->(∀b∈L,¬g.own b)->ZM (AVR g w) (e.map .c) cs:=by
 induction e generalizing cs L with
 |nil=>intro h _;obtain ⟨rfl,rfl⟩:=h;trivial
 |cons x r ih=>
  rintro ⟨v,cs',L1,L2,rfl,rfl,h1,h2⟩ ho;exact ⟨⟨L1,h1,fun b m=>ho b (by simp [m])⟩,ih h2 fun b m=>ho b (by simp [m])⟩
theorem Zuf (a:Bool) (e:List CT):QW U (e.map AV.c):=fun y m=>by
 obtain ⟨x,_,rfl⟩:=Af.1 m;trivial
theorem Zqb [NW] (htt:∀t i,tt t=some i->TOk P t i) {t b lo off:Nat}{cs:List AV}{vs:List Value}{v:SV}(h:cut (tt t) cs off=some v) (hc:Qh w b lo vs) (hr:ZM (AVR g w) cs vs) (hu:QW U cs):
  ∃cv,(Instr.loadAt t (.pointer (some ⟨b,lo+off,none⟩))).run P w=.ok cv w/\SVR g w v cv/\svU U v:=by
 have hlen:=hr.len;have one:∀d,P.underlying t=some d->ZsK d=false->∀x,cs[off]?=some x->∃cv,(Instr.loadAt t (.pointer (some ⟨b,lo+off,none⟩))).run P w=.ok cv w/\SVR g w (.p false [x]) cv/\svU U (.p false [x]):=fun d hd ha x hx=>by
  obtain ⟨u,h1,h2⟩:=hr.at hx;refine ⟨u,?_,⟨x,rfl,h2⟩,fun y m=>by simp at m;subst m;exact hu y (Ag hx)⟩;simp [Instr.loadAt,Instr.sureAddr,loadVar,ZhY hd,ha,load,Sem.run,hc off u h1]
 unfold cut at h;split at h
 .rename_i fs n z f;split at h<;>simp at h
  rename_i hn;subst h;obtain ⟨fields,i,zvs,h1,h2,h3,_⟩:=htt t _ f;refine ⟨.agg ((vs.drop off).take n).toArray,?_,⟨_,rfl,(hr.drop off).take n⟩,fun y m=>hu y (AL (AX m))⟩;have hl:((vs.drop off).take n).length=i.size:=by simp;omega
  have a:=run_loadCells_list (P:=P) w ⟨b,lo+off,none⟩ ((vs.drop off).take n) (fun j u hj=>by
   rw [ZbY,AD];refine hc _ u ?_;have k:j<n:=by
    have:=(AR.1 hj).1;simp at this;omega
   rw [Au,if_pos k,Aw]at hj;exact hj)
  rw [hl]at a;simp [Instr.loadAt,Instr.sureAddr,loadVar,ZhY h1,ZsK,XX h2,a]
 .simp at h
 .rename_i i f l c;obtain ⟨x,hx,rfl⟩:=A5.1 h;cases i with
  |atom z=>obtain ⟨d,zv,i,h1,h2,_⟩:=htt t _ c;exact one d h1 (Zwz h2) x hx
  |strct fs n z=>exact absurd rfl (f _ _ _)
  |slice e m b z=>exact one _ (htt t _ c).1 rfl x hx
  |map kk vk=>
   obtain ⟨kt,et,_,_,_,_,h1,_⟩:=htt t _ c;exact one _ h1 rfl x hx
  |ifc=>obtain ⟨ms,h1⟩:=htt t _ c;exact one _ h1 rfl x hx
  |eqs ks=>exact absurd rfl (l _)
 .simp at h
end
end
section
open Go.RowKit
section
variable {P:Program} {W:ZaK} {U:Nat->Prop} {key:Nat} {st:St} {g:Gh} {w:World} {a:Act} {tt:Nat->Option TI}
theorem HI.deep [NW] {ob:Nat->Ob}{k e m:Nat}{xs:List (List CT)}{d:Nat}(hI:HI W g ob w) (hk:ob k=.row e m xs d):0<m/\∃cs L,w.ownsV 0 e m (g.val k) xs.length cs/\REs w m xs cs L/\(∀b∈L,¬g.own b)/\((d=2/\g.O k=(g.val k).ownBlock.toList/\g.D k=L)\/(d=1/\g.O k=(g.val k).ownBlock.toList/\g.D k=[])\/(d=0/\g.O k=[]/\g.D k=[]/\∀b∈(g.val k).ownBlock.toList,¬g.own b)):=by
 have ho:=hI.obs k;rw [hk]at ho;obtain ⟨hm,cs,L,h1,h2,h4⟩:=ho;refine ⟨hm,cs,L,h1,h2,?_,?_⟩
 .rcases h4 with ⟨_,_,h4⟩|⟨_,_,_,h4⟩|⟨_,_,_,h4⟩
  .rintro b mb (⟨j,mj⟩|hz)
   .by_cases a:j=k
    .subst a;have:=hI.nodup j;rw [AI]at this;exact this.2.2 b mj b (h4 ▸ mb) rfl
    .exact hI.apart j k a b (by simp [mj]) (by simp [h4,mb])
   .exact hI.nz (k:=k) (by simp [h4,mb]) hz
  .exact h4
  .exact fun b mb=>h4 b (by simp [mb])
 .rcases h4 with h4|⟨q1,q2,q3,_⟩|⟨q1,q2,q3,q4⟩
  .exact .inl h4
  .exact .inr (.inl ⟨q1,q2,q3⟩)
  .exact .inr (.inr ⟨q1,q2,q3,fun b mb=>q4 b (by simp [mb])⟩)
theorem HI.deepO [NW] {ob:Nat->Ob}{k e m:Nat}{xs:List (List CT)}{d:Nat}(hI:HI W g ob w) (hk:ob k=.row e m xs d) (hd:¬d=0):0<m/\∃cs L,w.ownsV 0 e m (g.val k) xs.length cs/\REs w m xs cs L/\(∀b∈L,¬g.own b)/\g.O k=(g.val k).ownBlock.toList/\((d=2/\g.D k=L)\/(d=1/\g.D k=[])):=by
 obtain ⟨hm,cs,L,h1,h2,h3,h4⟩:=hI.deep hk;refine ⟨hm,cs,L,h1,h2,h3,?_⟩;rcases h4 with ⟨q1,q2,q3⟩|⟨q1,q2,q3⟩|⟨q1,_⟩
 .exact ⟨q2,.inl ⟨q1,q3⟩⟩
 .exact ⟨q2,.inr ⟨q1,q3⟩⟩
 .exact absurd q1 hd
theorem REs.at {m:Nat}:∀{xs:List (List CT)}{cs:List Value}{L:List Nat}{i:Nat}{e:List CT},REs w m xs cs L->xs[i]?=some e->
  ∃c L',RCs w e c L'/\c.length=m/\(∀b∈L',b∈L)/\∀j u,c[j]?=some u->cs[i*m+j]?=some u
 | [],_,_,_,_,_,h=>by simp at h
 |x::r,_,_,0,e,⟨c1,c2,L1,L2,rfl,rfl,h3,h4⟩,h=>by
  simp at h;subst h;exact ⟨c1,L1,h3.1,h3.2,fun b mb=>by simp [mb],fun j u hu=>by
   rw [Nat.zero_mul,AS,List.getElem?_append_left (AR.1 hu).1];exact hu⟩
 |x::r,_,_,i+1,e,⟨c1,c2,L1,L2,rfl,rfl,h3,h4⟩,h=>by
  obtain ⟨c,L',a1,a2,a3,a4⟩:=REs.at h4 (i:=i) (e:=e) (by simpa using h);refine ⟨c,L',a1,a2,fun b mb=>by simp [a3 b mb],fun j u hu=>?_⟩;have hl:=h3.2;rw [List.getElem?_append_right (by rw [A9];omega)];rw [<-a4 j u hu];congr 1
  rw [hl,A9];omega
theorem REs.len {m:Nat}:∀{xs:List (List CT)}{cs:List Value}{L:List Nat},REs w m xs cs L->cs.length=xs.length*m
 | [],_,_,h=>by simp [h.1]
 |x::r,_,_,⟨c1,c2,L1,L2,rfl,rfl,h3,h4⟩=>by simp [h3.2,REs.len h4,A9];omega
theorem ZC1 [NW] (htt:∀t i,tt t=some i->TOk P t i) (hI:HI W g st.ob w) (hU:StU U st) {t e m a:Nat}{z:List AV}(p:tt t=some (.slice e m a z)) {x i v:SV}{vx vi:Value}(h:ZbC st m x i=some v) (hx:SVR g w x vx) (B:svU U x) (hi:SVR g w i vi):
  ∃cv,(Instr.indexAt t vx vi).run P w=.ok cv w/\SVR g w v cv/\svU U v:=by
 obtain ⟨hu,hm,_,⟨ie,zv,C,D,_⟩,_⟩:=htt t _ p;have f:∀(b o n c:Nat) (k:IntKind) (q:Int),0<=q->q<n->(Instr.indexAt t (.slice (some ⟨b,o,none⟩) n c) (.int k q)).run P w=.ok (.pointer (some ⟨b,o+q.toNat*m,none⟩)) w:=fun b o n c k q h0 h1=>by
  simp [Instr.indexAt,asIntOf,YC hu,h0,h1,XX C,D,ZbY]
 unfold ZbC at h;split at h
 .have ei:=ZbZ hi;subst ei;split at h
  .rename_i hq;obtain ⟨x,l,rfl⟩:=A5.1 h;obtain ⟨A,cap,cs,L0,L1,rfl,h2,h3,h5,h6,h7,ho⟩:=Zhv hx;obtain ⟨h0,rfl⟩:=hq;have hlt:=(AR.1 l).1;obtain ⟨b,off,rfl,rfl,hc⟩:=h6.at_ yE;obtain ⟨c,L',a1,a2,a3,a4⟩:=h7.at l;refine ⟨_,f b off _ _ _ _ h0 yE,⟨b,off+_,c,L',by rw [Nat.add_zero],fun j u hj=>?_,a1,fun y my=>?_,?_⟩,trivial⟩
   .rw [AD];exact hc _ u (a4 j u hj)
   .rcases AC.1 my with rfl|my
    .exact ho _ yG
    .exact ho _ (by simp [a3 y my])
   .exact h6.lt h5 b yG
  .simp at h
 .rename_i k _ _;have ei:=ZbZ hi;subst ei;split at h
  .rename_i e' m' xs d hk;split at h
   .rename_i hq;obtain ⟨h0,h1,rfl⟩:=hq;simp only[A4]at h;subst h;have hv:=Zgn hx;subst hv;obtain ⟨_,cs,L,o1,_⟩:=hI.deep hk;rcases o1.2 with ⟨_,hn⟩|⟨b,o,cap,cur,hv,_⟩
    .omega
    .refine ⟨_,by rw [hv];exact f b o _ _ _ _ h0 h1,⟨b,o,_,_,hv,yG⟩,by have:=B (.row k) yG;exact this⟩
   .simp at h
  .simp at h
 .simp at h
theorem Zzt [NW] (htt:∀t i,tt t=some i->TOk P t i) {t:Nat}{x i v:SV}{vx vi:Value}(h:ZmC (tt t) x i=some v) (hx:SVR g w x vx) (hi:SVR g w i vi):
  ∃cv,(Instr.index t vx vi).run P w=.ok cv w/\SVR g w v cv/\svU U v:=by
 unfold ZmC at h;split at h
 .have ei:=ZbZ hi;subst ei;obtain ⟨rfl,_⟩:=Zjh hx;split at h
  .rename_i hq;obtain ⟨b,hb,rfl⟩:=A5.1 h;refine ⟨_,?_,Zb7 _ _,XK _⟩;simp [Instr.index,asIntOf,YC (ZhT htt hq.2),hq.1,hb]
  .simp at h
 .simp at h
theorem Zu3 [NW] {e:List CT}{v:Value}(h:SVR g w (.p false [.c (.pt e)]) v):∃b cs L,v=.pointer (some ⟨b,0,none⟩)/\b<w.heap.size/\Qh w b 0 cs/\RCs w e cs L/\∀x∈b::L,¬g.own x:=by
 obtain ⟨x,hx,h⟩:=h;simp at hx;subst hx;obtain ⟨_,⟨b,cs,L,h1,h2,rfl,h4,h5⟩,ho⟩:=h;exact ⟨b,cs,L,h1,h2,h4,h5,ho⟩
theorem Zu6 [NW] (htt:∀t i,tt t=some i->TOk P t i) (hI:HI W g st.ob w) (hU:StU U st) {t:Nat}{x v:SV}{vx:Value}(h:QZ st (tt t) x=some v) (hx:SVR g w x vx):
  ∃cv,(Instr.loadAt t vx).run P w=.ok cv w/\SVR g w v cv/\svU U v:=by
 unfold QZ at h;split at h
 .rename_i k off;split at h
  .rename_i tb cs hk;obtain ⟨b,h1,rfl⟩:=hx;have ho:=hI.obs k;rw [hk]at ho;obtain ⟨b',vs,o1,o2,o3,o4,o5⟩:=ho;have hb:b=b':=by rw [o1]at h1;simpa using h1.symm
   subst hb;have hu:=hU.ob k;rw [hk]at hu;have hc:Qh w b 0 vs:=fun j u hj=>by
    rw [AS,cell_of_row w b j vs.toArray tb (0,0) o4];simpa using hj
   have:=Zqb (P:=P) htt h hc o5 hu;simpa using this
  .simp at h
 .rename_i k m i off;split at h
  .rename_i e m' xs d hk;obtain ⟨x,a,h'⟩:=A8.1 h;obtain ⟨b,o,n,c,h1,rfl⟩:=hx;obtain ⟨hm,cs,L,o1,o2,o3,_⟩:=hI.deep hk;split at h'
   .rename_i f;subst f;obtain ⟨c',L',a1,a2,a3,a4⟩:=o2.at a;have hc:Qh w b (o+i*m) c':=fun j u hj=>by
     rw [AD];exact ZjA o1 h1 (i*m+j) u (a4 j u hj)
    rw [<-AD];exact Zqb htt h' hc (a1.avr fun y my=>o3 y (a3 y my)) (Zuf true _)
   .simp at h'
  .simp at h
 .obtain ⟨b,lo,cs,L,rfl,h2,h3,h4,h5⟩:=hx;exact Zqb htt h h2 (h3.avr fun y my=>h4 y (by simp [my])) (Zuf true _)
 .obtain ⟨b,cs,L,rfl,h2,h3,h4,h5⟩:=Zu3 hx;have:=Zqb (P:=P) (U:=U) htt h h3 (h4.avr fun y my=>h5 y (by simp [my])) (Zuf true _);simpa using this
 .simp at h
theorem ZBr [NW] {d:Nat}{x v:SV}{vx:Value}(h:ZkQ d x=some v) (hx:SVR g w x vx) (hu:svU U x):∃b o,vx=.pointer (some ⟨b,o,none⟩)/\SVR g w v (.pointer (some ⟨b,o+d,none⟩))/\svU U v:=by
 unfold ZkQ at h;split at h<;>simp at h<;>subst h
 .obtain ⟨b,h1,rfl⟩:=hx;exact ⟨b,_,rfl,⟨b,h1,rfl⟩,hu⟩
 .obtain ⟨b,o,n,c,h1,rfl⟩:=hx;exact ⟨b,_,rfl,⟨b,o,n,c,h1,by simp only[AD]⟩,hu⟩
 .obtain ⟨b,lo,cs,L,rfl,h⟩:=hx;exact ⟨b,_,rfl,⟨b,lo,cs,L,by rw [AD],h⟩,trivial⟩
 .obtain ⟨b,cs,L,rfl,h2,h3,h4,h5⟩:=Zu3 hx;exact ⟨b,0,rfl,⟨b,0,cs,L,rfl,h3,h4,h5,h2⟩,trivial⟩
theorem ZCv [NW] (htt:∀t i,tt t=some i->TOk P t i) {t f n:Nat}{fs:List FI}{z:List AV}(c:tt t=some (.strct fs n z)) {fi:FI}(hf:fs[f]?=some fi) {x v:SV}{vx:Value}(h:ZkQ fi.off x=some v) (hx:SVR g w x vx) (hu:svU U x):
  ∃cv,(Instr.fieldAt t vx f).run P w=.ok cv w/\SVR g w v cv/\svU U v:=by
 obtain ⟨b,o,rfl,h1,h2⟩:=ZBr h hx hu;obtain ⟨a,i,zvs,u1,_,_,_,_,u2⟩:=htt t _ c;obtain ⟨fl,e1,e2,e3,j,d,e4,e5,_⟩:=u2.at hf;have e:a[f]?=some fl:=by simpa using e1
 refine ⟨_,?_,h1,h2⟩;simp [Instr.fieldAt,YC u1,e,Instr.sureAddr,fieldPlace,XX e4,e5,e3,ZbY,e2]
theorem ZzX [NW] (htt:∀t i,tt t=some i->TOk P t i) {t f n:Nat}{fs:List FI}{z:List AV}(c:tt t=some (.strct fs n z)) {x v:SV}{vx:Value}(h:ZmF fs f x=some v) (hx:SVR g w x vx) (hu:svU U x):
  ∃cv,(Instr.field t vx f).run P w=.ok cv w/\SVR g w v cv/\svU U v:=by
 unfold ZmF at h;split at h
 .rename_i cs;obtain ⟨fi,hf,h⟩:=A8.1 h;obtain ⟨vs,rfl,hr⟩:=hx;obtain ⟨a,i,zvs,u1,_,_,_,_,u2⟩:=htt t _ c;obtain ⟨fl,e1,e2,e3,j,d,e4,e5,e6,e7⟩:=u2.at hf;have b:a[f]?=some fl:=by simpa using e1
  have hlen:=hr.len;split at h
  .rename_i ha;split at h<;>simp at h
   rename_i hn;subst h;refine ⟨.agg ((vs.drop fi.off).take fi.size).toArray,?_,⟨_,rfl,(hr.drop _).take _⟩,fun y m=>hu y (AL (AX m))⟩;simp [Instr.field,YC u1,b,asAgg,part,ZhY e6,e7,ha,XX e4,e5,e2]
  .rename_i ha;obtain ⟨y,hy,rfl⟩:=A5.1 h;obtain ⟨u,b1,b2⟩:=hr.at hy;refine ⟨u,?_,⟨y,rfl,b2⟩,fun z mz=>by simp at mz;subst mz;exact hu z (Ag hy)⟩;simp [Instr.field,YC u1,b,asAgg,part,ZhY e6,e7,ha,e2,b1]
 .simp at h
theorem Zze [NW] {c:Bool}{x y:SV}{vc vx vy:Value}(hc:SVR g w (.p false [.c (.bool c)]) vc) (hx:SVR g w x vx/\svU U x) (hy:SVR g w y vy/\svU U y):
  ∃cv,(do pure (Next.value (if <-asBool vc then vx else vy)):Sem Next).run P w=.ok (.value cv) w/\SVR g w (if c=true then x else y) cv/\svU U (if c=true then x else y):=by
 have:=Zgr hc;subst this;cases c
 .exact ⟨vy,by simp [asBool],by simpa using hy.1,by simpa using hy.2⟩
 .exact ⟨vx,by simp [asBool],by simpa using hx.1,by simpa using hx.2⟩
theorem ZBc [NW] {i:Nat}{x v:SV}{vx:Value}(h:Zw4 i x=some v) (hx:SVR g w x vx) (hu:svU U x):∃cv,(Instr.extract vx i).run P w=.ok cv w/\SVR g w v cv/\svU U v:=by
 unfold Zw4 at h;split at h
 .obtain ⟨y,hy,rfl⟩:=A5.1 h;obtain ⟨vs,rfl,hr⟩:=hx;obtain ⟨u,b1,b2⟩:=hr.at hy;exact ⟨u,by simp [Instr.extract,b1],b2,hu y (Ag hy)⟩
 .simp at h
theorem ZxK [NW] {lo:Bool}{x y v:SV}{vx vy:Value}{ts:Array TypeId}{ty:TypeId}(h:Zwn lo x y=some v) (hx:SVR g w x vx) (hy:SVR g w y vy):
  ∃cv,((if lo then Builtin.min_ ts ty #[vx,vy] else Builtin.max_ ts ty #[vx,vy]):Sem Value).run P w=.ok cv w/\SVR g w v cv/\svU U v:=by
 unfold Zwn at h;split at h
 .have ex:=ZbZ hx;have ey:=ZbZ hy;subst ex ey;simp only[A4]at h;subst h;refine ⟨_,?_,Zb7 _ _,XK _⟩;cases lo
  .simp [Builtin.max_,Builtin.max2]
  .simp [Builtin.min_,Builtin.min2]
 .simp at h
end
end
section
open Go.RowKit
theorem Zgc {α:Type}(l:List α) (off:Nat) (vs:List α) (h:off+vs.length<=l.length):(splice l off vs).length=l.length:=by
 simp [splice];omega
theorem Zsq {α:Type}(l:List α) (n:Nat) (v:α) (r:List α) (h:n+(r.length+1)<=l.length):splice (l.set n v) (n+1) r=splice l n (v::r):=by
 unfold splice;have e1:(l.set n v).take (n+1)=l.take n++[v]:=by
  rw [List.take_succ_eq_append_getElem (by simp;omega)];simp [List.take_set_of_le]
 have e2:(l.set n v).drop (n+1+r.length)=l.drop (n+(v::r).length):=by
  rw [List.drop_set_of_lt yE];congr 1
  simp;omega
 rw [e1,e2];simp
theorem Zpw [NW] (off:Nat):∀(vs:List Value) (k:Nat) (cells:Array Value),off+k+vs.length<=cells.size->
  (vs.zipIdx k).foldl (fun (cs:Array Value) (p:Value×Nat)=>cs.setIfInBounds (off+p.2) p.1) cells=(splice cells.toList (off+k) vs).toArray
 | [],k,cells,h=>by simp [splice]
 |v::r,k,cells,h=>by
  rw [List.zipIdx_cons,List.foldl_cons,Zpw off r (k+1) _ (by simp at h ⊢;omega)];have:=Zsq cells.toList (off+k) v r (by simpa using h);rw [<-this];simp [AD]
theorem Zm6 [NW] (off:Nat) (v:Value) (vs:List Value) (hv:v.cells=vs.toArray) (cells:Array Value) (h:off+vs.length<=cells.size):
  v.cells.zipIdx.foldl (fun cs (c,j)=>cs.setIfInBounds (off+j) c) cells=(splice cells.toList off vs).toArray:=by
 have:=Zpw off vs 0 cells (by simpa using h);rw [hv,<-Array.foldl_toList];simpa using this
section
variable {P:Program} {W:ZaK} {U:Nat->Prop} {key:Nat} {st:St} {g:Gh} {w:World} {a:Act} {tt:Nat->Option TI}
theorem ZM.splice {α β:Type}{R:α->β->Prop}{l vs:List α}{r us:List β}(h:ZM R l r) (h':ZM R vs us) (off:Nat):ZM R (splice l off vs) (splice r off us):=by
 unfold Go.Proofs.YtlpkbfjcdaanmaaGreatDoor.splice;rw [h'.len];exact (h.take _).append (h'.append (h.drop _))
theorem Zlz {l vs:List AV}(h:QW U l) (h':QW U vs) (off:Nat):QW U (splice l off vs):=by
 intro y m;unfold splice at m;rcases A3.1 m with m|m
 .exact h y (AX m)
 .rcases A3.1 m with m|m
  .exact h' y m
  .exact h y (AL m)
theorem ZuW [NW] {a:Nat->Option (Nat×Nat)}{fs:List FI}(hp:∀i fi,fs[i]?=some fi->a i=some (fi.off,fi.size)):
  ∀{b:List (Nat×SV)} {ps:List (Nat×Value)} {cs c:List AV} {vs:List Value},Zj2 fs cs b=some c->ZM (fun p q=>p.1=q.1/\SVR g w p.2 q.2/\svU U p.2) b ps->ZM (AVR g w) cs vs->QW U cs->
   ∃d:List Value,Instr.fill a vs.toArray ps=some d.toArray/\ZM (AVR g w) c d/\QW U c
 | [],[],cs,c,vs,h,_,hr,hu=>by simp [Zj2]at h;subst h;exact ⟨vs,rfl,hr,hu⟩
 | [],_::_,_,_,_,_,h,_,_=>h.elim
 |_::_,[],_,_,_,_,h,_,_=>h.elim
 |(i,s)::r,(j,v)::ps,cs,c,vs,h,⟨⟨e,hs,hsu⟩,hps⟩,hr,hu=>by
  simp only at e hs hsu;subst e;cases s with
  |p ag us=>
   simp only[Zj2]at h;obtain ⟨f,hf,h⟩:=A8.1 h;split at h
   .rename_i hl;obtain ⟨k,c1,c2⟩:=PVR.cells hs;have hlen:=c2.len;have hlen2:=hr.len;obtain ⟨d,d1,d2,d3⟩:=ZuW hp h hps (hr.splice c2 f.off) (Zlz hu hsu f.off);refine ⟨d,?_,d2,d3⟩;have l:v.cells.size=k.length:=by simp [c1]
    rw [Instr.fill,hp i f hf];simp only;rw [if_neg (by simp [l];omega),Zm6 f.off v k c1 _ (by simp;omega)];simpa using d1
   .simp at h
  |_=>simp [Zj2]at h
theorem ZM.of_map {α β γ:Type}{R:β->γ->Prop}(f:α->β) (h:α->γ):∀{l:List α},(∀x∈l,R (f x) (h x))->ZM R (l.map f) (l.map h)
 | [],_=>trivial
 |x::l,hh=>⟨hh x yG,ZM.of_map f h fun y m=>hh y (by simp [m])⟩
theorem Zi5 [NW]:∀{z:List AV}{zvs:List Value},ZM (fun a v=>ZaM a v=true) z zvs->ZM (AVR g w) z zvs/\QW U z
 | [],[],_=>⟨trivial,fun _ m=>by simp at m⟩
 |x::z,v::zvs,h=>by
  obtain ⟨h1,h2⟩:=Zi5 (z:=z) (zvs:=zvs) h.2;refine ⟨⟨ZfU h.1,h1⟩,fun y m=>?_⟩;rcases AC.1 m with rfl|m
  .have:=h.1;cases y<;>first|trivial|simp [ZaM]at this
  .exact h2 y m
 | [],_::_,h=>h.elim
 |_::_,[],h=>h.elim
theorem Zpe:∀{fs:List FI}{a:List Field},ZM (fun (fi:FI) (f:Field)=>f.offset=fi.off/\fi.size≠0/\∃j d,P.info? f.type=some j/\j.size=fi.size/\P.underlying f.type=some d/\ZsK d=fi.agg) fs a->
  a.mapM (fun f=>(P.info? f.type).map fun i=>(f.offset,i.size))=some (fs.map fun fi=>(fi.off,fi.size))
 | [],[],_=>rfl
 |fi::fs,f::a,⟨⟨h1,_,j,d,h2,h3,_⟩,h⟩=>by
  simp [List.mapM_cons,h2,h3,h1,Zpe h]
 | [],_::_,h=>h.elim
 |_::_,[],h=>h.elim
theorem ZxN [NW] (htt:∀t i,tt t=some i->TOk P t i) (hS:∀t,SVR g w (st.sl t) (a.tmps.getD t undef)) (hU:StU U st) {t n:Nat}{fs:List FI}{z:List AV}(f:tt t=some (.strct fs n z)) {b:Array (Nat×Operand)}{cs:List AV}(h:Zj2 fs z (b.toList.map (ZgA tt st fs z))=some cs):
  ∃cv,(Instr.build t (b.map fun (i,x)=>(i,a.eval x))).run P w=.ok cv w/\SVR g w (.p true cs) cv/\svU U (.p true cs):=by
 obtain ⟨fields,i,zvs,u1,u2,u3,u4,u5,u6⟩:=htt t _ f;obtain ⟨hz,j⟩:=Zi5 (g:=g) (w:=w) (U:=U) u5;have c:ZM (fun (p:Nat×SV) (q:Nat×Value)=>p.1=q.1/\SVR g w p.2 q.2/\svU U p.2) (b.toList.map (ZgA tt st fs z)) (b.toList.map fun p=>(p.1,a.eval p.2)):=by
  refine ZM.of_map _ _ fun p _=>?_;unfold ZgA;split
  .rename_i hc;rw [hc];refine ⟨rfl,?_⟩;dsimp only;split
   .exact ⟨⟨_,rfl,rfl⟩,fun y m=>by simp at m;subst m;trivial⟩
   .exact ⟨trivial,trivial⟩
  .have:=Zlm htt hS hU 0 p.2;exact ⟨rfl,this⟩
 have k:∀(i:Nat) (fi:FI),fs[i]?=some fi->((fs.map fun (fi:FI)=>(fi.off,fi.size)).toArray[i]?)=some (fi.off,fi.size):=fun i fi hf=>by simp [hf]
 obtain ⟨d,d1,d2,d3⟩:=ZuW k h c hz j;refine ⟨.agg d.toArray,run_build w t _ _ ?_,⟨d,rfl,d2⟩,d3⟩;unfold Program.built;simp only[u1,u2,u4,Zpe u6];have e:(b.map fun (x:Nat×Operand)=>(x.1,a.eval x.2)).toList=b.toList.map fun p=>(p.1,a.eval p.2):=by simp
 have e2:(b.map fun x=>match x with|(i,x)=>(i,a.eval x))=b.map fun (x:Nat×Operand)=>(x.1,a.eval x.2):=rfl;rw [e2,e];exact d1
theorem Sl.sub {m n:Nat}{A:Option Addr}{cs:List Value}{L:List Nat}(h:Sl w m A n cs L) (l q cap:Nat) (hm:0<m) (hq:l+q<=n) (hcap:n<=cap):
  ∃A' L',A'=(if cap=l then A else A.map (·.add (l*m)))/\Sl w m A' q ((cs.drop (l*m)).take (q*m)) L'/\∀b∈L',b∈L:=by
 have hlen:=h.1;have hlm:l*m+q*m<=n*m:=by rw [<-A9];exact Ah m hq
 refine ⟨_,if q=0 then [] else L,rfl,⟨by simp;omega,?_⟩,fun b mb=>?_⟩
 .by_cases a:q=0
  .exact .inl ⟨a,by simp [a]⟩
  .rcases h.2 with ⟨h0,_⟩|⟨_,b,off,rfl,rfl,hc⟩
   .omega
   .refine .inr ⟨yE,b,off+l*m,by rw [if_neg yE];simp [ZbY],by simp [a],fun j u hj=>?_⟩;rw [AD];refine hc _ u ?_;have c:j<q*m:=by
     have:=(AR.1 hj).1;simp at this;omega
    rw [Au,if_pos c,Aw]at hj;exact hj
 .split at mb
  .simp at mb
  .exact mb
theorem REs.drop {m:Nat}:∀{xs:List (List CT)}{cs:List Value}{L:List Nat}(l:Nat),REs w m xs cs L->∃L',REs w m (xs.drop l) (cs.drop (l*m)) L'/\∀b∈L',b∈L
 |xs,cs,L,0,h=>⟨L,by simpa using h,fun _ mb=>mb⟩
 | [],cs,L,l+1,h=>⟨[],by obtain ⟨rfl,rfl⟩:=h;simp [REs],yG⟩
 |x::r,_,_,l+1,⟨c1,c2,L1,L2,rfl,rfl,h3,h4⟩=>by
  obtain ⟨L',h5,h6⟩:=REs.drop l h4;refine ⟨L',?_,fun b mb=>by simp [h6 b mb]⟩;have e:(l+1)*m=c1.length+l*m:=by rw [h3.2,A9];omega
  have e2:(c1++c2).drop (c1.length+l*m)=c2.drop (l*m):=by
   rw [AZ,Aa (Aj _ _),Ak,Ab]
  rw [e,e2];simpa using h5
theorem REs.take {m:Nat}:∀{xs:List (List CT)}{cs:List Value}{L:List Nat}(l:Nat),REs w m xs cs L->∃L',REs w m (xs.take l) (cs.take (l*m)) L'/\∀b∈L',b∈L
 |xs,cs,L,0,h=>⟨[],by simp [REs],yG⟩
 | [],cs,L,l+1,h=>⟨[],by obtain ⟨rfl,rfl⟩:=h;simp [REs],yG⟩
 |x::r,_,_,l+1,⟨c1,c2,L1,L2,rfl,rfl,h3,h4⟩=>by
  obtain ⟨L',h5,h6⟩:=REs.take l h4;refine ⟨L1++L',?_,fun b mb=>by
   rcases A3.1 mb with mb|mb
   .simp [mb]
   .simp [h6 b mb]⟩
  have e:(l+1)*m=c1.length+l*m:=by rw [h3.2,A9];omega
  rw [e,Ax];exact ⟨c1,_,L1,L',rfl,rfl,h3,h5⟩
theorem Zpf {k:IntKind}{i:Int}{y:Nat}{a:BoundsCode}(h0:0<=i) (h1:i<=y):(Instr.sliceBound (.int k i) y a).run P w=.ok i.toNat w:=by
 simp [Instr.sliceBound,asIntOf,h0,h1]
def Zne [NW] (g:Gh) (w:World):Option SV->Option Value->Prop
 |none,none=>True
 |some s,some u=>SVR g w s u
 |_,_=>False
theorem ZiY [NW] {lo hi:Option SV}{vlo vhi:Option Value}{len cap l h:Nat}{b:Bool}(hh:hiB len hi=some h) (hl:loB h lo=some l) (hlo:Zne g w lo vlo) (hhi:Zne g w hi vhi) (hc:len<=cap):
  (Instr.sliceBounds b len cap vlo vhi none).run P w=.ok (l,h,cap) w/\l<=h/\h<=len:=by
 have e1:((match vhi, (none:Option Value) with | some v, some _ => Instr.sliceBound v cap .slice3B | some v, none => Instr.sliceBound v cap (if b then .sliceAcap else .sliceAlen) | none, none => pure len | none, some _ => stuck "Slice: max without high"):Sem Nat).run P w=.ok h w ∧ h ≤ len:=by
  unfold hiB at hh
  split at hh
  .simp only[A4]at hh
   subst hh
   cases vhi with
   |none=>exact ⟨rfl,AA _⟩
   |some v=>exact hhi.elim
  .split at hh<;>simp only[A4,reduceCtorEq]at hh
   rename_i hq
   subst hh
   cases vhi with
   |none=>exact hhi.elim
   |some v=>
    have e:=ZbZ hhi
    subst e
    exact ⟨Zpf hq.1 yE,yE⟩
  .simp at hh
 have e2:((match vlo with|some v=>Instr.sliceBound v h .sliceB|none=>pure 0):Sem Nat).run P w=.ok l w/\l<=h:=by
  unfold loB at hl
  split at hl
  .simp only[A4]at hl
   subst hl
   cases vlo with
   |none=>exact ⟨rfl,AH _⟩
   |some v=>exact hlo.elim
  .split at hl<;>simp only[A4,reduceCtorEq]at hl
   rename_i hq
   subst hl
   cases vlo with
   |none=>exact hlo.elim
   |some v=>
    have e:=ZbZ hlo
    subst e
    exact ⟨Zpf hq.1 hq.2,yE⟩
  .simp at hl
 refine ⟨?_,e2.2,e1.2⟩
 unfold Instr.sliceBounds
 simp only[Sem.run_bind,Sem.run_pure,Result.andThen_ok,Option.isSome_none,Bool.false_eq_true,if_false]
 have e1':=e1.1
 have e2':=e2.1
 cases vhi<;>cases vlo<;>simp_all
theorem ZsS [NW] (htt:∀t i,tt t=some i->TOk P t i) {t:Nat}{x v:SV}{lo hi:Option SV}{vx:Value}{vlo vhi:Option Value}(h:Zl8 (tt t) lo hi x=some v) (hx:SVR g w x vx)
  (f:Zne g w lo vlo) (j:Zne g w hi vhi):∃cv,(Instr.sliceAt t vx vlo vhi none).run P w=.ok cv w/\SVR g w v cv/\svU U v:=by
 unfold Zl8 at h;split at h
 .rename_i s;split at h
  .rename_i k;have hu:=ZhT htt k;obtain ⟨q,hq,h⟩:=A8.1 h;obtain ⟨l,hl,rfl⟩:=A5.1 h;obtain ⟨rfl,hs⟩:=Zjh hx;obtain ⟨b1,b2,b3⟩:=ZiY (P:=P) (b:=false) hq hl f j (AA _);refine ⟨_,?_,ZlX (by rw [ByteArray.size_extract];omega),XK _⟩;simp [Instr.sliceAt,YC hu,Instr.slice,b1]
  .simp at h
 .rename_i e m xs;split at h
  .rename_i d;obtain ⟨q,hq,h⟩:=A8.1 h;obtain ⟨l,hl,rfl⟩:=A5.1 h;obtain ⟨A,cap,cs,L0,L1,rfl,h2,h3,h5,h6,h7,ho⟩:=Zhv hx;obtain ⟨b1,b2,b3⟩:=ZiY (P:=P) (b:=true) hq hl f j h2;obtain ⟨e',b',z',o⟩:∃e' b' z',tt t=some (.slice e' m b' z'):=by
    unfold Zky at d;split at d
    .rename_i h1;subst d;exact ⟨_,_,_,h1⟩
    .omega
   obtain ⟨hu,_,_,⟨ie,zv,u,y,_⟩,_⟩:=htt t _ o;have fin:SVR g w (.p false [.c (.sl e m ((xs.take q).drop l))]) (.slice (if cap=l then A else A.map (·.add (l*m))) (q-l) (cap-l)):=by
    obtain ⟨A',L',rfl,s1,s2⟩:=h6.sub l (q-l) cap h5 yE h2;obtain ⟨M1,r1,r2⟩:=h7.take q;obtain ⟨M2,r3,r4⟩:=r1.drop l;have a:((xs.take q).drop l).length=q-l:=by simp;omega
    have e1:(cs.drop (l*m)).take ((q-l)*m)=(cs.take (q*m)).drop (l*m):=by
     rw [Ay,Nat.sub_mul]
    rw [e1]at s1;refine ⟨_,rfl,L'++M2,⟨_,_,_,L',M2,by rw [a],by rw [a];omega,yE,rfl,h5,by rw [a];exact s1,r3⟩,fun b mb=>?_⟩;rcases A3.1 mb with mb|mb
    .exact ho b (by simp [s2 b mb])
    .exact ho b (by simp [r2 b (r4 b mb)])
   refine ⟨_,?_,fin,XK _⟩;simp [Instr.sliceAt,YC hu,Instr.slice,b1,XX u,y]
  .simp at h
 .simp at h
end
end
section
open Go.RowKit
theorem ZF {α:Type}(f:Nat->α) (k:Nat) (v:α):upd f k v k=v:=by simp [upd]
theorem ZP {α:Type}(f:Nat->α) {k j:Nat}(v:α) (h:j≠k):upd f k v j=f j:=by simp [upd,h]
theorem Xa (ob:Nat->Ob) (u v:List (Nat×Ob)):Zn ob (u++v)=Zn (Zn ob u) v:=by
 induction u generalizing ob with
 |nil=>rfl
 |cons p r ih=>exact ih _
theorem Zk7:∀(ks:List Nat) (ob:Nat->Ob) (k:Nat),Zn ob (Za8 ks) k=if k∈ks then .gone else ob k
 | [],ob,k=>by simp [Za8,Zn]
 |x::ks,ob,k=>by
  have:Za8 (x::ks)=(x,Ob.gone)::Za8 ks:=rfl;rw [this,Zn,Zk7 ks];by_cases h1:k∈ks
  .simp [h1]
  .by_cases h2:k=x
   .subst h2;simp [upd]
   .simp [h1,h2,upd]
theorem Zby [NW] (ks:List Nat) (ob:Nat->Ob) (key:Nat) (o:Ob) (k:Nat):Zn ob (Za8 ks++[(key,o)]) k=if k=key then o else if k∈ks then .gone else ob k:=by
 rw [Xa];simp only[Zn,upd,Zk7]
def Gh.turn (g:Gh) (ks:List Nat) (key:Nat) (v:Value) (O D:List Nat):Gh:=
 ⟨upd g.val key v,fun k=>if k=key then O else if k∈ks then [] else g.O k,fun k=>if k=key then D else if k∈ks then [] else g.D k,g.Z⟩
section
variable {P:Program} {W:ZaK} {U:Nat->Prop} {key:Nat} {st:St} {g:Gh} {w w':World} {a:Act} {tt:Nat->Option TI}
theorem ZfA {ks:List Nat}{v:Value}{O D:List Nat}{b:Nat}(h:(g.turn ks key v O D).own b):b∈O\/(∃k,k∉ks/\k≠key/\b∈g.O k)\/g.Z b:=by
 rcases h with ⟨k,hk⟩|h
 .simp only[Gh.turn]at hk;split at hk
  .exact .inl hk
  .rename_i h1;split at hk
   .simp at hk
   .rename_i h2;exact .inr (.inl ⟨k,h2,h1,hk⟩)
 .exact .inr (.inr h)
theorem ZpN {n:Nat}{ks:List Nat}{v:Value}{O D:List Nat}(hO:∀b∈O,(∃k∈ks,b∈g.O k)\/n<=b) (hD:∀b∈D,(∃k∈ks,b∈g.O k++g.D k)\/n<=b):QU g (g.turn ks key v O D) n:=by
 refine .of (fun b hb=>?_) fun j b mb=>?_
 .rcases ZfA hb with m|⟨k,_,_,m⟩|m
  .rcases hO b m with ⟨k,_,m⟩|m
   .exact .inl (.inl ⟨k,m⟩)
   .exact .inr m
  .exact .inl (.inl ⟨k,m⟩)
  .exact .inl (.inr m)
 .simp only[Gh.turn]at mb;split at mb
  .refine (hD b mb).imp (fun ⟨k,_,mk⟩=>?_) id;rcases A3.1 mk with m1|m1
   .exact .inl (.inl ⟨k,m1⟩)
   .exact .inr ⟨k,m1⟩
  .split at mb
   .simp at mb
   .exact .inl (.inr ⟨j,mb⟩)
theorem HI.turn [NW] {ob:Nat->Ob}(h:HI W g ob w) (i:∀k,obU U (ob k)) (c:¬U key) (ks:List Nat) (y:∀k∈ks,U k)
  (l:Bel W w') (z:w.heap.size<=w'.heap.size) (hw:∀b,b<w.heap.size->(∀k∈ks,b∉g.O k)->w'.heap[b]?=w.heap[b]?)
  {v:Value} {O D:List Nat} {o:Ob} (hO:∀b∈O,(∃k∈ks,b∈g.O k)\/w.heap.size<=b) (hD:∀b∈D,(∃k∈ks,b∈g.O k++g.D k)\/w.heap.size<=b)
  (A:(O++D).Nodup) (B:∀b∈O++D,(W.heap.size<=b\/W.x b)/\Qf w' o b)
  (C:QU g (g.turn ks key v O D) w.heap.size->ObR (g.turn ks key v O D) w' key o):
  HI W (g.turn ks key v O D) (Zn ob (Za8 ks++[(key,o)])) w'/\∀x u,svU U x->SVR g w x u->SVR (g.turn ks key v O D) w' x u:=by
 have hkk:key∉ks:=fun m=>c (y key m);have d:∀k,U k->(g.turn ks key v O D).val k=g.val k:=fun k hk=>ZP _ _ fun e=>c (e ▸ hk);have a:QU g (g.turn ks key v O D) w.heap.size:=ZpN hO hD;have f:∀b∈O++D,(∃k∈ks,b∈g.O k++g.D k)\/w.heap.size<=b:=fun b m=>by
  rcases A3.1 m with m|m
  .exact (hO b m).imp (fun ⟨k,h1,h2⟩=>⟨k,h1,by simp [h2]⟩) id
  .exact hD b m
 refine ⟨h.step (fun k=>k=key\/k∈ks) l rfl (fun b hb hn=>hw b hb fun k hk=>hn k (.inr hk)) (fun k hk=>?_) i d a (fun k hk=>?_),fun x u hx hu=>hu.move hx d (fun b hb hn=>hw b hb fun k _ m=>hn (.inl ⟨k,m⟩)) a z⟩
 .have h1:k≠key:=fun e=>hk (.inl e);have h2:k∉ks:=fun e=>hk (.inr e);rw [Zby];simp [Gh.turn,h1,h2,upd]
 .rw [Zby];by_cases h1:k=key
  .subst h1;have eO:(g.turn ks k v O D).O k=O:=by simp [Gh.turn]
   have eD:(g.turn ks k v O D).D k=D:=by simp [Gh.turn]
   rw [if_pos rfl,eO,eD];refine ⟨C a,A,B,fun j hj b m mj=>?_⟩;have p:¬j=k:=fun e=>hj e.symm;by_cases h2:j∈ks
   .simp [Gh.turn,p,h2]at mj
   .have t:b∈g.O j++g.D j:=by simpa [Gh.turn,p,h2]using mj
    rcases f b m with ⟨q,q1,q2⟩|q
    .exact h.apart q j (fun e=>h2 (e ▸ q1)) b q2 t
    .have:=h.lt j b t;omega
  .have h2:k∈ks:=hk.resolve_left h1;have eO:(g.turn ks key v O D).O k=[]:=by simp [Gh.turn,h1,h2]
   have eD:(g.turn ks key v O D).D k=[]:=by simp [Gh.turn,h1,h2]
   rw [if_neg h1,if_pos h2,eO,eD];exact ⟨⟨eO,eD⟩,yG,yG,yG⟩
theorem Zjx [NW] (hU:StU U st) (ks:List Nat) {o:Ob}(ho:obU (Uk U key) o):(∀k,obU (Uk U key) (Zn st.ob (Za8 ks++[(key,o)]) k))/\∀k,¬Uk U key k->Zn st.ob (Za8 ks++[(key,o)]) k=.gone:=by
 constructor
 .intro k;rw [Zby];split
  .exact ho
  .split
   .trivial
   .exact (hU.ob k).mono fun _=>.inl
 .intro k hk;rw [Zby,if_neg (fun e=>hk (.inr yE))];split
  .rfl
  .exact hU.gone k fun h=>hk (.inl h)
theorem ZkS:Uk U key key:=.inr yE
theorem Zxt [NW] (hI:HI W g st.ob w) (hU:StU U st) (a:¬U key) {t:TypeId}{cs:List AV}{vs:List Value}(hr:ZM (AVR g w) cs vs) (hu:QW U cs) {s:Sem Next}
  (d:s.run P w=.ok (.value (.pointer (some ⟨w.heap.size,0,none⟩))) (w.alloc (.cells vs.toArray t))):Fin P W U key st g w s (.bp key 0,[(key,.box t cs)]):=by
 have hb:Below w.heap.size w (w.alloc (.cells vs.toArray t)):=(Below.refl _ _).alloc (AA _) _;obtain ⟨h1,h2⟩:=hI.turn (key:=key) (U:=U) (w':=w.alloc (.cells vs.toArray t)) (v:=.pointer (some ⟨w.heap.size,0,none⟩)) (O:=[w.heap.size]) (D:=[]) (o:=.box t cs) hU.ob a [] yG
  (hI.below.trans hb) hb.size (fun b c _=>hb.block b c) yG yG yG (fun b m=>by
   simp at m;subst m;exact ⟨.inl hI.below.size,_,_,heap_alloc_new w _⟩) (fun f=>⟨w.heap.size,vs,by simp [Gh.turn,upd],by simp [Gh.turn],by simp [Gh.turn],heap_alloc_new w _,
    AVRs.move hr hu (fun k hk=>ZP _ _ fun e=>a (e ▸ hk)) (fun b c _=>hb.block b c) f⟩)
 have i:=Zjx (key:=key) (o:=.box t cs) hU [] (QW.mono (fun _=>.inl) hu);exact ⟨_,_,_,.inl d,h1,⟨w.heap.size,by simp [Gh.turn,upd],rfl⟩,h2,ZkS,i.1,i.2⟩
theorem ZpF (b:Nat) (cs a:Array Value) (t:TypeId) (hb:w.heap[b]?=some (.cells cs t (0,0))):(w.setRow b a).heap[b]?=some (.cells a t (0,0))/\(∀k,k≠b->(w.setRow b a).heap[k]?=w.heap[k]?)/\(w.setRow b a).heap.size=w.heap.size/\(w.setRow b a).os=w.os/\(w.setRow b a).tape=w.tape/\(w.setRow b a).output=w.output:=by
 refine ⟨setRow_heap w b cs a t _ hb,fun k hk=>?_,?_,rfl,rfl,rfl⟩
 .have c:¬b=k:=fun e=>hk e.symm;simp [World.setRow,Array.getElem?_modify,c]
 .simp [World.setRow]
theorem Zwv [NW] (htt:∀t i,tt t=some i->TOk P t i) (hI:HI W g st.ob w) (hU:StU U st) {t k off tb:Nat}{cs vs:List AV}{va vv:Value}{ag:Bool}(hk:st.ob k=.box tb cs) (hl:vs.length=ZiO (tt t)) (ho:off+vs.length<=cs.length)
  (ha:SVR g w (.bp k off) va) (hv:SVR g w (.p ag vs) vv) (o:QW U vs) (a:0<vs.length) {s:Sem Next} (hs:s=(do Instr.storeAt t va vv;pure .skip)):Fin P W U key st g w s (.und,[(k,.box tb (splice cs off vs))]):=by
 obtain ⟨b,h1,rfl⟩:=ha;have v:=hI.obs k;rw [hk]at v;obtain ⟨b',us,o1,o2,o3,o4,o5⟩:=v;have hb:b=b':=by rw [o1]at h1;simpa using h1.symm
 subst hb;have hlen:=o5.len;obtain ⟨xs,c1,c2⟩:=PVR.cells hv;have C:=c2.len;have c:=hU.ob k;rw [hk]at c;obtain ⟨r1,r2,r3,r4,r5,r6⟩:=ZpF b us.toArray (splice us off xs).toArray tb o4;have f:(sizeOf t).run P w=.ok xs.length w:=by
  rw [<-C,hl];unfold ZiO at hl ⊢;cases hti:tt t with
  |none=>rw [hti]at hl;simp at hl;simp [hl]at a
  |some i=>
   cases i with
   |atom z=>obtain ⟨d,zv,i,_,_,h3,_,h4,_⟩:=htt t _ hti;rw [XX h3,h4]
   |strct fs n z=>obtain ⟨_,i,_,_,h3,h4,_⟩:=htt t _ hti;rw [XX h3,h4]
   |slice e m b z=>obtain ⟨_,_,_,_,j,h3,h4,_⟩:=htt t _ hti;rw [XX h3,h4]
   |_=>rw [hti]at hl;simp at hl;simp [hl]at a
 have y:=run_storeCells_at (P:=P) b off tb xs 0 us.toArray w o4 (by simp;omega) (AVRs.one c2);have A:s.run P w=.ok .skip (w.setRow b (splice us off xs).toArray):=by
  subst hs;have e:(us.toArray.toList.take (off+0)++xs++us.toArray.toList.drop (off+0+xs.length)).toArray=(splice us off xs).toArray:=by simp [splice]
  rw [e]at y;simp [Instr.storeAt,Instr.sureAddr,storeVar,c1,f,y]
 have l:∀b',b'<w.heap.size->¬g.own b'->(w.setRow b (splice us off xs).toArray).heap[b']?=w.heap[b']?:=fun b' _ hn=>r2 b' fun e=>hn (.inl ⟨k,by simp [o2,e]⟩);have B:W.heap.size<=b\/W.x b:=(hI.plain k b (by simp [o2])).1;refine ⟨g,undef,_,.inr ⟨A,rfl⟩,?_,rfl,fun x u hx hu=>hu.move hx (fun _ _=>rfl) l (QU.refl _ _) yE,trivial,fun q=>?_,fun q hq=>?_⟩
 .refine hI.step (U:=U) (fun q=>q=k) ?_ rfl (fun b' _ hn=>r2 b' fun e=>hn k rfl (by simp [o2,e])) (fun q hq=>⟨ZP _ _ hq,rfl,rfl,rfl⟩) hU.ob (fun _ _=>rfl) (QU.refl _ _) (fun q hq=>?_)
  .exact ⟨r4.trans hI.below.os,r5.trans hI.below.tape,r6.trans hI.below.output,by have:=hI.below.size;omega,fun q hq hx=>by rw [r2 q (fun e=>by subst e;rcases B with h|h;omega;exact hx h)];exact hI.below.block q hq hx⟩
  .subst hq;refine ⟨?_,hI.nodup q,fun b' m=>?_,hI.apart q⟩
   .simp only[Zn,ZF];exact ⟨b,_,o1,o2,o3,r1,(AVRs.move o5 c (fun _ _=>rfl) l (QU.refl _ _)).splice (AVRs.move c2 o (fun _ _=>rfl) l (QU.refl _ _)) off⟩
   .simp [o2,o3]at m;subst m;refine ⟨B,?_⟩;simp only[Zn,ZF];exact ⟨_,_,r1⟩
 .simp only[Zn,upd];split
  .exact QW.mono (fun _=>.inl) (Zlz c o off)
  .exact (hU.ob q).mono fun _=>.inl
 .simp only[Zn,upd];split
  .rename_i e;subst e;exact absurd (hU.gone q fun h=>hq (.inl h)) (by simp [hk])
  .exact hU.gone q fun h=>hq (.inl h)
end
end
section
open Go.RowKit
section
variable {P:Program} {W:ZaK} {U:Nat->Prop} {key:Nat} {st:St} {g:Gh} {w w':World} {a:Act} {tt:Nat->Option TI}
def Gh.F (g:Gh) (ks:List Nat):List Nat:=ks.flatMap fun k=>g.O k++g.D k
def FP (g:Gh) (ks:List Nat) (d:Nat) (L:List Nat):Prop:=(d=2->L.Sublist (g.F ks))/\d<=2/\0<d/\∀b∈L,¬g.own b\/∃k∈ks,b∈g.O k
theorem FP.nil:FP g [] 2 []:=⟨fun _=>by simp [Gh.F],yG⟩
theorem FP.append {ks a:List Nat}{d d':Nat}{L L':List Nat}(h:FP g ks d L) (h':FP g a d' L'):FP g (ks++a) (Zge d d') (L++L'):=by
 have q1:=h.2.1;have q2:=h'.2.1;have q3:=h.2.2.1;have q4:=h'.2.2.1;refine ⟨fun hd=>?_,by unfold Zge;split<;>omega,by unfold Zge;split<;>omega,fun b m=>?_⟩
 .have c:d=2/\d'=2:=by unfold Zge at hd;split at hd<;>omega
  simp only[Gh.F,Az];exact AG (h.1 c.1) (h'.1 c.2)
 .rcases A3.1 m with m|m
  .exact (h.2.2.2 b m).imp id fun ⟨k,h1,h2⟩=>⟨k,by simp [h1],h2⟩
  .exact (h'.2.2.2 b m).imp id fun ⟨k,h1,h2⟩=>⟨k,by simp [h1],h2⟩
theorem HI.nodupF [NW] {ob:Nat->Ob}(hI:HI W g ob w):∀{ks:List Nat},ks.Nodup->(g.F ks).Nodup
 | [],_=>by simp [Gh.F]
 |k::ks,h=>by
  simp only[Gh.F,AU,AI];rw [Ac]at h;refine ⟨AI.1 (hI.nodup k),hI.nodupF h.2,fun x hx y hy e=>?_⟩;subst e;obtain ⟨j,hj,hy⟩:=AB.1 hy;exact hI.apart k j (fun e=>h.1 (e ▸ hj)) x hx hy
theorem ZkZ {ks:List Nat}{b:Nat}(h:b∈g.F ks):∃k∈ks,b∈g.O k++g.D k:=by simpa [Gh.F]using h
theorem Sl.row {B e m n:Nat}{v:Value}{cs:List Value}(h:w.ownsV B e m v n cs):∃A cap L0,v=.slice A n cap/\n<=cap/\cap<=maxLen/\Sl w m A n cs L0/\L0.Sublist v.ownBlock.toList:=by
 obtain ⟨A,cap,rfl,h1,h2⟩:=QP h;obtain ⟨L0,h3,_,h4⟩:=Sl.of_ownV h;refine ⟨A,cap,L0,rfl,h1,h2,h3,?_⟩;rcases h3.2 with ⟨_,rfl⟩|⟨_,b,off,rfl,rfl,_⟩
 .exact AM _
 .simp [Value.ownBlock]
theorem NR.toC [NW] {x:CT}{v:Value}(h:NR g w x v):∃L,RC w x v L/\∀b∈L,¬g.own b:=by
 obtain ⟨e,m,xs,cs,L,rfl,h2,h3,h4,h5,h6⟩:=h;obtain ⟨A,cap,L0,s1,s2,s3,s4,s5⟩:=Sl.row h3;refine ⟨L0++L,⟨A,cap,cs,L0,L,s1,s2,s3,rfl,h2,s4,h4⟩,fun b mb o=>(h6 b ?_).1 (.inl o)⟩;rcases A3.1 mb with m1|m1
 .simp [s5.subset m1]
 .simp [m1]
theorem ZAD [NW] (hI:HI W g st.ob w) {x:AV}{ct:CT}{ks:List Nat}{d:Nat}{v:Value}(h:avT st x=some (ct,ks,d)) (hx:AVR g w x v) (hu:avU U x):∃L,RC w ct v L/\FP g ks d L/\∀k∈ks,U k:=by
 cases x with
 |c y=>
  obtain ⟨L,h1,h2⟩:=hx;cases y<;>simp only[avT,A4,A7]at h<;>obtain ⟨rfl,rfl,rfl⟩:=h
  .exact ⟨L,h1,⟨fun _=>by rw [h1.2];simp [Gh.F],yG,yG,fun b m=>.inl (h2 b m)⟩,yG⟩
  .exact ⟨L,h1,⟨fun _=>by rw [h1.2];simp [Gh.F],yG,yG,fun b m=>.inl (h2 b m)⟩,yG⟩
  .exact ⟨L,h1,⟨fun _=>by rw [h1.2.1];simp [Gh.F],yG,yG,fun b m=>.inl (h2 b m)⟩,yG⟩
  all_goals exact ⟨L,h1,⟨fun e=>by simp at e,yG,yG,fun b m=>.inl (h2 b m)⟩,yG⟩
 |row k=>
  simp only[avT]at h;split at h
  .rename_i e m xs d' hk;obtain ⟨hm,cs,L1,o1,o2,o3,o5⟩:=hI.deep hk;obtain ⟨A,cap,L0,s1,s2,s3,s4,s5⟩:=Sl.row o1;have a:RC w (.sl e m xs) v (L0++L1):=⟨A,cap,cs,L0,L1,by rw [hx.1,s1],s2,s3,rfl,hm,s4,o2⟩
   split at h
   .rename_i f;simp only[A4,A7]at h;obtain ⟨rfl,rfl,rfl⟩:=h;refine ⟨L0++L1,a,⟨fun e=>by simp at e,yG,yG,fun b m=>.inl ?_⟩,yG⟩;rcases o5 with ⟨q,_⟩|⟨q,_⟩|⟨_,_,_,q⟩
    .omega
    .omega
    .rcases A3.1 m with m|m
     .exact q b (s5.subset m)
     .exact o3 b m
   .rename_i f;simp only[A4,A7]at h;obtain ⟨rfl,rfl,rfl⟩:=h;have hO:g.O k=(g.val k).ownBlock.toList:=by
     rcases o5 with ⟨_,q,_⟩|⟨_,q,_⟩|⟨q,_⟩
     .exact q
     .exact q
     .exact absurd q f
    refine ⟨L0++L1,a,⟨fun hd=>?_,?_,yE,fun b m=>?_⟩,fun q mq=>by simp at mq;subst mq;exact hu⟩
    .rcases o5 with ⟨_,_,o5⟩|⟨o5,_⟩|⟨o5,_⟩
     .simp only[Gh.F,AU,List.flatMap_nil,Al,hO,o5];exact AG s5 (AF _)
     .omega
     .omega
    .rcases o5 with ⟨o5,_⟩|⟨o5,_⟩|⟨o5,_⟩<;>omega
    .rcases A3.1 m with m|m
     .exact .inr ⟨k,yG,by rw [hO];exact s5.subset m⟩
     .exact .inl (o3 b m)
  .simp at h
 |nil e m=>
  simp only[avT]at h;split at h
  .rename_i hm;simp only[A4,A7]at h;obtain ⟨rfl,rfl,rfl⟩:=h;refine ⟨[],⟨none,0,[],[],[],hx,yG,AH _,rfl,hm,Sl.zero,rfl,rfl⟩,FP.nil,yG⟩
  .simp at h
 |n x=>simp [avT]at h
 |dead=>simp [avT]at h
theorem ZuQ [NW] (hI:HI W g st.ob w):∀{xs:List AV}{cts:List CT}{ks:List Nat}{d:Nat}{vs:List Value},ZgE st xs=some (cts,ks,d)->ZM (AVR g w) xs vs->QW U xs->∃L,RCs w cts vs L/\FP g ks d L/\∀k∈ks,U k
 | [],_,_,_,[],h,_,_=>by
  simp only[ZgE,A4,A7]at h;obtain ⟨rfl,rfl,rfl⟩:=h;exact ⟨[],⟨rfl,rfl⟩,FP.nil,yG⟩
 | [],_,_,_,_::_,_,h,_=>h.elim
 |_::_,_,_,_,[],_,h,_=>h.elim
 |x::r,cts,ks,d,v::vs,h,hr,hu=>by
  simp only[ZgE]at h;obtain ⟨⟨c1,k1,d1⟩,h1,h⟩:=A8.1 h;obtain ⟨⟨c2,k2,d2⟩,h2,h⟩:=A5.1 h;simp only[A7]at h;obtain ⟨rfl,rfl,rfl⟩:=h;obtain ⟨L1,a1,a2,a3⟩:=ZAD hI h1 hr.1 (hu x yG);obtain ⟨L2,b1,b2,b3⟩:=ZuQ hI h2 hr.2 (fun y m=>hu y (by simp [m]));exact ⟨L1++L2,⟨v,vs,L1,L2,rfl,rfl,a1,b1⟩,a2.append b2,fun k m=>(A3.1 m).elim (a3 k) (b3 k)⟩
theorem ZrK [NW] (hI:HI W g st.ob w) {m:Nat}:∀{xs:List SV}{es:List (List CT)}{ks:List Nat}{d:Nat}{vs:List Value},Xi st m xs=some (es,ks,d)->ZM (fun s v=>SVR g w s v/\svU U s) xs vs->
  ∃(cs:List (List Value)) (L:List Nat),ZM (fun (c:List Value) (v:Value)=>v.cells=c.toArray/\c.length=m/\∀u∈c,u.oneCell'=true) cs vs/\REs w m es cs.flatten L/\FP g ks d L/\∀k∈ks,U k
 | [],_,_,_,[],h,_=>by
  simp only[Xi,A4,A7]at h;obtain ⟨rfl,rfl,rfl⟩:=h;exact ⟨[],[],trivial,⟨rfl,rfl⟩,FP.nil,yG⟩
 | [],_,_,_,_::_,_,h=>h.elim
 |_::_,_,_,_,[],_,h=>h.elim
 |s::r,es,ks,d,v::vs,h,⟨⟨hs,hsu⟩,hr⟩=>by
  cases s with
  |p ag us=>
   simp only[Xi]at h;split at h
   .rename_i hl;obtain ⟨⟨c1,k1,d1⟩,h1,h⟩:=A8.1 h;obtain ⟨⟨c2,k2,d2⟩,h2,h⟩:=A5.1 h;simp only[A7]at h;obtain ⟨rfl,rfl,rfl⟩:=h;obtain ⟨a,p1,p2⟩:=PVR.cells hs;obtain ⟨L1,a1,a2,a3⟩:=ZuQ hI h1 p2 hsu;obtain ⟨cs,L2,b1,b2,b3,b4⟩:=ZrK hI h2 hr;have b:a.length=m:=by rw [<-p2.len];exact hl
    exact ⟨a::cs,L1++L2,⟨⟨p1,b,AVRs.one p2⟩,b1⟩,⟨a,cs.flatten,L1,L2,yG,rfl,⟨a1,b⟩,b2⟩,a2.append b3,fun k mk=>(A3.1 mk).elim (a3 k) (b4 k)⟩
   .simp at h
  |_=>simp [Xi]at h
theorem Zq6 [NW] {m:Nat}:∀(cs:List (List Value)) (vs:List Value) (i:Nat) (a base:List Value),ZM (fun (c:List Value) (v:Value)=>v.cells=c.toArray/\c.length=m/\∀u∈c,u.oneCell'=true) cs vs->a.length=i*m->base.length=vs.length*m->
  Instr.fill (fun i=>some (i*m,m)) (a++base).toArray ((List.range' i vs.length).zip vs)=some (a++cs.flatten).toArray
 | [],[],i,a,base,_,_,hb=>by
  have:base=[]:=AQ (by simpa using hb);subst this;simp [Instr.fill]
 | [],_::_,_,_,_,h,_,_=>h.elim
 |_::_,[],_,_,_,h,_,_=>h.elim
 |c::cs,v::vs,i,a,base,⟨⟨h1,h2,_⟩,h⟩,hp,hb=>by
  have hb':base.length=m+vs.length*m:=by rw [hb];simp [A9];omega
  have b:v.cells.size=m:=by simp [h1,h2]
  simp only[AW,List.range'_succ,List.zip_cons_cons,Instr.fill];rw [if_neg (by simp [b];omega),Zm6 (i*m) v c h1 _ (by simp;omega)];have e:splice (a++base).toArray.toList (i*m) c=(a++c)++base.drop m:=by
   unfold splice;simp only[<-hp];rw [B2,AZ,Aa yE]
   .simp [h2]
   .rfl
  rw [e,Zq6 cs vs (i+1) (a++c) (base.drop m) h (by simp [hp,h2,A9]) (by simp;omega)];simp
theorem Zwf [NW] (hI:HI W g st.ob w) (hU:StU U st) (i:¬U key) {e m:Nat}(hm:0<m) {xs:List (List CT)}{ks:List Nat}{d:Nat}{L:List Nat}{cs:List Value}{v:Value}(f:w'.ownsV 0 e m v xs.length cs) (hv:v.ownBlock=some w.heap.size)
  (hb:Below w.heap.size w w') (x:∃z e,w'.heap[w.heap.size]?=some (.cells z e (0,0))) (hr:REs w m xs cs L) (hf:FP g ks d L) (B:∀k∈ks,U k) (j:∀k∈ks,∃e m xs d,st.ob k=.row e m xs d) (C:ks.Nodup) {s:Sem Next} (l:s.run P w=.ok (.value v) w'):
  Fin P W U key st g w s (.p false [.row key],Za8 ks++[(key,.row e m xs d)]):=by
 have c:=hr.lt;have hF:=hI.nodupF C;have a:∀b∈(if d=2 then L else []),b∈L/\d=2:=fun b mb=>by
  split at mb
  .rename_i hd;exact ⟨mb,hd⟩
  .simp at mb
 obtain ⟨h1,h2⟩:=hI.turn (key:=key) (U:=U) (w':=w') (v:=v) (O:=[w.heap.size]) (D:=if d=2 then L else []) (o:=.row e m xs d) hU.ob i ks B
  (hI.below.trans hb) hb.size (fun b t _=>hb.block b t) yG (fun b mb=>by
   obtain ⟨m1,m2⟩:=a b mb;exact .inl (ZkZ ((hf.1 m2).subset m1)))
  (by
   simp only[AN,Ac];refine ⟨fun mb=>?_,?_⟩
   .have:=c _ (a _ mb).1;omega
   .split
    .rename_i hd;exact hF.sublist (hf.1 hd)
    .simp)
  (fun b mb=>by
   simp only[AN,AC]at mb;rcases mb with rfl|mb
   .exact ⟨.inl hI.below.size,x⟩
   .obtain ⟨m1,m2⟩:=a b mb;obtain ⟨k,k1,mk⟩:=ZkZ ((hf.1 m2).subset m1);obtain ⟨p1,p2⟩:=hI.plain k b mk;obtain ⟨_,_,_,_,E⟩:=j k k1;rw [E]at p2;exact ⟨p1,p2.keep (hb.block b (c b m1))⟩)
  (fun _=>⟨hm,cs,L,by simpa [Gh.turn,upd]using f,hr.keep fun b mb=>hb.block b (c b mb),by
   have q1:=hf.2.1;have q2:=hf.2.2.1;by_cases hd:d=2
   .exact .inl ⟨hd,by simp [Gh.turn,upd,hv],by simp [Gh.turn,hd]⟩
   .refine .inr (.inl ⟨yE,by simp [Gh.turn,upd,hv],by simp [Gh.turn,hd],fun b mb ho=>?_⟩);have t:=c b mb;rcases ZfA ho with mo|⟨k,k1,_,mk⟩|hz
    .simp at mo;omega
    .rcases hf.2.2.2 b mb with hn|⟨q,q1,q2⟩
     .exact hn (.inl ⟨k,mk⟩)
     .exact hI.apart k q (fun e=>k1 (e ▸ q1)) b (by simp [mk]) (by simp [q2])
    .rcases hf.2.2.2 b mb with hn|⟨q,q1,q2⟩
     .exact hn (.inr hz)
     .exact hI.nz (k:=q) (by simp [q2]) hz⟩)
 have u:=Zjx (key:=key) (o:=.row e m xs d) hU ks trivial;refine ⟨_,_,_,.inl l,h1,⟨_,rfl,⟨by simp [Gh.turn,upd],?_⟩⟩,h2,fun y my=>by simp at my;subst my;exact ZkS,u.1,u.2⟩;obtain ⟨A,cap,F⟩:=Zdl f;simp [F,Value.oneCell']
theorem ZmN (st:St):∀(ks:List Nat) (ob:Nat->Ob) (k:Nat),Zn ob (ZU st ks) k=if k∈ks then Yc (st.ob k) else ob k
 | [],ob,k=>by simp [ZU,Zn]
 |j::r,ob,k=>by
  show Zn (upd ob j (Yc (st.ob j))) (ZU st r) k=_
  rw [ZmN st r];by_cases h:k∈r
  .simp [h]
  .by_cases hj:k=j
   .subst hj;simp [h,upd]
   .simp [h,hj,upd]
theorem Zdo [NW] (st:St) (ks:List Nat) (ob:Nat->Ob) (key:Nat) (o:Ob) (k:Nat):Zn ob (ZU st ks++[(key,o)]) k=if k=key then o else if k∈ks then Yc (st.ob k) else ob k:=by
 rw [Xa];show upd (Zn ob (ZU st ks)) key o k=_
 by_cases h:k=key
 .simp [upd,h]
 .simp only[upd,h,if_false];exact ZmN st ks ob k
theorem ZwN {x:AV}{ct:CT}{ks:List Nat}{d:Nat}(h:avT st x=some (ct,ks,d)):∀k∈ks,∃e m xs d,st.ob k=.row e m xs d:=by
 intro k mk;cases x with
 |c y=>cases y<;>simp only[avT,A4,A7]at h<;>(rw [<-h.2.1]at mk;simp at mk)
 |nil e m=>
  simp only[avT]at h;split at h<;>simp only[A4,A7,reduceCtorEq]at h
  rw [<-h.2.1]at mk;simp at mk
 |row j=>
  simp only[avT]at h;split at h
  .rename_i e m xs d' hj;split at h<;>simp only[A4,A7]at h
   .rw [<-h.2.1]at mk;simp at mk
   .rw [<-h.2.1]at mk;simp at mk;subst mk;exact ⟨_,_,_,_,hj⟩
  .simp at h
 |n x=>simp [avT]at h
 |dead=>simp [avT]at h
theorem ZpR [NW]:∀{xs:List AV}{cts:List CT}{ks:List Nat}{d:Nat},ZgE st xs=some (cts,ks,d)->∀k∈ks,∃e m xs d,st.ob k=.row e m xs d
 | [],_,_,_,h,k,mk=>by simp only[ZgE,A4,A7]at h;rw [<-h.2.1]at mk;simp at mk
 |x::r,_,_,_,h,k,mk=>by
  simp only[ZgE]at h;obtain ⟨⟨c1,k1,d1⟩,h1,h⟩:=A8.1 h;obtain ⟨⟨c2,k2,d2⟩,h2,h⟩:=A5.1 h;simp only[A7]at h;rw [<-h.2.1]at mk;rcases A3.1 mk with mk|mk
  .exact ZwN h1 k mk
  .exact ZpR h2 k mk
theorem Zk0 [NW] {m:Nat}:∀{xs:List SV}{es:List (List CT)}{ks:List Nat}{d:Nat},Xi st m xs=some (es,ks,d)->∀k∈ks,∃e m xs d,st.ob k=.row e m xs d
 | [],_,_,_,h,k,mk=>by simp only[Xi,A4,A7]at h;rw [<-h.2.1]at mk;simp at mk
 |x::r,_,_,_,h,k,mk=>by
  cases x with
  |p a cs=>
   simp only[Xi]at h;split at h
   .obtain ⟨⟨c1,k1,d1⟩,h1,h⟩:=A8.1 h;obtain ⟨⟨c2,k2,d2⟩,h2,h⟩:=A5.1 h;simp only[A7]at h;rw [<-h.2.1]at mk;rcases A3.1 mk with mk|mk
    .exact ZpR h1 k mk
    .exact Zk0 h2 k mk
   .simp at h
  |_=>simp [Xi]at h
theorem ZtY [NW] (hI:HI W g st.ob w) (hU:StU U st) (t:¬U key) {e m:Nat}(hm:0<m) {xs:List (List CT)}{ks:List Nat}{d:Nat}{L:List Nat}{cs:List Value}{v:Value}(u:w'.ownsV 0 e m v xs.length cs) (hv:v.ownBlock=some w.heap.size)
  (hb:Below w.heap.size w w') (H:∃I e,w'.heap[w.heap.size]?=some (.cells I e (0,0))) (hr:REs w m xs cs L) (hf:FP g ks d L) (z:∀k∈ks,U k) (i:∀k∈ks,∃e m xs d,st.ob k=.row e m xs d) (J:ks.Nodup) {s:Sem Next} (B:s.run P w=.ok (.value v) w'):
  Fin P W U key st g w s (.p false [.row key],ZU st ks++[(key,.row e m xs d)]):=by
 have l:=hr.lt;have hF:=hI.nodupF J;have c:∀b∈(if d=2 then L else []),b∈L/\d=2:=fun b mb=>by
  split at mb
  .rename_i hd;exact ⟨mb,hd⟩
  .simp at mb
 obtain ⟨h1,h2⟩:=hI.turn (key:=key) (U:=U) (w':=w') (v:=v) (O:=[w.heap.size]) (D:=if d=2 then L else []) (o:=.row e m xs d) hU.ob t ks z
  (hI.below.trans hb) hb.size (fun b C _=>hb.block b C) yG (fun b mb=>by
   obtain ⟨m1,m2⟩:=c b mb;exact .inl (ZkZ ((hf.1 m2).subset m1)))
  (by
   simp only[AN,Ac];refine ⟨fun mb=>?_,?_⟩
   .have:=l _ (c _ mb).1;omega
   .split
    .rename_i hd;exact hF.sublist (hf.1 hd)
    .simp)
  (fun b mb=>by
   simp only[AN,AC]at mb;rcases mb with rfl|mb
   .exact ⟨.inl hI.below.size,H⟩
   .obtain ⟨m1,m2⟩:=c b mb;obtain ⟨k,k1,mk⟩:=ZkZ ((hf.1 m2).subset m1);obtain ⟨p1,p2⟩:=hI.plain k b mk;obtain ⟨_,_,_,_,f⟩:=i k k1;rw [f]at p2;exact ⟨p1,p2.keep (hb.block b (l b m1))⟩)
  (fun _=>⟨hm,cs,L,by simpa [Gh.turn,upd]using u,hr.keep fun b mb=>hb.block b (l b mb),by
   have q1:=hf.2.1;have q2:=hf.2.2.1;by_cases hd:d=2
   .exact .inl ⟨hd,by simp [Gh.turn,upd,hv],by simp [Gh.turn,hd]⟩
   .refine .inr (.inl ⟨yE,by simp [Gh.turn,upd,hv],by simp [Gh.turn,hd],fun b mb ho=>?_⟩);have C:=l b mb;rcases ZfA ho with mo|⟨k,k1,_,mk⟩|hz
    .simp at mo;omega
    .rcases hf.2.2.2 b mb with hn|⟨q,q1,q2⟩
     .exact hn (.inl ⟨k,mk⟩)
     .exact hI.apart k q (fun e=>k1 (e ▸ q1)) b (by simp [mk]) (by simp [q2])
    .rcases hf.2.2.2 b mb with hn|⟨q,q1,q2⟩
     .exact hn (.inr hz)
     .exact hI.nz (k:=q) (by simp [q2]) hz⟩)
 have hkk:∀k∈ks,k≠key:=fun k mk e=>t (e ▸ z k mk);have K:HI W (g.turn ks key v [w.heap.size] (if d=2 then L else [])) (Zn st.ob (ZU st ks++[(key,.row e m xs d)])) w':=by
  refine ⟨h1.below,fun k=>?_,h1.nodup,h1.apart,fun k b mb=>?_,h1.gz,h1.zx,h1.nw⟩
  rotate_left
  .have hp:=h1.plain k b mb;rw [Zby]at hp;rw [Zdo];by_cases hk:k=key
   .rw [if_pos hk]at hp ⊢;exact hp
   .rw [if_neg hk]at hp ⊢;by_cases a:k∈ks
    .rw [if_pos a]at hp ⊢;obtain ⟨e2,m2,M,d2,f⟩:=i k a;rw [f];exact hp
    .rw [if_neg a]at hp ⊢;exact hp
  have ho:=h1.obs k;rw [Zby]at ho;rw [Zdo];by_cases hk:k=key
  .rw [if_pos hk]at ho ⊢;exact ho
  .rw [if_neg hk]at ho ⊢;by_cases a:k∈ks
   .rw [if_pos a]at ho ⊢;obtain ⟨e2,m2,M,d2,f⟩:=i k a;obtain ⟨p1,N,L2,p2,p3,p4,p5⟩:=hI.deep f;rw [f];have x:(g.turn ks key v [w.heap.size] (if d=2 then L else [])).val k=g.val k:=by simp [Gh.turn,upd,hk]
    have E:=p3.lt;have F:=Zi6 p2;refine ⟨p1,N,L2,by rw [x];exact Zcc p2 fun b mb=>hb.block b (F b mb),p3.keep fun b mb=>hb.block b (E b mb),.inr (.inr ⟨rfl,ho.1,ho.2,fun b mb G=>?_⟩)⟩;rw [x]at mb;have hbl:b<w.heap.size:=by
     rcases A3.1 mb with m1|m1
     .exact F b m1
     .exact E b m1
    rcases ZfA G with mo|⟨j,j1,_,mj⟩|hz
    .simp at mo;omega
    .rcases A3.1 mb with m1|m1
     .rcases p5 with ⟨_,q1,_⟩|⟨_,q1,_⟩|⟨_,_,_,q⟩
      .exact hI.apart j k (fun e=>j1 (e ▸ a)) b (by simp [mj]) (by simp [q1,m1])
      .exact hI.apart j k (fun e=>j1 (e ▸ a)) b (by simp [mj]) (by simp [q1,m1])
      .exact q b m1 (.inl ⟨j,mj⟩)
     .exact p4 b m1 (.inl ⟨j,mj⟩)
    .rcases A3.1 mb with m1|m1
     .rcases p5 with ⟨_,q1,_⟩|⟨_,q1,_⟩|⟨_,_,_,q⟩
      .exact hI.nz (k:=k) (by simp [q1,m1]) hz
      .exact hI.nz (k:=k) (by simp [q1,m1]) hz
      .exact q b m1 (.inr hz)
     .exact p4 b m1 (.inr hz)
   .rw [if_neg a]at ho ⊢;exact ho
 have Q:∀k,obU U (Yc (st.ob k)):=fun k=>by
  have:=hU.ob k;cases hk:st.ob k<;>simp only[Yc]<;>first|trivial|(rw [hk]at this;exact this)
 refine ⟨_,_,_,.inl B,K,⟨_,rfl,⟨by simp [Gh.turn,upd],?_⟩⟩,h2,fun y my=>by simp at my;subst my;exact ZkS,fun k=>?_,fun k hk=>?_⟩
 .obtain ⟨A,cap,R⟩:=Zdl u;simp [R,Value.oneCell']
 .rw [Zdo];split
  .trivial
  .split
   .exact (Q k).mono fun _=>.inl
   .exact (hU.ob k).mono fun _=>.inl
 .rw [Zdo,if_neg (fun e=>hk (.inr yE))];have e:=hU.gone k fun h=>hk (.inl h);split
  .rw [e];rfl
  .exact e
end
end
section
open Go.RowKit
section
variable {P:Program} {W:ZaK} {U:Nat->Prop} {key:Nat} {st:St} {g:Gh} {w w':World} {a:Act} {tt:Nat->Option TI}
theorem ZAc [NW] (htt:∀t i,tt t=some i->TOk P t i) (hI:HI W g st.ob w) (hS:∀t,SVR g w (st.sl t) (a.tmps.getD t undef)) (hU:StU U st) (q:¬U key) {t len e m l:Nat}{z:List AV}(H:tt t=some (.slice e m l z)) {b:Array (Nat×Operand)}{xs:List (List CT)}{ks:List Nat}{d:Nat}
  (h:Xi st m (b.toList.map fun p=>st.ev tt e p.2)=some (xs,ks,d)) (hr:b.toList.map (·.1)=List.range len) (hl:len*m<=16777216) (I:ks.Nodup) {s:Sem Next} (hs:s=(do pure (.value (<-Instr.buildSlice t len (b.map fun (i,x)=>(i,a.eval x)))))):
  Fin P W U key st g w s (.p false [.row key],ZU st ks++[(key,.row e m xs d)]):=by
 obtain ⟨hu,hm,_,⟨ie,zv,y,o,hby,hz,hzc,hzl⟩,_⟩:=htt t _ H;have A:ZM (fun s v=>SVR g w s v/\svU U s) (b.toList.map fun p=>st.ev tt e p.2) (b.toList.map fun p=>a.eval p.2):=ZM.of_map _ _ fun p _=>Zlm htt hS hU e p.2;obtain ⟨cs,L,c1,c2,c3,c4⟩:=ZrK hI h A;have f:b.toList.length=len:=by have:=congrArg List.length hr;simpa using this
 have B:cs.length=len:=by rw [c1.len];simpa using f
 have C:xs.length=len:=by
  have h1:=c2.len;have h2:cs.flatten.length=len*m:=by
   have:∀(cs:List (List Value)) (vs:List Value),ZM (fun (c:List Value) (v:Value)=>v.cells=c.toArray/\c.length=m/\∀u∈c,u.oneCell'=true) cs vs->cs.flatten.length=cs.length*m:=by
    intro cs;induction cs with
    |nil=>intro _ _;simp
    |cons c cs ih=>
     intro vs hh;cases vs with
     |nil=>exact hh.elim
     |cons v vs=>simp [ih vs hh.2,hh.1.2.1,A9];omega
   rw [this cs _ c1,B]
  rw [h2]at h1;exact (Nat.eq_of_mul_eq_mul_right hm h1).symm
 have j:(b.map fun x=>match x with|(i,x)=>(i,a.eval x)).toList=(List.range' 0 (b.toList.map fun p=>a.eval p.2).length).zip (b.toList.map fun p=>a.eval p.2):=by
  have e1:(b.map fun x=>match x with|(i,x)=>(i,a.eval x)).toList=(b.toList.map (·.1)).zip (b.toList.map fun p=>a.eval p.2):=by
   rw [List.zip_map'];simp
  rw [e1,hr,List.range_eq_range'];simp [f]
 have D:(Instr.buildSlice t len (b.map fun (i,x)=>(i,a.eval x))).run P w=.ok (.slice (some ⟨w.heap.size,0,none⟩) len len) (w.alloc (.cells cs.flatten.toArray e)):=by
  have k:∀base:List Value,base.length=len*m->Instr.fill (fun i=>some (i*m,m)) base.toArray (b.map fun x=>match x with|(i,x)=>(i,a.eval x)).toList=some cs.flatten.toArray:=fun base hb=>by
   rw [j];have:=Zq6 cs (b.toList.map fun p=>a.eval p.2) 0 [] base c1 yG (by simpa [f]using hb);simpa using this
  by_cases h0:len=0
  .subst h0;have E:cs=[]:=AQ B;subst E;have J:b=#[]:=by
    have:b.toList=[]:=AQ f;simpa using this
   subst J;simp [Instr.buildSlice,YC hu,XX y,Instr.fill,newRow,Array.range_zero']
  .have F:¬len*ie.size=0:=by
    rw [o];intro e;rcases Nat.mul_eq_zero.1 e with e|e<;>omega
   refine run_buildSlice w t e len _ _ ie zv hu y hz (by rw [o];omega) F ?_;rw [o];have hb:=k ((Array.range (len*m)).map (zv.cells[· % zv.cells.size]!)).toList yG;rw [Array.toArray_toList]at hb;exact hb
 have G:=ZdZ <| World.ownsRow_lit (base:=0) (e:=e) (size:=m) w cs.flatten.toArray len (AH _) (by unfold maxLen;have:=Nat.le_mul_of_pos_right len hm;omega) (by
  have h1:=c2.len;rw [C]at h1;simpa using h1)
 refine ZtY hI hU q hm (v:=.slice (some ⟨w.heap.size,0,none⟩) len len) (cs:=cs.flatten) (w':=w.alloc (.cells cs.flatten.toArray e)) (by rw [C];simpa using G) rfl ((Below.refl _ _).alloc (AA _) _) ⟨_,_,heap_alloc_new w _⟩ c2 c3 c4 (Zk0 h) I ?_;subst hs;simp only[Sem.run_bind,D,Result.andThen_ok,Sem.run_pure]
theorem Ziu {m:Nat}{ze:List CT}{zc:List Value}(h:RCs w ze zc []) (hl:zc.length=m):∀n:Nat,REs w m (AT n ze) (AT n zc).flatten []
 |0=>by simp [REs]
 |n+1=>by
  rw [B3,B3,B4];exact ⟨zc,_,[],[],rfl,rfl,⟨h,hl⟩,Ziu h hl n⟩
theorem Zp4 [NW]:∀{z:List AV}{zs:List Value}{ze:List CT},ZlO z=some ze->ZM (fun a v=>ZaM a v=true) z zs->RCs w ze zs []
 | [],[],ze,h,_=>by simp [ZlO]at h;subst h;exact ⟨rfl,rfl⟩
 | [],_::_,_,_,h=>h.elim
 |_::_,[],_,_,h=>h.elim
 |.c x::z,v::zs,ze,h,hr=>by
  simp only[ZlO]at h;obtain ⟨b,h1,rfl⟩:=A5.1 h;have hx:=ZfU (g:=⟨fun _=>undef,fun _=>[],fun _=>[],fun _=>False⟩) (w:=w) hr.1;obtain ⟨L,hL,_⟩:=hx;have d:L=[]:=by
   have:=hr.1;cases x with
   |int k n=>exact hL.2
   |bool b=>exact hL.2
   |str s=>exact hL.2.1
   |_=>simp [ZaM]at this
  subst d;exact ⟨v,zs,[],[],rfl,rfl,hL,Zp4 h1 hr.2⟩
 |.nil e m::z,v::zs,ze,h,hr=>by
  simp only[ZlO]at h;split at h
  .rename_i hm;obtain ⟨b,h1,rfl⟩:=A5.1 h;have hv:v=.slice none 0 0:=ZfU (g:=⟨fun _=>undef,fun _=>[],fun _=>[],fun _=>False⟩) (w:=w) hr.1;subst hv;exact ⟨_,zs,[],[],rfl,rfl,⟨none,0,[],[],[],rfl,yG,AH _,rfl,hm,Sl.zero,rfl,rfl⟩,Zp4 h1 hr.2⟩
  .simp at h
 |.row k::z,v::zs,ze,h,_=>by simp [ZlO]at h
 |.n x::z,v::zs,ze,h,_=>by simp [ZlO]at h
 |.dead::z,v::zs,ze,h,_=>by simp [ZlO]at h
theorem ZpS (z:Array Value) (m:Nat) (hz:z.size=m) (hm:0<m):∀n:Nat,(madeCells z (n*m)).toList=(AT n z.toList).flatten
 |0=>by simp [madeCells]
 |n+1=>by
  have ih:=ZpS z m hz hm n;rw [List.replicate_succ',List.flatten_append,<-ih];simp only[madeCells,Array.toList_map,Array.toList_range,A9,Nat.one_mul,List.range_add,B5,List.map_map,B4,List.flatten_nil,Al];congr 1
  apply List.ext_getElem?;intro j;by_cases hj:j<m
  .simp only[List.getElem?_map,List.getElem?_range hj,AY,Function.comp];have e:(n*m+j) % z.size=j:=by
    rw [hz,Nat.add_comm,Nat.add_mul_mod_self_right,Nat.mod_eq_of_lt hj]
   have a:j<z.size:=by omega
   simp [e,a]
  .have h1:z.size<=j:=by omega
   simp [hj,h1]
theorem ZyG [NW] (htt:∀t i,tt t=some i->TOk P t i) (hI:HI W g st.ob w) (hU:StU U st) (c:¬U key) {t e m a:Nat}{z:List AV}(k:tt t=some (.slice e m a z)) {n:Nat}{ze:List CT}(hz:ZlO z=some ze) (hn:n<=1073741824) {s:Sem Next}
  (hs:s=(do pure (.value (<-Instr.makeSlice t (.int .i64 n) (.int .i64 n))))):Fin P W U key st g w s (.p false [.row key],[(key,.row e m (AT n ze) 2)]):=by
 obtain ⟨hu,hm,hby0,⟨ie,zv,l,o,hby,q,f,u⟩,_⟩:=htt t _ k;have v:ie.bytes*n<=281474976710656:=by
  have:=B6 (show ie.bytes<=131072 by omega) hn;omega
 obtain ⟨w',r1,r2,r3⟩:=run_make_full (P:=P) w 0 t e ie zv m hu l q o .i64 .i64 n v (by unfold maxLen;omega) (AH _);have j:zv.cells.size=m:=by rw [<-u,f.len];simp
 rw [ZpS zv.cells m j hm n]at r2;have x:=Ziu (Zp4 (w:=w) hz f) (by simpa using j) n;have hb:Below w.heap.size w w':=(Below.refl _ _).grown r3 (AA _) yG;have y:∃b e,w'.heap[w.heap.size]?=some (.cells b e (0,0)):=by
  rcases r2.2 with ⟨h',_⟩|⟨g',cap',b,h',_,hg,_⟩
  .simp at h'
  .simp at h';rw [<-h'.1]at hg;exact ⟨b,e,hg⟩
 have:=Zwf (ks:=[]) (d:=2) hI hU c hm (xs:=AT n ze) (by simpa using ZdZ r2) rfl hb y x FP.nil yG yG yG (s:=s) (P:=P) (by subst hs;simp only[Sem.run_bind,r1,Result.andThen_ok,Sem.run_pure]);simpa [Za8]using this
theorem Zsa [NW] {t e:TypeId}{ty:TypeId}{ie:TypeInfo}(hu:P.underlying t=some (.slice e)) (a:P.info? e=some ie) (A B:Option Addr) (n c c':Nat) (b:n<=c):
  (Builtin.append_ #[t,t] ty #[.slice A n c,.slice B 0 c']).run P w=.ok (.slice A n c) w:=by
 cases A<;>cases B<;>simp [Builtin.append_,YC hu,XX a,Builtin.lenOf,Builtin.firstCells,loadCells,loadCellsFrom,storeCells,b]
theorem Zs7:∀{e:List CT}{cs:List Value}{L:List Nat},RCs w e cs L->e.all CT.flat=true->L=[]
 | [],_,_,h,_=>h.2
 |x::r,_,_,⟨v,cs',L1,L2,rfl,rfl,h1,h2⟩,hf=>by
  simp only[B7,AE]at hf;have e1:L1=[]:=by
   cases x with
   |int k n=>exact h1.2
   |bool b=>exact h1.2
   |str s=>exact h1.2.1
   |_=>simp [CT.flat]at hf
  rw [e1,Zs7 h2 hf.2];rfl
theorem Zkj [NW] {m:Nat}:∀{xs:List (List CT)}{cs:List Value}{L:List Nat},REs w m xs cs L->ZaN xs=true->L=[]
 | [],_,_,h,_=>h.2
 |x::r,_,_,⟨c1,c2,L1,L2,rfl,rfl,h1,h2⟩,hf=>by
  simp only[ZaN,B7,AE]at hf;rw [Zs7 h1.1 hf.1,Zkj h2 hf.2];rfl
theorem REs.append {m:Nat}:∀{xs ys:List (List CT)}{us vs:List Value}{L M:List Nat},REs w m xs us L->REs w m ys vs M->REs w m (xs++ys) (us++vs) (L++M)
 | [],_,_,_,_,_,h,h'=>by obtain ⟨rfl,rfl⟩:=h;simpa using h'
 |_::_,_,_,_,_,_,⟨c1,c2,L1,L2,rfl,rfl,h3,h4⟩,h'=>⟨c1,c2++_,L1,L2++_,yG,yG,h3,h4.append h'⟩
theorem REs.one {m:Nat}:∀{xs:List (List CT)}{cs:List Value}{L:List Nat},REs w m xs cs L->∀u∈cs,u.oneCell'=true
 | [],_,_,h=>by simp [h.1]
 |_::_,_,_,⟨c1,c2,L1,L2,rfl,rfl,h3,h4⟩=>fun u mu=>by
  rcases A3.1 mu with mu|mu
  .exact h3.1.one u mu
  .exact h4.one u mu
theorem ZwP {a b:Nat}(h:Zge a b=2) (ha:a<=2) (hb:b<=2):a=2/\b=2:=by unfold Zge at h;split at h<;>omega
theorem ZpP {fl:Bool}{xs:List (List CT)}(h:Zj5 fl xs=2):ZaN xs=true:=by unfold Zj5 at h;split at h<;>simp_all
theorem ZsI (fl:Bool) (xs:List (List CT)):Zj5 fl xs<=2:=by unfold Zj5;split<;>omega
theorem Zo1 (fl:Bool) (xs:List (List CT)):0<Zj5 fl xs:=by unfold Zj5;split<;>omega
theorem HI.plainD [NW] {ob:Nat->Ob}(h:HI W g ob w) {k b:Nat}(m:b∈g.D k):(W.heap.size<=b\/W.x b)/\∃a e,w.heap[b]?=some (.cells a e (0,0)):=by
 have h1:=h.plain k b (by simp [m]);have h2:=h.obs k;cases hk:ob k with
 |map kk vk kv=>
  rw [hk]at h2;obtain ⟨_,_,_,_,_,h3,_⟩:=h2;rw [h3]at m;simp at m
 |_=>rw [hk]at h1;exact h1
theorem ZBi [NW] (hI:HI W g st.ob w) {x:SV}{v:Value}{e m:Nat}{xs:List (List CT)}{ks:List Nat}{d:Nat}(h:Zgk st x=some (xs,ks,d)) (hok:Zmi st e m x=true) (hx:SVR g w x v) (hu:svU U x):
  ∃cs L,w.ownsV 0 e m v xs.length cs/\REs w m xs cs L/\(∀b∈L,¬g.own b)/\(d=2->L=ks.flatMap g.D)/\v.ownBlock.toList=ks.flatMap g.O/\(∀k∈ks,U k)/\d<=2/\0<d:=by
 unfold Zgk at h;split at h
 .simp only[A4,A7]at h;obtain ⟨rfl,rfl,rfl⟩:=h;have:=ZtI hx;subst this;exact ⟨[],[],ZfF _ _ _ _,⟨rfl,rfl⟩,yG,yG,by simp [Value.ownBlock],yG,yG,yG⟩
 .rename_i k;split at h
  .rename_i e' m' xs' d' hk;split at h
   .simp at h
   rename_i a;simp only[A4,A7]at h;obtain ⟨rfl,rfl,rfl⟩:=h;simp only[Zmi,hk,AE,beq_iff_eq]at hok;obtain ⟨rfl,rfl⟩:=hok;have:=Zgn hx;subst this;obtain ⟨hm,cs,L,o1,o2,o3,o4,o5⟩:=hI.deepO hk a;refine ⟨cs,L,o1,o2,o3,fun hd=>?_,by simp [o4],fun q mq=>by simp at mq;subst mq;exact hu (.row q) yG,?_,yE⟩
   .rcases o5 with ⟨_,o5⟩|⟨o5,_⟩
    .simp [o5]
    .omega
   .rcases o5 with ⟨o5,_⟩|⟨o5,_⟩<;>omega
  .simp at h
 .simp at h
theorem ZAw [NW] (hI:HI W g st.ob w) {x:SV}{v:Value}{m:Nat}{xs:List (List CT)}{ks:List Nat}{d:Nat}{fl:Bool}(h:Zgh st fl x=some (xs,ks,d)) (hok:Zk2 st m x=true) (hx:SVR g w x v) (hu:svU U x):
  ∃A c cs L,v=.slice A xs.length c/\REs w m xs cs L/\(0<xs.length->∃b off,A=some ⟨b,off,none⟩/\Qh w b off cs)/\(∀b∈L,¬g.own b)/\(d=2->L.Sublist (ks.flatMap g.D))/\(∀k∈ks,U k)/\d<=2/\0<d:=by
 unfold Zgh at h;split at h
 .simp only[A4,A7]at h;obtain ⟨rfl,rfl,rfl⟩:=h;simp only[Zk2,beq_iff_eq]at hok;subst hok;obtain ⟨A,cap,cs,L0,L1,rfl,h2,h3,h5,h6,h7,ho⟩:=Zhv hx;refine ⟨A,cap,cs,L1,rfl,h7,fun hp=>?_,fun b mb=>ho b (by simp [mb]),fun hd=>by rw [Zkj h7 (ZpP hd)];simp,yG,ZsI _ _,Zo1 _ _⟩;obtain ⟨b,off,h8,_,h9⟩:=h6.at_ hp;exact ⟨b,off,h8,h9⟩
 .simp only[A4,A7]at h;obtain ⟨rfl,rfl,rfl⟩:=h;have:=ZtI hx;subst this;exact ⟨none,0,[],[],rfl,⟨rfl,rfl⟩,yG,yG,yG,yG,yG,yG⟩
 .rename_i k;split at h
  .rename_i e' m' e d' hk;simp only[Zk2,hk,beq_iff_eq]at hok;subst hok;have:=Zgn hx;subst this;obtain ⟨hm,cs,L,o1,o2,o3,o5⟩:=hI.deep hk;obtain ⟨A,cap,L0,s1,s2,s3,s4,s5⟩:=Sl.row o1;have a:0<e.length->∃b off,A=some ⟨b,off,none⟩/\Qh w b off cs:=fun hp=>by
    obtain ⟨b,off,h8,_,h9⟩:=s4.at_ hp;exact ⟨b,off,h8,h9⟩
   split at h
   .simp only[A4,A7]at h;obtain ⟨rfl,rfl,rfl⟩:=h;exact ⟨A,cap,cs,L,s1,o2,a,o3,fun hd=>by rw [Zkj o2 (ZpP hd)];simp,yG,ZsI _ _,Zo1 _ _⟩
   .rename_i hd0;simp only[A4,A7]at h;obtain ⟨rfl,rfl,rfl⟩:=h;refine ⟨A,cap,cs,L,s1,o2,a,o3,fun hd=>?_,fun q mq=>by simp at mq;subst mq;exact hu (.row q) yG,?_,yE⟩
    .rcases o5 with ⟨_,_,o5⟩|⟨o5,_⟩|⟨o5,_⟩
     .simp [o5]
     .omega
     .omega
    .rcases o5 with ⟨o5,_⟩|⟨o5,_⟩|⟨o5,_⟩<;>omega
  .simp at h
 .simp at h
theorem HI.nodupD [NW] {ob:Nat->Ob}(hI:HI W g ob w):∀{ks:List Nat},ks.Nodup->(ks.flatMap g.D).Nodup
 | [],_=>by simp
 |k::ks,h=>by
  simp only[AU,AI];rw [Ac]at h;refine ⟨(AI.1 (hI.nodup k)).2.1,hI.nodupD h.2,fun x hx y hy e=>?_⟩;subst e;obtain ⟨j,hj,hy⟩:=AB.1 hy;exact hI.apart k j (fun e=>h.1 (e ▸ hj)) x (by simp [hx]) (by simp [hy])
theorem ZzT [NW] (htt:∀t i,tt t=some i->TOk P t i) (hI:HI W g st.ob w) (hU:StU U st) (I:¬U key) {t:Nat}{s x:SV}{vs vx:Value}{r:SV×List (Nat×Ob)}(h:Zor st key (tt t) s x=some r) (hs:SVR g w s vs/\svU U s) (hx:SVR g w x vx/\svU U x) {ty:TypeId}{q:Sem Next}
  (hq:q=(do pure (.value (<-Builtin.append_ #[t,t] ty #[vs,vx])))):Fin P W U key st g w q r:=by
 unfold Zor at h;split at h
 .rename_i e m p z V;obtain ⟨⟨xs,k1,d1⟩,h1,h⟩:=A8.1 h;obtain ⟨⟨ys,k2,d2⟩,h2,h⟩:=A8.1 h;split at h
  .rename_i hc;simp only[A4]at h;subst h;obtain ⟨X,Y,J,K⟩:=hc;simp only at J K;obtain ⟨hu,hm,L,⟨ie,zv,M,Z,aa,ab,ac,ad⟩,_⟩:=htt t _ V;obtain ⟨cs,Lx,a1,a2,a3,a4,a5,a6,a7,a8⟩:=ZBi hI h1 X hs.1 hs.2;obtain ⟨A,c,a,Ly,b0,b1,b2,b3,b4,b5,b7,b8⟩:=ZAw hI h2 Y hx.1 hx.2;subst b0;obtain ⟨A1,cap1,ae,af,hv3⟩:=QP a1;have N:a.length=ys.length*m:=b1.len;obtain ⟨v',w',r1,r2,r3,r4⟩:∃v' w',(Builtin.append_ #[t,t] ty #[vs,.slice A ys.length c]).run P w=.ok v' w'/\w'.ownsV 0 e m v' (xs.length+ys.length) (cs++a)/\w.grownBy w' vs.ownBlock/\(v'.ownBlock=vs.ownBlock\/v'.ownBlock=some w.heap.size):=by
    by_cases hy:ys.length=0
    .have ag:a=[]:=AQ (by rw [N,hy];simp);refine ⟨vs,w,?_,by rw [ag,hy,Al];exact a1,World.grownBy.refl _ _,.inl rfl⟩;rw [ae,hy];exact Zsa hu M A1 A _ _ _ af
    .obtain ⟨b,off,rfl,E⟩:=b2 yE;have B:(xs.length+ys.length)*p<=140737488355328:=by
      have:=B6 K L;omega
     obtain ⟨v',w',q1,q2,q3,q5⟩:=ZgB (P:=P) w 0 t ty e ie zv m p hu M ab Z aa (by rw [<-ad,ac.len];simp) hm vs xs.length cs a1 ⟨b,off,none⟩ ys.length c a N
      (fun j u hj=>by rw [ZbY];exact E j u hj) b1.one (by unfold maxLen;omega) B (AH _)
     exact ⟨v',w',q1,q2,q3,q5⟩
   have C:∀b,¬g.own b->some b≠vs.ownBlock:=fun b hn e=>hn (by
    have:b∈vs.ownBlock.toList:=by simp [<-e]
    rw [a5]at this;obtain ⟨k,_,mk⟩:=AB.1 this;exact .inl ⟨k,mk⟩)
   have d:∀b∈Lx++Ly,w'.heap[b]?=w.heap[b]?:=fun b mb=>by
    rcases A3.1 mb with mb|mb
    .exact r3.block b (a2.lt b mb) (C b (a3 b mb))
    .exact r3.block b (b1.lt b mb) (C b (b3 b mb))
   have Q:REs w' m (xs++ys) (cs++a) (Lx++Ly):=(a2.keep fun b mb=>d b (by simp [mb])).append (b1.keep fun b mb=>d b (by simp [mb]));have l:∀b∈v'.ownBlock.toList,b∈k1.flatMap g.O\/b=w.heap.size:=fun b mb=>by
    rcases r4 with r4|r4
    .rw [r4,a5]at mb;exact .inl mb
    .rw [r4]at mb;simp at mb;exact .inr mb
   have f:(Zge d1 d2)=2->(Lx++Ly).Sublist ((k1++k2).flatMap g.D):=fun hd=>by
    have hd:=ZwP hd a7 b7;rw [Az];exact AG (by rw [a4 hd.1];exact AF _) (b4 hd.2)
   have F:∀b∈(if (Zge d1 d2)=2 then Lx++Ly else []),b∈Lx++Ly/\(Zge d1 d2)=2:=fun b mb=>by
    split at mb
    .rename_i hd;exact ⟨mb,hd⟩
    .simp at mb
   have R:Bel W w':=by
    refine ⟨r3.os.trans hI.below.os,r3.tape.trans hI.below.tape,r3.output.trans hI.below.output,Ae hI.below.size r3.size,fun b hb S=>?_⟩;rw [r3.block b (Ar hb hI.below.size) fun e=>?_]
    .exact hI.below.block b hb S
    .have:b∈vs.ownBlock.toList:=by simp [<-e]
     rw [a5]at this;obtain ⟨k,_,mk⟩:=AB.1 this;rcases (hI.plain k b (by simp [mk])).1 with h|h
     .omega
     .exact S h
   obtain ⟨t1,t2⟩:=hI.turn (key:=key) (U:=U) (w':=w') (v:=v') (O:=v'.ownBlock.toList) (D:=if (Zge d1 d2)=2 then Lx++Ly else []) (o:=.row e m (xs++ys) (Zge d1 d2)) hU.ob I (k1++k2)
    (fun k mk=>(A3.1 mk).elim (a6 k) (b5 k)) R r3.size (fun b hb hn=>r3.block b hb fun e=>by
     have:b∈vs.ownBlock.toList:=by simp [<-e]
     rw [a5]at this;obtain ⟨k,hk,mk⟩:=AB.1 this;exact hn k (by simp [hk]) mk)
    (fun b mb=>by
     rcases l b mb with mb|rfl
     .obtain ⟨k,hk,mk⟩:=AB.1 mb;exact .inl ⟨k,by simp [hk],mk⟩
     .exact .inr (AA _))
    (fun b mb=>by
     obtain ⟨m1,m2⟩:=F b mb;obtain ⟨k,hk,mk⟩:=AB.1 ((f m2).subset m1);exact .inl ⟨k,hk,by simp [mk]⟩)
    (by
     rw [AI];refine ⟨by cases v'.ownBlock<;>simp,?_,fun b mb b' ah e=>?_⟩
     .split
      .rename_i hd;exact (hI.nodupD J).sublist (f hd)
      .simp
     .subst e;obtain ⟨m1,m2⟩:=F b ah;rcases l b mb with mb|rfl
      .obtain ⟨k,_,mk⟩:=AB.1 mb;rcases A3.1 m1 with m1|m1
       .exact a3 b m1 (.inl ⟨k,mk⟩)
       .exact b3 b m1 (.inl ⟨k,mk⟩)
      .rcases A3.1 m1 with m1|m1
       .have:=a2.lt _ m1;omega
       .have:=b1.lt _ m1;omega)
    (fun b mb=>by
     rcases A3.1 mb with mb|mb
     .have ai:W.heap.size<=b\/W.x b:=by
       rcases l b mb with mb|rfl
       .obtain ⟨k,_,mk⟩:=AB.1 mb;exact (hI.plain k b (by simp [mk])).1
       .exact .inl hI.below.size
      rcases r2.2 with ⟨h',_⟩|⟨g',o',cap',G,h',hg0,hg,_⟩
      .simp [h',Value.ownBlock]at mb
      .simp [h',Value.ownBlock]at mb;subst mb;exact ⟨ai,G,e,hg⟩
     .obtain ⟨m1,m2⟩:=F b mb;obtain ⟨k,hk,mk⟩:=AB.1 ((f m2).subset m1);obtain ⟨p1,G,e',p2⟩:=hI.plainD mk;exact ⟨p1,G,e',by rw [d b m1];exact p2⟩)
    (fun hown=>⟨hm,cs++a,Lx++Ly,by simpa [Gh.turn,upd]using r2,Q,by
     by_cases hd:Zge d1 d2=2
     .exact .inl ⟨hd,by simp [Gh.turn,upd],by simp [Gh.turn,hd]⟩
     .have aj:Zge d1 d2=1:=by unfold Zge at hd ⊢;split<;>simp_all<;>omega
      refine .inr (.inl ⟨aj,by simp [Gh.turn,upd],by simp [Gh.turn,hd],fun b mb ho=>?_⟩);have H:¬g.own b:=by
       rcases A3.1 mb with m1|m1
       .exact a3 b m1
       .exact b3 b m1
      rcases ZfA ho with mo|⟨k,_,_,mk⟩|hz
      .rcases l b mo with mo|rfl
       .obtain ⟨k,_,mk⟩:=AB.1 mo;exact H (.inl ⟨k,mk⟩)
       .rcases A3.1 mb with m1|m1
        .have:=a2.lt _ m1;omega
        .have:=b1.lt _ m1;omega
      .exact H (.inl ⟨k,mk⟩)
      .exact H (.inr hz)⟩)
   have T:=Zjx (key:=key) (o:=.row e m (xs++ys) (Zge d1 d2)) hU (k1++k2) trivial;refine ⟨_,v',w',.inl (by subst hq;simp only[Sem.run_bind,r1,Result.andThen_ok,Sem.run_pure]),t1,⟨_,rfl,⟨by simp [Gh.turn,upd],?_⟩⟩,t2,fun y my=>by simp at my;subst my;exact ZkS,T.1,T.2⟩;obtain ⟨A2,cap2,ak⟩:=Zdl r2;simp [ak,Value.oneCell']
  .simp at h
 .simp at h
end
end
section
open Go.RowKit
section
variable {P:Program} {W:ZaK} {U:Nat->Prop} {key:Nat} {st:St} {g:Gh} {w w':World} {a:Act} {tt:Nat->Option TI}
theorem RCs.dropS:∀{x:List CT}{c:List Value}{L:List Nat}(n:Nat),RCs w x c L->∃L',RCs w (x.drop n) (c.drop n) L'/\L'.Sublist L
 |x,c,L,0,h=>⟨L,by simpa using h,AF _⟩
 | [],c,L,n+1,h=>⟨[],by obtain ⟨rfl,rfl⟩:=h;simp [RCs],AM _⟩
 |x::r,_,_,n+1,⟨v,cs',L1,L2,rfl,rfl,h1,h2⟩=>by
  obtain ⟨L',a1,a2⟩:=RCs.dropS n h2;exact ⟨L',by simpa using a1,a2.trans (B8 L1 L2)⟩
theorem RCs.spliceS [NW] {x:List CT}{c:List Value}{L:List Nat}{ys:List CT}{us:List Value}(h:RCs w x c L) (h':RCs w ys us []):∀(off:Nat),∃L',RCs w (splice x off ys) (splice c off us) L'/\L'.Sublist L:=by
 have hl:us.length=ys.length:=h'.len;intro off;induction off generalizing x c L with
 |zero=>
  obtain ⟨L',a1,a2⟩:=h.dropS (0+ys.length);refine ⟨[]++L',?_,a2⟩;simp only[splice,List.take_zero,Ak,hl];exact h'.append a1
 |succ off ih=>
  cases x with
  |nil=>
   obtain ⟨rfl,rfl⟩:=h;refine ⟨[],?_,AM _⟩;simpa [splice]using h'
  |cons x r=>
   obtain ⟨v,a,L1,L2,rfl,rfl,h1,h2⟩:=h;obtain ⟨L',a1,a2⟩:=ih h2;refine ⟨L1++L',?_,AG (AF _) a2⟩;have e1:splice (x::r) (off+1) ys=x::splice r off ys:=by
    simp only[splice,B9,BB];rw [show off+1+ys.length=(off+ys.length)+1 by omega,BC]
   have e2:splice (v::a) (off+1) us=v::splice a off us:=by
    simp only[splice,B9,BB];rw [show off+1+us.length=(off+us.length)+1 by omega,BC]
   rw [e1,e2];exact ⟨v,_,L1,L',rfl,rfl,h1,a1⟩
theorem ZkN {α:Type}(c1 c2:List α) (off:Nat) (us:List α):splice (c1++c2) (c1.length+off) us=c1++splice c2 off us:=by
 simp only[splice];rw [Ax,AD,AZ,Aa (Aj _ _),Ab];simp
theorem Zgv {α:Type}(c1 c2:List α) (off:Nat) (us:List α) (h:off+us.length<=c1.length):splice (c1++c2) off us=splice c1 off us++c2:=by
 simp only[splice];rw [List.take_append_of_le_length yE,BE h];simp
theorem REs.set [NW] {m:Nat}{ys:List CT}{us:List Value}(h':RCs w ys us []):∀{xs:List (List CT)}{cs:List Value}{L:List Nat}{i off:Nat}{x:List CT},REs w m xs cs L->xs[i]?=some x->off+us.length<=m->
  ∃L',REs w m (xs.set i (splice x off ys)) (splice cs (i*m+off) us) L'/\L'.Sublist L
 | [],_,_,_,_,_,_,hx,_=>by simp at hx
 |e::r,_,_,0,off,x,⟨c1,c2,L1,L2,rfl,rfl,h3,h4⟩,hx,ho=>by
  simp at hx;subst hx;obtain ⟨L',a1,a2⟩:=h3.1.spliceS h' off;refine ⟨L'++L2,?_,AG a2 (AF _)⟩;rw [Nat.zero_mul,AS,Zgv _ _ _ _ (by rw [h3.2];exact ho)];exact ⟨splice c1 off us,c2,L',L2,rfl,rfl,⟨a1,by rw [Zgc _ _ _ (by rw [h3.2];exact ho)];exact h3.2⟩,h4⟩
 |e::r,_,_,i+1,off,x,⟨c1,c2,L1,L2,rfl,rfl,h3,h4⟩,hx,ho=>by
  obtain ⟨L',a1,a2⟩:=REs.set h' h4 (i:=i) (off:=off) (x:=x) (by simpa using hx) ho;refine ⟨L1++L',?_,AG (AF _) a2⟩;have e:(i+1)*m+off=c1.length+(i*m+off):=by rw [h3.2,A9];omega
  rw [e,ZkN];exact ⟨c1,_,L1,L',rfl,rfl,h3,a1⟩
theorem Zpj [NW]:∀{vs:List AV}{ys:List CT}{us:List Value},Zjl vs=some ys->ZM (AVR g w) vs us->RCs w ys us []
 | [],_,[],h,_=>by simp [Zjl]at h;subst h;exact ⟨rfl,rfl⟩
 | [],_,_::_,_,h=>h.elim
 |_::_,_,[],_,h=>h.elim
 |x::vs,ys,u::us,h,hr=>by
  simp only[Zjl]at h;obtain ⟨y,h1,h⟩:=A8.1 h;obtain ⟨b,h2,rfl⟩:=A5.1 h;have hx:x=.c y/\y.flat=true:=by
   cases x with
   |c z=>cases z<;>simp [Zut]at h1<;>subst h1<;>exact ⟨rfl,rfl⟩
   |_=>simp [Zut]at h1
  obtain ⟨rfl,hf⟩:=hx;obtain ⟨L,hL,_⟩:=hr.1;have a:L=[]:=by
   cases y with
   |int k n=>exact hL.2
   |bool b=>exact hL.2
   |str s=>exact hL.2.1
   |_=>simp [CT.flat]at hf
  subst a;exact ⟨u,us,[],[],rfl,rfl,hL,Zpj h2 hr.2⟩
theorem Zw2 [NW] (htt:∀t i,tt t=some i->TOk P t i) (hI:HI W g st.ob w) (hU:StU U st) {t k m i off e:Nat}{xs:List (List CT)}{d:Nat}{x ys:List CT}{vs:List AV}{va vv:Value}{ag:Bool}(hk:st.ob k=.row e m xs d) (S:¬d=0) (hx:xs[i]?=some x) (T:Zjl vs=some ys) (hl:vs.length=ZiO (tt t)) (ho:off+vs.length<=m)
  (ha:SVR g w (.rp k m i off) va) (hv:SVR g w (.p ag vs) vv) (l:0<vs.length) {s:Sem Next} (hs:s=(do Instr.storeAt t va vv;pure .skip)):Fin P W U key st g w s (.und,[(k,.row e m (xs.set i (splice x off ys)) d)]):=by
 obtain ⟨b,o,n,c,h1,rfl⟩:=ha;obtain ⟨hm,cs,L,o1,o2,o3,o4,o5⟩:=hI.deepO hk S;obtain ⟨us,c1,c2⟩:=PVR.cells hv;have V:=c2.len;have hi:i<xs.length:=(AR.1 hx).1;rcases o1.2 with ⟨_,hn⟩|⟨b',o',cap,a,y,X,hg,F,Y,aa,ab⟩
 .omega
 have ac:b=b'/\o=o':=by rw [y]at h1;simp at h1;exact ⟨h1.1.1.symm,h1.1.2.symm⟩
 obtain ⟨rfl,rfl⟩:=ac;have hlt:i*m+off+us.length<=xs.length*m:=by
  have:=Ah m (show i+1<=xs.length by omega);rw [A9]at this;omega
 have hcap:xs.length*m<=cap*m:=Ah m F;have A:(sizeOf t).run P w=.ok us.length w:=by
  rw [<-V,hl];unfold ZiO at hl ⊢;cases hti:tt t with
  |none=>rw [hti]at hl;simp at hl;simp [hl]at l
  |some i=>
   cases i with
   |atom z=>obtain ⟨d,zv,i,_,_,h3,_,h4,_⟩:=htt t _ hti;rw [XX h3,h4]
   |strct fs n z=>obtain ⟨_,i,_,_,h3,h4,_⟩:=htt t _ hti;rw [XX h3,h4]
   |slice e m b z=>obtain ⟨_,_,_,_,j,h3,h4,_⟩:=htt t _ hti;rw [XX h3,h4]
   |_=>rw [hti]at hl;simp at hl;simp [hl]at l
 have G:=run_storeCells_at (P:=P) b (o+(i*m+off)) e us 0 a w hg yE (AVRs.one c2);obtain ⟨r1,r2,r3,r4,r5,r6⟩:=ZpF b a (splice a.toList (o+(i*m+off)) us).toArray e hg;have H:s.run P w=.ok .skip (w.setRow b (splice a.toList (o+(i*m+off)) us).toArray):=by
  subst hs;have e:(a.toList.take (o+(i*m+off)+0)++us++a.toList.drop (o+(i*m+off)+0+us.length)).toArray=(splice a.toList (o+(i*m+off)) us).toArray:=by simp [splice]
  rw [e]at G;simp [Instr.storeAt,Instr.sureAddr,storeVar,c1,A,G]
 have B:g.O k=[b]:=by rw [o4,y];rfl
 have I:∀b',b'<w.heap.size->¬g.own b'->(w.setRow b (splice a.toList (o+(i*m+off)) us).toArray).heap[b']?=w.heap[b']?:=fun b' _ hn=>r2 b' fun e=>hn (.inl ⟨k,by simp [B,e]⟩);obtain ⟨L',q1,q2⟩:=o2.set (Zpj T c2) hx (show off+us.length<=m by omega);have C:(w.setRow b (splice a.toList (o+(i*m+off)) us).toArray).ownsV 0 e m (g.val k) (xs.set i (splice x off ys)).length (splice cs (i*m+off) us):=by
  have J:cs.length=xs.length*m:=o1.1;refine ⟨by rw [Zgc _ _ _ yE,J];simp,.inr ⟨b,o,cap,_,by simpa using y,X,r1,by simpa using F,Y,by rw [List.size_toArray,Zgc _ _ _ (show o+(i*m+off)+us.length<=a.toList.length by simp;omega)];simpa using aa,?_⟩⟩;have h0:((splice a.toList (o+(i*m+off)) us).toArray.toList).drop o=splice (a.toList.drop o) (i*m+off) us:=by
   show (splice a.toList (o+(i*m+off)) us).drop o=_
   unfold splice;have ad:o<=(a.toList.take (o+(i*m+off))).length:=by simp;omega
   rw [BE ad,Ay,Ab,List.drop_drop,AD]
  rw [h0];have:a.toList.drop o=cs++(a.toList.drop o).drop (xs.length*m):=by rw [<-ab];exact (List.take_append_drop _ _).symm
  rw [this,Zgv _ _ _ _ yE];have e2:(xs.set i (splice x off ys)).length*m=(splice cs (i*m+off) us).length:=by rw [Zgc _ _ _ yE,J];simp
  rw [e2];exact B2 rfl
 have K:=o2.lt;have E:REs (w.setRow b (splice a.toList (o+(i*m+off)) us).toArray) m (xs.set i (splice x off ys)) (splice cs (i*m+off) us) L':=q1.keep fun b' mb=>I b' (K b' (q2.subset mb)) (o3 b' (q2.subset mb));let g':Gh:=⟨g.val,g.O,upd g.D k (if d=2 then L' else []),g.Z⟩
 have hgo:∀b',g'.own b'↔g.own b':=fun b'=>Iff.rfl;have M:(∀b'∈g'.D k,b'∈g.D k)->QU g g' w.heap.size:=fun hs=>.of (fun b' h=>.inl h) fun j b' mb=>by
  by_cases hj:j=k
  .subst hj;exact .inl (.inr ⟨j,hs b' mb⟩)
  .exact .inl (.inr ⟨j,by simpa [g',ZP _ _ hj]using mb⟩)
 have f:∀b'∈g'.D k,b'∈g.D k:=fun b' mb=>by
  simp only[g',ZF]at mb;split at mb
  .rename_i hd;rcases o5 with ⟨_,o5⟩|⟨o5,_⟩
   .rw [o5];exact q2.subset mb
   .omega
  .simp at mb
 refine ⟨g',undef,_,.inr ⟨H,rfl⟩,?_,rfl,fun x u hx hu=>hu.move hx (fun _ _=>rfl) I (M f) yE,trivial,fun q=>?_,fun q hq=>?_⟩
 .refine hI.step (U:=U) (fun q=>q=k) ?_ rfl (fun b' _ hn=>r2 b' fun e=>hn k rfl (by simp [B,e])) (fun q hq=>⟨ZP _ _ hq,rfl,rfl,ZP _ _ hq⟩) hU.ob (fun _ _=>rfl) (M f) (fun q hq=>?_)
  .exact ⟨r4.trans hI.below.os,r5.trans hI.below.tape,r6.trans hI.below.output,by have:=hI.below.size;omega,fun q hq N=>by rw [r2 q (fun e=>by subst e;rcases (hI.plain k q (by simp [B])).1 with h|h;omega;exact N h)];exact hI.below.block q hq N⟩
  .subst hq;have v:∀b'∈g'.O q++g'.D q,b'∈g.O q++g.D q:=fun b' mb=>by
    rcases A3.1 mb with mb|mb
    .exact A3.2 (.inl mb)
    .exact A3.2 (.inr (f b' mb))
   refine ⟨?_,?_,fun b' mb=>?_,fun j hj b' mb mj=>?_⟩
   .simp only[Zn,ZF];refine ⟨hm,_,L',C,E,?_⟩;rcases o5 with ⟨o5,_⟩|⟨o5,_⟩
    .exact .inl ⟨o5,o4,by simp [g',upd,o5]⟩
    .exact .inr (.inl ⟨o5,o4,by simp [g',upd,o5],fun b' mb=>o3 b' (q2.subset mb)⟩)
   .have hn:=hI.nodup q;refine hn.sublist (AG (AF _) ?_);simp only[g',ZF];split
    .rename_i hd;rcases o5 with ⟨_,o5⟩|⟨o5,_⟩
     .rw [o5];exact q2
     .omega
    .exact AM _
   .have hp:=hI.plain q b' (v b' mb);rw [hk]at hp;obtain ⟨p1,Q,e',p2⟩:=hp;refine ⟨p1,?_⟩;simp only[Zn,ZF];show ∃a e,_=_
    by_cases R:b'=b
    .subst R;exact ⟨_,_,r1⟩
    .exact ⟨Q,e',by rw [r2 b' R];exact p2⟩
   .have ae:b'∈g.O j++g.D j:=by
     rcases A3.1 mj with mj|mj
     .exact A3.2 (.inl mj)
     .simp only[g',ZP _ _ (fun e:j=q=>hj e.symm)]at mj;exact A3.2 (.inr mj)
    exact hI.apart q j hj b' (v b' mb) ae
 .simp only[Zn,upd];split
  .trivial
  .exact (hU.ob q).mono fun _=>.inl
 .simp only[Zn,upd];split
  .rename_i e;subst e;exact absurd (hU.gone q fun h=>hq (.inl h)) (by simp [hk])
  .exact hU.gone q fun h=>hq (.inl h)
end
end
section
open Go.RowKit
section
variable {P:Program} {W:ZaK} {U:Nat->Prop} {key:Nat} {st:St} {g:Gh} {w w':World} {a:Act} {tt:Nat->Option TI}
theorem Ztq [NW] {α:Type}(f:Nat->α) (k:Nat):upd f k (f k)=f:=by
 funext j;by_cases hj:j=k
 .subst hj;rw [ZF]
 .rw [ZP _ _ hj]
theorem AVR.less [NW] {g1:Gh}{x:AV}{v:Value}(h:AVR g w x v) (hv:g1.val=g.val) (ho:XJ g1 g):AVR g1 w x v:=by
 cases x with
 |c x=>obtain ⟨L,h1,h2⟩:=h;exact ⟨L,h1,fun b mb hb=>h2 b mb (ho.own b hb)⟩
 |n x=>exact NR.move h (fun _ _ _=>rfl) (ho.grow _)
 |row k=>exact ⟨h.1.trans (by rw [hv]),h.2⟩
 |nil e m=>exact h
 |dead=>exact h
theorem SVR.less [NW] {g1:Gh}{x:SV}{v:Value}(h:SVR g w x v) (hv:g1.val=g.val) (ho:XJ g1 g):SVR g1 w x v:=
 h.move (U:=fun _=>True) (by (cases x<;>try trivial);(intro y my;cases y<;>trivial);(intro y my z mz;cases z<;>trivial)) (fun k _=>by rw [hv]) (fun _ _ _=>rfl) (ho.grow _) (AA _)
theorem Zju [NW] {ob:Nat->Ob}(hI:HI W g ob w) (k:Nat):∃g1:Gh,HI W g1 (upd ob k (Yc (ob k))) w/\g1.val=g.val/\XJ g1 g/\((∃e m xs d,ob k=.row e m xs d)->∀b∈g.O k++g.D k,¬g1.low b):=by
 cases hk:ob k with
 |gone=>exact ⟨g,by rw [show Yc Ob.gone=ob k from hk.symm,Ztq];exact hI,rfl,XJ.refl _,yG⟩
 |box t cs=>exact ⟨g,by rw [show Yc (Ob.box t cs)=ob k from hk.symm,Ztq];exact hI,rfl,XJ.refl _,yG⟩
 |map kk vk kv=>exact ⟨g,by rw [show Yc (Ob.map kk vk kv)=ob k from hk.symm,Ztq];exact hI,rfl,XJ.refl _,yG⟩
 |row e m xs d=>
  obtain ⟨hm,cs,L,o1,o2,o3,o5⟩:=hI.deep hk;let g1:Gh:=⟨g.val,upd g.O k [],upd g.D k [],g.Z⟩
  have hO:∀j b,b∈g1.O j->j≠k/\b∈g.O j:=fun j b mb=>by
   by_cases hj:j=k
   .subst hj;simp [g1,upd]at mb
   .exact ⟨hj,by simpa [g1,upd,hj]using mb⟩
  have hD:∀j b,b∈g1.D j->j≠k/\b∈g.D j:=fun j b mb=>by
   by_cases hj:j=k
   .subst hj;simp [g1,upd]at mb
   .exact ⟨hj,by simpa [g1,upd,hj]using mb⟩
  have l:∀j b,b∈g1.O j++g1.D j->j≠k/\b∈g.O j++g.D j:=fun j b mb=>by
   rcases A3.1 mb with m1|m1
   .exact ⟨(hO j b m1).1,by simp [(hO j b m1).2]⟩
   .exact ⟨(hD j b m1).1,by simp [(hD j b m1).2]⟩
  have a:∀b,g1.own b->g.own b:=fun b hb=>by
   rcases hb with ⟨j,mj⟩|hz
   .exact .inl ⟨j,(hO j b mj).2⟩
   .exact .inr hz
  have f:XJ g1 g:=.of a fun j b mb=>⟨j,(hD j b mb).2⟩
  have o:∀b∈(g.val k).ownBlock.toList,¬g1.own b:=fun b mb hb=>by
   rcases o5 with ⟨_,q,_⟩|⟨_,q,_⟩|⟨_,_,_,q⟩
   .have mk:b∈g.O k++g.D k:=by simp [q,mb]
    rcases hb with ⟨j,mj⟩|hz
    .exact hI.apart k j (fun e=>(hO j b mj).1 e.symm) b mk (by simp [(hO j b mj).2])
    .exact hI.nz mk hz
   .have mk:b∈g.O k++g.D k:=by simp [q,mb]
    rcases hb with ⟨j,mj⟩|hz
    .exact hI.apart k j (fun e=>(hO j b mj).1 e.symm) b mk (by simp [(hO j b mj).2])
    .exact hI.nz mk hz
   .exact q b mb (a b hb)
  refine ⟨g1,⟨hI.below,fun j=>?_,fun j=>?_,fun i j p b mb mj=>?_,fun j b mb=>?_,hI.gz,hI.zx,hI.nw⟩,rfl,f,fun _ b mb hb=>?_⟩
  rotate_right
  .rcases hb with (⟨j,mj⟩|hz)|⟨j,mj⟩
   .exact hI.apart k j (fun e=>(hO j b mj).1 e.symm) b mb (by simp [(hO j b mj).2])
   .exact hI.nz mb hz
   .exact hI.apart k j (fun e=>(hD j b mj).1 e.symm) b mb (by simp [(hD j b mj).2])
  .by_cases hj:j=k
   .subst hj;rw [ZF];refine ⟨hm,cs,L,o1,o2,.inr (.inr ⟨rfl,by simp [g1,upd],by simp [g1,upd],fun b mb=>?_⟩)⟩;rcases A3.1 mb with m1|m1
    .exact o b m1
    .exact fun hb=>o3 b m1 (a b hb)
   .rw [ZP _ _ hj];have ho:=hI.obs j;cases hoj:ob j with
    |gone=>rw [hoj]at ho;exact ⟨by simpa [g1,upd,hj]using ho.1,by simpa [g1,upd,hj]using ho.2⟩
    |box t ds=>
     rw [hoj]at ho;obtain ⟨b,vs,h1,h2,h3,h4,h5⟩:=ho;exact ⟨b,vs,h1,by simpa [g1,upd,hj]using h2,by simpa [g1,upd,hj]using h3,h4,h5.mono fun x u _ hx=>AVR.less hx rfl f⟩
    |map kk vk kv=>
     rw [hoj]at ho;obtain ⟨b,es,c,h1,h2,h3,h4⟩:=ho;exact ⟨b,es,c,h1,by simpa [g1,upd,hj]using h2,by simpa [g1,upd,hj]using h3,h4⟩
    |row e' m' xs' d'=>
     rw [hoj]at ho;obtain ⟨v,y,L',p1,p2,p3⟩:=ho;refine ⟨v,y,L',p1,p2,?_⟩;have e1:g1.O j=g.O j:=by simp [g1,upd,hj]
     have e2:g1.D j=g.D j:=by simp [g1,upd,hj]
     rw [e1,e2];rcases p3 with p3|⟨q1,q2,q3,q4⟩|⟨q1,q2,q3,q4⟩
     .exact .inl p3
     .exact .inr (.inl ⟨q1,q2,q3,fun b mb hb=>q4 b mb (a b hb)⟩)
     .exact .inr (.inr ⟨q1,q2,q3,fun b mb hb=>q4 b mb (a b hb)⟩)
  .by_cases hj:j=k
   .subst hj;simp [g1,upd]
   .have:=hI.nodup j;simpa [g1,upd,hj]using this
  .exact hI.apart i j p b (l i b mb).2 (l j b mj).2
  .rw [ZP _ _ (l j b mb).1];exact hI.plain j b (l j b mb).2
theorem Zwq [NW] {ob:Nat->Ob}(hI:HI W g ob w) {k t:Nat}{cs:List AV}(hk:ob k=.box t cs):∃g1:Gh,HI W g1 (upd ob k .gone) w/\g1.val=g.val/\XJ g1 g/\∃b vs,g.val k=.pointer (some ⟨b,0,none⟩)/\¬g1.own b/\b<w.heap.size/\Qh w b 0 vs/\ZM (AVR g w) cs vs:=by
 have ho:=hI.obs k;rw [hk]at ho;obtain ⟨b,vs,h1,h2,h3,h4,h5⟩:=ho;let g1:Gh:=⟨g.val,upd g.O k [],upd g.D k [],g.Z⟩
 have hO:∀j x,x∈g1.O j++g1.D j->j≠k/\x∈g.O j++g.D j:=fun j x mx=>by
  by_cases hj:j=k
  .subst hj;simp [g1,upd]at mx
  .exact ⟨hj,by simpa [g1,upd,hj]using mx⟩
 have a:∀x,g1.own x->g.own x/\x≠b:=fun x hx=>by
  rcases hx with ⟨j,mj⟩|hz
  .have:=hO j x (by simp [mj]);refine ⟨.inl ⟨j,?_⟩,fun e=>?_⟩
   .have hj:=this.1;simpa [g1,upd,hj]using mj
   .subst e;exact hI.apart j k this.1 x this.2 (by simp [h2])
  .exact ⟨.inr hz,fun e=>by subst e;exact hI.nz (k:=k) (by simp [h2]) hz⟩
 have d:XJ g1 g:=.of (fun x hx=>(a x hx).1) fun j b mb=>⟨j,by
  have hj:=(hO j b (by simp [mb])).1;simpa [g1,upd,hj]using mb⟩
 refine ⟨g1,⟨hI.below,fun j=>?_,fun j=>?_,fun i j f x mx mj=>?_,fun j x mx=>?_,hI.gz,hI.zx,hI.nw⟩,rfl,d,b,vs,h1,fun hb=>(a b hb).2 rfl,(AP.1 h4).1,fun j u hj=>?_,h5⟩
 .by_cases hj:j=k
  .subst hj;rw [ZF];exact ⟨by simp [g1,upd],by simp [g1,upd]⟩
  .rw [ZP _ _ hj];have ho:=hI.obs j;have e1:g1.O j=g.O j:=by simp [g1,upd,hj]
   have e2:g1.D j=g.D j:=by simp [g1,upd,hj]
   cases hoj:ob j with
   |gone=>rw [hoj]at ho;exact ⟨e1.trans ho.1,e2.trans ho.2⟩
   |box t ds=>
    rw [hoj]at ho;obtain ⟨b,vs,h1,h2,h3,h4,h5⟩:=ho;exact ⟨b,vs,h1,e1.trans h2,e2.trans h3,h4,h5.mono fun x u _ hx=>AVR.less hx rfl d⟩
   |map kk vk kv=>
    rw [hoj]at ho;obtain ⟨b,es,c,h1,h2,h3,h4⟩:=ho;exact ⟨b,es,c,h1,e1.trans h2,e2.trans h3,h4⟩
   |row e' m' xs' d'=>
    rw [hoj]at ho;obtain ⟨l,m,L',p1,p2,p3⟩:=ho;refine ⟨l,m,L',p1,p2,?_⟩;rw [e1,e2];rcases p3 with p3|⟨q1,q2,q3,q4⟩|⟨q1,q2,q3,q4⟩
    .exact .inl p3
    .exact .inr (.inl ⟨q1,q2,q3,fun b mb hb=>q4 b mb (a b hb).1⟩)
    .exact .inr (.inr ⟨q1,q2,q3,fun b mb hb=>q4 b mb (a b hb).1⟩)
 .by_cases hj:j=k
  .subst hj;simp [g1,upd]
  .have:=hI.nodup j;simpa [g1,upd,hj]using this
 .exact hI.apart i j f x (hO i x mx).2 (hO j x mj).2
 .rw [ZP _ _ (hO j x mx).1];exact hI.plain j x (hO j x mx).2
 .rw [AS,cell_of_row w b j vs.toArray t (0,0) h4];simpa using hj
theorem Zs5 [NW] {ob:Nat->Ob}(hI:HI W g ob w) {k e m:Nat}{xs:List (List CT)}(hk:ob k=.row e m xs 0):∃L,RC w (.sl e m xs) (g.val k) L/\∀b∈L,¬g.own b:=by
 obtain ⟨hm,cs,L1,o1,o2,o3,o5⟩:=hI.deep hk;obtain ⟨A,cap,L0,s1,s2,s3,s4,s5⟩:=Sl.row o1;refine ⟨L0++L1,⟨A,cap,cs,L0,L1,s1,s2,s3,rfl,hm,s4,o2⟩,fun b mb=>?_⟩;rcases A3.1 mb with m1|m1
 .rcases o5 with ⟨q,_⟩|⟨q,_⟩|⟨_,_,_,q⟩
  .omega
  .omega
  .exact q b (s5.subset m1)
 .exact o3 b m1
theorem REs.dropS {m:Nat}:∀{xs:List (List CT)}{cs:List Value}{L:List Nat}(l:Nat),REs w m xs cs L->∃L',REs w m (xs.drop l) (cs.drop (l*m)) L'/\L'.Sublist L
 |xs,cs,L,0,h=>⟨L,by simpa using h,AF _⟩
 | [],cs,L,l+1,h=>⟨[],by obtain ⟨rfl,rfl⟩:=h;simp [REs],AM _⟩
 |x::r,_,_,l+1,⟨c1,c2,L1,L2,rfl,rfl,h3,h4⟩=>by
  obtain ⟨L',h5,h6⟩:=REs.dropS l h4;refine ⟨L',?_,h6.trans (B8 _ _)⟩;have e:(l+1)*m=c1.length+l*m:=by rw [h3.2,A9];omega
  have e2:(c1++c2).drop (c1.length+l*m)=c2.drop (l*m):=by
   rw [AZ,Aa (Aj _ _),Ak,Ab]
  rw [e,e2];simpa using h5
theorem ZxT [NW] (htt:∀t i,tt t=some i->TOk P t i) (hI:HI W g st.ob w) (hU:StU U st) (c:¬U key) {t k e m d l:Nat}{xs:List (List CT)}(hk:st.ob k=.row e m xs d) (E:¬d=0) (a:Zky (tt t)=m) {lo:Option SV}{vx:Value}{vlo:Option Value}(hl:loB xs.length lo=some l) (hx:SVR g w (.p false [.row k]) vx)
  (F:Zne g w lo vlo) {s:Sem Next} (hs:s=(do pure (.value (<-Instr.sliceAt t vx vlo none none)))):Fin P W U key st g w s (.p false [.row key],[(k,.gone),(key,.row e m (xs.drop l) d)]):=by
 obtain ⟨hm,cs,L,o1,o2,o3,o4,o5⟩:=hI.deepO hk E;have hv:=Zgn hx;subst hv;obtain ⟨A,cap,hv,G,hcm⟩:=QP o1;obtain ⟨b1,b2,_⟩:=ZiY (P:=P) (w:=w) (g:=g) (b:=true) (len:=xs.length) (cap:=cap) (h:=xs.length) (hi:=none) (vhi:=none) rfl hl F trivial G;obtain ⟨e',b',z',H⟩:∃e' b' z',tt t=some (.slice e' m b' z'):=by
  unfold Zky at a;split at a
  .rename_i h1;subst a;exact ⟨_,_,_,h1⟩
  .omega
 obtain ⟨hu,_,_,⟨ie,zv,I,J,_⟩,_⟩:=htt t _ H;have hO:g.O k=(Value.slice A xs.length cap).ownBlock.toList:=by rw [o4,hv]
 have f:=o1;rw [hv]at f;obtain ⟨t1,t2⟩:=Zug (l:=l) f b2;generalize hw:(Value.slice (if cap=l then A else A.map (·.add (l*m))) (xs.length-l) (cap-l))=v' at t1 t2
 have u:s.run P w=.ok (.value v') w:=by
  subst hs;have:(Instr.sliceAt t (.slice A xs.length cap) vlo none none).run P w=.ok v' w:=by
   rw [<-hw];simp [Instr.sliceAt,YC hu,Instr.slice,b1,XX I,J]
  rw [hv];simp only[Sem.run_bind,this,Result.andThen_ok,Sem.run_pure]
 obtain ⟨M,r1,r2⟩:=o2.dropS l;have K:U k:=Classical.byContradiction fun hn=>by have:=hU.gone _ hn;rw [hk]at this;simp at this
 have x:∀b∈(if d=2 then M else []),b∈g.D k:=fun b mb=>by
  split at mb
  .rename_i hd;rcases o5 with ⟨_,q⟩|⟨q,_⟩
   .rw [q];exact r2.subset mb
   .omega
  .simp at mb
 have z:(xs.drop l).length=xs.length-l:=by simp
 obtain ⟨i1,i2⟩:=hI.turn (key:=key) (U:=U) (w':=w) (v:=v') (O:=v'.ownBlock.toList) (D:=if d=2 then M else []) (o:=.row e m (xs.drop l) d) hU.ob c [k]
  (fun j mj=>by simp at mj;subst mj;exact K) hI.below (AA _) (fun b hb hn=>rfl)
  (fun b mb=>.inl ⟨k,yG,by rw [hO,<-t2];exact mb⟩)
  (fun b mb=>.inl ⟨k,yG,A3.2 (.inr (x b mb))⟩)
  (by
   have hn:=hI.nodup k;refine hn.sublist (AG (by rw [hO,<-t2];exact AF _) ?_);split
   .rename_i hd;rcases o5 with ⟨_,q⟩|⟨q,_⟩
    .rw [q];exact r2
    .omega
   .exact AM _)
  (fun b mb=>by
   have B:b∈g.O k++g.D k:=by
    rcases A3.1 mb with mb|mb
    .exact A3.2 (.inl (by rw [hO,<-t2];exact mb))
    .exact A3.2 (.inr (x b mb))
   obtain ⟨p1,p2⟩:=hI.plain k b B;exact ⟨p1,p2.of (by rw [hk];rfl)⟩)
  (fun hown=>⟨hm,cs.drop (l*m),M,by simp only[Gh.turn,ZF];rw [z];exact t1,r1,by
   rcases o5 with ⟨q,_⟩|⟨q,_⟩
   .exact .inl ⟨q,by simp [Gh.turn,ZF],by simp [Gh.turn,q]⟩
   .refine .inr (.inl ⟨q,by simp [Gh.turn,ZF],by simp [Gh.turn,q],fun b mb ho=>?_⟩);rcases ZfA ho with mo|⟨j,_,_,mj⟩|hz
    .exact o3 b (r2.subset mb) (.inl ⟨k,by rw [hO,<-t2];exact mo⟩)
    .exact o3 b (r2.subset mb) (.inl ⟨j,mj⟩)
    .exact o3 b (r2.subset mb) (.inr hz)⟩)
 have C:=Zjx (key:=key) (o:=.row e m (xs.drop l) d) hU [k] trivial;refine ⟨_,v',w,.inl u,i1,⟨_,rfl,⟨by simp [Gh.turn,ZF],?_⟩⟩,i2,fun y my=>by simp at my;subst my;exact ZkS,C.1,C.2⟩;rw [<-hw];simp [Value.oneCell']
theorem Zvd [NW] (htt:∀t i,tt t=some i->TOk P t i) (hI:HI W g st.ob w) (hU:StU U st) (o:¬U key) {t:Nat}{x:SV}{r:SV×List (Nat×Ob)}{lo hi:Option SV}{vx:Value}{vlo vhi:Option Value}(h:Zaf st key (tt t) lo hi x=some r) (hx:SVR g w x vx)
  (a:Zne g w lo vlo) (b:Zne g w hi vhi) {s:Sem Next} (hs:s=(do pure (.value (<-Instr.sliceAt t vx vlo vhi none)))):Fin P W U key st g w s r:=by
 unfold Zaf at h;split at h
 .rename_i k;split at h
  rotate_left
  .simp at h
  split at h
  .rename_i e m xs d hk;split at h
   .rename_i u;split at h
    .rename_i f;obtain ⟨l,hl,rfl⟩:=A5.1 h;unfold mvS at f;split at f
     .have A:¬d=0:=fun e=>by subst e;simp at f
      cases vhi with
      |some _=>exact b.elim
      |none=>exact ZxT htt hI hU o hk A u hl hx a hs
     .simp at f
    obtain ⟨q,hq,h⟩:=A8.1 h;obtain ⟨l,hl,rfl⟩:=A5.1 h;obtain ⟨g1,i1,i2,i3,_⟩:=Zju hI k;rw [hk]at i1;obtain ⟨L,t1,t2⟩:=Zs5 i1 (ZF st.ob k (.row e m xs 0));have B:vx=g1.val k:=by rw [i2];exact Zgn hx
    have C:SVR g1 w (.p false [.c (.sl e m xs)]) vx:=⟨_,rfl,L,B ▸ t1,t2⟩
    have D:Zne g1 w lo vlo:=by
     cases lo<;>cases vlo<;>simp only[Zne]at a ⊢
     exact a.less i2 i3
    have E:Zne g1 w hi vhi:=by
     cases hi<;>cases vhi<;>simp only[Zne]at b ⊢
     exact b.less i2 i3
    obtain ⟨cv,c1,c2,c3⟩:=ZsS (t:=t) (U:=U) (g:=g1) (P:=P) (x:=.p false [.c (.sl e m xs)]) (v:=.p false [.c (.sl e m ((xs.take q).drop l))]) htt (by simp only[Zl8,u,if_true,hq,hl,A0,AY]) C D E;have F:U k:=Classical.byContradiction fun hn=>by have:=hU.gone _ hn;rw [hk]at this;simp at this
    refine ⟨g1,cv,w,.inl (by rw [hs];simp only[Sem.run_bind,c1,Result.andThen_ok,Sem.run_pure]),i1,c2,fun y v _ hy=>hy.less i2 i3,c3.mono fun _=>.inl,fun j=>?_,fun j hj=>?_⟩
    .show obU _ (upd st.ob k (.row e m xs 0) j)
     by_cases z:j=k
     .subst z;rw [ZF];trivial
     .rw [ZP _ _ z];exact (hU.ob j).mono fun _=>.inl
    .show upd st.ob k (.row e m xs 0) j=_
     rw [ZP _ _ (show j≠k from fun e=>hj (.inl (e ▸ F)))];exact hU.gone j fun h=>hj (.inl h)
   .simp at h
  .simp at h
 .obtain ⟨v,hv,rfl⟩:=A5.1 h;obtain ⟨cv,c1,c2,c3⟩:=ZsS (U:=U) htt hv hx a b;exact ZaW hI hU (by rw [hs];simp only[Sem.run_bind,c1,Result.andThen_ok,Sem.run_pure]) c2 c3
 .simp at h
end
end
section
open Go.RowKit Go.MapKept
theorem ZnH {kk:PK}{d:TypeDesc}{k:Value}(hd:Zd8 kk d=true) (hk:Zie kk k):IsKey d k:=by
 cases kk<;>cases d<;>simp [Zd8]at hd<;>cases k<;>simp_all [Zie,IsKey]
theorem Zuu {kk:PK}{a b:Value}(ha:Zie kk a) (hb:Zie kk b):vEq a b=true↔a=b:=by
 cases kk<;>cases a<;>simp [Zie]at ha<;>cases b<;>simp [Zie]at hb<;>simp_all [vEq,sEq]
theorem Zje [NW] {kk vk:PK}{d:TypeDesc}{k:Value}(hd:Zd8 kk d=true) (hk:Zie kk k):∀(l:List MapEntry) (i:Nat),Zjp kk vk (l.map fun e=>(e.key,e.val))->
  (Instr.findNow d k l i=some none/\ZlP (l.map fun e=>(e.key,e.val)) k=none/\∀v,ZfP (l.map fun e=>(e.key,e.val)) k v=(l.map fun e=>(e.key,e.val))++[(k,v)])\/
  ∃j e,Instr.findNow d k l i=some (some (i+j,e.val))/\l[j]?=some e/\e.key=k/\ZlP (l.map fun e=>(e.key,e.val)) k=some e.val/\Zie vk e.val/\∀v,ZfP (l.map fun e=>(e.key,e.val)) k v=(l.modify j fun e=>{e with key:=k,val:=v}).map fun e=>(e.key,e.val)
 | [],i,_=>.inl ⟨rfl,rfl,fun _=>rfl⟩
 |e::l,i,h=>by
  have he:=h (e.key,e.val) yG;obtain ⟨r,hr,b⟩:=sameNow_of_keys (ZnH hd hk) (ZnH hd he.1);cases r with
  |true=>
   have c:=b.1 rfl;have hv:vEq k e.key=true:=(Zuu hk he.1).2 c;exact .inr ⟨0,e,by simp [Instr.findNow,hr],rfl,c.symm,by simp [ZlP,hv],he.2,fun v=>by simp [ZfP,hv]⟩
  |false=>
   have a:¬vEq k e.key=true:=fun q=>by have:=b.2 ((Zuu hk he.1).1 q);cases this
   rcases Zje hd hk l (i+1) (fun p m=>h p (by simp only[At,AC];exact .inr m)) with ⟨h1,h2,h3⟩|⟨j,e',h1,h2,h3,h4,h5,h6⟩
   .exact .inl ⟨by simp [Instr.findNow,hr,h1],by simp [ZlP,a,h2],fun v=>by simp [ZfP,a,h3]⟩
   .exact .inr ⟨j+1,e',by simp [Instr.findNow,hr,h1];omega,by simpa using h2,h3,by simp [ZlP,a,h4],h5,fun v=>by simp [ZfP,a,h6]⟩
section
variable {P:Program} {W:ZaK} {U:Nat->Prop} {key:Nat} {st:St} {g:Gh} {w w':World} {a:Act} {tt:Nat->Option TI}
theorem ZB6 [NW] {vk:PK}{v:Value}(h:Zie vk v):AVR g w (avV v) v:=by
 cases vk<;>cases v<;>simp [Zie]at h<;>first|exact ⟨[],⟨rfl,rfl⟩,yG⟩|exact ⟨[],⟨rfl,rfl,h⟩,yG⟩
theorem ZFN (v:Value):avU U (avV v):=by cases v<;>trivial
theorem Zqa [NW] {kk:PK}{x:SV}{v k:Value}(h:Zvf kk x=some k) (hx:SVR g w x v):v=k/\Zie kk k:=by
 unfold Zvf at h;split at h
 .split at h<;>simp only[A4,reduceCtorEq]at h
  rename_i e;subst e h;exact ⟨ZbZ hx,rfl⟩
 .simp only[A4]at h;subst h;exact ⟨(Zjh hx).1,(Zjh hx).2⟩
 .simp only[A4]at h;subst h;exact ⟨Zgr hx,trivial⟩
 .simp at h
theorem Znt (htt:∀t i,tt t=some i->TOk P t i) {t:Nat}{kk vk:PK}(h:Ze3 kk vk (tt t)=true):TOk P t (.map kk vk):=by
 unfold Ze3 at h;split at h
 .rename_i a b c;simp only[AE,decide_eq_true_eq]at h;rw [h.1,h.2]at c;exact htt _ _ c
 .simp at h
theorem Zwg [NW] {vk:PK}{zv:Value}(h:ZaM (Zfc vk) zv=true):AVR g w (Zfc vk) zv/\avU U (Zfc vk):=by
 refine ⟨ZfU h,?_⟩;cases vk<;>trivial
theorem Zrk [NW] (htt:∀t i,tt t=some i->TOk P t i) {t:Nat}{kk vk:PK}{kv:List (Value×Value)}{i v:SV}{vi:Value}{ok:Bool}{b c:Nat}{es:Array MapEntry}(hm:Ze3 kk vk (tt t)=true) (h:Zr8 kk vk kv i ok=some v) (hi:SVR g w i vi) (hb:w.heap[b]?=some (.map es c)) (m:ZdP es=kv) (hok:Zjp kk vk kv):
  ∃cv,(Instr.lookup t (.map (some b)) vi ok).run P w=.ok cv w/\SVR g w v cv/\svU U v:=by
 obtain ⟨kt,et,dk,dv,inf,zv,h1,h2,h3,h4,h5,h6,h7,h8⟩:=Znt htt hm;unfold Zr8 at h;obtain ⟨k,hk,rfl⟩:=A5.1 h;obtain ⟨rfl,d⟩:=Zqa hk hi;subst m;have hz:=Zwg (g:=g) (w:=w) (U:=U) h8;have o:(zeroValue et).run P w=.ok zv w:=Zko h6 h7;have key:∃r:Option (Nat×Value),(Instr.findKey kt vi es.toList).run P w=.ok r w/\(match r with|some p=>ZlP (ZdP es) vi=some p.2/\Zie vk p.2|none=>ZlP (ZdP es) vi=none):=by
  rcases Zje h3 d es.toList 0 hok with ⟨f1,f2,_⟩|⟨j,e,f1,f2,f3,f4,f5,_⟩
  .exact ⟨none,run_findKey h2 f1,f2⟩
  .exact ⟨some _,run_findKey h2 f1,f4,f5⟩
 obtain ⟨r,hr,a⟩:=key;have f:(Instr.checkKey es.isEmpty 10000 kt vi).run P w=.ok () w:=run_checkKey (P:=P) (w:=w) h2 (ZnH h3 d) es.isEmpty 9999;have hg:(getObj b).run P w=.ok (.map es c) w:=by simp [getObj,Sem.run,hb]
 have l:∃rv rb,(Instr.lookup t (.map (some b)) vi ok).run P w=.ok (if ok then .tuple #[rv,.bool rb] else rv) w/\AVR g w (ZbO (ZdP es) vi (Zfc vk)) rv/\avU U (ZbO (ZdP es) vi (Zfc vk))/\Zfb (ZdP es) vi=rb:=by
  cases r with
  |none=>
   simp only at a;refine ⟨zv,false,?_,by simp only[ZbO,a];exact hz.1,by simp only[ZbO,a];exact hz.2,by simp [Zfb,a]⟩;unfold Instr.lookup;simp only[Sem.run_bind,YC h1,Result.andThen_ok,hg,Sem.run_pure,f,hr,o]
  |some p=>
   simp only at a;refine ⟨p.2,true,?_,by simp only[ZbO,a.1];exact ZB6 a.2,by simp only[ZbO,a.1];exact ZFN _,by simp [Zfb,a.1]⟩;unfold Instr.lookup;simp only[Sem.run_bind,YC h1,Result.andThen_ok,hg,Sem.run_pure,f,hr]
 obtain ⟨rv,rb,q1,q2,q3,q4⟩:=l;refine ⟨_,q1,?_,?_⟩
 .cases ok with
  |true=>exact ⟨[rv,.bool rb],rfl,⟨_,rfl,q2⟩,⟨_,rfl,[],⟨by rw [q4],rfl⟩,yG⟩,trivial⟩
  |false=>exact ⟨_,rfl,q2⟩
 .cases ok with
  |true=>
   intro y my;simp only[AC,List.not_mem_nil,or_false]at my;rcases my with rfl|rfl
   .intro z mz;simp at mz;subst mz;exact q3
   .intro z mz;simp at mz;subst mz;trivial
  |false=>intro z mz;simp at mz;subst mz;exact q3
theorem ZyR [NW] (htt:∀t i,tt t=some i->TOk P t i) (hI:HI W g st.ob w) {t:Nat}{x i v:SV}{vx vi:Value}{ok:Bool}(h:Zhf st (tt t) x i ok=some v) (hx:SVR g w x vx) (hi:SVR g w i vi):
  ∃cv,(Instr.lookup t vx vi ok).run P w=.ok cv w/\SVR g w v cv/\svU U v:=by
 unfold Zhf at h;split at h
 .rename_i k;split at h
  .rename_i kk vk kv hk;split at h
   .rename_i hm;have hv:=Zgn hx;have ho:=hI.obs k;rw [hk]at ho;obtain ⟨b,es,c,h1,_,_,h4,h5,h6⟩:=ho;rw [hv,h1];exact Zrk htt hm h hi h4 h5 h6
   .simp at h
  .simp at h
 .rename_i kk vk kv;split at h
  .rename_i hm;obtain ⟨y,hy,hx⟩:=hx;simp at hy;subst hy;obtain ⟨L,⟨b,es,c,rfl,h4,h5,h6,_⟩,_⟩:=hx;exact Zrk htt hm h hi h4 h5 h6
  .simp at h
 .simp at h
theorem ZEk [NW] (htt:∀t i,tt t=some i->TOk P t i) (hI:HI W g st.ob w) (hU:StU U st) (c:¬U key) {t:Nat}{r:SV×List (Nat×Ob)}(h:Zo7 key (tt t)=some r) {s:Sem Next}(hs:s=(do pure (.value (<-Instr.makeMap t none)))):Fin P W U key st g w s r:=by
 unfold Zo7 at h;split at h
 .rename_i kk vk hti;simp only[A4]at h;subst h;have d:s.run P w=.ok (.value (.map (some w.heap.size))) (w.alloc (.map #[] 0)):=by
   subst hs;have h0:(Instr.makeMap t none).run P w=.ok (.map (some w.heap.size)) (w.alloc (.map #[] 0)):=rfl;simp only[Sem.run_bind,h0,Result.andThen_ok,Sem.run_pure]
  have hb:Below w.heap.size w (w.alloc (.map #[] 0)):=(Below.refl _ _).alloc (AA _) _;have a:=heap_alloc_new w (.map #[] 0);obtain ⟨h1,h2⟩:=hI.turn (key:=key) (U:=U) (w':=w.alloc (.map #[] 0)) (v:=.map (some w.heap.size)) (O:=[w.heap.size]) (D:=[]) (o:=.map kk vk []) hU.ob c [] yG
   (hI.below.trans hb) hb.size (fun b f _=>hb.block b f) yG yG yG (fun b mb=>by
    simp at mb;subst mb;exact ⟨.inl hI.below.size,_,_,a⟩)
   (fun _=>⟨w.heap.size,#[],0,by simp [Gh.turn,upd],by simp [Gh.turn,upd],by simp [Gh.turn,upd],a,rfl,fun _ m=>by simp at m⟩)
  have e:=Zjx (key:=key) (o:=.map kk vk []) hU [] trivial;exact ⟨_,_,_,.inl d,h1,⟨_,rfl,⟨by simp [Gh.turn,upd],by simp [Value.oneCell']⟩⟩,h2,fun y my=>by simp at my;subst my;exact ZkS,e.1,e.2⟩
 .simp at h
theorem ZyT [NW] (htt:∀t i,tt t=some i->TOk P t i) {t:Nat}{kk vk:PK}{kv:List (Value×Value)}{k v:Value}{b c:Nat}{es:Array MapEntry}(hm:Ze3 kk vk (tt t)=true) (hk:Zie kk k) (hv:Zie vk v) (hb:w.heap[b]?=some (.map es c)) (u:ZdP es=kv) (hok:Zjp kk vk kv):
  ∃d c',(Instr.mapUpdate t (.map (some b)) k v).run P w=.ok () {w with heap:=w.heap.setIfInBounds b (.map d c')}/\ZdP d=ZfP kv k v/\Zjp kk vk (ZfP kv k v):=by
 obtain ⟨kt,et,dk,dv,inf,zv,h1,h2,h3,h4,h5,h6,h7,h8⟩:=Znt htt hm;subst u;have f:(Instr.checkKey false 10000 kt k).run P w=.ok () w:=run_checkKey (P:=P) (w:=w) h2 (ZnH h3 hk) false 9999;have hg:(getObj b).run P w=.ok (.map es c) w:=by simp [getObj,Sem.run,hb]
 have g:∀o,(setObj b o).run P w=.ok () {w with heap:=w.heap.setIfInBounds b o}:=fun o=>by simp [setObj,Sem.run,hb]
 have a:∀{kv:List (Value×Value)},Zjp kk vk kv->Zjp kk vk (ZfP kv k v):=fun {kv}=>by
  induction kv with
  |nil=>intro _ p m;simp [ZfP]at m;subst m;exact ⟨hk,hv⟩
  |cons q r ih=>
   intro h p m;simp only[ZfP]at m;split at m
   .rcases AC.1 m with rfl|m
    .exact ⟨hk,hv⟩
    .exact h p (by simp [m])
   .rcases AC.1 m with rfl|m
    .exact h p yG
    .exact ih (fun q mq=>h q (by simp [mq])) p m
 rcases Zje h3 hk es.toList 0 hok with ⟨f1,_,f2⟩|⟨j,e,f1,f2,f3,_,_,f4⟩
 .refine ⟨es.push {key:=k,val:=v,born:=c},c+1,?_,?_,a hok⟩
  .have hf:=run_findKey (P:=P) (w:=w) h2 f1;unfold Instr.mapUpdate;simp only[Sem.run_bind,YC h1,Result.andThen_ok,hg,f,hf,g]
  .rw [show ZfP (ZdP es) k v=_ from f2 v];simp [ZdP]
 .rw [AS]at f1;have hf:=run_findKey (P:=P) (w:=w) h2 f1;have hj:es[j]?=some e:=by simpa using f2
  have l:(Instr.keyThatStays k k).run P w=.ok k w:=run_keyThatStays (ZnH h3 hk);refine ⟨es.modify j fun e=>{e with key:=k,val:=v},c,?_,?_,a hok⟩
  .unfold Instr.mapUpdate;simp only[Sem.run_bind,YC h1,Result.andThen_ok,hg,f,hf,g,hj,AY,Option.getD_some,f3,l]
  .rw [show ZfP (ZdP es) k v=_ from f4 v];simp [ZdP]
theorem ZAG [NW] (htt:∀t i,tt t=some i->TOk P t i) (hI:HI W g st.ob w) (hU:StU U st) {t:Nat}{x i v:SV}{u:List (Nat×Ob)}{vx vi vv:Value}(h:ZvR st (tt t) x i v=some u) (hx:SVR g w x vx) (hi:SVR g w i vi) (hv:SVR g w v vv) {s:Sem Next}(hs:s=(do Instr.mapUpdate t vx vi vv;pure .skip)):Fin P W U key st g w s (.und,u):=by
 unfold ZvR at h;split at h
 .rename_i k;split at h
  .rename_i kk vk kv hk;split at h
   .rename_i hm;obtain ⟨a,ha,h⟩:=A8.1 h;obtain ⟨b',o,rfl⟩:=A5.1 h;obtain ⟨rfl,p⟩:=Zqa ha hi;obtain ⟨rfl,y⟩:=Zqa o hv;have z:=Zgn hx;have ho:=hI.obs k;rw [hk]at ho;obtain ⟨b,es,c,h1,h2,h3,h4,h5,h6⟩:=ho;obtain ⟨d,c',r1,r2,r3⟩:=ZyT (w:=w) htt hm p y h4 h5 h6;have f:s.run P w=.ok .skip {w with heap:=w.heap.setIfInBounds b (.map d c')}:=by
     rw [hs,z,h1];simp only[Sem.run_bind,r1,Result.andThen_ok,Sem.run_pure]
    obtain ⟨q1,q2⟩:=heap_set (o':=.map d c') h4;have hlt:b<w.heap.size:=(AP.1 h4).1;have j:({w with heap:=w.heap.setIfInBounds b (.map d c')}:World).heap.size=w.heap.size:=by simp
    have l:W.heap.size<=b\/W.x b:=(hI.plain k b (by simp [h2])).1;have A:U k:=Classical.byContradiction fun hn=>by have:=hU.gone _ hn;rw [hk]at this;simp at this
    have B:∀b',b'<w.heap.size->¬g.own b'->({w with heap:=w.heap.setIfInBounds b (.map d c')}:World).heap[b']?=w.heap[b']?:=fun b' _ hn=>q2 b' fun e=>hn (.inl ⟨k,by simp [h2,e]⟩);refine ⟨g,undef,_,.inr ⟨f,rfl⟩,?_,rfl,fun x u hx hu=>hu.move hx (fun _ _=>rfl) B (QU.refl _ _) (Nat.le_of_eq j.symm),trivial,fun q=>?_,fun q hq=>?_⟩
    .refine hI.step (U:=U) (fun q=>q=k) ?_ rfl (fun b' _ hn=>q2 b' fun e=>hn k rfl (by simp [h2,e])) (fun q hq=>⟨ZP _ _ hq,rfl,rfl,rfl⟩) hU.ob (fun _ _=>rfl) (QU.refl _ _) (fun q hq=>?_)
     .exact ⟨hI.below.os,hI.below.tape,hI.below.output,Ae hI.below.size (Nat.le_of_eq j.symm),fun q hq hx=>by
       show (w.heap.setIfInBounds b (.map d c'))[q]?=_
       rw [q2 q (fun e=>by subst e;rcases l with h|h;omega;exact hx h)];exact hI.below.block q hq hx⟩
     .subst hq;refine ⟨?_,hI.nodup q,fun b' m=>?_,hI.apart q⟩
      .simp only[Zn,ZF];exact ⟨b,d,c',h1,h2,h3,q1,r2,r3⟩
      .simp [h2,h3]at m;subst m;refine ⟨l,?_⟩;simp only[Zn,ZF];exact ⟨_,_,q1⟩
    .simp only[Zn,upd];split
     .trivial
     .exact (hU.ob q).mono fun _=>.inl
    .simp only[Zn,upd];split
     .rename_i e;subst e;exact absurd (.inl A) hq
     .exact hU.gone q fun h=>hq (.inl h)
   .simp at h
  .simp at h
 .simp at h
theorem ZuX [NW]:∀{cs:List AV}{l:List CT}{vs:List Value},ZjZ.zBox cs=some l->ZM (AVR g w) cs vs->∃L,RCs w l vs L/\∀b∈L,¬g.own b
 | [],l,[],h,_=>by simp [ZjZ.zBox]at h;subst h;exact ⟨[],⟨rfl,rfl⟩,yG⟩
 | [],_,_::_,_,h=>h.elim
 |_::_,_,[],_,h=>h.elim
 |x::r,l,v::vs,h,hr=>by
  cases x with
  |c x=>
   simp only[ZjZ.zBox]at h;obtain ⟨b,hb,rfl⟩:=A5.1 h;obtain ⟨L,h1,h2⟩:=ZuX hb hr.2;obtain ⟨L0,h3,h4⟩:=hr.1;refine ⟨L0++L,⟨v,vs,L0,L,rfl,rfl,h3,h1⟩,fun b mb=>?_⟩;rcases A3.1 mb with m|m
   .exact h4 b m
   .exact h2 b m
  |_=>simp [ZjZ.zBox]at h
theorem ZvY {x:SV}{r:CT×List (Nat×Ob)}(h:ZjZ st x=some r):(∀p∈r.2,p.2=Ob.gone/\∃t cs,st.ob p.1=.box t cs):=by
 unfold ZjZ at h;split at h
 .split at h
  .rename_i k _ t cs hk;obtain ⟨l,_,rfl⟩:=A5.1 h;intro p mp;simp at mp;subst mp;exact ⟨rfl,t,cs,hk⟩
  .simp at h
 .simp only[A4]at h;subst h;intro p mp;simp at mp
 .simp at h
theorem Zyw [NW] {ob:Nat->Ob}(hI:HI W g ob w) {x:SV}{r:CT×List (Nat×Ob)}{v:Value}(h:ZjZ st x=some r) (a:∀p∈r.2,ob p.1=st.ob p.1) (hx:SVR g w x v):
  ∃g1:Gh,HI W g1 (Zn ob r.2) w/\g1.val=g.val/\XJ g1 g/\∃L,RC w r.1 v L/\∀b∈L,¬g1.own b:=by
 unfold ZjZ at h;split at h
 .rename_i k;split at h
  .rename_i t cs hk;obtain ⟨l,hl,rfl⟩:=A5.1 h;have c:ob k=.box t cs:=(a (k,.gone) yG).trans hk;obtain ⟨g1,i1,i2,i3,b,vs,j1,j2,j3,j4,j5⟩:=Zwq hI c;obtain ⟨L,l1,l2⟩:=ZuX hl j5;obtain ⟨b',e1,rfl⟩:=hx;rw [j1]at e1;simp at e1;subst e1;refine ⟨g1,i1,i2,i3,b::L,⟨b,vs,L,rfl,j3,rfl,j4,l1⟩,fun x mx=>?_⟩;rcases AC.1 mx with rfl|mx
   .exact j2
   .exact fun hx=>l2 x mx (i3.own x hx)
  .simp at h
 .simp only[A4]at h;subst h;obtain ⟨y,hy,hx⟩:=hx;simp at hy;subst hy;obtain ⟨L,h1,h2⟩:=hx;exact ⟨g,hI,rfl,XJ.refl _,L,h1,h2⟩
 .simp at h
theorem Zsy [NW]:∀{xs:List SV}{ob:Nat->Ob}{g:Gh}{r:List CT×List (Nat×Ob)}{vs:List Value},HI W g ob w->ZeM st xs=some r->(r.2.map (·.1)).Nodup->(∀p∈r.2,ob p.1=st.ob p.1)->ZM (SVR g w) xs vs->
  ∃g1:Gh,HI W g1 (Zn ob r.2) w/\g1.val=g.val/\XJ g1 g/\∃L,RCs w r.1 vs L/\∀b∈L,¬g1.own b
 | [],ob,g,r,vs,hI,h,_,_,hr=>by
  simp [ZeM]at h;subst h;cases vs with
  |nil=>exact ⟨g,hI,rfl,XJ.refl _,[],⟨rfl,rfl⟩,yG⟩
  |cons _ _=>exact hr.elim
 |x::xs,ob,g,r,[],hI,h,_,_,hr=>hr.elim
 |x::xs,ob,g,r,v::vs,hI,h,hn,hob,hr=>by
  simp only[ZeM]at h;obtain ⟨a,ha,h⟩:=A8.1 h;obtain ⟨b,hb,rfl⟩:=A5.1 h;simp only[B5,AI]at hn;obtain ⟨n1,n2,n3⟩:=hn;obtain ⟨g1,i1,i2,i3,L1,l1,l2⟩:=Zyw hI ha (fun p m=>hob p (by simp [m])) hr.1;have c:∀p∈b.2,Zn ob a.2 p.1=st.ob p.1:=fun p mp=>by
   have d:∀q∈a.2,q.1≠p.1:=fun q mq=>n3 q.1 (Af.2 ⟨q,mq,rfl⟩) p.1 (Af.2 ⟨p,mp,rfl⟩);have:∀(u:List (Nat×Ob)) (ob:Nat->Ob),(∀q∈u,q.1≠p.1)->Zn ob u p.1=ob p.1:=by
    intro u;induction u with
    |nil=>intro ob _;rfl
    |cons q u ih=>intro ob h;rw [Zn,ih _ fun z mz=>h z (by simp [mz])];exact ZP _ _ fun e=>h q yG e.symm
   rw [this _ _ d];exact hob p (by simp [mp])
  have f:ZM (SVR g1 w) xs vs:=hr.2.mono fun x u _ hx=>hx.less i2 i3;obtain ⟨g2,k1,k2,k3,L2,m1,m2⟩:=Zsy i1 hb n2 c f;refine ⟨g2,?_,k2.trans i2,k3.trans i3,L1++L2,⟨v,vs,L1,L2,rfl,rfl,l1,m1⟩,fun x mx=>?_⟩
  .rw [Xa];exact k1
  .rcases A3.1 mx with m|m
   .exact fun hx=>l2 x m (k3.own x hx)
   .exact m2 x m
theorem Znl [NW]:∀{xs:List SV}{r:List CT×List (Nat×Ob)},ZeM st xs=some r->∀p∈r.2,p.2=Ob.gone/\∃t cs,st.ob p.1=.box t cs
 | [],r,h=>by simp [ZeM]at h;subst h;intro p m;simp at m
 |x::xs,r,h=>by
  simp only[ZeM]at h;obtain ⟨a,ha,h⟩:=A8.1 h;obtain ⟨b,hb,rfl⟩:=A5.1 h;intro p m;rcases A3.1 m with m|m
  .exact ZvY ha p m
  .exact Znl hb p m
theorem ZzL [NW] (hI:HI W g st.ob w) (hU:StU U st) {f:FuncId}{xs:List SV}{vs:List Value}{r:List CT×List (Nat×Ob)}(h:ZeM st xs=some r) (hn:(r.2.map (·.1)).Nodup) (hr:ZM (SVR g w) xs vs) {s:Sem Next}(hs:s.run P w=.ok (.value (.func (.func f) #[] vs.toArray)) w):Fin P W U key st g w s (.p false [.c (.fn f r.1)],r.2):=by
 obtain ⟨g1,i1,i2,i3,L,l1,l2⟩:=Zsy hI h hn (fun _ _=>rfl) hr;have hg:=Znl h;have a:∀(u:List (Nat×Ob)) (ob:Nat->Ob) (k:Nat),(∀p∈u,p.2=Ob.gone)->Zn ob u k=ob k\/Zn ob u k=.gone:=by
  intro u;induction u with
  |nil=>intro ob k _;exact .inl rfl
  |cons q u ih=>
   intro ob k h;rw [Zn];rcases ih (upd ob q.1 q.2) k (fun p m=>h p (by simp [m])) with e|e
   .rw [e];by_cases hk:k=q.1
    .right;rw [hk,ZF];exact h q yG
    .left;exact ZP _ _ hk
   .exact .inr e
 refine ⟨g1,_,w,.inl hs,i1,⟨_,rfl,L,⟨vs,rfl,l1⟩,l2⟩,fun x u _ hx=>hx.less i2 i3,XK _,fun k=>?_,fun k hk=>?_⟩
 .rcases a r.2 st.ob k (fun p m=>(hg p m).1) with e|e
  .rw [e];exact (hU.ob k).mono fun _=>.inl
  .rw [e];trivial
 .rcases a r.2 st.ob k (fun p m=>(hg p m).1) with e|e
  .rw [e];exact hU.gone k fun h=>hk (.inl h)
  .exact e
end
end
end
end Go.Proofs.YtlpkbfjcdaanmaaGreatDoor
