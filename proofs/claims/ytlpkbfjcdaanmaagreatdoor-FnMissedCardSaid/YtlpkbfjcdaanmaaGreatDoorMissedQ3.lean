/- A part of the proof; no conditions. -/
import Derived.Test.YtlpkbfjcdaanmaaGreatDoorMissedQ2
open Bool renaming and_eq_true→A3,true_and→A6,eq_iff_iff→A8,false_eq_true→AE,false_or→AW,false_and→Ar,or_eq_true→As,not_true→Au,not_not→B9,and_self→BE
open Int renaming le_trans→AK,toNat_natCast→AO,le_refl→AU,toNat→Ak,toNat_of_nonneg→Am,le_antisymm→BR
open List renaming mem_append→A4,mem_cons→A5,length_cons→A7,foldl_cons→A9,all_eq_true→AA,getElem?_eq_getElem→AC,range→AD,length_append→AF,mem_flatMap→AG,mem_of_getElem?→AH,foldl_append→AJ,mem_singleton→AM,getElem?_eq_some_iff→AN,flatMap_cons→AP,mem_filterMap→AR,pairwise_cons→AS,getElem?_eq_none→AT,mem_range→AX,length_singleton→AZ,countP_cons→Aa,length_map→Ab,eq_nil_of_length_eq_zero→Ac,countP_le_length→Ad,getElem?_append_left→Ae,mem_map→Af,countP_eq_zero→Ag,dropLast_concat_getLast→Aj,flatMap_append→Al,length_filter_le→Aq,length_filterMap_le→At,nil_append→Aw,mem_filter→Ay,ext_getElem?→Az,map_append→B3,getElem?_set→B4,eq_nil_iff_forall_not_mem→B5,replicate→B6,not_mem_nil→B7,not_any_eq_all_not→B8,length_nil→BB,take_length→BC,append_nil→BH,nodup_cons→BL,map_cons→BM,mergeSort_perm→BN,filterMap_cons→BO,filter_cons→BP,map_flatMap→BQ,length_range→BS,set_cons_succ→BT,set_set→BU
open List.Pairwise renaming nil→AI
open Nat renaming zero_add→AB,le_trans→AL,le_refl→AY,zero_le→Ax,mul_le_mul_left→BI,add_sub_cancel→BJ
open Option renaming bind_some→A0,map_eq_some_iff→Ah,bind_eq_some_iff→BG,isSome_some→BK
open Option.some renaming inj→AQ,injEq→BF
open Prod renaming fst→B2
set_option linter.unusedSimpArgs false
set_option linter.unusedVariables false
set_option maxRecDepth 1000000
set_option maxHeartbeats 4000000
namespace Go.Proofs.YtlpkbfjcdaanmaaGreatDoor
open Go.IntKind (i64)
noncomputable section
def Z9 (p:Zx):Bool:=XG p.rel&&decide (p.args.length<=3)&&p.args.all YJ
theorem ZbD (p:Zx):Xq p=some (Z9 p):=by
 unfold Xq Z9;rw [Z0 (p:=YJ) (r:=false)]
 .simp only[Zhp,A0];have:decide ((p.args.length:Int)<=3)=decide (p.args.length<=3):=by rw [A8];simp only[decide_eq_true_eq];omega
  rw [this];cases p.args.all YJ<;>cases XG p.rel<;>simp
 .intro i x _;rw [Zk6];cases YJ x<;>simp
theorem ZbE (p:Zx):Xp p=some (Z9 p):=by
 unfold Xp Z9;rw [Zg9,Z0 (p:=YJ) (r:=false)]
 .by_cases h:p.args.length<=3
  .have h':¬(3:Int)<(p.args.length:Int):=by omega
   cases p.args.all YJ<;>cases XG p.rel<;>simp [h,h']
  .have h':(3:Int)<(p.args.length:Int):=by omega
   cases XG p.rel<;>simp [h,h']
 .intro i x _;rw [ZkY];cases YJ x<;>simp
def Xm (p:Zx):Bool:=sEq p.rel ⟨#[]⟩&&decide (p.args.length=0)
theorem Zvc {α:Type}(l:List α):(((l.length:Int))==0)=decide (l.length=0):=by
 rw [A8,beq_iff_eq,decide_eq_true_eq];omega
theorem Zfv (p:Zx):Xt p=some (Xm p):=by
 unfold Xt Xm;rw [Zvc];cases sEq p.rel ⟨#[]⟩<;>simp
def Y1 (x:Zl):Bool:=
 if x.kind=1\/x.kind=2 then Z9 x.pattern&&sEq x.left ⟨#[]⟩&&sEq x.right ⟨#[]⟩
 else if x.kind=3\/x.kind=4\/x.kind=5 then Xm x.pattern&&YJ x.left&&YJ x.right
 else false
theorem ZeH (x:Zl):Zej x=some (Y1 x):=by
 unfold Zej Y1;simp only[ZbD,Zk6,A0,Xm,Zvc,beq_iff_eq];by_cases h1:x.kind=1
 .simp only[h1,if_true,true_or];cases Z9 x.pattern<;>cases sEq x.left ⟨#[]⟩<;>simp
 by_cases h2:x.kind=2
 .simp only[h2,if_true,or_true];cases Z9 x.pattern<;>cases sEq x.left ⟨#[]⟩<;>simp
 simp only[h1,h2,if_false,or_self];by_cases h3:x.kind=3
 .simp only[h3,if_true,true_or];cases sEq x.pattern.rel ⟨#[]⟩<;>cases decide (x.pattern.args.length=0)<;>cases YJ x.left<;>simp
 by_cases h4:x.kind=4
 .simp only[h4,if_true,true_or,or_true];cases sEq x.pattern.rel ⟨#[]⟩<;>cases decide (x.pattern.args.length=0)<;>cases YJ x.left<;>simp
 by_cases h5:x.kind=5
 .simp only[h5,if_true,or_true];cases sEq x.pattern.rel ⟨#[]⟩<;>cases decide (x.pattern.args.length=0)<;>cases YJ x.left<;>simp
 simp [h3,h4,h5]
theorem Zhy (x:Zl):Zeh x=some (Y1 x):=by
 unfold Zeh Y1;simp only[ZbE,ZkY,Zfv,A0,beq_iff_eq];by_cases h1:x.kind=1
 .simp only[h1,if_true,true_or];cases Z9 x.pattern<;>cases sEq x.left ⟨#[]⟩<;>simp
 by_cases h2:x.kind=2
 .simp only[h2,if_true,or_true];cases Z9 x.pattern<;>cases sEq x.left ⟨#[]⟩<;>simp
 simp only[h1,h2,if_false,or_self];by_cases h3:x.kind=3
 .simp only[h3,if_true,true_or];cases Xm x.pattern<;>cases YJ x.left<;>cases YJ x.right<;>simp
 by_cases h4:x.kind=4
 .simp only[h4,if_true,true_or,or_true];cases Xm x.pattern<;>cases YJ x.left<;>cases YJ x.right<;>simp
 by_cases h5:x.kind=5
 .simp only[h5,if_true,or_true];cases Xm x.pattern<;>cases YJ x.left<;>cases YJ x.right<;>simp
 simp [h3,h4,h5]
theorem Zqk {x:Zl}(h:Y1 x=true):x.kind=1\/x.kind=2\/x.kind=3\/x.kind=4\/x.kind=5:=by
 unfold Y1 at h;split at h
 .rename_i h1;omega
 .split at h
  .rename_i h1;omega
  .simp at h
theorem Zs4 (x:Zl):ZbV x=some (Y1 x&&decide (3<=x.kind)):=by
 unfold ZbV;rw [ZeH];cases Y1 x<;>simp
def XP (a:Zu):Bool:=
 if a.kind=1\/a.kind=2 then Z9 a.pattern else if a.kind=3 then Xm a.pattern else false
theorem Zon (a:Zu):Zer a=some (XP a):=by
 unfold Zer XP;simp only[ZbD,A0,Xm,Zvc,beq_iff_eq];by_cases h1:a.kind=1
 .simp [h1]
 by_cases h2:a.kind=2
 .simp [h2]
 by_cases h3:a.kind=3
 .simp only[h3,if_true];cases sEq a.pattern.rel ⟨#[]⟩<;>simp
 simp [h1,h2,h3]
theorem Zoz (a:Zu):ZeA a=some (XP a):=by
 unfold ZeA XP;simp only[ZbE,Zfv,A0,beq_iff_eq];by_cases h1:a.kind=1
 .simp [h1]
 by_cases h2:a.kind=2
 .simp [h2]
 by_cases h3:a.kind=3
 .simp [h3]
 simp [h1,h2,h3]
def Xk (l:List ByteArray):List ByteArray:=l.filter Yr
theorem ZdE (l:List ByteArray):(Xk l).length<=l.length:=Aq _ _
theorem Zcf {x:ByteArray}{l:List ByteArray}:x∈Xk l↔x∈l/\Yr x=true:=by simp [Xk]
theorem Zel (l:List ByteArray) (h:l.length<=1073741824):Zai l=some (Xk l):=by
 unfold Zai;rw [Ze1 (p:=Yr)]
 .simp [Xk]
 .intro j x s _ hs;rw [ZdO,A0];split
  .rw [Zj _ (by simp at hs;omega)]
  .rfl
theorem Zle {p:ByteArray->Bool}:∀(l a:List ByteArray),l.foldl (fun s x=>if p x=true then QO s x else s) a=(l.filter p).foldl QO a
 | [],_=>rfl
 |x::l,a=>by
  rw [A9,Zle l];by_cases h:p x=true<;>simp [h]
theorem ZcT (p:Zx) (h:p.args.length<=1073741823):Zb5 p=some (ZV (Xk p.args)):=by
 unfold Zb5;rw [Y9 (f:=fun s x=>if Yr x=true then QO s x else s) (fun j s=>s.length<=j) yG]
 .rw [Zle];rfl
 .intro j x s _ _ hl hI;simp at hl;have:=Zen x s;rw [Zaj,A0];split
  .rw [QM _ _ yE];exact ⟨rfl,yE⟩
  .exact ⟨rfl,yE⟩
def ZgL (x:Zl):List ByteArray:=x.pattern.args++[x.left,x.right]
def Y5 (x:Zl):List ByteArray:=ZV (Xk (ZgL x))
theorem ZcE (x:Zl) (h:x.pattern.args.length<=1073741822):QI x=some (Y5 x):=by
 unfold QI ZhS;rw [Zg2 _ yE,A0,Zj _ yE,A0,Zel _ (by simp;omega),A0];have:=ZdE (x.pattern.args++[x.left,x.right]);simp at this;rw [Qi _ yE];rfl
theorem Zcz (x:Zl) (h:x.pattern.args.length<=1073741820):X3 x=some (Y5 x):=by
 unfold X3;have h1:=Ze0 (Xk x.pattern.args);have h2:=ZdE x.pattern.args;have h3:=Zen x.left (ZV (Xk x.pattern.args));have key:∀l:List ByteArray,(∀y,y∈l↔y∈Xk (ZgL x))->Asc l->l=Y5 x:=fun l hm ha=>Zgd ha hm;rw [ZcT _ yE,A0,Zaj,A0,Zaj];simp only[A0];rw [QM _ _ yE,A0,QM (QO _ _) _ yE,A0,QM _ x.right yE,A0];cases hl:Yr x.left<;>cases hr:Yr x.right<;>simp only[if_true,AE,if_false]<;>congr 1<;>apply key<;>(try intro y)<;>(try simp only[Zkd,ZX,Zcf,ZgL,A4,A5,B7,or_false])
 all_goals first
  |exact Zda _
  |exact Zhx (Zda _)
  |exact Zhx (Zhx (Zda _))
  |skip
 .constructor
  .rintro ⟨a,b⟩;exact ⟨.inl a,b⟩
  .rintro ⟨a|rfl|rfl,b⟩
   .exact ⟨a,b⟩
   .rw [hl]at b;simp at b
   .rw [hr]at b;simp at b
 .constructor
  .rintro (rfl|⟨a,b⟩)
   .exact ⟨yG,hr⟩
   .exact ⟨.inl a,b⟩
  .rintro ⟨a|rfl|rfl,b⟩
   .exact .inr ⟨a,b⟩
   .rw [hl]at b;simp at b
   .exact .inl rfl
 .constructor
  .rintro (rfl|⟨a,b⟩)
   .exact ⟨yG,hl⟩
   .exact ⟨.inl a,b⟩
  .rintro ⟨a|rfl|rfl,b⟩
   .exact .inr ⟨a,b⟩
   .exact .inl rfl
   .rw [hr]at b;simp at b
 .constructor
  .rintro (rfl|rfl|⟨a,b⟩)
   .exact ⟨yG,hr⟩
   .exact ⟨yG,hl⟩
   .exact ⟨.inl a,b⟩
  .rintro ⟨a|rfl|rfl,b⟩
   .exact .inr (.inr ⟨a,b⟩)
   .exact .inr (.inl rfl)
   .exact .inl rfl
theorem ZhX (x:Zl):(Y5 x).length<=x.pattern.args.length+2:=by
 have h1:=Ze0 (Xk (ZgL x));have h2:=ZdE (ZgL x);have h3:(ZgL x).length=x.pattern.args.length+2:=by simp [ZgL]
 unfold Y5;omega
theorem Zvk {x:Zl}{v:ByteArray}(h:v∈Y5 x):Yr v=true:=(Zcf.1 (ZX.1 h)).2
structure ZaL (r:Zg):Prop where
 cl:r.cond.length<=1048576
 tl:r.thn.length<=1048576
 ca:∀x∈r.cond,x.pattern.args.length<=1048576
 ta:∀a∈r.thn,a.pattern.args.length<=1048576
def Y2 (l:List Zl):List ByteArray:=l.flatMap fun x=>if x.kind=1 then Xk x.pattern.args else []
def YY (r:Zg) (n:Nat):List ByteArray:=ZV (Y2 (r.cond.take n))
theorem Zet (r:Zg) (n:Int) (h:ZaL r) (h4:r.cond.length<=4):Zac r n=some (YY r n.toNat):=by
 unfold Zac YY;refine (ZaV (fun l i (row:List ByteArray)=>some (ZV (row++Y2 (l.take (n.toNat-i))))) (fun l i row=>r.cond.drop i=l/\row.length<=1048576*i/\i<=r.cond.length) ?_ ?_ r.cond 0 [] ⟨yG,yG,yG⟩).trans yG
 .rintro i row ⟨h1,h2,h3⟩;rw [Qi _ yE];simp [Y2]
 .rintro x l i row ⟨h1,h2,h3⟩;left
  have hi:r.cond[i]?=some x:=by have:=congrArg (fun l=>l[0]?) h1;simpa using this
  have hlt:i<r.cond.length:=(AN.1 hi).1;have hr:r.cond.drop (i+1)=l:=by have:=congrArg List.tail h1;simpa using this
  have hx:=h.ca x (AH hi);have hv:=ZdE x.pattern.args;by_cases hn:(i:Int)<n
  .have e:n.toNat-i=(n.toNat-(i+1))+1:=by omega
   by_cases hk:x.kind=1
   .refine ⟨row++Xk x.pattern.args,?_,⟨hr,by simp;omega,yE⟩,?_⟩
    .simp only[hn,hk,decide_true,beq_self_eq_true,if_true];rw [Zel _ yE,A0,Zj _ yE]
    .rw [e];simp [Y2,hk]
   .refine ⟨row,?_,⟨hr,yE,yE⟩,?_⟩
    .simp [hn,hk]
    .rw [e];simp [Y2,hk]
  .have e:n.toNat-i=0:=by omega
   have e':n.toNat-(i+1)=0:=by omega
   refine ⟨row,?_,⟨hr,yE,yE⟩,?_⟩
   .simp [hn]
   .rw [e,e'];simp
theorem Zek (r:Zg) (n:Int) (h:ZaL r) (h4:r.cond.length<=4):QH r n=some (YY r n.toNat):=by
 unfold QH YY;refine (ZaV (fun l i (row:List ByteArray)=>some ((Y2 (l.take (n.toNat-i))).foldl QO row)) (fun l i row=>r.cond.drop i=l/\row.length<=1048576*i/\i<=r.cond.length/\Asc row) ?_ ?_ r.cond 0 [] ⟨yG,yG,yG,AI⟩).trans (by simp [ZV])
 .rintro i row ⟨h1,h2,h3,h5⟩;simp [Y2]
 .rintro x l i row ⟨h1,h2,h3,h5⟩;have hi:r.cond[i]?=some x:=by have:=congrArg (fun l=>l[0]?) h1;simpa using this
  have hlt:i<r.cond.length:=(AN.1 hi).1;have hr:r.cond.drop (i+1)=l:=by have:=congrArg List.tail h1;simpa using this
  have hx:=h.ca x (AH hi);have hv:=ZdE x.pattern.args;have hs:=Ze0 (Xk x.pattern.args);by_cases hn:(i:Int)<n
  .left
   have e:n.toNat-i=(n.toNat-(i+1))+1:=by omega
   by_cases hk:x.kind=1
   .obtain ⟨f1,f2,f3⟩:=Qc (ZV (Xk x.pattern.args)) row h5;refine ⟨(ZV (Xk x.pattern.args)).foldl QO row,?_,⟨hr,yE,yE,f1⟩,?_⟩
    .simp only[hn,hk,decide_true,beq_self_eq_true,if_true];rw [ZcT _ yE,A0,Zm0 (fun _ _ _=>rfl) yE]
    .rw [e];simp only[Y2,List.take_succ_cons,AP,hk,if_true,AJ];congr 2
     obtain ⟨g1,g2,_⟩:=Qc (Xk x.pattern.args) row h5;exact Zqn g1 f1 fun y=>by rw [g2,f2,ZX]
   .refine ⟨row,?_,⟨hr,yE,yE,h5⟩,?_⟩
    .simp [hn,hk]
    .rw [e];simp [Y2,hk]
  .right
   have e:n.toNat-i=0:=by omega
   refine ⟨row,by simp [hn],by rw [e];simp [Y2]⟩
def Znv (r:Zg) (i:Int) (v:ByteArray):Bool:=!(Q5 (fun k x=>!(decide ((k:Int)≠i)&&YM (Y5 x) v)) r.cond 0&&r.thn.all fun a=>!YM a.pattern.args v)
theorem Zhu {r:Zg}{i:Int}{v:ByteArray}{f:Zl->Option (List ByteArray)}{g:List ByteArray->ByteArray->Option Bool}(hf:∀x∈r.cond,f x=some (Y5 x)) (hg:∀l,g l v=some (YM l v)) {fin:Unit->Option Bool}(c:fin ()=some (!(r.thn.all fun a=>!YM a.pattern.args v))):
  forL (σ:=Unit) (fun (k:Nat) (x:Zl) _=>if ((k:Int) != i)=true then (f x).bind fun l=>(g l v).bind fun b=>if b=true then some (.inr true) else some (.inl ()) else some (.inl ())) fin r.cond 0 ()=some (Znv r i v):=by
 rw [Xu (p:=fun k x=>!(decide ((k:Int)≠i)&&YM (Y5 x) v)) (r:=true)]
 .unfold Znv;cases Q5 (fun k x=>!(decide ((k:Int)≠i)&&YM (Y5 x) v)) r.cond 0 with
  |true=>simp only[if_true,c,A6]
  |false=>simp
 .intro j x hj;rw [hf x (AH hj),A0,hg,A0,AB];by_cases h:(j:Int)=i
  .simp [h]
  .have:((j:Int) != i)=true:=by simpa using h
   simp only[this,if_true];cases YM (Y5 x) v<;>simp [h]
theorem ZgX (r:Zg) (i:Int) (v:ByteArray) (h:ZaL r):XT r i v=some (Znv r i v):=by
 unfold XT;refine Zhu (f:=QI) (g:=Xv) (fun x mx=>ZcE x (by have:=h.ca x mx;omega)) (fun l=>Zay l v) ?_;rw [ZcX (p:=fun a=>YM a.pattern.args v) (r:=true)]
 .simp only[<-B8,B9];cases r.thn.any fun a=>YM a.pattern.args v<;>rfl
 .intro j a _;rw [Zay];cases YM a.pattern.args v<;>simp
theorem ZkP (r:Zg) (i:Int) (v:ByteArray) (h:ZaL r) (hv:Yr v=true):X5 r i v=some (Znv r i v):=by
 unfold X5;refine Zhu (f:=X3) (g:=ZW) (fun x mx=>Zcz x (by have:=h.ca x mx;omega)) (fun l=>Xc l v) ?_;rw [ZcX (p:=fun a=>YM a.pattern.args v) (r:=true)]
 .simp only[<-B8,B9];cases r.thn.any fun a=>YM a.pattern.args v<;>rfl
 .intro j a ma;rw [ZcT _ (by have:=h.ta a ma;omega),A0,Xc,A0];have:YM (ZV (Xk a.pattern.args)) v=YM a.pattern.args v:=by
   rw [A8,Qo,Qo,ZX,Zcf];simp [hv]
  rw [this];cases YM a.pattern.args v<;>simp
def Zmu (r:Zg) (i:Nat) (x:Zl) (v:ByteArray):Bool:=decide (x.kind=1)||YM (YY r i) v||(decide (x.kind=2)&&!Znv r i v)
def ZfG (r:Zg) (i:Nat) (x:Zl):Bool:=(Y5 x).all (Zmu r i x)
theorem Zn0 (r:Zg) (i:Nat) (x:Zl) (h:ZaL r) (h4:r.cond.length<=4) (hx:r.cond[i]?=some x):Zcd r i=some (ZfG r i x):=by
 unfold Zcd ZfG;have ha:atI r.cond (i:Int)=some x:=by unfold atI;rw [if_pos yE,AO];exact hx
 rw [ha,A0,Zet r _ h h4,A0,ZcE x (by have:=h.ca x (AH hx);omega),A0,AO];rw [Z0 (p:=Zmu r i x) (r:=false)]
 .cases (Y5 x).all (Zmu r i x)<;>rfl
 .intro j v mv;rw [Zay,ZgX r _ v h];simp only[A0,Zmu,beq_iff_eq,bne_iff_ne,ne_eq];by_cases h1:x.kind=1
  .simp [h1]
  .simp only[h1,if_false,decide_false,AW];cases YM (YY r i) v with
   |true=>simp
   |false=>
    by_cases h2:x.kind=2
    .simp only[h2,not_true_eq_false,if_false,AE,decide_true,A6,AW];cases Znv r i v<;>simp
    .simp [h2]
def YP (r:Zg):Bool:=
 XG r.name&&decide (0<=r.priority)&&decide (r.priority<=9)&&decide (1<=r.cond.length)&&decide (r.cond.length<=4)&&decide (1<=r.thn.length)&&decide (r.thn.length<=2)
  && Q5 (fun i x=>Y1 x&&(decide (i≠0)||decide (x.kind=1))&&ZfG r i x) r.cond 0
  && r.thn.all (fun a=>XP a&&(Xk a.pattern.args).all (YM (YY r r.cond.length)))
  && decide ((ZV (r.cond.flatMap Y5)).length<=6)
theorem ZlQ (l:List Zl) (h:∀x∈l,x.pattern.args.length<=1048576) (h4:l.length<=4):ZbK l=some (l.flatMap Y5):=by
 unfold ZbK;rw [Y9 (f:=fun s x=>s++Y5 x) (fun j s=>s.length<=1048578*j) yG]
 .congr 1
  have:∀(l:List Zl) (a:List ByteArray),l.foldl (fun s x=>s++Y5 x) a=a++l.flatMap Y5:=by
   intro l;induction l with
   |nil=>simp
   |cons x l ih=>intro a;rw [A9,ih];simp
  simpa using this l []
 .intro j x s mx _ hl hI;have:=h x mx;have:=ZhX x;rw [ZcE x yE,A0,Zj _ yE];exact ⟨rfl,by simp;omega⟩
theorem ZhC (r:Zg) (h:ZaL r):Zex r=some (YP r):=by
 unfold Zex YP;rw [Zg9,A0];cases XG r.name with
 |false=>simp
 |true=>
 simp only[if_true,decide_eq_true_eq,A6];split
 .rw [decide_eq_false (show ¬0<=r.priority by omega)];simp
 split
 .rw [decide_eq_false (show ¬r.priority<=9 by omega)];simp
 split
 .rw [decide_eq_false (show ¬1<=r.cond.length by omega)];simp
 split
 .rw [decide_eq_false (show ¬r.cond.length<=4 by omega)];simp
 split
 .rw [decide_eq_false (show ¬1<=r.thn.length by omega)];simp
 split
 .rw [decide_eq_false (show ¬r.thn.length<=2 by omega)];simp
 rw [decide_eq_true (show 0<=r.priority by omega),decide_eq_true (show r.priority<=9 by omega),decide_eq_true (show 1<=r.cond.length by omega),decide_eq_true (show r.cond.length<=4 by omega),decide_eq_true (show 1<=r.thn.length by omega),decide_eq_true (show r.thn.length<=2 by omega)];simp only[A6];have h4:r.cond.length<=4:=by omega
 rw [Xu (p:=fun i x=>Y1 x&&(decide (i≠0)||decide (x.kind=1))&&ZfG r i x) (r:=false)]
 .cases Q5 (fun i x=>Y1 x&&(decide (i≠0)||decide (x.kind=1))&&ZfG r i x) r.cond 0 with
  |false=>simp
  |true=>
   simp only[if_true,A6];rw [Zet r _ h h4,A0,AO,Z0 (p:=fun a=>XP a&&(Xk a.pattern.args).all (YM (YY r r.cond.length))) (r:=false)]
   .cases r.thn.all fun a=>XP a&&(Xk a.pattern.args).all (YM (YY r r.cond.length)) with
    |false=>simp
    |true=>
     have hl:(r.cond.flatMap Y5).length<=1048578*r.cond.length:=by
      have:∀l:List Zl,(∀x∈l,x.pattern.args.length<=1048576)->(l.flatMap Y5).length<=1048578*l.length:=by
       intro l;induction l with
       |nil=>simp
       |cons x l ih=>
        intro hl;have h1:=ih fun y my=>hl y (by simp [my]);have h2:=hl x yG;have h3:=ZhX x;simp only[AP,AF,A7];omega
      exact this r.cond h.ca
     simp only[if_true,A6];rw [ZlQ _ h.ca h4,A0,Qi _ yE,A0];congr 1
     rw [A8];simp only[decide_eq_true_eq];omega
   .intro j a ma;rw [Zoz,A0];cases XP a with
    |false=>simp
    |true=>
     simp only[if_true,A6];rw [Zel _ (by have:=h.ta a ma;omega),A0,Z0 (p:=YM (YY r r.cond.length)) (r:=.inr false)]
     .cases (Xk a.pattern.args).all (YM (YY r r.cond.length))<;>rfl
     .intro k v _;rw [Zay,A0];cases YM (YY r r.cond.length) v<;>simp
 .intro j x hj;rw [AB,Zhy,A0,Zn0 r j x h h4 hj];simp only[A0];cases Y1 x with
  |false=>simp
  |true=>
   by_cases h0:j=0
   .subst h0;by_cases hk:x.kind=1
    .simp only[hk];cases ZfG r 0 x<;>simp
    .simp [hk]
   .have:((j:Int)==0)=false:=by rw [beq_eq_false_iff_ne];omega
    simp only[this];cases ZfG r j x<;>simp [h0]
theorem Zf0 {α:Type}(f:α->List ByteArray):∀(l:List α) (a:List ByteArray),Asc a->l.foldl (fun s x=>(f x).foldl QO s) a=(l.flatMap f).foldl QO a
 | [],_,_=>rfl
 |x::l,a,h=>by rw [A9,Zf0 f l _ (Qc (f x) a h).1,AP,AJ]
def Znm (r:Zg):List ByteArray:=ZV (r.cond.flatMap Y5++r.thn.flatMap fun a=>Xk a.pattern.args)
theorem Zn2 (r:Zg) (h:ZaL r) (h4:r.cond.length<=4) (h2:r.thn.length<=2):Zed r=some (Znm r):=by
 unfold Zed Znm;rw [Y9 (f:=fun s x=>(Y5 x).foldl QO s) (fun j s=>s.length<=1048578*j/\Asc s) ⟨yG,AI⟩]
 .have hA:=Zf0 Y5 r.cond [] AI;have hB:Asc (r.cond.foldl (fun s x=>(Y5 x).foldl QO s) []):=by rw [hA];exact (Qc _ [] AI).1
  have hl:(r.cond.foldl (fun s x=>(Y5 x).foldl QO s) []).length<=1048578*4:=by
   rw [hA];have:=(Qc (r.cond.flatMap Y5) [] AI).2.2;have h3:(r.cond.flatMap Y5).length<=1048578*r.cond.length:=by
    have:∀l:List Zl,(∀x∈l,x.pattern.args.length<=1048576)->(l.flatMap Y5).length<=1048578*l.length:=by
     intro l;induction l with
     |nil=>simp
     |cons x l ih=>
      intro hl;have h1:=ih fun y my=>hl y (by simp [my]);have h2:=hl x yG;have h3:=ZhX x;simp only[AP,AF,A7];omega
    exact this r.cond h.ca
   simp only[BB,Nat.add_zero]at this;omega
  rw [Y9 (f:=fun s a=>(ZV (Xk a.pattern.args)).foldl QO s) (fun j s=>s.length<=1048578*4+1048576*j/\Asc s) ⟨yE,hB⟩]
  .congr 1
   rw [Zf0 (fun a:Zu=>ZV (Xk a.pattern.args)) r.thn _ hB,hA];refine Zgd (Qc _ _ (Qc _ [] AI).1).1 fun y=>?_;rw [(Qc _ _ (Qc _ [] AI).1).2.1 y,(Qc _ [] AI).2.1 y];simp only[A4,AG,ZX,B7,or_false];exact Or.comm
  .intro j a s ma _ hj hI;have h5:=h.ta a ma;have h6:=ZdE a.pattern.args;have h7:=Ze0 (Xk a.pattern.args);obtain ⟨f1,f2,f3⟩:=Qc (ZV (Xk a.pattern.args)) s hI.2;rw [ZcT _ yE,A0,Zm0 (fun _ _ _=>rfl) yE];exact ⟨rfl,yE,f1⟩
 .intro j x s mx _ hj hI;have h5:=h.ca x mx;have h6:=ZhX x;obtain ⟨f1,f2,f3⟩:=Qc (Y5 x) s hI.2;rw [Zcz _ yE,A0,Zm0 (fun _ _ _=>rfl) yE];exact ⟨rfl,yE,f1⟩
theorem Zsk {l:List Zl}{y:ByteArray}(h:y∈Y2 l):y∈l.flatMap Y5:=by
 simp only[Y2,AG]at h ⊢;obtain ⟨x,hx,hy⟩:=h;refine ⟨x,hx,?_⟩;split at hy
 .rw [Y5,ZX,Zcf];rw [Zcf]at hy;exact ⟨by simp [ZgL,hy.1],hy.2⟩
 .simp at hy
theorem ZeJ (r:Zg) (h:ZaL r):ZcZ r=some (YP r):=by
 unfold ZcZ YP;rw [Zhp,A0];cases XG r.name with
 |false=>simp
 |true=>
 simp only[if_true,Zh0,A0,A6,A3,decide_eq_true_eq];split
 rotate_left
 .rename_i hh;have:(decide (0<=r.priority)&&decide (r.priority<=9))=false:=by simp;omega
  rw [this];simp
 rename_i hp;rw [decide_eq_true hp.1,decide_eq_true hp.2];split
 rotate_left
 .rename_i hh;have:(decide (1<=r.cond.length)&&decide (r.cond.length<=4))=false:=by simp;omega
  simp only[A6,this,Ar]
 rename_i hc;rw [decide_eq_true (show 1<=r.cond.length by omega),decide_eq_true (show r.cond.length<=4 by omega)];split
 rotate_left
 .rename_i hh;have:(decide (1<=r.thn.length)&&decide (r.thn.length<=2))=false:=by simp;omega
  simp only[A6,this,Ar]
 rename_i ht;rw [decide_eq_true (show 1<=r.thn.length by omega),decide_eq_true (show r.thn.length<=2 by omega)];simp only[A6];have h4:r.cond.length<=4:=by omega
 rw [Zek r _ h h4,A0,AO];rw [Xu (p:=fun i x=>Y1 x&&(decide (i≠0)||decide (x.kind=1))&&ZfG r i x) (r:=false)]
 .cases Q5 (fun i x=>Y1 x&&(decide (i≠0)||decide (x.kind=1))&&ZfG r i x) r.cond 0 with
  |false=>simp
  |true=>
   simp only[if_true,A6];rw [Z0 (p:=fun a=>XP a&&(Xk a.pattern.args).all (YM (YY r r.cond.length))) (r:=false)]
   .cases ha:r.thn.all fun a=>XP a&&(Xk a.pattern.args).all (YM (YY r r.cond.length)) with
    |false=>simp
    |true=>
     simp only[if_true,A6];rw [Zn2 r h h4 yE,A0];have e:Znm r=ZV (r.cond.flatMap Y5):=Zow fun y=>by
      simp only[A4];refine ⟨fun hy=>?_,.inl⟩;rcases hy with hy|hy
      .exact hy
      .obtain ⟨a,ma,hy⟩:=AG.1 hy;have:=AA.1 ha a ma;simp only[A3]at this;have:=AA.1 this.2 y hy;rw [Qo,YY,ZX,BC]at this;exact Zsk this
     rw [e];congr 1
     rw [A8];simp only[decide_eq_true_eq];omega
   .intro j a ma;rw [Zon,A0];cases XP a with
    |false=>simp
    |true=>
     simp only[if_true,A6];rw [ZcT _ (by have:=h.ta a ma;omega),A0,Z0 (p:=YM (YY r r.cond.length)) (r:=.inr false)]
     .have:(ZV (Xk a.pattern.args)).all (YM (YY r r.cond.length))=(Xk a.pattern.args).all (YM (YY r r.cond.length)):=by
       rw [A8,AA,AA];simp only[ZX]
      rw [this];cases (Xk a.pattern.args).all (YM (YY r r.cond.length))<;>rfl
     .intro k v _;rw [Xc,A0];cases YM (YY r r.cond.length) v<;>simp
 .intro j x hj;have hxa:=h.ca x (AH hj);rw [AB,ZeH,A0,Zek r _ h h4,Zcz x yE,AO];simp only[A0];cases hic:Y1 x with
  |false=>simp
  |true=>
   have c:∀{fin:Unit->Option (Unit ⊕ Bool)} (d:fin ()=some (.inl ())),forL (σ:=Unit) (ρ:=Unit ⊕ Bool) (fun (_:Nat) (v:ByteArray) _=>(ZW (YY r j) v).bind fun b=>(ZbV x).bind fun t=>if t=true then (if b=true then (if (x.kind==2)=true then some (.inl ()) else some (.inl ())) else some (.inr (.inr false))) else (if (x.kind==2)=true then (if b=true then some (.inl ()) else (X5 r (j:Int) v).bind fun e=>if e=true then some (.inr (.inr false)) else some (.inl ())) else some (.inl ()))) fin (Y5 x) 0 ()=some (bif ZfG r j x then .inl () else .inr false):=fun {fin} d=>by
    rw [Z0 (p:=Zmu r j x) (r:=.inr false)]
    .unfold ZfG;cases (Y5 x).all (Zmu r j x)<;>simp [d]
    .intro k v mv;rw [Xc,Zs4,ZkP r _ v h (Zvk mv),hic];simp only[A0,A6,decide_eq_true_eq,beq_iff_eq,Zmu];rcases Zqk hic with hk|hk|hk|hk|hk<;>rw [hk]<;>cases YM (YY r j) v<;>cases Znv r j v<;>simp
   by_cases h0:j=0
   .subst h0;by_cases hk:x.kind=1
    .have f:(x.kind != 1)=false:=by simp [hk]
     simp only[if_true,f,show (((0:Nat):Int)==0)=true from rfl,AE,if_false];rw [c rfl];simp [hk]
    .have f:(x.kind != 1)=true:=by simpa using hk
     simp [f,hk]
   .have:((j:Int)==0)=false:=by rw [beq_eq_false_iff_ne];omega
    simp only[if_true,this,AE,if_false];rw [c rfl];simp [h0]
theorem Zkg {v:ByteArray}(h:Yr v=true):ZT v=false:=by
 cases ha:ZT v with
 |false=>rfl
 |true=>
  have h1:=ZjK ha;rw [Zax]at h1;unfold Yr at h;simp only[A3,decide_eq_true_iff]at h;omega
def Q6:List Zi->ByteArray->Option ByteArray
 | [],_=>none
 |x::b,v=>if x.var=v then some x.value else Q6 b v
def X9 (b:List Zi) (t:ByteArray):Option ByteArray:=if ZT t=true then some t else if Yr t=true then Q6 b t else none
theorem Zi0 {b:List Zi}{v:ByteArray}(h:Yr v=true):X9 b v=Q6 b v:=by
 unfold X9;rw [if_neg (by rw [Zkg h];simp),if_pos h]
def Zfp (x:Zi):Bool:=Yr x.var&&ZT x.value
def Zjf:Option ByteArray->ByteArray->Bool
 |none,_=>true
 |some p,v=>sLt p v
def Y4:Option ByteArray->List Zi->Bool
 |_,[]=>true
 |prev,x::r=>Zfp x&&Zjf prev x.var&&Y4 (some x.var) r
def ZY (b:List Zi):Bool:=decide (b.length<=6)&&Y4 none b
theorem Zpm {a:Option ByteArray}{b:List Zi}(h:Y4 a b=true):∀x∈b,Zfp x=true/\∀p,a=some p->sLt p x.var=true:=by
 induction b generalizing a with
 |nil=>simp
 |cons y r ih=>
  simp only[Y4,A3]at h;obtain ⟨⟨h1,h2⟩,h3⟩:=h;intro x mx;rcases A5.1 mx with rfl|mx
  .exact ⟨h1,fun p hp=>by subst hp;exact h2⟩
  .obtain ⟨k1,k2⟩:=ih h3 x mx;exact ⟨k1,fun p hp=>by subst hp;exact ZfL h2 (k2 _ rfl)⟩
theorem Zwa {b:List Zi}{v:ByteArray}(h:Q6 b v=none):∀x∈b,¬x.var=v:=by
 induction b with
 |nil=>simp
 |cons y r ih=>
  simp only[Q6]at h;split at h
  .simp at h
  .rename_i hy;intro x mx;rcases A5.1 mx with rfl|mx
   .exact hy
   .exact ih h x mx
theorem Zvy {b:List Zi}{v w:ByteArray}(h:Q6 b v=some w):∃x∈b,x.var=v/\x.value=w:=by
 induction b with
 |nil=>simp [Q6]at h
 |cons y r ih=>
  simp only[Q6]at h;split at h
  .rename_i hy;exact ⟨y,yG,hy,AQ h⟩
  .obtain ⟨x,mx,h1⟩:=ih h;exact ⟨x,by simp [mx],h1⟩
def Zgb:List Zi->ByteArray->ByteArray->List Zi
 | [],v,w=>[⟨v,w⟩]
 |x::b,v,w=>if sLt v x.var=true then ⟨v,w⟩::x::b else x::Zgb b v w
theorem Zrf (v w:ByteArray):∀b:List Zi,(Zgb b v w).length=b.length+1
 | []=>rfl
 |x::b=>by
  simp only[Zgb];split
  .rfl
  .rw [A7,Zrf v w b];rfl
theorem ZkO {v w u:ByteArray}:∀{b:List Zi},Q6 b v=none->Q6 (Zgb b v w) u=if v=u then some w else Q6 b u
 | [],_=>by simp [Zgb,Q6]
 |x::b,h=>by
  simp only[Q6]at h;split at h
  .simp at h
  .rename_i hx;simp only[Zgb];split
   .simp [Q6]
   .simp only[Q6];rw [ZkO h];by_cases hu:x.var=u
    .rw [if_pos hu,if_pos hu,if_neg (fun e=>hx (hu.trans e.symm))]
    .rw [if_neg hu,if_neg hu]
theorem ZpX {v w:ByteArray}(hv:Yr v=true) (hw:ZT w=true):∀{b:List Zi}{a:Option ByteArray},Y4 a b=true->Q6 b v=none->(∀p,a=some p->sLt p v=true)->Y4 a (Zgb b v w)=true
 | [],a,_,_,hp=>by
  simp only[Zgb,Y4,Zfp,hv,hw,BE,A6,Bool.and_true];cases a with
  |none=>rfl
  |some p=>exact hp p rfl
 |x::b,a,h,hg,hp=>by
  have hx:=Zwa hg x yG;simp only[Q6,hx,if_false]at hg;simp only[Y4,A3]at h;obtain ⟨⟨h1,h2⟩,h3⟩:=h;simp only[Zgb];by_cases c:sLt v x.var=true
  .rw [if_pos c];have h4:Zjf a v=true:=by
    cases a with
    |none=>rfl
    |some p=>exact hp p rfl
   simp only[Y4,A3];exact ⟨⟨by simp [Zfp,hv,hw],h4⟩,⟨⟨h1,c⟩,h3⟩⟩
  .rw [if_neg c];simp only[Y4,A3];refine ⟨⟨h1,h2⟩,ZpX hv hw h3 hg fun p d=>?_⟩;obtain rfl:=AQ d;exact ZfB (by simpa using c) (fun e=>hx e.symm)
def Zhw (b:List Zi) (v w:ByteArray):Option (List Zi):=
 if ZY b=true/\Yr v=true/\ZT w=true then
  (match Q6 b v with
  |some old=>if old=w then some b else none
  |none=>if b.length=6 then none else some (Zgb b v w))
 else none
theorem ZuS {b b':List Zi}{v w:ByteArray}(h:Zhw b v w=some b'):ZY b'=true/\Q6 b' v=some w/\∀u z,Q6 b u=some z->Q6 b' u=some z:=by
 unfold Zhw at h;split at h
 .rename_i hc;obtain ⟨h1,h2,h3⟩:=hc;cases hg:Q6 b v with
  |some old=>
   rw [hg]at h;simp only at h;split at h
   .rename_i he;obtain rfl:=AQ h;exact ⟨h1,by rw [hg,he],fun u z hu=>hu⟩
   .simp at h
  |none=>
   rw [hg]at h;simp only at h;split at h
   .simp at h
   .rename_i hl;obtain rfl:=AQ h;unfold ZY at h1 ⊢;rw [A3,decide_eq_true_iff]at h1;refine ⟨?_,by rw [ZkO hg,if_pos rfl],fun u z hu=>?_⟩
    .rw [A3,decide_eq_true_iff,Zrf];exact ⟨yE,ZpX h2 h3 h1.2 hg yG⟩
    .rw [ZkO hg,if_neg (fun e=>by rw [<-e,hg]at hu;simp at hu)];exact hu
 .simp at h
def Ze9:List ByteArray->List ByteArray->List Zi->Option (List Zi)
 | [],_,b=>some b
 |_::_,[],_=>none
 |a::p,w::f,b=>if ZT a=true then (if a=w then Ze9 p f b else none) else (Zhw b a w).bind (Ze9 p f)
theorem Zkr:∀{p f:List ByteArray}{b b':List Zi},ZY b=true->Ze9 p f b=some b'->ZY b'=true/\(∀a∈p,Yr a=true->∃z,Q6 b' a=some z)/\∀u z,Q6 b u=some z->Q6 b' u=some z
 | [],_,b,b',hb,h=>by
  simp only[Ze9,BF]at h;subst h;exact ⟨hb,yG,fun u z h=>h⟩
 |_::_,[],_,_,_,h=>by simp [Ze9]at h
 |a::p,w::f,b,b',hb,h=>by
  simp only[Ze9]at h;by_cases ha:ZT a=true
  .rw [if_pos ha]at h;split at h
   .obtain ⟨h1,h2,h3⟩:=Zkr hb h;refine ⟨h1,fun x mx hx=>?_,h3⟩;rcases A5.1 mx with rfl|mx
    .rw [Zkg hx]at ha;simp at ha
    .exact h2 x mx hx
   .simp at h
  .rw [if_neg ha]at h;obtain ⟨b1,e1,h⟩:=BG.1 h;obtain ⟨k1,k2,k3⟩:=ZuS e1;obtain ⟨h1,h2,h3⟩:=Zkr k1 h;refine ⟨h1,fun x mx hx=>?_,fun u z hu=>h3 u z (k3 u z hu)⟩;rcases A5.1 mx with rfl|mx
   .exact ⟨w,h3 _ _ k2⟩
   .exact h2 x mx hx
def ZhA (p:Zx) (f:Zc) (b:List Zi):Bool:=Z9 p&&Y3 f&&ZY b&&decide (p.rel=f.rel)&&decide (p.args.length=f.args.length)
def XL (p:Zx) (f:Zc) (b:List Zi):Option (List Zi):=if ZhA p f b=true then Ze9 p.args f.args b else none
theorem ZvH {p:Zx}{f:Zc}{b b':List Zi}(h:XL p f b=some b'):ZY b'=true/\(∀a∈p.args,Yr a=true->∃z,Q6 b' a=some z)/\∀u z,Q6 b u=some z->Q6 b' u=some z:=by
 unfold XL at h;split at h
 .rename_i hc;unfold ZhA at hc;simp only[A3]at hc;exact Zkr hc.1.1.2 h
 .simp at h
def Zfy:List ByteArray->List Zi->Option (List ByteArray)
 | [],_=>some []
 |a::p,b=>(X9 b a).bind fun v=>(Zfy p b).map fun l=>v::l
theorem Znw {b:List Zi}:∀{p:List ByteArray},p.all YJ=true->(∀a∈p,Yr a=true->∃z,Q6 b a=some z)->∃l,Zfy p b=some l/\l.length=p.length
 | [],_,_=>⟨[],rfl,rfl⟩
 |a::p,h,hv=>by
  simp only[List.all_cons,A3]at h;obtain ⟨l,e,hl⟩:=Znw h.2 fun x mx=>hv x (by simp [mx]);have:∃v,X9 b a=some v:=by
   have ht:=h.1;unfold YJ at ht;rw [As]at ht;rcases ht with ht|ht
   .exact ⟨a,by unfold X9;rw [if_pos ht]⟩
   .obtain ⟨z,hz⟩:=hv a yG ht;exact ⟨z,by rw [Zi0 ht];exact hz⟩
  obtain ⟨v,hv⟩:=this;exact ⟨v::l,by simp only[Zfy,hv,e,A0,Option.map_some],by simp [hl]⟩
def Zb8 (p:Zx) (b:List Zi):Option Zc:=if Z9 p=true/\ZY b=true then (Zfy p.args b).map fun l=>{rel:=p.rel,args:=l} else none
def ZdF (p:Zx) (b:List Zi) (F:List Zc):List Zc:=F.filter fun f=>(XL p f b).isSome
def ZxY (l r:ByteArray):Bool:=match Q3 l,Q3 r with|some m,some n=>decide (m<n)|_,_=>false
def Zq4 (k:Int) (l r:ByteArray):Bool:=if k=3 then decide (l=r) else if k=4 then !decide (l=r) else ZxY l r
def ZnK (x:Zl) (b:List Zi):Bool:=
 if Y1 x=true/\3<=x.kind/\ZY b=true then (match X9 b x.left,X9 b x.right with|some l,some r=>Zq4 x.kind l r|_,_=>false) else false
def Zgo (x:Zl) (b:List Zi) (F:List Zc):Bool:=
 if Y1 x=true/\ZY b=true then
  (if x.kind=1 then decide (0<(ZdF x.pattern b F).length) else if x.kind=2 then decide ((ZdF x.pattern b F).length=0) else ZnK x b)
 else false
def QD (x:Zl) (F:List Zc) (t:Zq):List Zq:=
 if x.kind=1 then F.filterMap fun f=>(XL x.pattern f t.binding).map fun b=>{facts:=t.facts++[f],binding:=b}
 else if Zgo x t.binding F=true then [t] else []
def ZfE (x:Zl) (F:List Zc) (l:List Zq):List Zq:=l.flatMap (QD x F)
def ZvF:Zq:={facts:=[],binding:=[]}
def Zz (l:List Zl) (F:List Zc):List Zq:=l.foldl (fun ts x=>ZfE x F ts) [ZvF]
theorem Zaw (p:List Zl) (x:Zl) (F:List Zc):Zz (p++[x]) F=ZfE x F (Zz p F):=by
 unfold Zz;rw [AJ];rfl
structure ZmI (p:List Zl) (F:List Zc) (t:Zq):Prop where
 bind:ZY t.binding=true
 len:t.facts.length<=p.length
 sub:∀f∈t.facts,f∈F
 vars:∀v∈Y2 p,∃z,Q6 t.binding v=some z
theorem ZyL {p:List Zl}{x:Zl}{F:List Zc}{t u:Zq}(h:ZmI p F t) (hu:u∈QD x F t):ZmI (p++[x]) F u:=by
 unfold QD at hu;have hv:Y2 (p++[x])=Y2 p++(if x.kind=1 then Xk x.pattern.args else []):=by simp [Y2]
 by_cases hk:x.kind=1
 .rw [if_pos hk]at hu;obtain ⟨f,mf,e⟩:=AR.1 hu;obtain ⟨b,e2,rfl⟩:=Ah.1 e;obtain ⟨h1,h2,h3⟩:=ZvH e2;refine ⟨h1,by have:=h.len;simp;omega,fun g mg=>?_,fun v mv=>?_⟩
  .rcases A4.1 mg with mg|mg
   .exact h.sub g mg
   .simp at mg;subst mg;exact mf
  .rw [hv,if_pos hk]at mv;rcases A4.1 mv with mv|mv
   .obtain ⟨z,hz⟩:=h.vars v mv;exact ⟨z,h3 v z hz⟩
   .obtain ⟨m1,m2⟩:=Zcf.1 mv;exact h2 v m1 m2
 .rw [if_neg hk]at hu;split at hu
  .simp at hu;subst hu;refine ⟨h.bind,by have:=h.len;simp;omega,h.sub,fun v mv=>?_⟩;rw [hv,if_neg hk,BH]at mv;exact h.vars v mv
  .simp at hu
theorem Zym (F:List Zc):ZmI [] F ZvF:=⟨rfl,AY _,by simp [ZvF],by simp [Y2]⟩
theorem Zbw (F:List Zc) (l:List Zl):∀t∈Zz l F,ZmI l F t:=by
 have:∀n (l:List Zl),l.length=n->∀t∈Zz l F,ZmI l F t:=by
  intro n;induction n with
  |zero=>
   intro l h;rw [Ac h];intro t mt;simp [Zz]at mt;subst mt;exact Zym F
  |succ n ih=>
   intro l h;obtain ⟨p,x,rfl⟩:∃p x,l=p++[x]:=⟨l.dropLast,l.getLast (by intro e;simp [e]at h),(Aj _).symm⟩
   intro t mt;rw [Zaw]at mt;obtain ⟨s,ms,mt⟩:=AG.1 mt;exact ZyL (ih p (by simpa using h) s ms) mt
 exact this _ l rfl
theorem ZjU (x:Zl) (F:List Zc) (hF:F.length<=24):∀l:List Zq,(ZfE x F l).length<=24*l.length
 | []=>AY _
 |t::l=>by
  have ih:=ZjU x F hF l;have h1:(QD x F t).length<=24:=by
   unfold QD;split
   .exact AL (At _ _) hF
   .split<;>simp
  unfold ZfE at *;rw [AP,AF,A7];omega
theorem Q7 (F:List Zc) (hF:F.length<=24) (l:List Zl) (hl:l.length<=4):(Zz l F).length<=331776:=by
 have key:∀(l:List Zl) (ts:List Zq),(l.foldl (fun ts x=>ZfE x F ts) ts).length<=24 ^ l.length*ts.length:=by
  intro l;induction l with
  |nil=>intro ts;simp
  |cons x l ih=>
   intro ts;rw [A9,A7,Nat.pow_succ];have h1:=ih (ZfE x F ts);have h2:=ZjU x F hF ts;refine AL h1 (AL (BI _ h2) ?_);rw [<-Nat.mul_assoc];exact AY _
 have h1:=key l [ZvF];have h2:24 ^ l.length<=24 ^ 4:=Nat.pow_le_pow_right yE hl;unfold Zz;simp only[AZ,Nat.mul_one]at h1;omega
def Zgq (b:List Zi) (i:Nat):Option ByteArray:=if i=0 then none else (b[i-1]?).map (·.var)
theorem ZkM {b:List Zi}{body:Nat->Zi->Unit->Option (Unit ⊕ Bool)}{fin:Unit->Option Bool}(hb:∀i x,b[i]?=some x->body i x ()=if (Zfp x&&Zjf (Zgq b i) x.var)=true then some (.inl ()) else some (.inr false)):
  ∀(l:List Zi) (i:Nat),b.drop i=l->forL body fin l i ()=if Y4 (Zgq b i) l=true then fin () else some false
 | [],i,_=>by simp [forL,Y4]
 |x::l,i,h=>by
  have hx:b[i]?=some x:=by rw [<-List.head?_drop,h];rfl
  have hd:b.drop (i+1)=l:=by rw [<-List.tail_drop,h];rfl
  have hp:Zgq b (i+1)=some x.var:=by unfold Zgq;rw [if_neg yE,BJ,hx];rfl
  by_cases hc:(Zfp x&&Zjf (Zgq b i) x.var)=true
  .rw [Z4 (by rw [hb i x hx,if_pos hc]),ZkM hb l (i+1) hd,hp];simp only[Y4,hc,A6]
  .rw [YF (by rw [hb i x hx,if_neg hc])];simp only[Y4,eq_false_of_ne_true hc,Ar,AE,if_false]
theorem ZoT {b:List Zi}(hl:b.length<=1048576) {i:Nat}{x:Zi}(hx:b[i]?=some x):
  (if Yr x.var=true then (if ZT x.value=true then (if (decide (0<(i:Int)))=true then (atI b (i64.wrap ((i:Int)-1))).bind fun a=>if (sLt a.var x.var)=true then some (.inl ()) else some (.inr false) else some (.inl ())) else some (.inr false)) else some (.inr false):Option (Unit ⊕ Bool))
   = if (Zfp x&&Zjf (Zgq b i) x.var)=true then some (.inl ()) else some (.inr false):=by
 have hi:=(AN.1 hx).1;unfold Zfp;cases Yr x.var with
 |false=>simp
 |true=>
  cases ZT x.value with
  |false=>simp
  |true=>
   rw [if_pos rfl,if_pos rfl];by_cases h0:i=0
   .subst h0;rw [if_neg yG];simp [Zgq,Zjf]
   .have hp:Zgq b i=some (b[i-1]).var:=by unfold Zgq;rw [if_neg h0,AC yE];rfl
    rw [if_pos (by simp;omega),show (i:Int)-1=((i-1:Nat):Int) by omega,ZeV yE yE,Za1,AC yE,A0,hp];simp [Zjf]
theorem Zam (b:List Zi):XS b=some (ZY b):=by
 unfold XS ZY;by_cases h6:b.length<=6
 .rw [if_neg (by simp;omega),ZkM (b:=b) (fun i x hx=>by
   rw [ZdO,A0,QC];exact ZoT yE hx) b 0 rfl,decide_eq_true h6]
  show (if Y4 none b=true then some true else some false)=_
  cases Y4 none b<;>rfl
 .rw [if_pos (by simp;omega),decide_eq_false h6];rfl
theorem Zat (b:List Zi) (hl:b.length<=1048576):XU b=some (ZY b):=by
 unfold XU ZY;rw [ZkM (b:=b) (fun i x hx=>by
   rw [Zaj,A0,QB];exact ZoT hl hx) b 0 rfl]
 show (if Y4 none b=true then some (decide ((b.length:Int)<=6)) else some false)=_
 have:decide ((b.length:Int)<=6)=decide (b.length<=6):=by rw [A8];simp;omega
 rw [this];cases Y4 none b<;>simp
def Zzp (b:List Zi) (t:ByteArray):ByteArray×Bool:=match X9 b t with|some v=>(v,true)|none=>(⟨#[]⟩,false)
def Zxo:Option ByteArray->ByteArray×Bool
 |some v=>(v,true)
 |none=>(⟨#[]⟩,false)
theorem Zcy (b:List Zi) (t:ByteArray):Zzp b t=Zxo (X9 b t):=by unfold Zzp Zxo;cases X9 b t<;>rfl
theorem Zny {t:ByteArray}{body:Nat->Zi->Unit->Option (Unit ⊕ (ByteArray×Bool))}(hb:∀i x,body i x ()=if x.var=t then some (.inr (x.value,true)) else some (.inl ())):
  ∀(b:List Zi) (i:Nat),forL body (fun _=>some ((⟨#[]⟩),false)) b i ()=some (Zxo (Q6 b t))
 | [],_=>rfl
 |x::b,i=>by
  by_cases hx:x.var=t
  .rw [YF (by rw [hb,if_pos hx])];simp [Q6,hx,Zxo]
  .rw [Z4 (by rw [hb,if_neg hx]),Zny hb b (i+1)];simp [Q6,hx]
theorem Zdq (b:List Zi) (t:ByteArray):Zbt b t=some (Zzp b t):=by
 unfold Zbt;rw [Zcy,QC,A0];unfold X9;by_cases ha:ZT t=true
 .rw [if_pos ha,if_pos ha];rfl
 .rw [if_neg ha,if_neg ha,ZdO,A0];by_cases hv:Yr t=true
  .rw [if_pos hv,if_pos hv,Zny];intro i x;by_cases hx:x.var=t
   .rw [if_pos (ZQ.2 hx),if_pos hx]
   .rw [if_neg (by rw [ZQ];exact hx),if_neg hx]
  .rw [if_neg hv,if_neg hv];rfl
theorem Zdm (b:List Zi) (t:ByteArray):Zbj b t=some (Zzp b t):=by
 unfold Zbj;rw [Zcy,QB,A0];unfold X9;by_cases ha:ZT t=true
 .rw [if_pos ha,if_pos ha];rfl
 .rw [if_neg ha,if_neg ha];by_cases hv:Yr t=true
  .rw [if_pos hv,Zny];intro i x;by_cases hx:x.var=t
   .rw [if_pos (ZQ.2 hx),if_pos hx,Zaj,A0,if_pos hv]
   .rw [if_neg (by rw [ZQ];exact hx),if_neg hx]
  .rw [if_neg hv,Z0 (p:=fun _=>true) (r:=((⟨#[]⟩:ByteArray),false))]
   .simp [Zxo]
   .intro i x _;rw [Zaj,A0,if_neg hv];split<;>rfl
theorem ZsC {a v:ByteArray}:((sLt a v||sEq a v)=true)↔¬sLt v a=true:=by
 rw [As,ZQ];constructor
 .rintro (h|h)
  .rw [ZkU h];simp
  .rw [h,ZiT];simp
 .intro h;by_cases e:a=v
  .exact .inr e
  .exact .inl (ZfB (by simpa using h) (fun e2=>e e2.symm))
theorem Zsf {ρ:Type}{v w:ByteArray}{K:List Zi->Option ρ}{body:Nat->Zi->(List Zi×Bool)->Option ((List Zi×Bool) ⊕ ρ)}{fin:(List Zi×Bool)->Option ρ}
  (h1:∀i x row,row.length<=1000->body i x (row,true)=some (.inl (row++[x],true)))
  (h2:∀i x row,row.length<=1000->body i x (row,false)=if (sLt x.var v||sEq x.var v)=true then some (.inl (row++[x],false)) else some (.inl ((row++[{var:=v,value:=w}])++[x],true)))
  (h3:∀row,row.length<=1000->fin (row,true)=K row) (h4:∀row,row.length<=1000->fin (row,false)=K (row++[{var:=v,value:=w}])) (b:List Zi) (hb:b.length<=100):forL body fin b 0 ([],false)=K (Zgb b v w):=by
 rw [ZaV (fun l _ s=>K (s.1++(if s.2=true then l else Zgb l v w))) (fun l _ s=>s.1.length+2*l.length<=900) ?_ ?_ b 0 ([],false) (by simp;omega)]
 .simp
 .rintro i ⟨row,a⟩ hI;simp only[BB]at hI;cases a with
  |true=>rw [h3 row yE];simp
  |false=>rw [h4 row yE];simp [Zgb]
 .rintro x l i ⟨row,a⟩ hI;simp only[A7]at hI;left
  cases a with
  |true=>exact ⟨_,h1 i x row yE,by simp;omega,yG⟩
  |false=>
   rw [h2 i x row yE];by_cases hs:sLt v x.var=true
   .rw [if_neg (by rw [ZsC];simpa using hs)];exact ⟨_,rfl,by simp;omega,by simp [Zgb,hs]⟩
   .rw [if_pos (ZsC.2 hs)];exact ⟨_,rfl,by simp;omega,by simp [Zgb,hs]⟩
def Zlw:Option (List Zi)->List Zi×Bool
 |some b=>(b,true)
 |none=>([],false)
theorem Zh7 {b:List Zi}{v w:ByteArray}(h:¬(ZY b=true/\Yr v=true/\ZT w=true)):Zlw (Zhw b v w)=([],false):=by
 unfold Zhw;rw [if_neg h];rfl
theorem Zj9 {b:List Zi}{v w:ByteArray}(h1:ZY b=true) (h2:Yr v=true) (h3:ZT w=true):Zhw b v w=match Q6 b v with|some a=>if a=w then some b else none|none=>if b.length=6 then none else some (Zgb b v w):=by
 unfold Zhw;exact if_pos ⟨h1,h2,h3⟩
theorem QE {b:List Zi}(h:ZY b=true):b.length<=6:=by
 unfold ZY at h;rw [A3,decide_eq_true_iff]at h;exact h.1
theorem ZrB (b:List Zi) (v w:ByteArray):Zg4 b v w=some (Zlw (Zhw b v w)):=by
 unfold Zg4;rw [Zam,A0];by_cases h1:ZY b=true
 .rw [if_pos h1,ZdO,A0];by_cases h2:Yr v=true
  .rw [if_pos h2,QC,A0];by_cases h3:ZT w=true
   .have h6:=QE h1;rw [if_pos h3,Zdq,A0,Zcy,Zi0 h2];cases hg:Q6 b v with
    |some a=>
     have hx:Zhw b v w=if a=w then some b else none:=by rw [Zj9 h1 h2 h3,hg]
     rw [hx];show (if true=true then (if sEq a w=true then _ else _) else _)=_
     rw [if_pos rfl];by_cases he:a=w
     .rw [if_pos (ZQ.2 he),if_pos he];unfold Zbn;rw [Zj _ yE];rfl
     .rw [if_neg (by rw [ZQ];exact he),if_neg he];rfl
    |none=>
     have hx:Zhw b v w=if b.length=6 then none else some (Zgb b v w):=by rw [Zj9 h1 h2 h3,hg]
     rw [hx];show (if false=true then _ else _)=_
     rw [if_neg yG];by_cases hl:b.length=6
     .rw [if_pos (by simp;omega),if_pos hl];rfl
     .rw [if_neg (by simp;omega),if_neg hl];refine Zsf (K:=fun r=>some (r,true)) (fun i x row hr=>?_) (fun i x row hr=>?_) (fun row hr=>?_) (fun row hr=>?_) b yE
      .show (if true=true then _ else _)=_
       rw [if_pos rfl,Zj _ yE]
      .show (if false=true then _ else _)=_
       rw [if_neg yG];split
       .rw [Zj _ yE]
       .rw [Zj _ yE,Zj _ yE]
      .show (if true=true then _ else _)=_
       rw [if_pos rfl]
      .show (if false=true then _ else _)=_
       rw [if_neg yG,Zj _ yE]
   .rw [if_neg h3,Zh7 (fun h=>h3 h.2.2)]
  .rw [if_neg h2,Zh7 (fun h=>h2 h.2.1)]
 .rw [if_neg h1,Zh7 (fun h=>h1 h.1)]
theorem Zt9 (b:List Zi) (v w:ByteArray) (hb:b.length<=100):ZjO b v w=some (Zgb b v w):=by
 unfold ZjO;refine Zsf (K:=fun r=>some r) (fun i x row hr=>?_) (fun i x row hr=>?_) (fun row hr=>?_) (fun row hr=>?_) b hb
 .show (if true=true then _ else _)=_
  rw [if_pos rfl,Zj _ yE]
 .show (if false=true then _ else _)=_
  rw [if_neg yG];split
  .rw [Zj _ yE]
  .rw [Zj _ yE,Zj _ yE]
 .show (if true=true then _ else _)=_
  rw [if_pos rfl]
 .show (if false=true then _ else _)=_
  rw [if_neg yG,Zj _ yE]
theorem Zsr (b:List Zi) (v w:ByteArray) (hb:b.length<=1048576):Zhm b v w=some (Zlw (Zhw b v w)):=by
 unfold Zhm;rw [Zat b hb,A0];by_cases h1:ZY b=true
 .rw [if_pos h1,Zaj,A0];by_cases h2:Yr v=true
  .rw [if_pos h2,QB,A0];by_cases h3:ZT w=true
   .have h6:=QE h1;rw [if_pos h3,Zdm,A0,Zcy,Zi0 h2];cases hg:Q6 b v with
    |some a=>
     have hx:Zhw b v w=if a=w then some b else none:=by rw [Zj9 h1 h2 h3,hg]
     rw [hx];show (if true=true then (if sEq a w=true then _ else _) else _)=_
     rw [if_pos rfl];by_cases he:a=w
     .rw [if_pos (ZQ.2 he),if_pos he];unfold ZaS;rw [Zj _ yE];rfl
     .rw [if_neg (by rw [ZQ];exact he),if_neg he];rfl
    |none=>
     have hx:Zhw b v w=if b.length=6 then none else some (Zgb b v w):=by rw [Zj9 h1 h2 h3,hg]
     rw [hx];show (if false=true then _ else _)=_
     rw [if_neg yG];by_cases hl:b.length=6
     .rw [if_pos (by simp;omega),if_pos hl];rfl
     .rw [if_neg (by simp;omega),if_neg hl,Zt9 _ _ _ yE];rfl
   .rw [if_neg h3,Zh7 (fun h=>h3 h.2.2)]
  .rw [if_neg h2,Zh7 (fun h=>h2 h.2.1)]
 .rw [if_neg h1,Zh7 (fun h=>h1 h.1)]
theorem Zgs {fa:List ByteArray}{body:Nat->ByteArray->List Zi->Option (List Zi ⊕ (List Zi×Bool))}
  (hb:∀i a w row,fa[i]?=some w->ZY row=true->body i a row=if ZT a=true then (if a=w then some (.inl row) else some (.inr ([],false))) else (match Zhw row a w with|some r=>some (.inl r)|none=>some (.inr ([],false)))):
  ∀(l:List ByteArray) (i:Nat) (row:List Zi),i+l.length=fa.length->ZY row=true->forL body (fun row=>some (row,true)) l i row=some (Zlw (Ze9 l (fa.drop i) row))
 | [],i,row,_,_=>by simp [forL,Ze9,Zlw]
 |a::l,i,row,h,hr=>by
  simp only[A7]at h;have hi:i<fa.length:=by omega
  have hw:fa[i]?=some fa[i]:=AC hi;rw [List.drop_eq_getElem_cons hi];simp only[Ze9];have e:=hb i a _ row hw hr;by_cases ha:ZT a=true
  .rw [if_pos ha]at e ⊢;by_cases hq:a=fa[i]
   .rw [if_pos hq]at e ⊢;rw [Z4 e];exact Zgs hb l (i+1) row yE hr
   .rw [if_neg hq]at e ⊢;rw [YF e];rfl
  .rw [if_neg ha]at e ⊢;cases hx:Zhw row a fa[i]with
   |none=>
    rw [hx]at e;rw [YF e];rfl
   |some r=>
    rw [hx]at e;rw [Z4 e,A0];exact Zgs hb l (i+1) r yE (ZuS hx).1
theorem ZbF (p:Zx) (f:Zc) (b:List Zi):QF p f b=some (Zlw (XL p f b)):=by
 unfold QF XL ZhA;rw [ZbE,A0];cases h1:Z9 p with
 |false=>rfl
 |true=>
  rw [if_pos rfl,Zlu,A0];cases h2:Y3 f with
  |false=>rfl
  |true=>
   rw [if_pos rfl,Zam,A0];cases h3:ZY b with
   |false=>rfl
   |true=>
    rw [if_pos rfl];by_cases h4:p.rel=f.rel
    .rw [if_pos (ZQ.2 h4),decide_eq_true h4];by_cases h5:p.args.length=f.args.length
     .have h6:=QE h3;rw [if_neg (by simp;omega),decide_eq_true h5];unfold Zbn;rw [Zj _ yE,A0];rw [Zgs (fa:=f.args) (fun i a w row hw hr=>?_) p.args 0 b yE h3]
      .rfl
      .rw [QC,A0,Za1,hw,A0,A0];split
       .by_cases hq:a=w
        .rw [if_pos (ZQ.2 hq),if_pos hq]
        .rw [if_neg (by rw [ZQ];exact hq),if_neg hq]
       .rw [ZrB,A0];cases Zhw row a w<;>rfl
     .rw [if_pos (by simp;omega),decide_eq_false h5];rfl
    .rw [if_neg (by rw [ZQ];exact h4),decide_eq_false h4];rfl
theorem ZgV (p:Zx) (f:Zc) (b:List Zi) (hb:b.length<=1048576):Zbp p f b=some (Zlw (XL p f b)):=by
 unfold Zbp XL ZhA;rw [ZbD,A0];cases h1:Z9 p with
 |false=>rfl
 |true=>
  rw [if_pos rfl,Zli,A0];cases h2:Y3 f with
  |false=>rfl
  |true=>
   rw [if_pos rfl,Zat b hb,A0];cases h3:ZY b with
   |false=>rfl
   |true=>
    rw [if_pos rfl];by_cases h4:p.rel=f.rel
    .rw [if_pos (ZQ.2 h4),decide_eq_true h4];by_cases h5:p.args.length=f.args.length
     .have h6:=QE h3;rw [if_neg (by simp;omega),decide_eq_true h5];unfold ZaS;rw [Zj _ yE,A0];rw [Zgs (fa:=f.args) (fun i a w row hw hr=>?_) p.args 0 b yE h3]
      .rfl
      .have hr6:=QE hr;rw [QB,A0,Za1,hw,A0,A0];split
       .by_cases hq:a=w
        .rw [if_pos (ZQ.2 hq),if_pos hq]
        .rw [if_neg (by rw [ZQ];exact hq),if_neg hq]
       .rw [Zsr _ _ _ yE,A0];cases Zhw row a w<;>rfl
     .rw [if_pos (by simp;omega),decide_eq_false h5];rfl
    .rw [if_neg (by rw [ZQ];exact h4),decide_eq_false h4];rfl
def Zdk:Option Zc->Zc×Bool
 |some f=>(f,true)
 |none=>({rel:=⟨#[]⟩,args:=[]},false)
theorem ZoW {b:List Zi} {rel:ByteArray} {body:Nat→ByteArray→List ByteArray→Option (List ByteArray ⊕ (Zc × Bool))} (hb:∀i a row,row.length≤1048576→body i a row=match X9 b a with | some v=>some (.inl (row++[v])) | none=>some (.inr ({rel:=⟨#[]⟩,args:=[]},false))) (l:List ByteArray) (hl:l.length≤1000000):
  forL body (fun row=>some ({rel:=rel,args:=row},true)) l 0 []=some (Zdk ((Zfy l b).map fun l=>{rel:=rel,args:=l})):=by
 rw [ZaV (fun l _ row=>some (Zdk ((Zfy l b).map fun l=>{rel:=rel,args:=row++l}))) (fun l _ row=>row.length+l.length≤1048576) ?_ ?_ l 0 [] (by simp;omega)]
 ·simp
 ·intro i row _
  simp [Zfy,Zdk]
 ·intro a l i row hI
  simp only[A7] at hI;have e:=hb i a row (by omega);cases hv:X9 b a with
  | none=>
   rw [hv] at e;exact .inr ⟨_,e,by simp [Zfy,hv,Zdk]⟩
  | some v=>
   rw [hv] at e;refine .inl ⟨_,e,by simp;omega,?_⟩;simp only[Zfy,hv,A0,Option.map_map];cases Zfy l b<;>simp
theorem Ze8 (p:Zx) (b:List Zi):QL p b=some (Zdk (Zb8 p b)):=by
 unfold QL Zb8;rw [ZbE,A0];cases h1:Z9 p with
 |false=>rfl
 |true=>
  rw [if_pos rfl,Zam,A0];cases h3:ZY b with
  |false=>rfl
  |true=>
   have hl:p.args.length<=3:=by unfold Z9 at h1;simp at h1;exact h1.1.2
   rw [if_pos rfl,if_pos ⟨rfl,rfl⟩,ZoW (b:=b) (fun i a row hr=>?_) p.args yE];rw [Zdq,A0,Zcy];cases X9 b a with
   |none=>rfl
   |some v=>
    show (if true=true then _ else _)=_
    rw [if_pos rfl,Zj _ yE];rfl
theorem Zir (p:Zx) (b:List Zi) (hb:b.length<=1048576):XA p b=some (Zdk (Zb8 p b)):=by
 unfold XA Zb8;rw [ZbD,A0];cases h1:Z9 p with
 |false=>rfl
 |true=>
  rw [if_pos rfl,Zat b hb,A0];cases h3:ZY b with
  |false=>rfl
  |true=>
   have hl:p.args.length<=3:=by unfold Z9 at h1;simp at h1;exact h1.1.2
   rw [if_pos rfl,if_pos ⟨rfl,rfl⟩,ZoW (b:=b) (fun i a row hr=>?_) p.args yE];rw [Zdm,A0,Zcy];cases X9 b a with
   |none=>rfl
   |some v=>
    show (if true=true then _ else _)=_
    rw [if_pos rfl,Zj _ yE];rfl
theorem Zgu (o:Option (List Zi)):(Zlw o).2=o.isSome:=by cases o<;>rfl
theorem Zem (p:Zx) (b:List Zi) (F:List Zc) (hF:F.length<=1048576) (ha:∀f∈F,f.args.length<=1048576):XO p b F=some (ZdF p b F):=by
 unfold XO ZdF;rw [Ze1 (p:=fun f=>(XL p f b).isSome)]
 .simp
 .intro j f s mf hs;rw [ZbF,A0,Zgu];split
  .rw [YN f (ha f mf),A0,Zj _ (by simp at hs;omega)]
  .rfl
theorem Zd0 (p:Zx) (b:List Zi) (F:List Zc) (hb:b.length<=1048576) (hF:F.length<=1048576) (ha:∀f∈F,f.args.length<=1048576):XQ p b F=some (ZdF p b F):=by
 unfold XQ ZdF;rw [Ze1 (p:=fun f=>(XL p f b).isSome)]
 .simp
 .intro j f s mf hs;rw [ZgV _ _ _ hb,A0,Zgu];split
  .rw [Xs f (ha f mf),A0,Zj _ (by simp at hs;omega)]
  .rfl
theorem Zmd (x:Zl) (b:List Zi):Zc9 x b=some (ZnK x b):=by
 unfold Zc9 ZnK ZjH;rw [Zhy,A0];cases h1:Y1 x with
 |false=>rfl
 |true=>
  rw [if_pos rfl,A0];by_cases h2:3<=x.kind
  .rw [if_pos (by simpa using h2),Zam,A0];cases h3:ZY b with
   |false=>simp
   |true=>
    rw [if_pos rfl,if_pos ⟨rfl,h2,rfl⟩,Zdq,A0,Zdq,A0,Zcy,Zcy];cases X9 b x.left with
    |none=>rfl
    |some l=>
     cases X9 b x.right with
     |none=>rfl
     |some r=>
      show (if true=true then (if true=true then (if (x.kind==3)=true then some (sEq l r) else _) else _) else _)=some (Zq4 x.kind l r)
      rw [if_pos rfl,if_pos rfl];unfold Zq4;by_cases k3:x.kind=3
      .rw [if_pos (by simpa using k3),if_pos k3];rfl
      .rw [if_neg (by simpa using k3),if_neg k3];by_cases k4:x.kind=4
       .rw [if_pos (by simpa using k4),if_pos k4];rfl
       .rw [if_neg (by simpa using k4),if_neg k4,ZcC,A0,ZcC,A0];show (if (ZeB l).2=true then (if (ZeB r).2=true then some (decide ((ZeB l).1<(ZeB r).1)) else some false) else some false)=_
        unfold ZeB ZxY;cases Q3 l<;>cases Q3 r<;>simp
  .rw [if_neg (by simpa using h2),if_neg (fun h=>h2 h.2.1)]
theorem Zm5 (x:Zl) (b:List Zi) (hb:b.length<=1048576):ZcI x b=some (ZnK x b):=by
 unfold ZcI ZnK ZbV;rw [ZeH,A0];cases h1:Y1 x with
 |false=>rfl
 |true=>
  rw [if_pos rfl,A0];by_cases h2:3<=x.kind
  .rw [if_pos (by simpa using h2),Zat b hb,A0];cases h3:ZY b with
   |false=>simp
   |true=>
    rw [if_pos rfl,if_pos ⟨rfl,h2,rfl⟩,Zdm,A0,Zdm,A0,Zcy,Zcy];cases X9 b x.left with
    |none=>rfl
    |some l=>
     cases X9 b x.right with
     |none=>rfl
     |some r=>
      show (if true=true then (if true=true then (if (x.kind==3)=true then some (sEq l r) else _) else _) else _)=some (Zq4 x.kind l r)
      rw [if_pos rfl,if_pos rfl];unfold Zq4;by_cases k3:x.kind=3
      .rw [if_pos (by simpa using k3),if_pos k3];rfl
      .rw [if_neg (by simpa using k3),if_neg k3];by_cases k4:x.kind=4
       .rw [if_pos (by simpa using k4),if_pos k4];rfl
       .rw [if_neg (by simpa using k4),if_neg k4];unfold Zd3;rw [ZcH,A0,A0];show (if (ZeB l).2=true then ((Zag r).bind fun v1=>some v1.2).bind (fun v6=>if v6=true then (Xz l r).bind fun v7=>some (decide (v7<0)) else some false) else some false)=_
        unfold ZxY;cases hl:Q3 l with
        |none=>simp [ZeB,hl]
        |some m=>
         rw [if_pos (by simp [ZeB,hl]),ZcH,A0,A0];cases hr:Q3 r with
         |none=>simp [ZeB,hr]
         |some n=>
          have hd:decide (ZgI l r<0)=decide (m<n):=by
           have hc:ZgI l r=ZlE m n:=by unfold ZgI;rw [hl,hr]
           rw [hc,A8,decide_eq_true_iff,decide_eq_true_iff];unfold ZlE;split
           .omega
           .split<;>omega
          rw [if_pos (by simp [ZeB,hr]),ZeW,A0,hd]
  .rw [if_neg (by simpa using h2),if_neg (fun h=>h2 h.2.1)]
theorem ZhL (x:Zl) (b:List Zi) (F:List Zc) (hF:F.length<=1048576) (ha:∀f∈F,f.args.length<=1048576):ZcY x b F=some (Zgo x b F):=by
 unfold ZcY Zgo;rw [Zhy,A0];cases h1:Y1 x with
 |false=>rfl
 |true=>
  rw [if_pos rfl,Zam,A0];cases h3:ZY b with
  |false=>rfl
  |true=>
   rw [if_pos rfl,if_pos (show true=true/\true=true from ⟨rfl,rfl⟩)];by_cases k1:x.kind=1
   .rw [if_pos (by simpa using k1),if_pos k1,Zem _ _ _ hF ha,A0];congr 1
    rw [A8];simp
   .rw [if_neg (by simpa using k1),if_neg k1];by_cases k2:x.kind=2
    .rw [if_pos (by simpa using k2),if_pos k2,Zem _ _ _ hF ha,A0,Zvc]
    .rw [if_neg (by simpa using k2),if_neg k2,Zmd];rfl
theorem Zmj (x:Zl) (b:List Zi) (F:List Zc) (hb:b.length<=1048576) (hF:F.length<=1048576) (ha:∀f∈F,f.args.length<=1048576):ZcP x b F=some (Zgo x b F):=by
 unfold ZcP Zgo;rw [ZeH,A0];cases h1:Y1 x with
 |false=>rfl
 |true=>
  rw [if_pos rfl,Zat b hb,A0];cases h3:ZY b with
  |false=>rfl
  |true=>
   rw [if_pos rfl,if_pos (show true=true/\true=true from ⟨rfl,rfl⟩)];by_cases k1:x.kind=1
   .rw [if_pos (by simpa using k1),if_pos k1,Zd0 _ _ _ hb hF ha,A0];congr 1
    rw [A8];simp
   .rw [if_neg (by simpa using k1),if_neg k1];by_cases k2:x.kind=2
    .rw [if_pos (by simpa using k2),if_pos k2,Zd0 _ _ _ hb hF ha,A0,Zvc]
    .rw [if_neg (by simpa using k2),if_neg k2,Zm5 _ _ hb];rfl
theorem Zbk {r:Zg}(h:YP r=true):r.cond.length<=4/\r.thn.length<=2:=by
 simp only[YP,A3,decide_eq_true_eq]at h;omega
def Zse (r:Zg):Bool:=r.thn.all fun a=>decide (a.kind=1)
def ZiX (r:Zg) (i:Nat) (x:Zl):Bool:=!decide (x.kind=2)||(Y5 x).all (YM (YY r i))
def Z2 (r:Zg):Bool:=YP r&&Q5 (ZiX r) r.cond 0&&Zse r
theorem ZoG (a b:List ByteArray):Zd6 a b=some (a.all (YM b)):=by
 unfold Zd6;rw [Z0 (p:=YM b) (r:=false)]
 .cases a.all (YM b)<;>rfl
 .intro i x _;rw [Xc,A0];cases YM b x<;>simp
theorem Zpv {fin:Unit->Option Bool}{l:List Zu}:forL (σ:=Unit) (fun (_:Nat) (x:Zu) _=>if (x.kind != 1)=true then some (.inr false) else some (.inl ())) fin l 0 ()=if (l.all fun a=>decide (a.kind=1))=true then fin () else some false:=by
 refine Z0 fun i x _=>?_;by_cases h:x.kind=1
 .simp [h]
 .have:(x.kind != 1)=true:=by simpa using h
  simp [this,h]
theorem Zol (r:Zg):Zeg r=some (Zse r):=by
 unfold Zeg Zse;rw [Zpv];cases r.thn.all fun a=>decide (a.kind=1)<;>rfl
theorem Zl6 (r:Zg) (h:ZaL r):Zc1 r=some (Z2 r):=by
 unfold Zc1 Z2;rw [ZeJ r h,A0];cases hr:YP r with
 |false=>simp
 |true=>
  have h4:=(Zbk hr).1;simp only[if_true,A6];rw [Xu (p:=ZiX r) (r:=false),Zpv]
  .unfold Zse;cases Q5 (ZiX r) r.cond 0<;>cases r.thn.all fun a=>decide (a.kind=1)<;>simp
  .intro j x hj;rw [AB,Zcz x (by have:=h.ca x (AH hj);omega),Zek r _ h h4,AO];simp only[A0,ZoG,ZiX];by_cases hk:x.kind=2
   .simp only[hk,beq_self_eq_true,if_true,decide_true,Au,AW];cases (Y5 x).all (YM (YY r j))<;>simp
   .simp [hk]
theorem ZmJ (r:Zg) (h:ZaL r):Zc0 r=some (Z2 r):=by
 unfold Zc0 Z2;rw [ZhC r h,A0,Zol];cases hr:YP r with
 |false=>simp
 |true=>
  have h4:=(Zbk hr).1;simp only[if_true,A6,A0];rw [Xu (p:=ZiX r) (r:=false)]
  .cases Q5 (ZiX r) r.cond 0<;>cases Zse r<;>simp
  .intro j x hj;rw [AB,ZcE x (by have:=h.ca x (AH hj);omega),Zet r _ h h4,AO];simp only[A0,ZiX];by_cases hk:x.kind=2
   .simp only[hk,bne_self_eq_false,AE,if_false,decide_true,Au,AW];rw [Z0 (p:=YM (YY r j)) (r:=.inr false)]
    .cases (Y5 x).all (YM (YY r j))<;>simp
    .intro k v _;rw [Zay,A0];cases YM (YY r j) v<;>simp
   .have:(x.kind != 2)=true:=by simpa using hk
    simp [hk,this]
/- bounds out of the size of an argument -/
section
section
variable {α σ ρ:Type} {body:Nat->α->σ->Option (σ ⊕ ρ)}
theorem Zo0 (I:List α->σ->Prop) (Q:ρ->Prop):∀(l a:List α) (s:σ),I a s->(∀p x s,x∈l->p.length<a.length+l.length->I p s->(∃s',body p.length x s=some (.inl s')/\I (p++[x]) s')\/∃r,body p.length x s=some (.inr r)/\Q r)->
  (∃s',(∀fin:σ->Option ρ,forL body fin l a.length s=fin s')/\I (a++l) s')\/∃r,(∀fin:σ->Option ρ,forL body fin l a.length s=some r)/\Q r
 | [],a,s,h,_=>.inl ⟨s,fun _=>rfl,by simpa using h⟩
 |x::l,a,s,h,hs=>by
  rcases hs a x s yG yG h with ⟨s',e,h'⟩|⟨r,e,h'⟩
  .rcases Zo0 I Q l (a++[x]) s' h' fun p y s m hp hI=>hs p y s (by simp [m]) (by simp at hp ⊢;omega) hI with ⟨s2,e2,h2⟩|⟨r,e2,h2⟩
   .refine .inl ⟨s2,fun fin=>?_,by simpa using h2⟩;rw [Z4 e];simpa using e2 fin
   .refine .inr ⟨r,fun fin=>?_,h2⟩;rw [Z4 e];simpa using e2 fin
  .exact .inr ⟨r,fun fin=>YF e,h'⟩
theorem Zcq (I:List α->σ->Prop) (Q:ρ->Prop) (l:List α) (s:σ) (h:I [] s) (hs:∀p x s,x∈l->p.length<l.length->I p s->(∃s',body p.length x s=some (.inl s')/\I (p++[x]) s')\/∃r,body p.length x s=some (.inr r)/\Q r):
  (∃s',(∀fin:σ->Option ρ,forL body fin l 0 s=fin s')/\I l s')\/∃r,(∀fin:σ->Option ρ,forL body fin l 0 s=some r)/\Q r:=by
 have:=Zo0 I Q l [] s h fun p x s m hp hI=>hs p x s m (by simpa using hp) hI;simpa using this
theorem ZfM (I:List α->σ->Prop) (l:List α) (s:σ) (h:I [] s) (hs:∀p x s,x∈l->p.length<l.length->I p s->∃s',body p.length x s=some (.inl s')/\I (p++[x]) s'):∃s',(∀fin:σ->Option ρ,forL body fin l 0 s=fin s')/\I l s':=by
 rcases Zcq I (fun _=>False) l s h fun p x s m hp hI=>.inl (hs p x s m hp hI) with h|⟨_,_,h⟩
 .exact h
 .exact h.elim
end
def XH (r:Zg):List ByteArray:=r.thn.filterMap fun x=>if x.kind=1\/x.kind=2 then some x.pattern.rel else none
def Yw (r:Zg):List ByteArray:=r.cond.filterMap fun x=>if x.kind=1\/x.kind=2 then some x.pattern.rel else none
theorem Zrh (r:Zg):(XH r).length<=r.thn.length:=At _ _
theorem Zmp (r:Zg):(Yw r).length<=r.cond.length:=At _ _
theorem Zig (r:Zg) (h:r.thn.length<=1048576):QR r=some (ZV (XH r)):=by
 unfold QR;rw [YT (g:=fun x:Zu=>if x.kind=1\/x.kind=2 then some x.pattern.rel else none)]
 .have:=Zrh r;simp only[Aw];show (Yy (XH r)).bind _=_
  rw [Qi _ yE];rfl
 .intro j x s _ hs;simp at hs;by_cases h1:x.kind=1
  .simp only[h1,beq_self_eq_true,if_true];rw [Zj _ yE];rfl
  .by_cases h2:x.kind=2
   .have:((2:Int)==1)=false:=by decide
    simp only[h2,this,AE,if_false,beq_self_eq_true,if_true];rw [Zj _ yE];rfl
   .simp [h1,h2]
theorem ZqB (r:Zg) (h:r.cond.length<=1048576):Zcp r=some (ZV (Yw r)):=by
 unfold Zcp;rw [YT (g:=fun x:Zl=>if x.kind=1\/x.kind=2 then some x.pattern.rel else none)]
 .have:=Zmp r;simp only[Aw];show (Yy (Yw r)).bind _=_
  rw [Qi _ yE];rfl
 .intro j x s _ hs;simp at hs;by_cases h1:x.kind=1
  .simp only[h1,beq_self_eq_true,if_true];rw [Zj _ yE];rfl
  .by_cases h2:x.kind=2
   .have:((2:Int)==1)=false:=by decide
    simp only[h2,this,AE,if_false,beq_self_eq_true,if_true];rw [Zj _ yE];rfl
   .simp [h1,h2]
theorem ZkB {α:Type}(kd:α->Int) (f:α->ByteArray):∀(l:List α) (a:List ByteArray),l.foldl (fun s x=>if kd x=1\/kd x=2 then QO s (f x) else s) a=(l.filterMap fun x=>if kd x=1\/kd x=2 then some (f x) else none).foldl QO a
 | [],_=>rfl
 |x::l,a=>by
  rw [A9,ZkB kd f l];by_cases h:kd x=1\/kd x=2<;>simp [h]
theorem ZiM (r:Zg) (h:r.thn.length<=1048576):Q9 r=some (ZV (XH r)):=by
 unfold Q9;rw [Y9 (f:=fun s (x:Zu)=>if x.kind=1\/x.kind=2 then QO s x.pattern.rel else s) (fun j s=>s.length<=j) yG]
 .congr 1
  exact ZkB (fun x:Zu=>x.kind) (fun x=>x.pattern.rel) r.thn []
 .intro j x s _ _ hl hI;have:=Zen x.pattern.rel s;by_cases h1:x.kind=1
  .simp only[h1,beq_self_eq_true,if_true,true_or];rw [QM _ _ yE];exact ⟨rfl,yE⟩
  .by_cases h2:x.kind=2
   .have:((2:Int)==1)=false:=by decide
    simp only[h2,this,AE,if_false,beq_self_eq_true,if_true,or_true];rw [QM _ _ yE];exact ⟨rfl,yE⟩
   .simp [h1,h2];omega
theorem Zp0 (r:Zg) (h:r.cond.length<=1048576):Zct r=some (ZV (Yw r)):=by
 unfold Zct;rw [Y9 (f:=fun s (x:Zl)=>if x.kind=1\/x.kind=2 then QO s x.pattern.rel else s) (fun j s=>s.length<=j) yG]
 .congr 1
  exact ZkB (fun x:Zl=>x.kind) (fun x=>x.pattern.rel) r.cond []
 .intro j x s _ _ hl hI;have:=Zen x.pattern.rel s;by_cases h1:x.kind=1
  .simp only[h1,beq_self_eq_true,if_true,true_or];rw [QM _ _ yE];exact ⟨rfl,yE⟩
  .by_cases h2:x.kind=2
   .have:((2:Int)==1)=false:=by decide
    simp only[h2,this,AE,if_false,beq_self_eq_true,if_true,or_true];rw [QM _ _ yE];exact ⟨rfl,yE⟩
   .simp [h1,h2];omega
def Zgx (R:List Zg) (x y:ByteArray):Prop:=∃r∈R,x∈XH r/\y∈Yw r
inductive Xy (R:List Zg) (a:ByteArray):ByteArray->Prop
 |one {y:ByteArray}:Zgx R a y->Xy R a y
 |next {x y:ByteArray}:Xy R a x->Zgx R x y->Xy R a y
theorem Xy.step {R:List Zg}{a x y:ByteArray}(hx:x=a\/Xy R a x) (h:Zgx R x y):Xy R a y:=by
 rcases hx with rfl|hx
 .exact .one h
 .exact .next hx h
structure Zaz (R:List Zg):Prop where
 s:∀r∈R,ZaL r
 n:(R.flatMap Yw).length<=1048576
theorem Zha {m:List (ByteArray×Bool)}{k y:ByteArray}:ZaJ (Zf4 m k true) y false=if y=k then true else ZaJ m y false:=by
 unfold ZaJ;induction m with
 |nil=>
  by_cases h:y=k<;>simp [Zf4,ZgG,h]
 |cons p r ih=>
  simp only[Zf4];by_cases h:k=p.1
  .subst h;rw [if_pos rfl];by_cases h2:y=p.1
   .simp [ZgG,h2]
   .simp [ZgG,h2]
  .rw [if_neg h];by_cases h2:y=p.1
   .subst h2;have:¬p.1=k:=fun e=>h e.symm;simp [ZgG,this]
   .simp only[ZgG,if_neg h2];exact ih
def ZcQ (m:List (ByteArray×Bool)) (y:ByteArray):Prop:=ZaJ m y false=true
def Zhn (U:List ByteArray) (m:List (ByteArray×Bool)):Nat:=U.countP fun y=>!ZaJ m y false
theorem Zfw {α:Type}{p q:α->Bool}:∀{l:List α},(∀x∈l,p x=true->q x=true)->∀y∈l,p y=false->q y=true->l.countP p+1<=l.countP q
 |x::l,h,y,hy,h1,h2=>by
  rw [Aa,Aa];have hle:l.countP p<=l.countP q:=List.countP_mono_left fun z mz=>h z (by simp [mz]);have hx:=h x yG;rcases A5.1 hy with rfl|hy
  .simp [h1,h2];omega
  .have ih:=Zfw (p:=p) (q:=q) (l:=l) (fun z mz=>h z (by simp [mz])) y hy h1 h2;cases hp:p x with
   |true=>simp [hx hp];omega
   |false=>cases q x<;>simp<;>omega
structure ZrZ (U:List ByteArray) (P:ByteArray->Prop) (s0 s:List (ByteArray×Bool)×List ByteArray):Prop where
 mono:∀y,ZcQ s0.1 y->ZcQ s.1 y
 fresh:∀y,ZcQ s.1 y->ZcQ s0.1 y\/(P y/\y∈s.2)
 sub:∀y∈s0.2,y∈s.2
 row:∀y∈s.2,y∈s0.2\/ZcQ s.1 y
 cnt:Zhn U s.1+s.2.length<=Zhn U s0.1+s0.2.length
theorem ZrZ.refl (U:List ByteArray) (P:ByteArray->Prop) (s:List (ByteArray×Bool)×List ByteArray):ZrZ U P s s:=⟨fun _ h=>h,fun _ h=>.inl h,fun _ h=>h,fun _ h=>.inl h,AY _⟩
theorem ZrZ.push {U:List ByteArray}{P:ByteArray->Prop}{s0:List (ByteArray×Bool)×List ByteArray}{m:List (ByteArray×Bool)}{row:List ByteArray}(h:ZrZ U P s0 (m,row)) {y:ByteArray}(hy:ZaJ m y false=false) (hU:y∈U) (hP:P y):ZrZ U P s0 (Zf4 m y true,row++[y]):=by
 have hS:∀z,ZcQ (Zf4 m y true) z↔z=y\/ZcQ m z:=fun z=>by
  unfold ZcQ;rw [Zha];by_cases e:z=y<;>simp [e]
 refine ⟨fun z hz=>(hS z).2 (.inr (h.mono z hz)),fun z hz=>?_,fun z hz=>A4.2 (.inl (h.sub z hz)),fun z hz=>?_,?_⟩
 .rcases (hS z).1 hz with rfl|hz
  .exact .inr ⟨hP,yG⟩
  .exact (h.fresh z hz).imp id fun ⟨a,b⟩=>⟨a,A4.2 (.inl b)⟩
 .rcases A4.1 hz with hz|hz
  .exact (h.row z hz).imp id fun hh=>(hS z).2 (.inr hh)
  .exact .inr ((hS z).2 (.inl (by simpa using hz)))
 .have h1:=h.cnt;have h2:Zhn U (Zf4 m y true)+1<=Zhn U m:=Zfw (fun z _ hz=>by
   rw [Zha]at hz;by_cases e:z=y
   .simp [e]at hz
   .simpa [e]using hz) y hU (by rw [Zha];simp) (by simp [hy])
  show _+(row++[y]).length<=_
  rw [AF];simp only at h1 ⊢;simp;omega
theorem YV {σ ρ:Type}{body:σ->Option (σ ⊕ ρ)}{s s':σ}(h:body s=some (.inl s')):iter body s=iter body s':=by rw [ZjL,h]
theorem YI {σ ρ:Type}{body:σ->Option (σ ⊕ ρ)}{s:σ}{r:ρ}(h:body s=some (.inr r)):iter body s=some r:=by rw [ZjL,h]
theorem Zoj {R:List Zg}(hR:Zaz R) (a:ByteArray):∃m,Zeo R a=some m/\∀y,ZcQ m y↔Xy R a y:=by
 have hU:∀r∈R,∀y∈Yw r,y∈R.flatMap Yw:=fun r mr y my=>AG.2 ⟨r,mr,my⟩;have key:∀(n:Nat) (m:List (ByteArray×Bool)) (row:List ByteArray),Zhn (R.flatMap Yw) m+row.length<=n->n<=1048577->(∀y,ZcQ m y->Xy R a y)->(∀y∈row,y=a\/ZcQ m y)->(∀z,(z=a\/ZcQ m z)->z∈row\/∀y,Zgx R z y->ZcQ m y)->
   ∃m',iter (σ:=(List (ByteArray×Bool))×(List ByteArray)) (fun s=>
   match s with
   |(mp_42,row_43)=>
   if (decide (0<(row_43.length:Int)))=true then
    chk (0<=0/\0<(row_43.length:Int)) <|
    (row_43[(Ak 0)]?).bind fun C=>
    chk (0<=1/\1<=(row_43.length:Int)) <|
    forL (σ:=(List (ByteArray×Bool))×(List ByteArray))
     (fun (D:Nat) (d:Zg) s=>
      match s with
      |(mp_57,row_58)=>
      (QR d).bind fun j=>
      (Xv j C).bind fun k=>
      if k=true then
       (Zcp d).bind fun l=>
       forL (σ:=(List (ByteArray×Bool))×(List ByteArray))
        (fun (t:Nat) (b:ByteArray) s=>
         match s with
         |(mp_80,row_81)=>
         if (ZaJ mp_80 b false)=true then
          some (.inl (mp_80,row_81))
         else
          chk (row_81.length+1<=1073741824) <|
          some (.inl ((Zf4 mp_80 b true),(row_81++[b]))))
        (fun s=>
         match s with
         |(mp_80,row_81)=>
         some (.inl (mp_80,row_81)))
        l 0 (mp_57,row_58)
      else
       some (.inl (mp_57,row_58)))
     (fun s=>
      match s with
      |(mp_57,row_58)=>
      some (.inl (mp_57,row_58)))
     R 0 (mp_42,(List.drop (Ak 1) row_43))
   else
    some (.inr mp_42)) (m,row)=some m'/\∀y,ZcQ m' y↔Xy R a y:=by
  intro n;induction n with
  |zero=>
   intro m row hn _ h1 h2 h3;have hr:row=[]:=Ac yE;subst hr;refine ⟨m,by rw [ZjL];rfl,fun y=>⟨h1 y,fun hy=>?_⟩⟩;induction hy with
   |one h=>exact ((h3 _ (.inl rfl)).resolve_left yG) _ h
   |next _ h ih=>exact ((h3 _ (.inr ih)).resolve_left yG) _ h
  |succ n ih=>
   intro m row hn hN h1 h2 h3;cases row with
   |nil=>
    refine ⟨m,by rw [ZjL];rfl,fun y=>⟨h1 y,fun hy=>?_⟩⟩;induction hy with
    |one h=>exact ((h3 _ (.inl rfl)).resolve_left yG) _ h
    |next _ h ih=>exact ((h3 _ (.inr ih)).resolve_left yG) _ h
   |cons x c=>
    have hx:x=a\/Xy R a x:=(h2 x yG).imp id (h1 x);have hn':Zhn (R.flatMap Yw) m+c.length<=n:=by simp at hn;omega
    obtain ⟨s',e,hg,hd⟩:=ZfM (ρ:=((List (ByteArray×Bool))×(List ByteArray)) ⊕ (List (ByteArray×Bool))) (body:=fun (D:Nat) (d:Zg) (s:(List (ByteArray×Bool))×(List ByteArray))=>
      match s with
      |(mp_57,row_58)=>
      (QR d).bind fun j=>
      (Xv j x).bind fun k=>
      if k=true then
       (Zcp d).bind fun l=>
       forL (σ:=(List (ByteArray×Bool))×(List ByteArray))
        (fun (t:Nat) (b:ByteArray) s=>
         match s with
         |(mp_80,row_81)=>
         if (ZaJ mp_80 b false)=true then
          some (.inl (mp_80,row_81))
         else
          chk (row_81.length+1<=1073741824) <|
          some (.inl ((Zf4 mp_80 b true),(row_81++[b]))))
        (fun s=>
         match s with
         |(mp_80,row_81)=>
         some (.inl (mp_80,row_81)))
        l 0 (mp_57,row_58)
      else
       some (.inl (mp_57,row_58))) (fun o s=>ZrZ (R.flatMap Yw) (Xy R a) (m,c) s/\∀r∈o,x∈XH r->∀y∈Yw r,ZcQ s.1 y) R (m,c) ⟨ZrZ.refl _ _ _,yG⟩ fun p r s mr hp hI=>by
     obtain ⟨mp,u⟩:=s;obtain ⟨hg,hd⟩:=hI;have v:=hR.s r mr;show ∃s',(QR r).bind _=_/\_
     rw [Zig r v.tl];simp only[A0];rw [Zay];simp only[A0];by_cases hw:x∈XH r
     .have hh:YM (ZV (XH r)) x=true:=by rw [Qo,ZX];exact hw
      rw [if_pos hh,ZqB r v.cl];simp only[A0];obtain ⟨s2,e2,E,w⟩:=ZfM (ρ:=((List (ByteArray×Bool))×(List ByteArray)) ⊕ (((List (ByteArray×Bool))×(List ByteArray)) ⊕ (List (ByteArray×Bool)))) (body:=fun (t:Nat) (b:ByteArray) (s:(List (ByteArray×Bool))×(List ByteArray))=>
         match s with
         |(mp_80,row_81)=>
         if (ZaJ mp_80 b false)=true then
          some (.inl (mp_80,row_81))
         else
          chk (row_81.length+1<=1073741824) <|
          some (.inl ((Zf4 mp_80 b true),(row_81++[b])))) (fun o s=>ZrZ (R.flatMap Yw) (Xy R a) (m,c) s/\(∀y,ZcQ mp y->ZcQ s.1 y)/\∀y∈o,ZcQ s.1 y) (ZV (Yw r)) (mp,u) ⟨hg,fun _ h=>h,yG⟩ fun p y s my hp hI=>by
       obtain ⟨m2,g⟩:=s;obtain ⟨g2,g3,g4⟩:=hI;have A:y∈Yw r:=ZX.1 my;by_cases hs:ZaJ m2 y false=true
       .refine ⟨(m2,g),by simp only[hs,if_true],g2,g3,fun z mz=>?_⟩;rcases A4.1 mz with mz|mz
        .exact g4 z mz
        .rw [AM.1 mz];exact hs
       .have hf:ZaJ m2 y false=false:=by simpa using hs
        have hc:=g2.cnt;have hG:=g2.push hf (hU r mr y A) (Xy.step hx ⟨r,mr,hw,A⟩);have f:∀z,ZcQ m2 z->ZcQ (Zf4 m2 y true) z:=fun z hz=>by
         unfold ZcQ at *;rw [Zha];by_cases e:z=y<;>simp [e,hz]
        refine ⟨(Zf4 m2 y true,g++[y]),?_,hG,fun z hz=>f z (g3 z hz),fun z mz=>?_⟩
        .simp only[hf,AE,if_false];rw [Zj _ (by simp only at hc;omega)]
        .rcases A4.1 mz with mz|mz
         .exact f z (g4 z mz)
         .rw [AM.1 mz];unfold ZcQ;rw [Zha];simp
      refine ⟨s2,by rw [e2],E,fun q mq hq y my=>?_⟩;rcases A4.1 mq with mq|mq
      .exact w.1 y (hd q mq hq y my)
      .rw [AM.1 mq]at my;exact w.2 y (ZX.2 my)
     .have hh:YM (ZV (XH r)) x=false:=by
       cases hq:YM (ZV (XH r)) x with
       |false=>rfl
       |true=>rw [Qo,ZX]at hq;exact absurd hq hw
      refine ⟨(mp,u),by rw [if_neg (by rw [hh];simp)],hg,fun q mq hq=>?_⟩;rcases A4.1 mq with mq|mq
      .exact hd q mq hq
      .rw [AM.1 mq]at hq;exact absurd hq hw
    obtain ⟨m',i⟩:=s';obtain ⟨m2,r1,r2⟩:=ih m' i (by have:=hg.cnt;simp only at this;omega) yE
     (fun y hy=>(hg.fresh y hy).elim (h1 y) fun h=>h.1)
     (fun y hy=>by
      rcases hg.row y hy with h|h
      .exact (h2 y (by simp [show y∈c from h])).imp id (hg.mono y)
      .exact .inr h)
     (fun z hz=>by
      have B:(z=a\/ZcQ m z)->z∈i\/∀y,Zgx R z y->ZcQ m' y:=fun hz=>by
       rcases h3 z hz with h|h
       .rcases A5.1 h with rfl|h
        .exact .inr fun y ⟨r,mr,hw,hy⟩=>hd r mr hw y hy
        .exact .inl (hg.sub z h)
       .exact .inr fun y hy=>hg.mono y (h y hy)
      rcases hz with hz|hz
      .exact B (.inl hz)
      .rcases hg.fresh z hz with h|⟨_,h⟩
       .exact B (.inr h)
       .exact .inl h)
    refine ⟨m2,(YV ?_).trans r1,r2⟩;show (if decide (0<(((x::c).length:Nat):Int))=true then _ else _)=_
    rw [if_pos (decide_eq_true (by simp only[A7];omega)),Zj _ (by simp only[A7];omega)];show chk _ (forL _ _ R 0 (m,c))=_
    rw [Zj _ (by simp only[A7];omega)];exact e _
 unfold Zeo;refine key (Zhn (R.flatMap Yw) []+1) [] [a] yG ?_ (fun y hy=>by simp [ZcQ,ZaJ,ZgG]at hy) (fun y hy=>.inl (by simpa using hy)) (fun z hz=>.inl ?_)
 .have:=hR.n;have h2:Zhn (R.flatMap Yw) []<=(R.flatMap Yw).length:=Ad;omega
 .rcases hz with rfl|hz
  .simp
  .simp [ZcQ,ZaJ,ZgG]at hz
def Zkz (U row:List ByteArray):Nat:=U.countP fun y=>!YM row y
theorem ZpO {row:List ByteArray}{y z:ByteArray}:YM (row++[y]) z=true↔YM row z=true\/z=y:=by
 rw [Qo,Qo,A4,AM]
theorem ZsJ {U row:List ByteArray}{y:ByteArray}(hU:y∈U) (hy:YM row y=false):Zkz U (row++[y])+1<=Zkz U row:=
 Zfw (fun z _ hz=>by
  cases h:YM row z with
  |false=>rfl
  |true=>have:=ZpO (y:=y).2 (.inl h);rw [this]at hz;simp at hz) y hU (by have:=ZpO (row:=row) (y:=y) (z:=y).2 (.inr rfl);rw [this];rfl) (by rw [hy];rfl)
open Classical
theorem ZlK {R:List Zg}(hR:Zaz R) (a b:ByteArray):Zb2 R a b=some (decide (Xy R a b)):=by
 have hU:∀r∈R,∀y∈Yw r,y∈R.flatMap Yw:=fun r mr y my=>AG.2 ⟨r,mr,my⟩;unfold Zb2;have key:∀(n u:Nat) (row:List ByteArray),Zkz (R.flatMap Yw) row+row.length<=n+u->n+u<=1048577->u<=row.length->(∀y∈row,y=a\/Xy R a y)->a∈row->(∀i x,i<u->row[i]?=some x->∀y,Zgx R x y->y∈row/\y≠b)->
   iter (σ:=(List ByteArray)×Int)
  (fun s=>
   match s with
   |(row_55,u_56)=>
   if (decide (u_56<(row_55.length:Int)))=true then
    forL (σ:=(List ByteArray))
     (fun (J:Nat) (k:Zg) d=>
      (Q9 k).bind fun v=>
      chk (0<=u_56/\u_56<(d.length:Int)) <|
      (d[(Ak u_56)]?).bind fun w=>
      (ZW v w).bind fun A=>
      if A=true then
       (Zct k).bind fun l=>
       (ZW l b).bind fun B=>
       if B=true then
        some (.inr (.inr true))
       else
        forL (σ:=(List ByteArray))
         (fun (o:Nat) (f:ByteArray) c=>
          (ZW c f).bind fun j=>
          if j=true then
           some (.inl c)
          else
           chk (c.length+1<=1073741824) <|
           some (.inl (c++[f])))
         (fun c=>
          some (.inl c))
         l 0 d
      else
       some (.inl d))
     (fun d=>
      some (.inl (d,(i64.wrap (u_56+1)))))
     R 0 row_55
   else
    some (.inr false))
  (row,(u:Int))=some (decide (Xy R a b)):=by
  intro n;have fin:∀(u:Nat) (row:List ByteArray),u=row.length->a∈row->(∀i x,i<u->row[i]?=some x->∀y,Zgx R x y->y∈row/\y≠b)->¬Xy R a b:=fun u row hu ha hc hb=>by
   have all:∀y,Xy R a y->y∈row/\y≠b:=fun y hy=>by
    have one:∀x,x∈row->∀y,Zgx R x y->y∈row/\y≠b:=fun x mx y h=>by
     obtain ⟨i,hi⟩:=List.mem_iff_getElem?.1 mx;exact hc i x (by rw [hu];exact (AN.1 hi).1) hi y h
    induction hy with
    |one h=>exact one a ha _ h
    |next _ h ih=>exact one _ ih.1 _ h
   exact (all b hb).2 rfl
  have t:∀(u:Nat) (row:List ByteArray),u=row.length->a∈row->(∀i x,i<u->row[i]?=some x->∀y,Zgx R x y->y∈row/\y≠b)->decide (Xy R a b)=false:=fun u row h1 h2 h3=>decide_eq_false (fin u row h1 h2 h3);induction n with
  |zero=>
   intro u row hn _ hu h1 ha hc;have C:u=row.length:=by omega
   rw [t u row C ha hc];refine YI ?_;show (if decide ((u:Int)<(row.length:Int))=true then _ else _)=_
   rw [if_neg (by rw [decide_eq_true_iff];omega)]
  |succ n ih=>
   intro u row hn hN hu h1 ha hc;by_cases D:u<row.length
   .have hx:row[u]?=some row[u]:=AC D;generalize row[u]=x at hx
    have F:x=a\/Xy R a x:=h1 x (AH hx);rcases Zcq (ρ:=((List ByteArray)×Int) ⊕ Bool) (body:=fun (J:Nat) (k:Zg) (d:List ByteArray)=>
      (Q9 k).bind fun v=>
      chk (0<=(u:Int)/\(u:Int)<(d.length:Int)) <|
      (d[(Ak (u:Int))]?).bind fun w=>
      (ZW v w).bind fun A=>
      if A=true then
       (Zct k).bind fun l=>
       (ZW l b).bind fun B=>
       if B=true then
        some (.inr (.inr true))
       else
        forL (σ:=(List ByteArray))
         (fun (o:Nat) (f:ByteArray) c=>
          (ZW c f).bind fun j=>
          if j=true then
           some (.inl c)
          else
           chk (c.length+1<=1073741824) <|
           some (.inl (c++[f])))
         (fun c=>
          some (.inl c))
         l 0 d
      else
       some (.inl d)) (fun E r2=>(∃q,r2=row++q)/\Zkz (R.flatMap Yw) r2+r2.length<=n+1+u/\(∀y∈r2,y=a\/Xy R a y)/\∀r∈E,x∈XH r->∀y∈Yw r,y∈r2/\y≠b) (fun z=>z=.inr true/\Xy R a b) R row ⟨⟨[],yG⟩,hn,h1,yG⟩ fun p r r2 mr hp hI=>by
     obtain ⟨⟨q,rfl⟩,g1,g2,g3⟩:=hI;have G:=hR.s r mr;have K:(row++q)[u]?=some x:=by rw [Ae D];exact hx
     rw [ZiM r G.tl,A0,Zj _ (by simp;omega),AO,K,A0,Xc,A0];by_cases hw:x∈XH r
     .have hh:YM (ZV (XH r)) x=true:=by rw [Qo,ZX];exact hw
      rw [if_pos hh,Zp0 r G.cl,A0,Xc,A0];by_cases hb:b∈Yw r
      .have hh:YM (ZV (Yw r)) b=true:=by rw [Qo,ZX];exact hb
       rw [if_pos hh];exact .inr ⟨_,rfl,rfl,Xy.step F ⟨r,mr,hw,hb⟩⟩
      .have hh:¬YM (ZV (Yw r)) b=true:=by rw [Qo,ZX];exact hb
       rw [if_neg hh];obtain ⟨r3,e3,⟨q3,H⟩,k1,k2,k3⟩:=ZfM (ρ:=(List ByteArray) ⊕ (((List ByteArray)×Int) ⊕ Bool)) (body:=fun (o:Nat) (f:ByteArray) (c:List ByteArray)=>
          (ZW c f).bind fun j=>
          if j=true then
           some (.inl c)
          else
           chk (c.length+1<=1073741824) <|
           some (.inl (c++[f]))) (fun E r3=>(∃q',r3=(row++q)++q')/\Zkz (R.flatMap Yw) r3+r3.length<=n+1+u/\(∀y∈r3,y=a\/Xy R a y)/\∀y∈E,y∈r3) (ZV (Yw r)) (row++q) ⟨⟨[],yG⟩,g1,g2,yG⟩ fun p y r3 my hp hI=>by
        obtain ⟨⟨q',rfl⟩,k1,k2,k3⟩:=hI;have I:y∈Yw r:=ZX.1 my;rw [Xc,A0];by_cases hh:YM (row++q++q') y=true
        .rw [if_pos hh];refine ⟨_,rfl,⟨q',rfl⟩,k1,k2,fun z mz=>?_⟩;rcases A4.1 mz with mz|mz
         .exact k3 z mz
         .rw [AM.1 mz];exact Qo.1 hh
        .have hf:YM (row++q++q') y=false:=by simpa using hh
         have hab:=ZsJ (hU r mr y I) hf;rw [if_neg hh,Zj _ yE];refine ⟨_,rfl,⟨q'++[y],yG⟩,by rw [AF];simp only[AZ];omega,fun z mz=>?_,fun z mz=>?_⟩
         .rcases A4.1 mz with mz|mz
          .exact k2 z mz
          .rw [AM.1 mz];exact .inr (Xy.step F ⟨r,mr,hw,I⟩)
         .rcases A4.1 mz with mz|mz
          .exact A4.2 (.inl (k3 z mz))
          .exact A4.2 (.inr mz)
       refine .inl ⟨r3,e3 _,⟨q++q3,by rw [H];simp⟩,k1,k2,fun r' g m y my=>?_⟩;rcases A4.1 g with g|g
       .have:=g3 r' g m y my;exact ⟨by rw [H];exact A4.2 (.inl this.1),this.2⟩
       .rw [AM.1 g]at my;exact ⟨k3 y (ZX.2 my),fun e=>hb (e ▸ my)⟩
     .have hh:¬YM (ZV (XH r)) x=true:=by rw [Qo,ZX];exact hw
      rw [if_neg hh];refine .inl ⟨_,rfl,⟨q,rfl⟩,g1,g2,fun r' g m=>?_⟩;rcases A4.1 g with g|g
      .exact g3 r' g m
      .rw [AM.1 g]at m;exact absurd m hw
    with ⟨r2,e,⟨q,rfl⟩,k1,k2,k3⟩|⟨z,e,rfl,hb⟩
    .refine (YV ?_).trans (ih (u+1) (row++q) yE yE (by rw [AF];omega) k2 (A4.2 (.inl ha)) fun i y hi hy z hz=>?_)
     .show (if decide ((u:Int)<(row.length:Int))=true then _ else _)=_
      rw [if_pos (decide_eq_true yE),e,ZeT yE yE];rfl
     .by_cases L:i<u
      .rw [Ae yE]at hy;have:=hc i y L hy z hz;exact ⟨A4.2 (.inl this.1),this.2⟩
      .have:i=u:=by omega
       subst this;rw [Ae D,hx]at hy;obtain rfl:=AQ hy;obtain ⟨r,mr,hw,hr⟩:=hz;exact k3 r mr hw z hr
    .rw [decide_eq_true hb];refine YI ?_;show (if decide ((u:Int)<(row.length:Int))=true then _ else _)=_
     rw [if_pos (decide_eq_true yE),e]
   .have C:u=row.length:=by omega
    rw [t u row C ha hc];refine YI ?_;show (if decide ((u:Int)<(row.length:Int))=true then _ else _)=_
    rw [if_neg (by rw [decide_eq_true_iff];omega)]
 refine key 1048577 0 [a] ?_ yE yG (fun y hy=>.inl (by simpa using hy)) yG (fun i x hi=>by omega);have h1:=hR.n;have h2:Zkz (R.flatMap Yw) [a]<=(R.flatMap Yw).length:=Ad;simp only[AZ];omega
end
section
theorem Zvn (l:List Zg) (n:ByteArray):∃z,Zbd l n=some z:=by
 unfold Zbd;rcases Zcq (ρ:=Int) (body:=fun (i4:Nat) (x5:Zg) (_:Unit)=>
   if (sEq x5.name n)=true then
    some (.inr (i4:Int))
   else
    some (.inl ())) (fun _ _=>True) (fun _=>True) l () trivial (fun p x s mx hp _=>by
  cases h:sEq x.name n with
  |true=>exact .inr ⟨_,by rw [if_pos rfl],trivial⟩
  |false=>exact .inl ⟨(),by rw [if_neg yG],trivial⟩) with ⟨s,e,_⟩|⟨z,e,_⟩
 .exact ⟨-1,e _⟩
 .exact ⟨z,e _⟩
def Zly (l:List Zg) (n:ByteArray):Int:=(Zbd l n).getD 0
theorem Zii (l:List Zg) (n:ByteArray):Zbd l n=some (Zly l n):=by
 obtain ⟨z,h⟩:=Zvn l n;unfold Zly;rw [h];rfl
theorem Zov (l:List Zg) (n:ByteArray):Zga l n=some (Zly l n):=Zii l n
def Zg6 (R:List Zg) (j:Nat) (r:Zg):Bool:=YP r&&(Zly R r.name==(j:Int))
def YW (R:List Zg):Bool:=decide (R.length<=6)&&Q5 (Zg6 R) R 0
theorem Zn9 {R:List Zg}(h:∀r∈R,ZaL r):Zd7 R=some (YW R):=by
 unfold Zd7 YW;by_cases h6:R.length<=6
 .rw [if_neg (by simp;omega),decide_eq_true h6,A6,Xu (p:=Zg6 R) (r:=false)]
  .cases Q5 (Zg6 R) R 0<;>rfl
  .intro j r hj;rw [ZhC r (h r (AH hj)),A0,Zii];unfold Zg6;simp only[A0,AB];cases YP r with
   |false=>rfl
   |true=>
    by_cases hf:Zly R r.name=(j:Int)
    .simp [hf]
    .have e:(Zly R r.name==(j:Int))=false:=by simpa using hf
     simp [e,hf]
 .rw [if_pos (by simp;omega),decide_eq_false h6];rfl
theorem Zoq {R:List Zg}(h:∀r∈R,ZaL r):Zd4 R=some (YW R):=by
 unfold Zd4 YW;rw [Xu (p:=Zg6 R) (r:=false)]
 .have:decide ((R.length:Int)<=6)=decide (R.length<=6):=by rw [A8];simp;omega
  rw [this];cases Q5 (Zg6 R) R 0<;>simp
 .intro j r hj;rw [ZeJ r (h r (AH hj)),A0,Zov];unfold Zg6;simp only[A0,AB];cases YP r with
  |false=>rfl
  |true=>
   by_cases hf:Zly R r.name=(j:Int)
   .simp [hf]
   .have e:(Zly R r.name==(j:Int))=false:=by simpa using hf
    simp [e,hf]
open Classical
def Zkn (R:List Zg) (rel w:ByteArray):Bool:=!sEq w rel&&!decide (Xy R rel w)
def ZgW (R:List Zg) (r:Zg) (x:Zl):Bool:=!(x.kind==2)||(ZV (XH r)).all (Zkn R x.pattern.rel)
def Xo (R:List Zg) (r:Zg):Bool:=Z2 r&&r.cond.all (ZgW R r)
theorem Zgy {R:List Zg}(hR:Zaz R):ZbT R=some (YW R&&R.all (Xo R)):=by
 unfold ZbT;rw [Zn9 hR.s,A0];cases YW R with
 |false=>rfl
 |true=>
  rw [if_pos rfl,Z0 (p:=Xo R) (r:=false)]
  .cases R.all (Xo R)<;>rfl
  .intro i r mr;have a:=hR.s r mr;rw [ZmJ r a,A0];unfold Xo;cases Z2 r with
   |false=>rfl
   |true=>
    rw [if_pos rfl,Z0 (p:=ZgW R r) (r:=.inr false)]
    .cases r.cond.all (ZgW R r)<;>rfl
    .intro i x mx;unfold ZgW;by_cases hk:x.kind=2
     .obtain ⟨m,e,hm⟩:=Zoj hR x.pattern.rel;rw [if_neg (by simp [hk]),e,A0,Zig r a.tl,A0,Z0 (p:=Zkn R x.pattern.rel) (r:=.inr (.inr false))]
      .rw [show (!(x.kind==2))=false by simp [hk],AW];cases (ZV (XH r)).all (Zkn R x.pattern.rel)<;>rfl
      .intro i w mw;unfold Zkn;have:ZaJ m w false=decide (Xy R x.pattern.rel w):=by
        rw [A8,decide_eq_true_iff];exact hm w
       rw [this];cases sEq w x.pattern.rel<;>cases decide (Xy R x.pattern.rel w)<;>rfl
     .rw [if_pos (by simp [hk]),show (!(x.kind==2))=true by simp [hk]];rfl
theorem ZvC {α ρ:Type}{r:ρ}:∀(l:List α),forL (σ:=Unit) (fun (_:Nat) (_:α) _=>some (.inr r)) (fun _=>some r) l 0 ()=some r
 | []=>rfl
 |_::_=>rfl
theorem Zw1 (x y:ByteArray):sEq x y=sEq y x:=by
 rw [A8,ZQ,ZQ];exact eq_comm
theorem ZgD {R:List Zg}(hR:Zaz R):Zb0 R=some (YW R&&R.all (Xo R)):=by
 unfold Zb0;rw [Z0 (p:=Xo R) (r:=false)]
 .rw [Zoq hR.s,A0];cases R.all (Xo R)<;>simp
 .intro i r mr;have a:=hR.s r mr;rw [Zl6 r a,A0];unfold Xo;cases Z2 r with
  |false=>rfl
  |true=>
   rw [if_pos rfl,ZiM r a.tl,A0,Z0 (p:=ZgW R r) (r:=.inr false)]
   .cases r.cond.all (ZgW R r)<;>rfl
   .intro i x mx;unfold ZgW;by_cases hk:x.kind=2
    .rw [Z0 (p:=Zkn R x.pattern.rel) (r:=.inr (.inr false))]
     .rw [show (!(x.kind==2))=false by simp [hk],AW];cases (ZV (XH r)).all (Zkn R x.pattern.rel)<;>rfl
     .intro i w mw;rw [if_pos (by simp [hk]),ZlK hR,Zw1];unfold Zkn;cases sEq w x.pattern.rel<;>cases decide (Xy R x.pattern.rel w)<;>rfl
    .have hf:(x.kind==2)=false:=by simp [hk]
     simp only[hf,AE,if_false];rw [ZvC];rfl
end
section
open Classical
theorem ZLC (a b:Zc):Zm2 a b=some (decide (a=b)):=Zcv a b
def ZdT (F:List Zc) (i:Nat) (x:Zc):Bool:=Y3 x&&(if i=0 then true else match F[i-1]? with|some y=>decide (ZeE y x<0)|none=>true)
def Yj (F:List Zc):Bool:=decide (F.length<=24)&&Q5 (ZdT F) F 0
theorem ZnL {α:Type}{p:Nat->α->Bool}{q:α->Bool}(h:∀i x,p i x=true->q x=true):∀{l:List α}{i:Nat},Q5 p l i=true->∀x∈l,q x=true
 | [],_,_=>by simp
 |y::l,i,ha=>by
  simp only[Q5,A3]at ha;intro x mx;rcases A5.1 mx with rfl|mx
  .exact h i _ ha.1
  .exact ZnL h ha.2 x mx
theorem Zc7 {F:List Zc}(h:Yj F=true):F.length<=24/\∀f∈F,Y3 f=true:=by
 unfold Yj at h;rw [A3,decide_eq_true_iff]at h;refine ⟨h.1,ZnL (fun i x hx=>?_) h.2⟩;unfold ZdT at hx;rw [A3]at hx;exact hx.1
theorem Y8 {f:Zc}(h:Y3 f=true):f.args.length<=3:=by
 unfold Y3 at h;simp only[A3,decide_eq_true_iff]at h;exact h.1.2
theorem Zpo {F:List Zc}(hl:F.length<=1048576) {i:Nat}{x:Zc}(hx:F[i]?=some x):
  (if Y3 x=true then (if (decide (0<(i:Int)))=true then (atI F (i64.wrap ((i:Int)-1))).bind fun a=>(some (ZeE a x)).bind fun b=>if (decide (0<=b))=true then some (.inr false) else some (.inl ()) else some (.inl ())) else some (.inr false):Option (Unit ⊕ Bool))
   = some (bif ZdT F i x then .inl () else .inr false):=by
 have hi:=(AN.1 hx).1;unfold ZdT;cases Y3 x with
 |false=>rfl
 |true=>
  rw [if_pos rfl];by_cases h0:i=0
  .subst h0;rw [if_neg yG];simp
  .have hg:F[i-1]?=some F[i-1]:=AC yE;rw [if_pos (by simp;omega),show (i:Int)-1=((i-1:Nat):Int) by omega,ZeV yE yE,Za1,hg,A0,A0,if_neg h0];by_cases hc:ZeE F[i-1] x<0
   .rw [if_neg (by simpa using hc)];simp [hc]
   .rw [if_pos (by simpa using hc)];simp [hc]
theorem Zin (F:List Zc):Zei F=some (Yj F):=by
 unfold Zei Yj;by_cases h:F.length<=24
 .rw [if_neg (by simp;omega),decide_eq_true h,Xu (p:=ZdT F) (r:=false)]
  .cases Q5 (ZdT F) F 0<;>rfl
  .intro j x hx;rw [AB,Zlu,A0];simp only[ZeU];exact Zpo yE hx
 .rw [if_pos (by simp;omega),decide_eq_false h];rfl
theorem Zfm (F:List Zc) (hl:F.length<=1048576):Zcb F=some (Yj F):=by
 unfold Zcb Yj;rw [Xu (p:=ZdT F) (r:=false)]
 .have:decide ((F.length:Int)<=24)=decide (F.length<=24):=by rw [A8];simp;omega
  rw [this];cases Q5 (ZdT F) F 0<;>simp
 .intro j x hx;rw [AB,Zli,A0];simp only[ZeP];exact Zpo hl hx
theorem Zea (l:List Zc) (hl:l.length<=1048576) (h:∀f∈l,f.args.length<=1048576):Zad l=some l:=by
 unfold Zad;rw [ZhK (g:=fun y=>y)]
 .simp
 .intro j y s my hs;rw [YN y (h y my),A0,Zj _ (by simp at hs;omega)]
theorem Zfd (l:List Zc) (hl:l.length<=1048576) (h:∀f∈l,f.args.length<=1048576):Zbg l=some l:=by
 unfold Zbg;rw [ZhK (g:=fun y=>y)]
 .simp
 .intro j y s my hs;rw [Xs y (h y my),A0,Zj _ (by simp at hs;omega)]
structure ZvM (F:List Zc) (t:Zq):Prop where
 bind:t.binding.length<=6
 len:t.facts.length<=4
 args:∀f∈t.facts,f.args.length<=3
theorem ZmI.s {p:List Zl}{F:List Zc}{t:Zq}(h:ZmI p F t) (hp:p.length<=4) (hF:∀f∈F,f.args.length<=3):ZvM F t:=
 ⟨QE h.bind,by have:=h.len;omega,fun f mf=>hF f (h.sub f mf)⟩
theorem ZpE {ρ:Type}{x:Zl}{F:List Zc}{body:Nat->Zq->List Zq->Option (List Zq ⊕ ρ)}{fin:List Zq->Option ρ}(hF:F.length<=24) (ts:List Zq) (hts:ts.length<=331776)
  (hb:∀i t row,t∈ts->row.length<=10000000->body i t row=some (.inl (row++QD x F t))):forL body fin ts 0 []=fin (ZfE x F ts):=by
 have a:ZfE x F []=[]:=rfl;rw [<-a,ZaC (fun p=>ZfE x F p) ts];intro p t q e;have hl:=ZjU x F hF p;have hp:p.length<=ts.length:=by rw [e];simp
 rw [hb _ _ _ (by rw [e];simp) yE];unfold ZfE;rw [Al];simp
theorem Zfr (l:List Zl) (F:List Zc) (hl:l.length<=4) (hF:F.length<=24) (hA:∀f∈F,f.args.length<=3):Zao l F=some (Zz l F):=by
 unfold Zao;have h0:Zz [] F=[({facts:=[],binding:=[]}:Zq)]:=rfl;rw [<-h0,ZaC (fun p=>Zz p F) l];intro p x q e;have hpl:p.length+(q.length+1)=l.length:=by rw [e,AF,A7]
 rw [Zaw];refine ZpE (fin:=fun r=>(some (Sum.inl r):Option (List Zq ⊕ List Zq))) hF (Zz p F) (Q7 F hF p yE) (fun i t row mt hr=>?_);have ht:=(Zbw F p t mt).s yE hA;unfold QD;by_cases hk:x.kind=1
 .rw [if_neg (by simpa using hk),if_pos hk,YT (g:=fun f=>(XL x.pattern f t.binding).map fun b=>({facts:=t.facts++[f],binding:=b}:Zq))];intro j f s mf hs;rw [ZbF,A0,Zgu];cases hm:XL x.pattern f t.binding with
  |none=>simp
  |some b=>
   simp only[BK,if_true];rw [Zea _ (by have:=ht.len;omega) (fun g mg=>by have:=ht.args g mg;omega),A0,YN f (by have:=hA f mf;omega),A0,Zj _ (by have:=ht.len;omega),Zj _ yE];rfl
 .rw [if_pos (by simpa using hk),if_neg hk,ZhL _ _ _ yE (fun f mf=>by have:=hA f mf;omega),A0];split
  .rw [Zj _ yE]
  .simp
theorem Zta {F:List Zc}{t:Zq}(ht:ZvM F t):ZgP t=some t:=by
 unfold ZgP ZaS;rw [Zfd _ (by have:=ht.len;omega) (fun g mg=>by have:=ht.args g mg;omega),A0,Zj _ (by have:=ht.bind;omega)];rfl
theorem Zrm (ts:List Zq) (x:Zl) (F:List Zc) (a:ts.length<=331776) (hF:F.length<=24) (hA:∀f∈F,f.args.length<=3) (ht:∀t∈ts,ZvM F t):Zhz ts x F=some (ZfE x F ts):=by
 unfold Zhz;refine ZpE (fin:=fun r=>some r) hF ts a (fun i t row mt hr=>?_);have ht:=ht t mt;have htb:=ht.bind;unfold QD;by_cases hk:x.kind=1
 .rw [if_neg (by simpa using hk),if_pos hk,YT (g:=fun f=>(XL x.pattern f t.binding).map fun b=>({facts:=t.facts++[f],binding:=b}:Zq))];intro j f s mf hs;rw [ZgV _ _ _ yE,A0,Zgu];cases hm:XL x.pattern f t.binding with
  |none=>simp
  |some b=>
   simp only[BK,if_true];rw [Zfd _ (by have:=ht.len;omega) (fun g mg=>by have:=ht.args g mg;omega),A0,Xs f (by have:=hA f mf;omega),A0,Zj _ (by have:=ht.len;omega),Zj _ yE];rfl
 .rw [if_pos (by simpa using hk),if_neg hk,Zmj _ _ _ yE yE (fun f mf=>by have:=hA f mf;omega),A0];split
  .rw [Zta ht,A0,Zj _ yE]
  .simp
theorem Zfl (l:List Zl) (F:List Zc) (hl:l.length<=4) (hF:F.length<=24) (hA:∀f∈F,f.args.length<=3):Zaa l F=some (Zz l F):=by
 unfold Zaa;have h0:Zz [] F=[({facts:=[],binding:=[]}:Zq)]:=rfl;rw [<-h0,ZaC (fun p=>Zz p F) l];intro p x q e;have hpl:p.length+(q.length+1)=l.length:=by rw [e,AF,A7]
 rw [Zaw,Zrm _ _ _ (Q7 F hF p yE) hF hA (fun t mt=>(Zbw F p t mt).s yE hA)];rfl
theorem Zka {R:List Zg}(h:YW R=true):R.length<=6/\∀r∈R,YP r=true:=by
 unfold YW at h;rw [A3,decide_eq_true_iff]at h;refine ⟨h.1,ZnL (fun i x hx=>?_) h.2⟩;unfold Zg6 at hx;rw [A3]at hx;exact hx.1
theorem ZvL {r:Zg}(h:YP r=true):∀a∈r.thn,a.kind=1->Z9 a.pattern=true/\∀v∈a.pattern.args,Yr v=true->v∈Y2 r.cond:=by
 intro a ma hk;unfold YP at h;simp only[A3]at h;have ha:=AA.1 h.1.2 a ma;rw [A3]at ha;obtain ⟨h1,h2⟩:=ha;unfold XP at h1;rw [if_pos (.inl hk)]at h1;refine ⟨h1,fun v mv hv=>?_⟩;have:=AA.1 h2 v (Zcf.2 ⟨mv,hv⟩);rw [Qo]at this;unfold YY at this;rw [ZX,BC]at this;exact this
end
section
open Classical
theorem ZhP {α:Type}:∀{l m:List α},l.Nodup->(∀x∈l,x∈m)->l.length<=m.length
 | [],_,_,_=>Ax _
 |x::l,m,h,hs=>by
  rw [BL]at h;have hx:x∈m:=hs x yG;have h2:=ZhP (m:=m.erase x) h.2 (fun y my=>(List.mem_erase_of_ne (fun e=>h.1 (by rw [<-e];exact my))).2 (hs y (by simp [my])));rw [List.length_erase_of_mem hx]at h2;have:=List.length_pos_of_mem hx;simp only[A7];omega
theorem Zuk {α:Type}{l m:List α}(hl:l.Nodup) (hs:∀x∈l,x∈m) (hm:m.length<=l.length):∀x∈m,x∈l:=fun x mx=>by
 refine Classical.byContradiction fun hn=>?_;have:=ZhP (l:=x::l) (m:=m) (BL.2 ⟨hn,hl⟩) (fun y my=>by
  rcases A5.1 my with rfl|my
  .exact mx
  .exact hs y my)
 simp only[A7]at this;omega
theorem ZjX (x:Zc):¬ZeE x x<0:=by rw [(ZeR.eq x x).2 rfl];omega
theorem Znr {l:List Zc}(h:Zg7 l):l.Nodup:=List.Pairwise.imp (fun {a b} c e=>by subst e;exact ZjX a c) h
theorem Zms:∀{a b:List Zc},Zg7 a->Zg7 b->(∀x,x∈a↔x∈b)->a=b
 | [],[],_,_,_=>rfl
 | [],y::b,_,_,h=>by have:=(h y).2 yG;simp at this
 |x::a,[],_,_,h=>by have:=(h x).1 yG;simp at this
 |x::a,y::b,ha,hb,h=>by
  unfold Zg7 at ha hb;rw [AS]at ha hb;have e:x=y:=by
   rcases A5.1 ((h x).1 yG) with e|h1
   .exact e
   .rcases A5.1 ((h y).2 yG) with e|h2
    .exact e.symm
    .exact absurd (ZeR.tr _ _ _ (ha.1 y h2) (hb.1 x h1)) (ZjX x)
  subst e;rw [Zms ha.2 hb.2 fun z=>?_];constructor
  .intro hz;rcases A5.1 ((h z).1 (by simp [hz])) with e|c
   .subst e;exact absurd (ha.1 z hz) (ZjX z)
   .exact c
  .intro hz;rcases A5.1 ((h z).2 (by simp [hz])) with e|c
   .subst e;exact absurd (hb.1 z hz) (ZjX z)
   .exact c
theorem ZjV {f:Zc}:∀{l:List Zc},f∉l->(ZeF l f).length=l.length+1
 | [],_=>rfl
 |x::l,h=>by
  simp only[A5,not_or]at h;simp only[ZeF];split
  .rw [A7,ZjV h.2];rfl
  .rw [if_neg (fun e=>h.1 ((ZeR.eq _ _).1 e).symm)];rfl
def ZaR (r:Zg):List Zl:=r.cond.filter fun x=>x.kind != 2
theorem Zvp {r:Zg}:∀x∈ZaR r,¬x.kind=2:=fun x mx=>by
 have:=(Ay.1 mx).2;simpa using this
theorem ZdS (r:Zg):(ZaR r).length<=r.cond.length:=Aq _ _
theorem Zrj (l:List Zl):Y2 (l.filter fun x=>x.kind != 2)=Y2 l:=by
 induction l with
 |nil=>rfl
 |cons x l ih=>
  by_cases hx:x.kind=2
  .rw [List.filter_cons_of_neg (by simpa using hx),ih];simp [Y2,hx]
  .rw [List.filter_cons_of_pos (by simpa using hx)];unfold Y2 at ih ⊢;rw [AP,AP,ih]
theorem Zch (r:Zg) (h:r.cond.length<=1048576):Xb r=some (ZaR r):=by
 unfold Xb ZaR;rw [Ze1 (p:=fun x:Zl=>x.kind != 2)]
 .simp
 .intro j x s mx hs;split
  .rw [Zj _ (by simp at hs;omega)]
  .rfl
theorem ZfQ (r:Zg) (h:r.cond.length<=1048576):X8 r=some (ZaR r):=Zch r h
theorem ZsL {F G:List Zc}(h:∀f∈F,f∈G):∀{l:List Zl},(∀x∈l,¬x.kind=2)->∀t∈Zz l F,t∈Zz l G:=by
 have:∀n (l:List Zl),l.length=n->(∀x∈l,¬x.kind=2)->∀t∈Zz l F,t∈Zz l G:=by
  intro n;induction n with
  |zero=>intro l hl _ t mt;rw [Ac hl]at mt ⊢;exact mt
  |succ n ih=>
   intro l hl hk;obtain ⟨p,x,rfl⟩:∃p x,l=p++[x]:=⟨l.dropLast,l.getLast (by intro e;simp [e]at hl),(Aj _).symm⟩
   intro t mt;rw [Zaw]at mt ⊢;obtain ⟨s,ms,mt⟩:=AG.1 mt;refine AG.2 ⟨s,ih p (by simpa using hl) (fun y my=>hk y (by simp [my])) s ms,?_⟩;unfold QD at mt ⊢;by_cases h1:x.kind=1
   .rw [if_pos h1]at mt ⊢;obtain ⟨f,mf,e⟩:=AR.1 mt;exact AR.2 ⟨f,h f mf,e⟩
   .have h2:=hk x yG;have e:Zgo x s.binding G=Zgo x s.binding F:=by unfold Zgo;simp only[if_neg h1,if_neg h2]
    rw [if_neg h1]at mt ⊢;rw [e];exact mt
 intro l hk;exact this _ l rfl hk
theorem Zj0 {F:List Zc}(h:Yj F=true):Zg7 F:=by
 unfold Yj at h;rw [A3]at h;have c:∀i y x,F[i]?=some y->F[i+1]?=some x->ZeE y x<0:=fun i y x hy hx=>by
  have:=ZjG h.2 (i+1) x hx;unfold ZdT at this;rw [A3,AB,if_neg yE,BJ,hy]at this;simpa using this.2
 have key:∀(l:List Zc),(∀i y x,l[i]?=some y->l[i+1]?=some x->ZeE y x<0)->Zg7 l:=by
  intro l;induction l with
  |nil=>intro _;exact AI
  |cons a l ih=>
   intro hl;have hp:=ih (fun i y x hy hx=>hl (i+1) y x (by simpa using hy) (by simpa using hx));unfold Zg7 at hp ⊢;rw [AS];refine ⟨fun x mx=>?_,hp⟩;cases l with
   |nil=>simp at mx
   |cons b l=>
    have d:=hl 0 a b rfl rfl;rcases A5.1 mx with rfl|mx
    .exact d
    .rw [AS]at hp;exact ZeR.tr _ _ _ d (hp.1 x mx)
 exact key F c
def Yn (a:Zu) (t:Zq):Zc:=(Zdk (Zb8 a.pattern t.binding)).1
def ZjC (R:List Zg) (G:List Zc):Prop:=∀r∈R,∀t∈Zz (ZaR r) G,∀a∈r.thn,Yn a t∈G
structure Cl (R:List Zg) (base G:List Zc):Prop where
 asc:Zg7 G
 base:∀f∈base,f∈G
 closed:ZjC R G
structure Zft (R:List Zg) (base F:List Zc):Prop where
 asc:Zg7 F
 ok:∀f∈F,Y3 f=true
 inc:∀f∈base,f∈F
 low:∀G,Cl R base G->∀f∈F,f∈G
def Zoy (R:List Zg) (base:List Zc):Prop:=∀G,Cl R base G->25<=G.length
theorem Zft.over {R:List Zg}{base F:List Zc}(h:Zft R base F) (hl:25<=F.length):Zoy R base:=fun G hG=>AL hl (ZhP (Znr h.asc) (h.low G hG))
theorem Zft.add {R:List Zg}{base F:List Zc}(h:Zft R base F) {f:Zc}(hf:Y3 f=true) (a:∀G,Cl R base G->f∈G):Zft R base (ZeF F f) where
 asc:=Zq9 h.asc
 ok:=fun g mg=>by
  rcases ZaT.1 mg with rfl|mg
  .exact hf
  .exact h.ok g mg
 inc:=fun g mg=>ZaT.2 (.inr (h.inc g mg))
 low:=fun G hG g mg=>by
  rcases ZaT.1 mg with rfl|mg
  .exact a G hG
  .exact h.low G hG g mg
theorem Zk5 {b:List Zi}(hb:ZY b=true):∀{p l:List ByteArray},Zfy p b=some l->l.all ZT=true/\l.length=p.length
 | [],l,h=>by
  simp only[Zfy,BF]at h;subst h;simp
 |a::p,l,h=>by
  simp only[Zfy]at h;obtain ⟨v,hv,h⟩:=BG.1 h;obtain ⟨l',c,rfl⟩:=Ah.1 h;obtain ⟨h1,h2⟩:=Zk5 hb c;have ha:ZT v=true:=by
   unfold X9 at hv;split at hv
   .rename_i ha;obtain rfl:=AQ hv;exact ha
   .split at hv
    .obtain ⟨x,mx,_,rfl⟩:=Zvy hv;unfold ZY at hb;rw [A3]at hb;have:=(Zpm hb.2 x mx).1;unfold Zfp at this;rw [A3]at this;exact this.2
    .simp at hv
  simp [ha,h1,h2]
theorem Zum {r:Zg}{F:List Zc}{t:Zq}(hr:Z2 r=true) (ht:t∈Zz (ZaR r) F) {a:Zu}(ma:a∈r.thn):Y3 (Yn a t)=true:=by
 unfold Z2 at hr;simp only[A3]at hr;have hk:a.kind=1:=by
  have:=AA.1 hr.2 a ma;simpa using this
 have c:=Zbw F _ t ht;obtain ⟨h1,h2⟩:=ZvL hr.1.1 a ma hk;have hp:=h1;unfold Z9 at hp;simp only[A3,decide_eq_true_iff]at hp;obtain ⟨l,e,_⟩:=Znw (b:=t.binding) hp.2 (fun v mv hv=>c.vars v (by
  unfold ZaR;rw [Zrj];exact h2 v mv hv))
 obtain ⟨h3,h4⟩:=Zk5 c.bind e;have:Zb8 a.pattern t.binding=some {rel:=a.pattern.rel,args:=l}:=by
  unfold Zb8;rw [if_pos ⟨h1,c.bind⟩,e];rfl
 unfold Yn;rw [this];show Y3 {rel:=a.pattern.rel,args:=l}=true
 unfold Y3;simp only[A3,decide_eq_true_iff];exact ⟨⟨hp.1.1,yE⟩,h3⟩
theorem Zft.derived {R:List Zg}{base F:List Zc}(h:Zft R base F) {r:Zg}(mr:r∈R) {t:Zq}(mt:t∈Zz (ZaR r) F) {a:Zu}(ma:a∈r.thn):∀G,Cl R base G->Yn a t∈G:=
 fun G hG=>hG.closed r mr t (ZsL (h.low G hG) Zvp t mt) a ma
def Res (R:List Zg) (base:List Zc) (x:List Zc×Bool):Prop:=
 (x.2=true/\Zft R base x.1/\x.1.length<=24/\ZjC R x.1)\/(x.2=false/\x.1=[]/\Zoy R base)
theorem Res.uniq {R:List Zg}{base:List Zc}{x y:List Zc×Bool}(hx:Res R base x) (hy:Res R base y):x=y:=by
 obtain ⟨F,b⟩:=x;obtain ⟨G,c⟩:=y;rcases hx with ⟨h1,h2,h3,h4⟩|⟨h1,h2,h3⟩<;>rcases hy with ⟨k1,k2,k3,k4⟩|⟨k1,k2,k3⟩<;>simp only at h1 h2 h3 k1 k2 k3<;>subst h1<;>subst k1
 .have e:F=G:=Zms h2.asc k2.asc fun f=>⟨fun hf=>h2.low G ⟨k2.asc,k2.inc,k4⟩ f hf,fun hf=>k2.low F ⟨h2.asc,h2.inc,h4⟩ f hf⟩
  rw [e]
 .have:=k3 F ⟨h2.asc,h2.inc,h4⟩;omega
 .have:=h3 G ⟨k2.asc,k2.inc,k4⟩;omega
 .rw [h2,k2]
structure Zj8 (R:List Zg) (base row0:List Zc) (s:List Zc×Bool):Prop where
 good:Zft R base s.1
 len:s.1.length<=24
 sub:∀f∈row0,f∈s.1
 grow:s.2=true->row0.length<s.1.length
 same:s.2=false->s.1=row0
theorem ZvQ {ρ:Type}{R:List Zg}{base c:List Zc}{r:Zg}(mr:r∈R) (hr:Z2 r=true) {d:List Zc}(hS:Zft R base d) {t:Zq}(mt:t∈Zz (ZaR r) d) {q:ρ}
  {body:Nat->Zu->(List Zc×Bool)->Option ((List Zc×Bool) ⊕ ρ)}
  (hb:∀i a s,body i a s=(Yl s.1 (Yn a t)).bind fun g=>if (decide (0<=g))=true then some (.inl s) else if (decide (24<=(s.1.length:Int)))=true then some (.inr q) else (Qv s.1 (Yn a t)).bind fun j=>some (.inl (j,true)))
  (s:List Zc×Bool) (h:Zj8 R base c s):
  (∃s',(∀fin:(List Zc×Bool)->Option ρ,forL body fin r.thn 0 s=fin s')/\Zj8 R base c s'/\(s'.2=false->s.2=false/\∀a∈r.thn,Yn a t∈c))\/((∀fin:(List Zc×Bool)->Option ρ,forL body fin r.thn 0 s=some q)/\Zoy R base):=by
 rcases Zcq (body:=body) (fun p s'=>Zj8 R base c s'/\(s'.2=false->s.2=false/\∀a∈p,Yn a t∈c)) (fun x=>x=q/\Zoy R base) r.thn s ⟨h,fun hs=>⟨hs,yG⟩⟩ (fun p a s' ma hp hI=>by
  obtain ⟨hP,hC⟩:=hI;rw [hb];obtain ⟨z,hz,k⟩:=ZoH s'.1 (Yn a t);rw [hz,A0];have hok:=Zum hr mt ma;have o:=hS.derived mr mt ma;by_cases hm:Yn a t∈s'.1
  .left
   have u:¬z<0:=fun h=>k.1 h hm;rw [if_pos (by simp;omega)];refine ⟨s',rfl,hP,fun hs=>⟨(hC hs).1,fun b mb=>?_⟩⟩;rcases A4.1 mb with mb|mb
   .exact (hC hs).2 b mb
   .simp at mb;subst mb;rw [<-hP.same hs];exact hm
  .have u:=k.2 hm;rw [if_neg (by simp;omega)];by_cases h24:24<=s'.1.length
   .right
    rw [if_pos (by simp;omega)];refine ⟨q,rfl,rfl,(hP.good.add hok o).over ?_⟩;rw [ZjV hm];omega
   .left
    rw [if_neg (by simp;omega),ZqG _ _ hm yE (fun f mf=>by have:=Y8 (hP.good.ok f mf);omega) (by have:=Y8 hok;omega),A0];refine ⟨_,rfl,⟨hP.good.add hok o,by rw [ZjV hm];omega,fun f mf=>ZaT.2 (.inr (hP.sub f mf)),fun _=>?_,fun h=>by simp at h⟩,fun h=>by simp at h⟩;rw [ZjV hm];have:=ZhP (l:=c) (m:=s'.1);cases hs:s'.2 with
    |true=>have:=hP.grow hs;omega
    |false=>rw [hP.same hs];omega) with ⟨s',e,h'⟩|⟨x,e,rfl,h'⟩
 .exact .inl ⟨s',e,h'⟩
 .exact .inr ⟨e,h'⟩
theorem Zvu {ρ:Type}{R:List Zg}{base b:List Zc}{r:Zg}(mr:r∈R) (hr:Z2 r=true) {q:ρ}
  {ab:Zq->Nat->Zu->(List Zc×Bool)->Option ((List Zc×Bool) ⊕ ((List Zc×Bool) ⊕ ρ))} {body:Nat->Zq->(List Zc×Bool)->Option ((List Zc×Bool) ⊕ ρ)}
  (f:∀t i a s,ab t i a s=(Yl s.1 (Yn a t)).bind fun c=>if (decide (0<=c))=true then some (.inl s) else if (decide (24<=(s.1.length:Int)))=true then some (.inr (.inr q)) else (Qv s.1 (Yn a t)).bind fun d=>some (.inl (d,true)))
  (hb:∀i t s,body i t s=forL (ab t) (fun s=>some (.inl s)) r.thn 0 s)
  (s:List Zc×Bool) (h:Zj8 R base b s):
  (∃s',(∀fin:(List Zc×Bool)->Option ρ,forL body fin (Zz (ZaR r) s.1) 0 s=fin s')/\Zj8 R base b s'/\(s'.2=false->s.2=false/\∀t∈Zz (ZaR r) b,∀a∈r.thn,Yn a t∈b))\/((∀fin:(List Zc×Bool)->Option ρ,forL body fin (Zz (ZaR r) s.1) 0 s=some q)/\Zoy R base):=by
 rcases Zcq (body:=body) (fun p s'=>Zj8 R base b s'/\(s'.2=false->s.2=false/\∀t∈p,∀a∈r.thn,Yn a t∈b)) (fun x=>x=q/\Zoy R base) (Zz (ZaR r) s.1) s ⟨h,fun hs=>⟨hs,yG⟩⟩ (fun p t s' mt hp hI=>by
  obtain ⟨hP,hC⟩:=hI;rw [hb];rcases ZvQ mr hr h.good mt (f t) s' hP with ⟨s2,e2,g,j⟩|⟨e2,ho⟩
  .left
   refine ⟨s2,e2 _,g,fun hs=>?_⟩;obtain ⟨k1,k2⟩:=j hs;obtain ⟨k3,k4⟩:=hC k1;refine ⟨k3,fun u mu=>?_⟩;rcases A4.1 mu with mu|mu
   .exact k4 u mu
   .simp at mu;subst mu;exact k2
  .exact .inr ⟨q,e2 _,rfl,ho⟩) with ⟨s',e,hP,hC⟩|⟨x,e,rfl,h'⟩
 .refine .inl ⟨s',e,hP,fun hs=>?_⟩;obtain ⟨k1,k2⟩:=hC hs;exact ⟨k1,by rw [h.same k1]at k2;exact k2⟩
 .exact .inr ⟨e,h'⟩
theorem ZzV {ρ:Type}{R:List Zg}{base b:List Zc}(hL:∀r∈R,Z2 r=true) (h0:Zft R base b) (g:b.length<=24) {q:ρ}
  {ab:Zq->Nat->Zu->(List Zc×Bool)->Option ((List Zc×Bool) ⊕ ((List Zc×Bool) ⊕ ((List Zc×Bool) ⊕ ρ)))} {tb:Zg->Nat->Zq->(List Zc×Bool)->Option ((List Zc×Bool) ⊕ ((List Zc×Bool) ⊕ ρ))} {body:Nat->Zg->(List Zc×Bool)->Option ((List Zc×Bool) ⊕ ρ)}
  (j:∀t i a s,ab t i a s=(Yl s.1 (Yn a t)).bind fun c=>if (decide (0<=c))=true then some (.inl s) else if (decide (24<=(s.1.length:Int)))=true then some (.inr (.inr (.inr q))) else (Qv s.1 (Yn a t)).bind fun d=>some (.inl (d,true)))
  (k:∀r i t s,tb r i t s=forL (ab t) (fun s=>some (.inl s)) r.thn 0 s)
  (hb:∀i r s,r∈R->s.1.length<=24->(∀f∈s.1,Y3 f=true)->body i r s=forL (tb r) (fun s=>some (.inl s)) (Zz (ZaR r) s.1) 0 s):
  (∃s',(∀fin:(List Zc×Bool)->Option ρ,forL body fin R 0 (b,false)=fin s')/\Zj8 R base b s'/\(s'.2=false->ZjC R b))\/((∀fin:(List Zc×Bool)->Option ρ,forL body fin R 0 (b,false)=some q)/\Zoy R base):=by
 rcases Zcq (body:=body) (fun p s'=>Zj8 R base b s'/\(s'.2=false->∀r∈p,∀t∈Zz (ZaR r) b,∀a∈r.thn,Yn a t∈b)) (fun x=>x=q/\Zoy R base) R (b,false) ⟨⟨h0,g,fun f mf=>mf,fun h=>by simp at h,fun _=>rfl⟩,yG⟩ (fun p r s' mr hp hI=>by
  obtain ⟨hP,hC⟩:=hI;rw [hb _ _ _ mr hP.len hP.good.ok];rcases Zvu (q:=.inr q) mr (hL r mr) (j) (k r) s' hP with ⟨s2,e2,l,m⟩|⟨e2,ho⟩
  .left
   refine ⟨s2,e2 _,l,fun hs=>?_⟩;obtain ⟨k1,k2⟩:=m hs;intro u mu;rcases A4.1 mu with mu|mu
   .exact hC k1 u mu
   .simp at mu;subst mu;exact k2
  .exact .inr ⟨q,e2 _,rfl,ho⟩) with ⟨s',e,hP,hC⟩|⟨x,e,rfl,h'⟩
 .exact .inl ⟨s',e,hP,hC⟩
 .exact .inr ⟨e,h'⟩
theorem Zww {R:List Zg}{base:List Zc}{body:(List Zc×Bool)->Option ((List Zc×Bool) ⊕ (List Zc×Bool))}(b:∀row,body (row,false)=some (.inr (row,true)))
  (c:∀row,Zft R base row->row.length<=24->(∃s',body (row,true)=some (.inl s')/\Zj8 R base row s'/\(s'.2=false->ZjC R row))\/(body (row,true)=some (.inr ([],false))/\Zoy R base)) (a:Zft R base base) (d:base.length<=24):∃x,iter body (base,true)=some x/\Res R base x:=by
 have key:∀n row,Zft R base row->row.length<=24->25<=row.length+n->∃x,iter body (row,true)=some x/\Res R base x:=by
  intro n;induction n with
  |zero=>intro row _ h3 h4;omega
  |succ n ih=>
   intro row hg hl hn;rcases c row hg hl with ⟨⟨f,u⟩,e,hP,hC⟩|⟨e,ho⟩
   .rw [YV e];cases u with
    |true=>
     have:=hP.grow rfl;exact ih f hP.good hP.len (by simp only at this;omega)
    |false=>
     have hs:=hP.same rfl;simp only at hs;subst hs;exact ⟨_,YI (b _),.inl ⟨rfl,hP.good,hP.len,hC rfl⟩⟩
   .exact ⟨_,YI e,.inr ⟨rfl,rfl,ho⟩⟩
 exact key 25 base a d yE
theorem Zid {R:List Zg}(hR:Zaz R) (base:List Zc):(¬(YW R&&R.all (Xo R))=true\/¬Yj base=true->YB R base=some ([],false))/\((YW R&&R.all (Xo R))=true->Yj base=true->∃x,YB R base=some x/\Res R base x):=by
 constructor
 .intro h;unfold YB;rw [Zgy hR,A0];split
  .rename_i h1;rw [Zin,A0,if_neg (h.resolve_left (fun h=>h h1))]
  .rfl
 .intro h1 h2;have hL:∀r∈R,Z2 r=true:=fun r mr=>by
   rw [A3]at h1;have:=AA.1 h1.2 r mr;unfold Xo at this;rw [A3]at this;exact this.1
  have j:∀r∈R,r.cond.length<=4:=fun r mr=>by
   have:=hL r mr;unfold Z2 at this;simp only[A3]at this;exact (Zbk this.1.1).1
  obtain ⟨k,l⟩:=Zc7 h2;have g:Zft R base base:=⟨Zj0 h2,l,fun f mf=>mf,fun G hG f mf=>hG.base f mf⟩
  unfold YB;rw [Zgy hR,A0,if_pos h1,Zin,A0,if_pos h2,Zea _ yE (fun f mf=>by have:=Y8 (l f mf);omega),A0];refine Zww (fun row=>rfl) (fun row hg hl=>?_) g k;have m:=ZzV (ρ:=(List Zc×Bool) ⊕ (List Zc×Bool)) (q:=.inr ([],false)) hL hg hl
   (ab:=fun t _ a s=>(Yl s.1 (Yn a t)).bind fun b=>if (decide (0<=b))=true then some (.inl s) else if (decide (24<=(s.1.length:Int)))=true then some (.inr (.inr (.inr (.inr ([],false))))) else (Qv s.1 (Yn a t)).bind fun c=>some (.inl (c,true)))
   (tb:=fun r _ t s=>forL (fun _ a s=>(Yl s.1 (Yn a t)).bind fun b=>if (decide (0<=b))=true then some (.inl s) else if (decide (24<=(s.1.length:Int)))=true then some (.inr (.inr (.inr (.inr ([],false))))) else (Qv s.1 (Yn a t)).bind fun c=>some (.inl (c,true))) (fun s=>some (.inl s)) r.thn 0 s)
   (body:=fun _ r s=>(Xb r).bind fun o=>(Zao o s.1).bind fun p=>forL (fun _ t s=>forL (fun _ a s=>(QL a.pattern t.binding).bind fun d=>(Yl s.1 d.1).bind fun b=>if (decide (0<=b))=true then some (.inl s) else if (decide (24<=(s.1.length:Int)))=true then some (.inr (.inr (.inr (.inr ([],false))))) else (Qv s.1 d.1).bind fun c=>some (.inl (c,true))) (fun s=>some (.inl s)) r.thn 0 s) (fun s=>some (.inl s)) p 0 s)
   (fun _ _ _ _=>rfl) (fun _ _ _ _=>rfl) (fun i r s mr hs hok=>by
    show (Xb r).bind _=_
    rw [Zch r (by have:=j r mr;omega),A0,Zfr _ _ (by have:=ZdS r;have:=j r mr;omega) hs (fun f mf=>Y8 (hok f mf)),A0];simp only[Ze8,A0];rfl)
  rcases m with ⟨s',e,hP,hC⟩|⟨e,ho⟩
  .exact .inl ⟨s',e (fun s=>some (.inl s)),hP,hC⟩
  .exact .inr ⟨e (fun s=>some (.inl s)),ho⟩
structure ZnM (R:List Zg) (base l:List Zc) (row:List Zc):Prop where
 good:Zft R base row
 sub:∀f∈l,f∈row
theorem ZAX {ρ:Type}{R:List Zg}{base l:List Zc}{r:Zg}(mr:r∈R) (hr:Z2 r=true) (hS:Zft R base l) {t:Zq}(mt:t∈Zz (ZaR r) l) {N:Nat}(hN:N<=1000000) (ht2:r.thn.length<=2)
  {body:Nat->Zu->List Zc->Option (List Zc ⊕ ρ)} (hb:∀i a row,body i a row=(ZcF row (Yn a t)).bind fun v=>some (.inl v)) (row:List Zc) (h:ZnM R base l row) (d:row.length<=N):
  ∃c,(∀fin:List Zc->Option ρ,forL body fin r.thn 0 row=fin c)/\ZnM R base l c/\c.length<=N+2/\(∀f∈row,f∈c)/\∀a∈r.thn,Yn a t∈c:=by
 obtain ⟨c,e,h1,h2,h3,h4⟩:=ZfM (body:=body) (fun p c=>ZnM R base l c/\c.length<=N+p.length/\(∀f∈row,f∈c)/\∀a∈p,Yn a t∈c) r.thn row ⟨h,by simpa using d,fun f mf=>mf,yG⟩ (fun p a c ma hp hI=>by
  obtain ⟨h1,h2,h3,h4⟩:=hI;have hok:=Zum hr mt ma;rw [hb,Zt4 _ _ yE (fun f mf=>by have:=Y8 (h1.good.ok f mf);omega) (by have:=Y8 hok;omega),A0];refine ⟨_,rfl,⟨h1.good.add hok (hS.derived mr mt ma),fun f mf=>ZaT.2 (.inr (h1.sub f mf))⟩,?_,fun f mf=>ZaT.2 (.inr (h3 f mf)),fun b mb=>?_⟩
  .have:=Zsd (Yn a t) c;simp only[AF,AZ];omega
  .rcases A4.1 mb with mb|mb
   .exact ZaT.2 (.inr (h4 b mb))
   .simp at mb;subst mb;exact ZaT.2 (.inl rfl))
 exact ⟨c,e,h1,yE,h3,h4⟩
theorem ZAH {ρ:Type}{R:List Zg}{base l:List Zc}{r:Zg}(mr:r∈R) (hr:Z2 r=true) (hS:Zft R base l) (c:l.length<=24) (hc4:r.cond.length<=4) (j:r.thn.length<=2)
  {body:Nat->Zq->List Zc->Option (List Zc ⊕ ρ)} (hb:∀i t row,t∈Zz (ZaR r) l->body i t row=forL (fun (_:Nat) (a:Zu) row=>(ZcF row (Yn a t)).bind fun v=>(some (.inl v):Option (List Zc ⊕ (List Zc ⊕ ρ)))) (fun row=>some (.inl row)) r.thn 0 row) (row:List Zc) (h:ZnM R base l row) (d:row.length<=24):
  ∃b,(∀fin:List Zc->Option ρ,forL body fin (Zz (ZaR r) l) 0 row=fin b)/\ZnM R base l b/\(∀f∈row,f∈b)/\∀t∈Zz (ZaR r) l,∀a∈r.thn,Yn a t∈b:=by
 have hn:=Q7 l c (ZaR r) (by have:=ZdS r;omega);obtain ⟨b,e,h1,h2,h3,h4⟩:=ZfM (body:=body) (fun p b=>ZnM R base l b/\b.length<=24+2*p.length/\(∀f∈row,f∈b)/\∀t∈p,∀a∈r.thn,Yn a t∈b) (Zz (ZaR r) l) row ⟨h,by simpa using d,fun f mf=>mf,yG⟩ (fun p t b mt hp hI=>by
  obtain ⟨h1,h2,h3,h4⟩:=hI;rw [hb _ _ _ mt];obtain ⟨g,e2,k1,k2,k3,k4⟩:=ZAX (ρ:=List Zc ⊕ ρ) (body:=fun (_:Nat) (a:Zu) row=>(ZcF row (Yn a t)).bind fun v=>some (.inl v)) mr hr hS mt (N:=24+2*p.length) yE j (fun _ _ _=>rfl) b h1 h2;refine ⟨g,e2 _,k1,by simp only[AF,AZ];omega,fun f mf=>k3 f (h3 f mf),fun u mu a ma=>?_⟩;rcases A4.1 mu with mu|mu
  .exact k3 _ (h4 u mu a ma)
  .simp at mu;subst mu;exact k4 a ma)
 exact ⟨b,e,h1,h3,h4⟩
theorem Zic {R:List Zg}(hR:Zaz R) (base:List Zc) (g:base.length<=1048576):(¬(YW R&&R.all (Xo R))=true\/¬Yj base=true->YA R base=some ([],false))/\((YW R&&R.all (Xo R))=true->Yj base=true->∃x,YA R base=some x/\Res R base x):=by
 constructor
 .intro h;unfold YA;rw [ZgD hR,A0];split
  .rename_i h1;rw [Zfm _ g,A0,if_neg (h.resolve_left (fun h=>h h1))]
  .rfl
 .intro h1 h2;have hL:∀r∈R,Z2 r=true:=fun r mr=>by
   rw [A3]at h1;have:=AA.1 h1.2 r mr;unfold Xo at this;rw [A3]at this;exact this.1
  have y:∀r∈R,r.cond.length<=4/\r.thn.length<=2:=fun r mr=>by
   have:=hL r mr;unfold Z2 at this;simp only[A3]at this;exact Zbk this.1.1
  obtain ⟨m,o⟩:=Zc7 h2;have j:Zft R base base:=⟨Zj0 h2,o,fun f mf=>mf,fun G hG f mf=>hG.base f mf⟩
  unfold YA;rw [ZgD hR,A0,if_pos h1,Zfm _ g,A0,if_pos h2,Zfd _ yE (fun f mf=>by have:=Y8 (o f mf);omega),A0];refine Zww (fun row=>rfl) (fun l hg hl=>?_) j m;rcases Zcq (σ:=List Zc) (ρ:=(List Zc×Bool) ⊕ (List Zc×Bool)) (body:=fun (_:Nat) (r:Zg) row=>(X8 r).bind fun q=>(Zaa q l).bind fun v=>forL (fun _ t row=>forL (fun _ a row=>(XA a.pattern t.binding).bind fun b=>(ZcF row b.1).bind fun c=>some (.inl c)) (fun row=>some (.inl row)) r.thn 0 row) (fun row=>if (decide (24<(row.length:Int)))=true then some (.inr (.inr ([],false))) else some (.inl row)) v 0 row)
   (fun p row=>ZnM R base l row/\row.length<=24/\∀r∈p,∀t∈Zz (ZaR r) l,∀a∈r.thn,Yn a t∈row) (fun x=>x=.inr ([],false)/\Zoy R base) R l ⟨⟨hg,fun f mf=>mf⟩,hl,yG⟩ (fun p r row mr hp hI=>by
    obtain ⟨i1,i2,i3⟩:=hI;obtain ⟨z,A⟩:=y r mr;obtain ⟨w,e,k1,k3,k4⟩:=ZAH (ρ:=List Zc ⊕ ((List Zc×Bool) ⊕ (List Zc×Bool))) (body:=fun (_:Nat) (t:Zq) row=>forL (fun _ a row=>(XA a.pattern t.binding).bind fun b=>(ZcF row b.1).bind fun c=>some (.inl c)) (fun row=>some (.inl row)) r.thn 0 row) mr (hL r mr) hg hl z A (fun i t row mt=>by
     have hb6:=QE (Zbw l _ t mt).bind;have e1:∀p,XA p t.binding=some (Zdk (Zb8 p t.binding)):=fun p=>Zir p t.binding yE;simp only[e1,A0];rfl) row i1 i2
    simp only[ZfQ r yE,A0,Zfl (ZaR r) l (by have:=ZdS r;omega) hl (fun f mf=>Y8 (hg.ok f mf)),e];by_cases h24:24<w.length
    .rw [if_pos (by simp;omega)];exact .inr ⟨_,rfl,rfl,k1.good.over yE⟩
    .rw [if_neg (by simp;omega)];refine .inl ⟨_,rfl,k1,yE,fun u mu t mt a ma=>?_⟩;rcases A4.1 mu with mu|mu
     .exact k3 _ (i3 u mu t mt a ma)
     .simp at mu;subst mu;exact k4 t mt a ma) with ⟨row,e,hP,hlen,hC⟩|⟨x,e,rfl,ho⟩
  .left
   refine ⟨_,e (fun row=>some (.inl (row,decide ((l.length:Int)<(row.length:Int))))),?_⟩;by_cases k:l.length<row.length
   .have hd:decide ((l.length:Int)<(row.length:Int))=true:=by simpa using k
    rw [hd];exact ⟨⟨hP.good,hlen,hP.sub,fun _=>k,fun h=>by simp at h⟩,fun h=>by simp at h⟩
   .have hd:decide ((l.length:Int)<(row.length:Int))=false:=by simpa using k
    have d:=Zuk (Znr hg.asc) hP.sub yE;have B:row=l:=Zms hP.good.asc hg.asc fun f=>⟨d f,hP.sub f⟩
    rw [hd];exact ⟨⟨hP.good,hlen,hP.sub,fun h=>by simp at h,fun _=>B⟩,fun _ r mr t mt a ma=>d _ (hC r mr t mt a ma)⟩
  .exact .inr ⟨e (fun row=>some (.inl (row,decide ((l.length:Int)<(row.length:Int))))),ho⟩
theorem Zjm {R:List Zg}(hR:Zaz R) (base:List Zc) (a:base.length<=1048576):∃x,YA R base=some x/\YB R base=some x/\(x=([],false)\/(YW R&&R.all (Xo R))=true/\Yj base=true/\Res R base x):=by
 obtain ⟨s1,s2⟩:=Zic hR base a;obtain ⟨i1,i2⟩:=Zid hR base;by_cases h1:(YW R&&R.all (Xo R))=true
 .by_cases h2:Yj base=true
  .obtain ⟨x,e1,r1⟩:=s2 h1 h2;obtain ⟨y,e2,r2⟩:=i2 h1 h2;rw [<-r1.uniq r2]at e2;exact ⟨x,e1,e2,.inr ⟨h1,h2,r1⟩⟩
  .exact ⟨_,s1 (.inr h2),i1 (.inr h2),.inl rfl⟩
 .exact ⟨_,s1 (.inl h1),i1 (.inl h1),.inl rfl⟩
theorem ZIE {α:Type}{f:α->Nat}{N:Nat}:∀{l:List α},(∀x∈l,f x<=N)->(l.map f).sum<=l.length*N
 | [],_=>by simp
 |x::l,h=>by
  have h1:=h x yG;have h2:=ZIE (l:=l) fun y my=>h y (by simp [my]);simp only[BM,List.sum_cons,A7,Nat.add_mul];omega
theorem ZL2 {f:Zc}(h:Y3 f=true):Xx f<=64:=by
 unfold Y3 XG at h;simp only[A3,decide_eq_true_eq,AA]at h;obtain ⟨⟨⟨h1,_⟩,h2⟩,h3⟩:=h;have h4:=(ZbW h1).2;have h5:(f.args.map ByteArray.size).sum<=f.args.length*8:=ZIE fun x mx=>(ZbW (h3 x mx)).2;unfold Xx XD;omega
end
def Zx9 (l:List Int) (x:Int):Bool:=l.any fun y=>y==x
theorem ZrF {l:List Int}{x:Int}:Zx9 l x=true↔x∈l:=by simp [Zx9]
theorem Zrc (l:List Int) (x:Int):ZgY l x=some (Zx9 l x):=by
 unfold ZgY Zx9;rw [ZcX (p:=fun y=>y==x) (r:=true)]
 .cases l.any fun y=>y==x<;>simp
 .intro i y _;cases y==x<;>simp
theorem Zwd {l:List Int}{x:Int}:x∈Zk4 l↔x∈l:=(BN l _).mem_iff
theorem Zv2 {l:List Int}(h:l.Nodup):(Zk4 l).Pairwise (·<·):=by
 have h1:(Zk4 l).Pairwise fun x y=>decide (x<=y)=true:=List.pairwise_mergeSort (fun a b c h1 h2=>by simp at *;omega) (fun a b=>by simp;omega) l;have h2:(Zk4 l).Nodup:=(BN l _).nodup_iff.2 h;have h3:(Zk4 l).Pairwise (·≠·):=h2;exact (h1.and h3).imp fun ⟨a,b⟩=>by simp at a;omega
def ZeD:List Int->Int->List Int
 | [],x=>[x]
 |y::l,x=>if y<x then y::ZeD l x else if y=x then y::l else x::y::l
theorem Zsu (l:List Int) (x:Int) (h:l.length+1<=1073741824):ZhE l x=some (ZeD l x):=by
 unfold ZhE;refine (ZaV (fun l _ (st:List Int×Bool)=>some (if st.2=true then st.1++l else st.1++ZeD l x)) (fun l _ (st:List Int×Bool)=>st.1.length+l.length+(if st.2=true then 0 else 1)<=1073741824) ?_ ?_ l 0 ([],false) (by simpa using h)).trans yG
 .rintro i ⟨row,d⟩ hI;cases d with
  |true=>simp
  |false=>simp only[AE,if_false,ZeD];simp at hI;rw [Zj _ yE]
 .rintro y l i ⟨row,d⟩ hI;left
  cases d with
  |true=>
   simp at hI;exact ⟨(row++[y],true),by simp only[if_true];rw [Zj _ yE],by simp;omega,yG⟩
  |false=>
   simp at hI;by_cases h1:x<=y
   .by_cases h2:y=x
    .subst h2;exact ⟨(row++[y],true),by simp;rw [Zj _ yE],by simp;omega,by simp [ZeD]⟩
    .exact ⟨(row++[x]++[y],true),by simp [h1,h2];rw [Zj _ yE,Zj _ yE],by simp;omega,by simp [ZeD,h2,show ¬y<x by omega]⟩
   .exact ⟨(row++[y],false),by simp [h1];rw [Zj _ yE],by simp;omega,by simp [ZeD,show y<x by omega]⟩
theorem Zmc {x y:Int}:∀{l:List Int},y∈ZeD l x↔y=x\/y∈l
 | []=>by simp [ZeD]
 |z::l=>by
  simp only[ZeD];split
  .rw [A5,Zmc,A5];constructor
   .rintro (h|h|h)<;>simp [h]
   .rintro (h|h|h)<;>simp [h]
  .split
   .rename_i h;subst h;simp
   .simp
theorem Zrd {x:Int}:∀{l:List Int},l.Pairwise (·<·)->(ZeD l x).Pairwise (·<·)
 | [],_=>by simp [ZeD]
 |z::l,h=>by
  rw [AS]at h;simp only[ZeD];split
  .rw [AS];refine ⟨fun y hy=>?_,Zrd h.2⟩;rcases Zmc.1 hy with rfl|hy
   .assumption
   .exact h.1 y hy
  .split
   .rw [AS];exact h
   .rw [AS,AS];refine ⟨fun y hy=>?_,h⟩;rcases A5.1 hy with rfl|hy
    .omega
    .have:=h.1 y hy;omega
theorem Zsm (x:Int):∀l:List Int,(ZeD l x).length<=l.length+1
 | []=>by simp [ZeD]
 |z::l=>by
  simp only[ZeD];split
  .have:=Zsm x l;simp;omega
  .split<;>simp
section
open Classical
section
variable {α σ ρ:Type} {body:Nat->α->σ->Option (σ ⊕ ρ)} {fin:σ->Option ρ}
theorem Zmx (st:List α->σ) (ok:List α->Prop) [DecidablePred ok] (q:ρ) (l:List α) (h0:ok []) (b:∀p r,l=p++r->ok l->ok p)
  (h:∀p x r,l=p++x::r->ok p->body p.length x (st p)=if ok (p++[x]) then some (.inl (st (p++[x]))) else some (.inr q)):forL body fin l 0 (st [])=if ok l then fin (st l) else some q:=by
 have key:∀(r a:List α),l=a++r->ok a->forL body fin r a.length (st a)=if ok l then fin (st l) else some q:=by
  intro r;induction r with
  |nil=>intro a e hp;rw [BH]at e;subst e;rw [if_pos hp];rfl
  |cons x r ih=>
   intro a e hp;have hx:=h a x r e hp;have e2:l=(a++[x])++r:=by rw [e];simp
   by_cases hk:ok (a++[x])
   .rw [if_pos hk]at hx;rw [Z4 hx];simpa using ih (a++[x]) e2 hk
   .rw [if_neg hk]at hx;rw [YF hx,if_neg fun hl=>hk (b _ _ e2 hl)]
 exact key l [] rfl h0
end
def Ztz:List Zc->Zc->Nat->Int
 | [],_,_=>-1
 |x::l,f,i=>if x=f then (i:Int) else Ztz l f (i+1)
def YD (l:List Zc) (f:Zc):Int:=Ztz l f 0
theorem Zcx (l:List Zc) (f:Zc):Yl l f=some (YD l f):=by
 unfold Yl YD;generalize 0=i
 induction l generalizing i with
 |nil=>rfl
 |cons x l ih=>
  by_cases hx:x=f
  .rw [YF (r:=(i:Int)) (by rw [Zcv,A0,if_pos (decide_eq_true hx)])];simp [Ztz,hx]
  .rw [Z4 (s':=()) (by rw [Zcv,A0,if_neg (by simpa using hx)]),ih (i+1)];simp [Ztz,hx]
theorem Zfk (l:List Zc) (f:Zc):Zbb l f=some (YD l f):=Zcx l f
theorem Zpr {f:Zc}:∀{l:List Zc}{i:Nat},(f∉l/\Ztz l f i=-1)\/∃j,Ztz l f i=((i+j:Nat):Int)/\l[j]?=some f
 | [],i=>.inl ⟨yG,rfl⟩
 |x::l,i=>by
  unfold Ztz;by_cases hx:x=f
  .rw [if_pos hx];exact .inr ⟨0,yG,by simp [hx]⟩
  .rw [if_neg hx];rcases Zpr (f:=f) (l:=l) (i:=i+1) with ⟨h1,h2⟩|⟨j,h1,h2⟩
   .exact .inl ⟨by simp only[A5,not_or];exact ⟨fun e=>hx e.symm,h1⟩,h2⟩
   .exact .inr ⟨j+1,by rw [h1];congr 1;omega,by simpa using h2⟩
theorem ZnU (l:List Zc) (f:Zc):(f∉l/\YD l f=-1)\/∃j,YD l f=((j:Nat):Int)/\l[j]?=some f:=by
 have:=Zpr (f:=f) (l:=l) (i:=0)
 simpa [YD]using this
theorem ZpL {l:List Zc}{f:Zc}(h:f∈l):∃j,YD l f=((j:Nat):Int)/\l[j]?=some f:=(ZnU l f).resolve_left fun h'=>h'.1 h
def Zbh (F l:List Zc):List Int:=l.foldl (fun row f=>if 0<=YD F f then ZeD row (YD F f) else row) []
theorem Zi1 (F:List Zc):∀(l:List Zc) (row:List Int),row.Pairwise (·<·)->(l.foldl (fun row f=>if 0<=YD F f then ZeD row (YD F f) else row) row).Pairwise (·<·)/\(∀x,x∈l.foldl (fun row f=>if 0<=YD F f then ZeD row (YD F f) else row) row↔x∈row\/∃f∈l,YD F f=x/\0<=x)/\(l.foldl (fun row f=>if 0<=YD F f then ZeD row (YD F f) else row) row).length<=row.length+l.length
 | [],row,h=>⟨h,yG,yG⟩
 |f::l,row,h=>by
  rw [A9];by_cases h0:0<=YD F f
  .rw [if_pos h0];obtain ⟨h1,h2,h3⟩:=Zi1 F l (ZeD row (YD F f)) (Zrd h);have:=Zsm (YD F f) row;refine ⟨h1,fun x=>?_,by simp only[A7];omega⟩;rw [h2,Zmc];constructor
   .rintro ((rfl|h)|⟨g,mg,e⟩)
    .exact .inr ⟨f,yG,rfl,h0⟩
    .exact .inl h
    .exact .inr ⟨g,by simp [mg],e⟩
   .rintro (h|⟨g,mg,e,e0⟩)
    .exact .inl (.inr h)
    .rcases A5.1 mg with rfl|mg
     .exact .inl (.inl e.symm)
     .exact .inr ⟨g,mg,e,e0⟩
  .rw [if_neg h0];obtain ⟨h1,h2,h3⟩:=Zi1 F l row h;refine ⟨h1,fun x=>?_,by simp only[A7];omega⟩;rw [h2];constructor
   .rintro (h|⟨g,mg,e⟩)
    .exact .inl h
    .exact .inr ⟨g,by simp [mg],e⟩
   .rintro (h|⟨g,mg,e,e0⟩)
    .exact .inl h
    .rcases A5.1 mg with rfl|mg
     .rw [e]at h0;exact absurd e0 h0
     .exact .inr ⟨g,mg,e,e0⟩
theorem Qz (F l:List Zc):(Zbh F l).Pairwise (·<·)/\(∀x,x∈Zbh F l↔∃f∈l,YD F f=x/\0<=x)/\(Zbh F l).length<=l.length:=by
 obtain ⟨h1,h2,h3⟩:=Zi1 F l [] AI;exact ⟨h1,fun x=>by rw [Zbh,h2];simp,by simpa [Zbh]using h3⟩
theorem ZrR (F p:List Zc) (f:Zc):Zbh F (p++[f])=if 0<=YD F f then ZeD (Zbh F p) (YD F f) else Zbh F p:=by rw [Zbh,AJ];rfl
theorem Zim (F l:List Zc) (h:l.length<=1000000):Zcn F l=some (Zbh F l):=by
 unfold Zcn;have h0:Zbh F []=[]:=rfl;rw [<-h0,ZaC (fun p=>Zbh F p) l];intro p f q e;have hp:p.length<=l.length:=by rw [e];simp
 have:=(Qz F p).2.2;rw [Zfk,A0,ZrR];by_cases h0:0<=YD F f
 .rw [if_pos (by simpa using h0),if_pos h0,Zsu _ _ yE];rfl
 .rw [if_neg (by simpa using h0),if_neg h0]
def ZbM (F l:List Zc):List Int:=l.foldl (fun row f=>if 0<=YD F f/\YD F f∉row then row++[YD F f] else row) []
theorem Zll (F p:List Zc) (f:Zc):ZbM F (p++[f])=if 0<=YD F f/\YD F f∉ZbM F p then ZbM F p++[YD F f] else ZbM F p:=by rw [ZbM,AJ];rfl
theorem Zlg (F:List Zc):∀n (l:List Zc),l.length=n->(ZbM F l).Nodup/\(∀x,x∈ZbM F l↔∃f∈l,YD F f=x/\0<=x)/\(ZbM F l).length<=l.length:=by
 intro n;induction n with
 |zero=>intro l hl;rw [Ac hl];simp [ZbM]
 |succ n ih=>
  intro l hl;obtain ⟨p,f,rfl⟩:∃p f,l=p++[f]:=⟨l.dropLast,l.getLast (by intro e;simp [e]at hl),(Aj _).symm⟩
  obtain ⟨h1,h2,h3⟩:=ih p (by simpa using hl);rw [Zll];by_cases hc:0<=YD F f/\YD F f∉ZbM F p
  .rw [if_pos hc];refine ⟨by rw [List.nodup_append];exact ⟨h1,yG,fun a ha b hb e=>by simp at hb;subst hb;subst e;exact hc.2 ha⟩,fun x=>?_,by simp;omega⟩;rw [A4,h2];constructor
   .rintro (⟨g,mg,e⟩|h)
    .exact ⟨g,by simp [mg],e⟩
    .simp at h;subst h;exact ⟨f,yG,rfl,hc.1⟩
   .rintro ⟨g,mg,e,e0⟩;rcases A4.1 mg with mg|mg
    .exact .inl ⟨g,mg,e,e0⟩
    .simp at mg;subst mg;exact .inr (by simp [e])
  .rw [if_neg hc];refine ⟨h1,fun x=>?_,by simp;omega⟩;rw [h2];constructor
   .rintro ⟨g,mg,e⟩;exact ⟨g,by simp [mg],e⟩
   .rintro ⟨g,mg,e,e0⟩;rcases A4.1 mg with mg|mg
    .exact ⟨g,mg,e,e0⟩
    .simp at mg;subst mg;have:YD F g∈ZbM F p:=Classical.byContradiction fun hn=>hc ⟨by rw [e];exact e0,hn⟩;rw [e]at this;exact (h2 x).1 this
theorem Zjn (F l:List Zc) (h:l.length<=1000000):ZdB F l=some (Zbh F l):=by
 unfold ZdB;have h0:ZbM F []=[]:=rfl;rw [<-h0,ZaC (fun p=>ZbM F p) l]
 .obtain ⟨h1,h2,h3⟩:=Zlg F _ l rfl;obtain ⟨k1,k2,_⟩:=Qz F l;simp only[Zf8];rw [Zj _ yE,A0,Zsc (Zv2 h1) k1 fun x=>by rw [Zwd,h2,k2]]
 .intro p f q e;have hp:p.length<=l.length:=by rw [e];simp
  have h3:=(Zlg F _ p rfl).2.2;rw [Zcx,A0,Zll];by_cases h0:0<=YD F f
  .rw [if_pos (by simpa using h0),Zrc,A0];by_cases hm:YD F f∈ZbM F p
   .rw [if_pos (ZrF.2 hm),if_neg (fun h=>h.2 hm)]
   .rw [if_neg (by rw [ZrF];exact hm),if_pos ⟨h0,hm⟩,Zj _ yE];rfl
  .rw [if_neg (by simpa using h0),if_neg (fun h=>h0 h.1)]
theorem Zfg (a b:List Int):Zcj a b=some (decide (a=b)):=by
 unfold Zcj;by_cases h:a.length=b.length
 .rw [if_neg (by simp;omega),Xu (p:=fun i x=>decide (b[i]?=some x)) (r:=false)]
  .have:Q5 (fun i x=>decide (b[i]?=some x)) a 0=decide (a=b):=by
    rw [A8,decide_eq_true_iff];constructor
    .intro ha;apply Az;intro i;by_cases hi:i<a.length
     .have hx:=AC hi;have:=ZjG ha i _ hx;simp only[AB,decide_eq_true_eq]at this;rw [hx,this]
     .rw [AT yE,AT yE]
    .rintro rfl;have:∀(l c:List Int),Q5 (fun i x=>decide ((c++l)[i]?=some x)) l c.length=true:=by
      intro l;induction l with
      |nil=>intro c;rfl
      |cons x l ih=>
       intro c;simp only[Q5,A3,decide_eq_true_eq];refine ⟨yG,?_⟩;have:=ih (c++[x]);simpa using this
     simpa using this a []
   rw [this];cases decide (a=b)<;>rfl
  .intro j x hx;have hj:=(AN.1 hx).1;have hb:b[j]?=some b[j]:=AC yE;rw [AB,Za1,hb,A0];by_cases he:x=b[j]
   .simp [he]
   .have:¬b[j]=x:=fun e=>he e.symm;simp [he,this]
 .rw [if_pos (by simp;omega),decide_eq_false (fun e=>h (by rw [e]))]
theorem Za7 (a b:List Int):Zb3 a b=some (decide (a=b)):=Zfg a b
theorem ZnP {a b:Zf}(h1:a.for_=b.for_) (h2:a.inn=b.inn) (h3:a.outs=b.outs):a=b:=by
 cases a;cases b;simp only at h1 h2 h3;subst h1 h2 h3;rfl
theorem ZlF (a b:Zf):Zb1 a b=some (decide (a=b)):=by
 unfold Zb1;by_cases h1:a.for_=b.for_
 .rw [if_pos (by simpa using h1),Zfg,A0];by_cases h2:a.inn=b.inn
  .rw [if_pos (decide_eq_true h2),Zfg,A0];congr 1
   rw [A8,decide_eq_true_iff,decide_eq_true_iff];exact ⟨ZnP h1 h2,fun e=>by rw [e]⟩
  .rw [if_neg (by simpa using h2),decide_eq_false (fun e=>h2 (by rw [e]))]
 .rw [if_neg (by simpa using h1),decide_eq_false (fun e=>h1 (by rw [e]))]
theorem Zmb (l:List Zf) (r:Zf):Zbr l r=some (decide (r∈l)):=by
 unfold Zbr;rw [ZcX (p:=fun x=>decide (x=r)) (r:=true)]
 .have:l.any (fun x=>decide (x=r))=decide (r∈l):=by
   rw [A8,List.any_eq_true,decide_eq_true_iff];exact ⟨fun ⟨x,mx,e⟩=>by rw [decide_eq_true_iff]at e;rw [<-e];exact mx,fun h=>⟨r,h,yG⟩⟩
  rw [this];cases decide (r∈l)<;>rfl
 .intro i x mx;rw [ZlF,A0];cases decide (x=r)<;>rfl
theorem ZqV (l:List Zf) (r:Zf):∃z,Zfz l r=some z/\(0<=z↔r∈l):=by
 unfold Zfz;generalize 0=i
 induction l generalizing i with
 |nil=>exact ⟨-1,rfl,yG⟩
 |cons x l ih=>
  by_cases hx:x=r
  .subst hx;refine ⟨(i:Int),YF ?_,yG⟩;rw [if_pos yG,Za7,A0,if_pos yG,Za7,A0,if_pos yG]
  .obtain ⟨z,e,hz⟩:=ih (i+1);refine ⟨z,(Z4 ?_).trans e,by rw [hz,A5];exact ⟨.inr,fun h=>h.resolve_left fun e=>hx e.symm⟩⟩;by_cases h1:x.for_=r.for_
   .rw [if_pos (by simpa using h1),Za7,A0];by_cases h2:x.inn=r.inn
    .rw [if_pos (decide_eq_true h2),Za7,A0,if_neg (by simpa using fun e=>hx (ZnP h1 h2 e))]
    .rw [if_neg (by simpa using h2)]
   .rw [if_neg (by simpa using h1)]
def Zuc (r:Zg) (t:Zq):List Zc:=(r.cond.filter fun x=>x.kind==2).map fun x=>(Zdk (Zb8 x.pattern t.binding)).1
def Yk (F:List Zc) (r:Zg) (t:Zq) (a:Zu):Zf:={for_:=YD F (Yn a t),inn:=Zbh F t.facts,outs:=Zbh F (Zuc r t)}
theorem Zr9 {ρ:Type}{r:Zg}{t:Zq}(hr:r.cond.length<=1000000) {fin:List Zc->Option ρ}{body:Nat->Zl->List Zc->Option (List Zc ⊕ ρ)}
  (hb:∀i x row,row.length<=1000000->body i x row=if (x.kind==2)=true then some (.inl (row++[(Zdk (Zb8 x.pattern t.binding)).1])) else some (.inl row)):forL body fin r.cond 0 []=fin (Zuc r t):=by
 rw [YT (g:=fun x:Zl=>if (x.kind==2)=true then some (Zdk (Zb8 x.pattern t.binding)).1 else none)]
 .rw [Aw];congr 1
  unfold Zuc;induction r.cond with
  |nil=>rfl
  |cons x l ih=>
   by_cases hx:(x.kind==2)=true
   .simp only[BO,BP,hx,if_true,BM,ih]
   .simp only[BO,BP,hx,if_false,ih];simp
 .intro j x s mx hs;rw [hb _ _ _ (by simp at hs;omega)];by_cases hx:(x.kind==2)=true
  .rw [if_pos hx,if_pos hx];rfl
  .rw [if_neg hx,if_neg hx];simp
theorem ZmX (r:Zg) (t:Zq):(Zuc r t).length<=r.cond.length:=by
 rw [Zuc,Ab];exact Aq _ _
theorem ZnD {F:List Zc}{r:Zg}{t:Zq}(hr:r.cond.length<=4) (ht:ZvM F t) {j:Nat}{a:Zu}(ha:r.thn[j]?=some a):ZbA r (j:Int) t F=some (Yk F r t a):=by
 have hb:=ht.bind;have hl:=ht.len;have e1:∀p,XA p t.binding=some (Zdk (Zb8 p t.binding)):=fun p=>Zir p t.binding yE;unfold ZbA;rw [Za1,ha,A0,e1,A0,Zr9 (t:=t) yE (fun i x row hrow=>by rw [e1,A0,Zj _ yE])];have:=ZmX r t;rw [Zfk,A0,Zim _ _ yE,A0,Zim _ _ yE,A0];rfl
def ZkX (l:List Zf) (r:Zf):List Zf:=if r∈l then l else l++[r]
theorem ZwZ (l:List Zf) (r:Zf):l.length<=(ZkX l r).length/\(ZkX l r).length<=l.length+1:=by
 unfold ZkX;split<;>simp
theorem ZpT:∀(c l:List Zf),l.length<=(c.foldl ZkX l).length/\(c.foldl ZkX l).length<=l.length+c.length
 | [],l=>by simp
 |r::c,l=>by
  have h1:=ZpT c (ZkX l r);have h2:=ZwZ l r;simp only[A9,A7];omega
theorem ZnC {α β:Type}{g:α->List β}{N:Nat}:∀{l:List α},(∀x∈l,(g x).length<=N)->(l.flatMap g).length<=N*l.length
 | [],_=>by simp
 |x::l,h=>by
  have h1:=h x yG;have h2:=ZnC (l:=l) fun y my=>h y (by simp [my]);rw [AP,AF,A7,Nat.mul_add];omega
def Q4 {β:Type} (s:List Zf×List β) (p:Zf×β):List Zf×List β:=if p.1∈s.1 then s else (s.1++[p.1],s.2++[p.2])
theorem Zd9 {β:Type}:∀(c:List (Zf×β)) (s:List Zf×List β),(c.foldl Q4 s).1=(c.map B2).foldl ZkX s.1/\(s.2.length=s.1.length->(c.foldl Q4 s).2.length=(c.foldl Q4 s).1.length)
 | [],s=>⟨rfl,fun h=>h⟩
 |p::c,s=>by
  obtain ⟨h1,h2⟩:=Zd9 c (Q4 s p);have e:(Q4 s p).1=ZkX s.1 p.1:=by unfold Q4 ZkX;split<;>rfl
  refine ⟨by rw [A9,h1,e];rfl,fun h=>h2 ?_⟩;unfold Q4;split
  .exact h
  .simp [h]
theorem ZjD {β:Type}(c:List (Zf×β)) (s:List Zf×List β):s.1.length<=(c.foldl Q4 s).1.length/\(c.foldl Q4 s).1.length<=s.1.length+c.length:=by
 have:=ZpT (c.map B2) s.1;rw [(Zd9 c s).1];simpa using this
section
variable {β:Type} (o:Zg->Zq->β) (F:List Zc)
def Zn6 (r:Zg) (t:Zq):List (Zf×β):=r.thn.map fun a=>(Yk F r t a,o r t)
def Zmg (r:Zg):List (Zf×β):=(Zz (ZaR r) F).flatMap (Zn6 o F r)
def ZdU (base:List Zc):List Zf:=base.map fun f=>{for_:=YD F f,inn:=[],outs:=[]}
def Za5 (z:β) (R:List Zg) (base:List Zc):List Zf×List β:=(R.flatMap (Zmg o F)).foldl Q4 (ZdU F base,base.map fun _=>z)
theorem Zsh (r:Zg) (t:Zq):(Zn6 o F r t).length=r.thn.length:=by simp [Zn6]
end
def ZFi (F:List Zc) (r:Zg) (t:Zq):List Zf:=r.thn.map (Yk F r t)
def Zw6 (F:List Zc) (r:Zg):List Zf:=(Zz (ZaR r) F).flatMap (ZFi F r)
def Xg (R:List Zg) (F base:List Zc):List Zf:=(R.flatMap (Zw6 F)).foldl ZkX (ZdU F base)
theorem Zlx {β:Type}(o:Zg->Zq->β) (F:List Zc) (z:β) (R:List Zg) (base:List Zc):(Za5 o F z R base).1=Xg R F base/\(Za5 o F z R base).2.length=(Xg R F base).length:=by
 obtain ⟨h1,h2⟩:=Zd9 (R.flatMap (Zmg o F)) (ZdU F base,base.map fun _=>z);have e:(R.flatMap (Zmg o F)).map B2=R.flatMap (Zw6 F):=by
  rw [BQ];congr 1
  funext r
  rw [Zmg,Zw6,BQ];congr 1
  funext t
  simp [Zn6,ZFi]
 have h3:(Za5 o F z R base).1=Xg R F base:=by unfold Za5 Xg;rw [h1,e]
 refine ⟨h3,?_⟩;rw [<-h3];exact h2 (by simp [ZdU])
section
variable {β ρ:Type} {o:Zg->Zq->β} {F:List Zc}
theorem Zpx {base:List Zc}(hl:base.length<=1000000) {z:β}{fin:List Zf×List β->Option ρ}{body:Nat->Zc->List Zf×List β->Option ((List Zf×List β) ⊕ ρ)}
  (hb:∀i f a b,a.length<=1000000->b.length<=1000000->body i f (a,b)=some (.inl (a++[{for_:=YD F f,inn:=[],outs:=[]}],b++[z]))):forL body fin base 0 ([],[])=fin (ZdU F base,base.map fun _=>z):=by
 have h0:(([],[]):List Zf×List β)=(ZdU F [],([]:List Zc).map fun _=>z):=rfl;rw [h0,ZaC (fun p=>(ZdU F p,p.map fun _=>z)) base];intro p f q e;have hp:p.length<=base.length:=by rw [e];simp
 rw [hb _ _ _ _ (by rw [ZdU,Ab];omega) (by rw [Ab];omega)];simp [ZdU]
theorem ZCM {r:Zg}{t:Zq}(hr2:r.thn.length<=2) {fin:List Zf×List β->Option ρ}{body:Nat->Zu->List Zf×List β->Option ((List Zf×List β) ⊕ ρ)}{s:List Zf×List β}(hl:s.1.length<=99999998) (hs:s.2.length=s.1.length)
  (hb:∀i a c d,c.length<=100000000->d.length<=100000000->body i a (c,d)=if decide (Yk F r t a∈c)=true then some (.inl (c,d)) else some (.inl (c++[Yk F r t a],d++[o r t]))):forL body fin r.thn 0 s=fin ((Zn6 o F r t).foldl Q4 s):=by
 have h0:s=((([]:List Zu).map fun a=>(Yk F r t a,o r t))).foldl Q4 s:=rfl
 conv=>lhs;rw [h0]
 rw [ZaC (fun p:List Zu=>(p.map fun a=>(Yk F r t a,o r t)).foldl Q4 s) r.thn]
 .rfl
 .intro p a q e;have hp:p.length<=r.thn.length:=by rw [e];simp
  have h1:=ZjD (p.map fun a=>(Yk F r t a,o r t)) s;have h2:=(Zd9 (p.map fun a=>(Yk F r t a,o r t)) s).2 hs;rw [Ab]at h1;rw [B3,AJ];generalize (p.map fun a=>(Yk F r t a,o r t)).foldl Q4 s=u at h1 h2 ⊢
  obtain ⟨c,d⟩:=u;simp only at h1 h2;rw [hb _ _ _ _ yE yE];show _=some (Sum.inl (Q4 (c,d) (Yk F r t a,o r t)))
  unfold Q4;by_cases hm:Yk F r t a∈c
  .rw [if_pos (decide_eq_true hm),if_pos hm]
  .rw [if_neg (by simpa using hm),if_neg hm]
theorem ZxZ {α:Type}{g:α->List (Zf×β)}{L:List α}{M N:Nat}(hg:∀x∈L,(g x).length<=N) {fin:List Zf×List β->Option ρ}{body:Nat->α->List Zf×List β->Option ((List Zf×List β) ⊕ ρ)}{s:List Zf×List β}(hl:s.1.length+N*L.length<=M) (hs:s.2.length=s.1.length)
  (hb:∀i x u,x∈L->u.1.length<=M->u.2.length=u.1.length->body i x u=some (.inl ((g x).foldl Q4 u))):forL body fin L 0 s=fin ((L.flatMap g).foldl Q4 s):=by
 have h0:s=(([]:List α).flatMap g).foldl Q4 s:=rfl
 conv=>lhs;rw [h0]
 rw [ZaC (fun p=>(p.flatMap g).foldl Q4 s) L];intro p x q e;have hp:p.length<=L.length:=by rw [e];simp
 have h1:=ZjD (p.flatMap g) s;have h2:=(Zd9 (p.flatMap g) s).2 hs;have h3:=ZnC (l:=p) (g:=g) (N:=N) fun y my=>hg y (by rw [e];simp [my]);have h4:=BI N hp;rw [hb _ _ _ (by rw [e];simp) yE h2,Al,AJ];simp
theorem ZDB {r:Zg}{t:Zq}{q:ρ}{fin:List Zf×List β->Option ρ}{body:Nat->Zu->List Zf×List β->Option ((List Zf×List β) ⊕ ρ)}{s:List Zf×List β}(hl:s.1.length<=60) (hs:s.2.length=s.1.length)
  (hb:∀j a c d,r.thn[j]?=some a->c.length<=60->d.length<=60->body j a (c,d)=if Yk F r t a∈c then some (.inl (c,d)) else if 60<=c.length then some (.inr q) else some (.inl (c++[Yk F r t a],d++[o r t]))):forL body fin r.thn 0 s=if ((Zn6 o F r t).foldl Q4 s).1.length<=60 then fin ((Zn6 o F r t).foldl Q4 s) else some q:=by
 have h0:s=((([]:List Zu).map fun a=>(Yk F r t a,o r t))).foldl Q4 s:=rfl
 conv=>lhs;rw [h0]
 rw [Zmx (fun p:List Zu=>(p.map fun a=>(Yk F r t a,o r t)).foldl Q4 s) (fun p=>((p.map fun a=>(Yk F r t a,o r t)).foldl Q4 s).1.length<=60) q r.thn (by simpa using hl) (fun p c e h=>by
  rw [e,B3,AJ]at h;exact AL (ZjD _ _).1 h)]
 .rfl
 .intro p a c e b;have h2:=(Zd9 (p.map fun a=>(Yk F r t a,o r t)) s).2 hs;rw [B3,AJ];generalize (p.map fun a=>(Yk F r t a,o r t)).foldl Q4 s=u at b h2 ⊢
  obtain ⟨x,y⟩:=u;simp only at b h2;rw [hb _ _ _ _ (by rw [e];simp) b yE];show _=if (Q4 (x,y) (Yk F r t a,o r t)).1.length<=60 then some (Sum.inl (Q4 (x,y) (Yk F r t a,o r t))) else some (Sum.inr q)
  unfold Q4;by_cases hm:Yk F r t a∈x
  .rw [if_pos hm,if_pos hm,if_pos b]
  .rw [if_neg hm,if_neg hm];by_cases h1:60<=x.length
   .rw [if_pos h1,if_neg (by simp;omega)]
   .rw [if_neg h1,if_pos (by simp;omega)]
theorem ZwD {α:Type}{g:α->List (Zf×β)}{L:List α}{q:ρ}{fin:List Zf×List β->Option ρ}{body:Nat->α->List Zf×List β->Option ((List Zf×List β) ⊕ ρ)}{s:List Zf×List β}(hl:s.1.length<=60) (hs:s.2.length=s.1.length)
  (hb:∀i x u,x∈L->u.1.length<=60->u.2.length=u.1.length->body i x u=if ((g x).foldl Q4 u).1.length<=60 then some (.inl ((g x).foldl Q4 u)) else some (.inr q)):forL body fin L 0 s=if ((L.flatMap g).foldl Q4 s).1.length<=60 then fin ((L.flatMap g).foldl Q4 s) else some q:=by
 have h0:s=(([]:List α).flatMap g).foldl Q4 s:=rfl
 conv=>lhs;rw [h0]
 rw [Zmx (fun p=>(p.flatMap g).foldl Q4 s) (fun p=>((p.flatMap g).foldl Q4 s).1.length<=60) q L (by simpa using hl) (fun p c e h=>by
  rw [e,Al,AJ]at h;exact AL (ZjD _ _).1 h)]
 intro p x c e a;have h2:=(Zd9 (p.flatMap g) s).2 hs;rw [hb _ _ _ (by rw [e];simp) a h2,Al,AJ];simp
end
def noB:Zt:={nodes:=0,reasons:=[]}
def Zqs (r:Zg) (t:Zq):Za4:={rule:=r.name,facts:=t.facts}
def Zri (r:Zg) (t:Zq):XR:={rule:=r.name,token:=t}
def noI:Za4:={rule:=⟨#[]⟩,facts:=[]}
def noS:XR:={rule:=⟨#[]⟩,token:={facts:=[],binding:=[]}}
def ZtA {β:Type}(F:List Zc) (g:List Zf×List β):List Zc×Zt×List β×Bool:=if 60<g.1.length then ([],noB,[],false) else (F,{nodes:=(F.length:Int),reasons:=g.1},g.2,true)
structure Yo (R:List Zg) (base F:List Zc):Prop where
 logical:(YW R&&R.all (Xo R))=true
 facts:Yj base=true
 good:Zft R base F
 len:F.length<=24
 closed:ZjC R F
theorem Yo.rule {R:List Zg}{base F:List Zc}(h:Yo R base F) {r:Zg}(mr:r∈R):Z2 r=true/\r.cond.length<=4/\r.thn.length<=2:=by
 have h1:=h.logical;rw [A3]at h1;have h2:=AA.1 h1.2 r mr;unfold Xo at h2;rw [A3]at h2;have h3:=h2.1;unfold Z2 at h3;simp only[A3]at h3;exact ⟨h2.1,Zbk h3.1.1⟩
theorem Yo.toks {R:List Zg}{base F:List Zc}(h:Yo R base F) {r:Zg}(mr:r∈R):(Zz (ZaR r) F).length<=331776:=Q7 F h.len (ZaR r) (by have:=ZdS r;have:=(h.rule mr).2.1;omega)
theorem Yo.tokS {R:List Zg}{base F:List Zc}(h:Yo R base F) {r:Zg}(mr:r∈R) {t:Zq}(mt:t∈Zz (ZaR r) F):ZvM F t:=(Zbw F _ t mt).s (by have:=ZdS r;have:=(h.rule mr).2.1;omega) fun f mf=>Y8 (h.good.ok f mf)
theorem Zrb {R:List Zg}{base F:List Zc}(h:Yo R base F) (hp:YB R base=some (F,true)):ZbJ R base=some (ZtA F (Za5 Zqs F noI R base)):=by
 have h6:R.length<=6:=by have:=h.logical;rw [A3]at this;exact (Zka this.1).1
 have hb24:=(Zc7 h.facts).1;unfold ZbJ;rw [hp,A0,if_pos rfl,Zpx (F:=F) (z:=noI) yE]
 .show forL _ _ R 0 (ZdU F base,base.map fun _=>noI)=_
  rw [ZxZ (g:=Zmg Zqs F) (N:=663552) (M:=90000000)]
  .show (if decide (60<(((Za5 Zqs F noI R base).1.length:Nat):Int))=true then _ else _)=_
   unfold ZtA;by_cases e:60<(Za5 Zqs F noI R base).1.length
   .rw [if_pos (decide_eq_true yE),if_pos e];rfl
   .rw [if_neg (fun h=>e (by have:=of_decide_eq_true h;omega)),if_neg e];rfl
  .intro r mr;obtain ⟨_,_,h2⟩:=h.rule mr;have h3:=h.toks mr;have:=ZnC (l:=Zz (ZaR r) F) (g:=Zn6 Zqs F r) (N:=2) fun x _=>by rw [Zsh];omega
   unfold Zmg;omega
  .simp only[ZdU,Ab];omega
  .simp [ZdU]
  .intro i r u mr hu m;obtain ⟨c,d⟩:=u;obtain ⟨_,h1,h2⟩:=h.rule mr;have h3:=h.toks mr;simp only at hu m;show (Xb r).bind _=_
   rw [Zch r yE,A0,Zfr _ _ (by have:=ZdS r;omega) h.len (fun f mf=>Y8 (h.good.ok f mf)),A0,ZxZ (g:=Zn6 Zqs F r) (N:=2) (M:=99999998)]
   .rfl
   .intro t mt;rw [Zsh];exact h2
   .simp only;omega
   .exact m
   .intro j t v mt hv p;obtain ⟨c2,d2⟩:=v;simp only at hv p;have ht:=h.tokS mr mt;have hl:=ht.len;have ha:=ZmX r t;show forL _ _ r.cond 0 []=_
    rw [Zr9 (t:=t) yE (fun i x row hrow=>by rw [Ze8,A0,Zj _ yE])];rw [ZCM (o:=Zqs) (F:=F) (t:=t) h2 (s:=(c2,d2)) hv p]
    .intro k a x y hx hy;show (QL a.pattern t.binding).bind _=_
     rw [Ze8,A0,Zcx,A0,Zjn _ _ yE,A0,Zjn _ _ yE,A0];show (Zbr x (Yk F r t a)).bind _=_
     rw [Zmb,A0];by_cases hm:Yk F r t a∈x
     .rw [if_pos (decide_eq_true hm),if_pos (decide_eq_true hm)]
     .rw [if_neg (by simpa using hm),if_neg (by simpa using hm),Zj _ yE,Zj _ yE];rfl
 .intro i f a b ha hb;show (Yl F f).bind _=_
  rw [Zcx,A0,Zj _ yE,Zj _ yE];rfl
theorem ZsF {R:List Zg}{base F:List Zc}(h:Yo R base F) (hp:YA R base=some (F,true)):XZ R base=some (ZtA F (Za5 Zri F noS R base)):=by
 have h6:R.length<=6:=by have:=h.logical;rw [A3]at this;exact (Zka this.1).1
 have hb24:=(Zc7 h.facts).1;unfold XZ;rw [hp,A0,if_pos rfl,Zpx (F:=F) (z:=noS) yE]
 .show forL _ _ R 0 (ZdU F base,base.map fun _=>noS)=_
  rw [ZwD (g:=Zmg Zri F) (q:=([],noB,[],false))]
  .show (if (Za5 Zri F noS R base).1.length<=60 then _ else _)=_
   unfold ZtA;by_cases e:60<(Za5 Zri F noS R base).1.length
   .rw [if_neg yE,if_pos e]
   .rw [if_pos yE,if_neg e];rfl
  .simp only[ZdU,Ab];omega
  .simp [ZdU]
  .intro i r u mr hu l;obtain ⟨c,d⟩:=u;obtain ⟨_,h1,h2⟩:=h.rule mr;simp only at hu l;show (X8 r).bind _=_
   rw [ZfQ r yE,A0,Zfl _ _ (by have:=ZdS r;omega) h.len (fun f mf=>Y8 (h.good.ok f mf)),A0,ZwD (g:=Zn6 Zri F r) (q:=.inr ([],noB,[],false)) (s:=(c,d)) hu l]
   .rfl
   .intro j t v mt hv m;obtain ⟨c2,d2⟩:=v;simp only at hv m;have ht:=h.tokS mr mt;show forL _ _ r.thn 0 (c2,d2)=_
    rw [ZDB (o:=Zri) (F:=F) (t:=t) (q:=.inr (.inr ([],noB,[],false))) (s:=(c2,d2)) hv m]
    .intro k a x y ha hx hy;show (ZbA r (k:Int) t F).bind _=_
     rw [ZnD h1 ht ha,A0];obtain ⟨z,hz,p⟩:=ZqV x (Yk F r t a);rw [hz,A0];by_cases hm:Yk F r t a∈x
     .rw [if_pos (by simpa using p.2 hm),if_pos hm]
     .rw [if_neg (by simpa using fun h0=>hm (p.1 h0)),if_neg hm];by_cases e:60<=x.length
      .rw [if_pos (by simp;omega),if_pos e];rfl
      .rw [if_neg (by simp;omega),if_neg e,Zj _ yE,Zj _ yE];rfl
 .intro i f a b ha hb;show (Zbb F f).bind _=_
  rw [Zfk,A0,Zj _ yE,Zj _ yE];rfl
theorem Zrw {R:List Zg}(hR:Zaz R) (base:List Zc) (a:base.length<=1048576):(ZbJ R base=some ([],noB,[],false)/\XZ R base=some ([],noB,[],false))\/∃F,Yo R base F/\ZbJ R base=some (ZtA F (Za5 Zqs F noI R base))/\XZ R base=some (ZtA F (Za5 Zri F noS R base)):=by
 obtain ⟨⟨F,b⟩,h1,h2,h3⟩:=Zjm hR base a;have no:b=false->(ZbJ R base=some ([],noB,[],false)/\XZ R base=some ([],noB,[],false)):=fun e=>by
  subst e;unfold ZbJ XZ;rw [h1,h2];exact ⟨rfl,rfl⟩
 rcases h3 with h3|⟨h3,h4,⟨h5,h6,h7,h8⟩|⟨h5,_⟩⟩
 .simp only[Prod.mk.injEq]at h3;exact .inl (no h3.2)
 .simp only at h5;subst h5;have hG:Yo R base F:=⟨h3,h4,h6,h7,h8⟩
  exact .inr ⟨F,hG,Zrb hG h2,ZsF hG h1⟩
 .exact .inl (no h5)
def Zzd (R:List Zg) (base F:List Zc) (b:Zt) (ok:Bool):Prop:=(ok=false/\F=[]/\b=noB)\/(ok=true/\Yo R base F/\b={nodes:=(F.length:Int),reasons:=Xg R F base}/\(Xg R F base).length<=60)
theorem Zi4 {R:List Zg}(hR:Zaz R) (base:List Zc) (c:base.length<=1048576):∃F b ok,QV R base=some (F,b,ok)/\QX R base=some (F,b,ok)/\Zzd R base F b ok:=by
 unfold QV QX;rcases Zrw hR base c with ⟨h1,h2⟩|⟨F,hG,h1,h2⟩
 .rw [h1,h2];exact ⟨_,_,_,rfl,rfl,.inl ⟨rfl,rfl,rfl⟩⟩
 .obtain ⟨e1,_⟩:=Zlx Zqs F noI R base;obtain ⟨e2,_⟩:=Zlx Zri F noS R base;rw [h1,h2];unfold ZtA;rw [e1,e2];by_cases a:60<(Xg R F base).length
  .rw [if_pos a,if_pos a];exact ⟨_,_,_,rfl,rfl,.inl ⟨rfl,rfl,rfl⟩⟩
  .rw [if_neg a,if_neg a];exact ⟨_,_,_,rfl,rfl,.inr ⟨rfl,hG,rfl,Nat.le_of_not_lt a⟩⟩
theorem Zsb {r:Zf}:∀{c l:List Zf},r∈c.foldl ZkX l↔r∈l\/r∈c
 | [],l=>by simp
 |x::c,l=>by
  rw [A9,Zsb];have:r∈ZkX l x↔r∈l\/r=x:=by
   unfold ZkX;split
   .rename_i h;exact ⟨.inl,fun h'=>h'.elim id fun e=>e ▸ h⟩
   .simp
  rw [this,A5,or_assoc]
theorem ZnR {R:List Zg}{F base:List Zc}{x:Zf}:x∈Xg R F base↔(∃f∈base,x={for_:=YD F f,inn:=[],outs:=[]})\/∃r∈R,∃t∈Zz (ZaR r) F,∃a∈r.thn,x=Yk F r t a:=by
 unfold Xg;rw [Zsb];constructor
 .rintro (h|h)
  .obtain ⟨f,mf,e⟩:=Af.1 h;exact .inl ⟨f,mf,e.symm⟩
  .obtain ⟨r,mr,h⟩:=AG.1 h;obtain ⟨t,mt,h⟩:=AG.1 h;obtain ⟨a,ma,e⟩:=Af.1 h;exact .inr ⟨r,mr,t,mt,a,ma,e.symm⟩
 .rintro (⟨f,mf,e⟩|⟨r,mr,t,mt,a,ma,e⟩)
  .exact .inl (Af.2 ⟨f,mf,e.symm⟩)
  .exact .inr (AG.2 ⟨r,mr,AG.2 ⟨t,mt,Af.2 ⟨a,ma,e.symm⟩⟩⟩)
theorem ZqQ {R:List Zg}{base F:List Zc}(h:Yo R base F) {x:Zf}(mx:x∈Xg R F base):x.inn.length<=4/\x.outs.length<=4:=by
 rcases ZnR.1 mx with ⟨f,_,rfl⟩|⟨r,mr,t,mt,a,_,rfl⟩
 .exact ⟨Ax _,Ax _⟩
 .have h1:=(h.tokS mr mt).len;have h2:=ZmX r t;have h3:=(h.rule mr).2.1;exact ⟨AL (Qz F t.facts).2.2 h1,AL (Qz F (Zuc r t)).2.2 yE⟩
end
section
open Classical
def mx (a b:Int):Int:=if a<b then b else a
theorem Zx8 (a b:Int):a<=mx a b/\b<=mx a b:=by unfold mx;split<;>omega
theorem ZzB {a b c:Int}(h1:a<=c) (h2:b<=c):mx a b<=c:=by unfold mx;split<;>omega
theorem Zui (g:Int->Int):∀(l:List Int) (m:Int),m<=l.foldl (fun m y=>mx m (g y)) m/\∀y∈l,g y<=l.foldl (fun m y=>mx m (g y)) m
 | [],m=>⟨AU _,yG⟩
 |x::l,m=>by
  obtain ⟨h1,h2⟩:=Zui g l (mx m (g x));have h3:=Zx8 m (g x);refine ⟨by rw [A9];omega,fun y my=>?_⟩;rw [A9];rcases A5.1 my with rfl|my
  .omega
  .exact h2 y my
theorem ZtU {g:Int->Int}{T:Int}:∀{l:List Int}{m:Int},m<=T->(∀y∈l,g y<=T)->l.foldl (fun m y=>mx m (g y)) m<=T
 | [],_,h,_=>h
 |x::l,m,h,hl=>ZtU (l:=l) (ZzB h (hl x yG)) fun y my=>hl y (by simp [my])
def OkN (n:Nat) (r:Zf):Prop:=(0<=r.for_/\r.for_.toNat<n)/\(∀y∈r.inn,0<=y/\y.toNat<n)/\∀y∈r.outs,0<=y/\y.toNat<n
def lvN (row:List Int) (i:Nat):Int:=(row[i]?).getD 0
theorem ZaF (row:List Int) (i j:Nat) (v:Int):lvN (row.set i v) j=if j=i/\i<row.length then v else lvN row j:=by
 unfold lvN;rw [B4];by_cases h:i=j
 .subst h;by_cases h2:i<row.length
  .simp [h2]
  .simp [h2]
 .have:¬j=i:=fun e=>h e.symm;simp [h,this]
theorem Zgg {a b:List Int}(hl:a.length=b.length) (h:∀i,i<a.length->lvN a i=lvN b i):a=b:=by
 apply Az;intro i;by_cases hi:i<a.length
 .have:=h i hi;unfold lvN at this;rw [AC hi,AC yE]at this ⊢;simpa using this
 .rw [AT yE,AT yE]
def Zjk (row:List Int) (r:Zf):Int:=r.outs.foldl (fun m y=>mx m (lvN row y.toNat+1)) (r.inn.foldl (fun m y=>mx m (lvN row y.toNat)) (lvN row r.for_.toNat))
theorem Zq0 (row:List Int) (r:Zf):lvN row r.for_.toNat<=Zjk row r/\(∀y∈r.inn,lvN row y.toNat<=Zjk row r)/\∀y∈r.outs,lvN row y.toNat+1<=Zjk row r:=by
 obtain ⟨h1,h2⟩:=Zui (fun y=>lvN row y.toNat) r.inn (lvN row r.for_.toNat);obtain ⟨h3,h4⟩:=Zui (fun y=>lvN row y.toNat+1) r.outs (r.inn.foldl (fun m y=>mx m (lvN row y.toNat)) (lvN row r.for_.toNat));exact ⟨AK h1 h3,fun y my=>AK (h2 y my) h3,h4⟩
theorem Zyl {row:List Int}{r:Zf}{T:Int}(h1:lvN row r.for_.toNat<=T) (h2:∀y∈r.inn,lvN row y.toNat<=T) (h3:∀y∈r.outs,lvN row y.toNat+1<=T):Zjk row r<=T:=
 ZtU (g:=fun y=>lvN row y.toNat+1) (ZtU (g:=fun y=>lvN row y.toNat) h1 h2) h3
def Qj (row:List Int) (r:Zf):List Int:=row.set r.for_.toNat (Zjk row r)
def Qb (R:List Zf) (row:List Int):List Int:=R.foldl Qj row
theorem Zdy (row:List Int) (r:Zf):(Qj row r).length=row.length:=by simp [Qj]
theorem ZfJ:∀(R:List Zf) (row:List Int),(Qb R row).length=row.length
 | [],_=>rfl
 |r::R,row=>(ZfJ R (Qj row r)).trans (Zdy row r)
theorem ZgZ (row:List Int) (r:Zf) (i:Nat):lvN row i<=lvN (Qj row r) i:=by
 unfold Qj;rw [ZaF];split
 .rename_i h;rw [h.1];exact (Zq0 row r).1
 .exact AU _
theorem ZbU:∀(R:List Zf) (row:List Int) (i:Nat),lvN row i<=lvN (Qb R row) i
 | [],_,_=>AU _
 |r::R,row,i=>AK (ZgZ row r i) (ZbU R (Qj row r) i)
theorem ZmD {row:List Int}{r:Zf}(h:¬lvN row r.for_.toNat<Zjk row r):Qj row r=row:=by
 have e:Zjk row r=lvN row r.for_.toNat:=by have:=(Zq0 row r).1;omega
 refine Zgg (Zdy row r) fun i _=>?_;unfold Qj;rw [ZaF];split
 .rename_i h;rw [h.1,e]
 .rfl
structure ZlR (R:List Zf) (t:Nat->Int):Prop where
 pos:∀i,0<=t i
 inn:∀r∈R,∀y∈r.inn,t y.toNat<=t r.for_.toNat
 outs:∀r∈R,∀y∈r.outs,t y.toNat+1<=t r.for_.toNat
theorem Znu {R:List Zf}{t:Nat->Int}(ht:ZlR R t) {r:Zf}(mr:r∈R) {row:List Int}(h:∀i,lvN row i<=t i) (i:Nat):lvN (Qj row r) i<=t i:=by
 unfold Qj;rw [ZaF];split
 .rename_i hi;rw [hi.1];exact Zyl (h _) (fun y my=>AK (h _) (ht.inn r mr y my)) fun y my=>by have:=h y.toNat;have:=ht.outs r mr y my;omega
 .exact h i
theorem ZdY {R:List Zf}{t:Nat->Int}(ht:ZlR R t):∀{l:List Zf},(∀r∈l,r∈R)->∀{row:List Int},(∀i,lvN row i<=t i)->∀i,lvN (Qb l row) i<=t i
 | [],_,_,h=>h
 |r::l,hl,row,h=>ZdY ht (l:=l) (fun x mx=>hl x (by simp [mx])) (Znu ht (hl r yG) h)
theorem Zh3 {n:Nat}:∀{R:List Zf}{row:List Int},row.length=n->(∀r∈R,OkN n r)->∀r∈R,(∀y∈r.inn,lvN row y.toNat<=lvN (Qb R row) r.for_.toNat)/\∀y∈r.outs,lvN row y.toNat+1<=lvN (Qb R row) r.for_.toNat
 | [],_,_,_,r,mr=>by simp at mr
 |q::R,row,hl,hR,r,mr=>by
  have hs:=ZbU R (Qj row q);show (∀y∈r.inn,lvN row y.toNat<=lvN (Qb R (Qj row q)) r.for_.toNat)/\∀y∈r.outs,lvN row y.toNat+1<=lvN (Qb R (Qj row q)) r.for_.toNat
  rcases A5.1 mr with rfl|mr
  .have h0:=(hR r yG).1.2;have e:lvN (Qj row r) r.for_.toNat=Zjk row r:=by
    unfold Qj;rw [ZaF,if_pos ⟨rfl,yE⟩]
   have h1:=hs r.for_.toNat;rw [e]at h1;obtain ⟨_,h2,h3⟩:=Zq0 row r;exact ⟨fun y my=>AK (h2 y my) h1,fun y my=>AK (h3 y my) h1⟩
  .obtain ⟨h2,h3⟩:=Zh3 (n:=n) (R:=R) (row:=Qj row q) (by rw [Zdy,hl]) (fun x mx=>hR x (by simp [mx])) r mr;refine ⟨fun y my=>AK (ZgZ row q _) (h2 y my),fun y my=>?_⟩;have:=ZgZ row q y.toNat;have:=h3 y my;omega
structure Zba (n:Nat) (R:List Zf) (L:List Int):Prop where
 len:L.length=n
 sol:ZlR R (lvN L)
 least:∀t,ZlR R t->∀i,lvN L i<=t i
theorem Zba.uniq {n:Nat}{R:List Zf}{L M:List Int}(h:Zba n R L) (k:Zba n R M):L=M:=
 Zgg (h.len.trans k.len.symm) fun i _=>BR (h.least _ k.sol i) (k.least _ h.sol i)
theorem ZvI {n:Nat}{R:List Zf}{row:List Int}(hl:row.length=n) (hR:∀r∈R,OkN n r) (h0:∀i,0<=lvN row i) (a:∀t,ZlR R t->∀i,lvN row i<=t i) (h:Qb R row=row):Zba n R row:=by
 have:=Zh3 hl hR;rw [h]at this;exact ⟨hl,⟨h0,fun r mr=>(this r mr).1,fun r mr=>(this r mr).2⟩,a⟩
def Zi2 (n:Nat) (L row:List Int):Nat:=(AD n).countP fun i=>decide (¬lvN row i=lvN L i)
theorem ZnT {n:Nat}{R:List Zf}{L row:List Int}(hL:Zba n R L) (hl:row.length=n) (hR:∀r∈R,OkN n r) (h0:∀i,0<=lvN row i) (a:∀i,lvN row i<=lvN L i):Zi2 n L row=0\/Zi2 n L (Qb R row)+1<=Zi2 n L row:=by
 have hs:=ZdY hL.sol (l:=R) (fun _ h=>h) a;have b:=ZbU R row;by_cases hz:∃i,i<n/\¬lvN row i=lvN L i/\lvN (Qb R row) i=lvN L i
 .right
  obtain ⟨i,hi,h1,h2⟩:=hz;refine Zfw (fun j _ hj=>?_) i (AX.2 hi) (by simpa using h2) (by simpa using h1);simp only[decide_eq_true_eq]at hj ⊢;intro e;have:=hs j;have:=b j;omega
 .left
  have c:∀i,i<n->¬lvN row i=lvN L i->lvN (Qb R row) i<=lvN L i-1:=fun i hi h1=>by
   have h2:¬lvN (Qb R row) i=lvN L i:=fun h=>hz ⟨i,hi,h1,h⟩;have:=hs i;omega
  let t:Nat->Int:=fun i=>if i<n/\¬lvN row i=lvN L i then lvN L i-1 else lvN L i
  have f:∀i,t i<=lvN L i:=fun i=>by simp only[t];split<;>omega
  have key:∀(x y:Nat) (d:Int),0<=d->x<n->lvN L y+d<=lvN L x->lvN row y+d<=lvN (Qb R row) x->t y+d<=t x:=fun x y d hd hx h1 h2=>by
   by_cases hA:x<n/\¬lvN row x=lvN L x
   .have e:t x=lvN L x-1:=if_pos hA;have h3:=c x hA.1 hA.2;by_cases hB:y<n/\¬lvN row y=lvN L y
    .have e2:t y=lvN L y-1:=if_pos hB;omega
    .have e2:t y=lvN L y:=if_neg hB;by_cases hy:y<n
     .have h4:lvN row y=lvN L y:=Classical.byContradiction fun h=>hB ⟨hy,h⟩;omega
     .have h4:lvN row y=0:=by unfold lvN;rw [AT yE];rfl
      have h5:lvN L y=0:=by unfold lvN;rw [AT (by rw [hL.len];omega)];rfl
      omega
   .have e:t x=lvN L x:=if_neg hA;have:=f y;omega
  have ht:ZlR R t:=⟨fun i=>by
   simp only[t];split
   .rename_i h;have:=h0 i;have:=a i;have:=h.2;omega
   .exact hL.sol.pos i,fun r mr y my=>by
    have h1:=hL.sol.inn r mr y my;have h2:=(Zh3 hl hR r mr).1 y my;have:=key r.for_.toNat y.toNat 0 (AU _) (hR r mr).1.2 yE yE;omega,fun r mr y my=>key r.for_.toNat y.toNat 1 yE (hR r mr).1.2 (hL.sol.outs r mr y my) ((Zh3 hl hR r mr).2 y my)⟩
  unfold Zi2;rw [Ag];intro i hi;simp only[decide_eq_true_eq,Classical.not_not];refine Classical.byContradiction fun h=>?_;have h1:=hL.least t ht i;have e:t i=lvN L i-1:=if_pos ⟨AX.1 hi,h⟩;omega
def Zts (R:List Zf):Nat->List Int->List Int
 |0,row=>row
 |k+1,row=>Zts R k (Qb R row)
theorem Zm1 {n:Nat}{R:List Zf}{L:List Int}(hL:Zba n R L) (hR:∀r∈R,OkN n r):∀(k:Nat) (row:List Int),row.length=n->(∀i,0<=lvN row i)->(∀i,lvN row i<=lvN L i)->Zi2 n L row<=k->Zts R k row=L
 |0,row,hl,h0,hle,hk=>by
  show row=L
  refine Zgg (hl.trans hL.len.symm) fun i hi=>?_;have:Zi2 n L row=0:=by omega
  unfold Zi2 at this;rw [Ag]at this;simpa using this i (AX.2 yE)
 |k+1,row,hl,h0,hle,hk=>by
  refine Zm1 hL hR k (Qb R row) (by rw [ZfJ,hl]) (fun i=>AK (h0 i) (ZbU R row i)) (ZdY hL.sol (fun _ h=>h) hle) ?_;rcases ZnT hL hl hR h0 hle with h|h
  .have:Zi2 n L (Qb R row)=0:=by
    have e:row=L:=by
     refine Zgg (hl.trans hL.len.symm) fun i hi=>?_;unfold Zi2 at h;rw [Ag]at h;simpa using h i (AX.2 yE)
    unfold Zi2;rw [Ag];intro i hi;have h1:=ZdY hL.sol (l:=R) (fun _ h=>h) hle i;have h2:=ZbU R row i;rw [e]at h1 h2 ⊢;simp only[decide_eq_true_eq,Classical.not_not];omega
   omega
  .omega
def Zmv (R:List Zf) (x y:Int):Prop:=∃r∈R,r.for_=x/\(y∈r.inn\/y∈r.outs)
inductive ZbB (R:List Zf) (x:Int):Int->Prop
 |one {y:Int}:Zmv R x y->ZbB R x y
 |step {y z:Int}:ZbB R x y->Zmv R y z->ZbB R x z
theorem ZbB.head {R:List Zf}{x y z:Int}(h:Zmv R x y) (k:ZbB R y z):ZbB R x z:=by
 induction k with
 |one h1=>exact .step (.one h) h1
 |step _ h1 ih=>exact .step ih h1
def Zp1 (R:List Zf):Prop:=∀r∈R,∀y∈r.outs,y≠r.for_/\¬ZbB R y r.for_
def ZhV (n:Nat) (R:List Zf) (i:Nat):Int:=if i<n then (((AD n).countP fun j=>decide (j=i\/ZbB R (i:Int) (j:Int)):Nat):Int)-1 else 0
theorem Zo6 {α:Type}{p q:α->Bool}:∀{l:List α},(∀x∈l,p x=true->q x=true)->l.countP p<=l.countP q
 | [],_=>AY _
 |x::l,h=>by
  have ih:=Zo6 (l:=l) fun y my=>h y (by simp [my]);have hx:=h x yG;simp only[Aa];cases hp:p x with
  |true=>rw [hx hp];simpa using ih
  |false=>simp;omega
theorem ZtT {n:Nat}{R:List Zf}(hR:∀r∈R,OkN n r) (hS:Zp1 R):ZlR R (ZhV n R)/\∀i,ZhV n R i<n\/ZhV n R i=0:=by
 have hx:∀i,i<n->ZhV n R i=(((AD n).countP fun j=>decide (j=i\/ZbB R (i:Int) (j:Int)):Nat):Int)-1:=fun i hi=>if_pos hi;refine ⟨⟨fun i=>?_,fun r mr y my=>?_,fun r mr y my=>?_⟩,fun i=>?_⟩
 .by_cases hi:i<n
  .rw [hx i hi];have:0<(AD n).countP fun j=>decide (j=i\/ZbB R (i:Int) (j:Int)):=List.countP_pos_iff.2 ⟨i,AX.2 hi,yG⟩;omega
  .unfold ZhV;rw [if_neg hi];exact AU _
 .obtain ⟨⟨f0,f1⟩,f2,_⟩:=hR r mr;obtain ⟨y0,y1⟩:=f2 y my;rw [hx _ y1,hx _ f1];have ey:(y.toNat:Int)=y:=Am y0;have ef:(r.for_.toNat:Int)=r.for_:=Am f0;have hd:Zmv R r.for_ y:=⟨r,mr,rfl,.inl my⟩
  have:=Zo6 (l:=AD n) (p:=fun j=>decide (j=y.toNat\/ZbB R (y.toNat:Int) (j:Int))) (q:=fun j=>decide (j=r.for_.toNat\/ZbB R (r.for_.toNat:Int) (j:Int))) (fun j _ hj=>by
   simp only[decide_eq_true_eq,ey,ef]at hj ⊢;rcases hj with rfl|hj
   .exact .inr (by rw [ey];exact .one hd)
   .exact .inr (.head hd hj))
  omega
 .obtain ⟨⟨f0,f1⟩,_,f3⟩:=hR r mr;obtain ⟨y0,y1⟩:=f3 y my;rw [hx _ y1,hx _ f1];have ey:(y.toNat:Int)=y:=Am y0;have ef:(r.for_.toNat:Int)=r.for_:=Am f0;have hd:Zmv R r.for_ y:=⟨r,mr,rfl,.inr my⟩
  obtain ⟨s1,s2⟩:=hS r mr y my;have:=Zfw (l:=AD n) (p:=fun j=>decide (j=y.toNat\/ZbB R (y.toNat:Int) (j:Int))) (q:=fun j=>decide (j=r.for_.toNat\/ZbB R (r.for_.toNat:Int) (j:Int))) (fun j _ hj=>by
   simp only[decide_eq_true_eq,ey,ef]at hj ⊢;rcases hj with rfl|hj
   .exact .inr (by rw [ey];exact .one hd)
   .exact .inr (.head hd hj)) r.for_.toNat (AX.2 f1) (by
    simp only[decide_eq_false_iff_not,ey,ef,not_or];exact ⟨fun e=>s1 (by rw [<-ey,<-ef,e]),s2⟩) yG
  omega
 .by_cases hi:i<n
  .left
   rw [hx i hi];have:=Ad (p:=fun j=>decide (j=i\/ZbB R (i:Int) (j:Int))) (l:=AD n);rw [BS]at this;omega
  .right;unfold ZhV;rw [if_neg hi]
end
section
open Classical
def rdN (row:List Int) (y:Int):Int:=(row[y.toNat]?).getD (-1)
def Zkb (row:List Int) (k:Nat) (r:Zf):Prop:=(∀y∈r.inn,0<=rdN row y/\rdN row y<(k:Int))/\∀y∈r.outs,rdN row y<0
def ZgH (row l:List Int) (k:Int):List Int:=l.foldl (fun s x=>s.set x.toNat k) row
theorem ZrE (k:Int):∀(l row:List Int),(ZgH row l k).length=row.length
 | [],_=>rfl
 |x::l,row=>(ZrE k l (row.set x.toNat k)).trans yG
theorem Zl1 (k:Int):∀(l row:List Int) (i:Nat),(ZgH row l k)[i]?=if (∃x∈l,x.toNat=i)/\i<row.length then some k else row[i]?
 | [],row,i=>by simp [ZgH]
 |x::l,row,i=>by
  have ih:=Zl1 k l (row.set x.toNat k) i;show (ZgH (row.set x.toNat k) l k)[i]?=_
  rw [ih,List.length_set,B4];by_cases h2:i<row.length
  .by_cases h1:∃y∈l,y.toNat=i
   .have:∃y∈x::l,y.toNat=i:=by obtain ⟨y,m,e⟩:=h1;exact ⟨y,by simp [m],e⟩
    rw [if_pos ⟨h1,h2⟩,if_pos ⟨this,h2⟩]
   .rw [if_neg (fun h=>h1 h.1)];by_cases h3:x.toNat=i
    .rw [if_pos h3,if_pos yE,if_pos ⟨⟨x,yG,h3⟩,h2⟩]
    .rw [if_neg h3,if_neg];rintro ⟨⟨y,m,e⟩,_⟩;rcases A5.1 m with rfl|m
     .exact h3 e
     .exact h1 ⟨y,m,e⟩
  .have e:row[i]?=none:=AT yE;by_cases h3:x.toNat=i
   .have:¬x.toNat<row.length:=by omega
    simp [h2,e,h3]
   .simp [h2,e,h3]
theorem Zuh {row l m:List Int}{k:Int}(h:∀i,(∃x∈l,x.toNat=i)↔∃x∈m,x.toNat=i):ZgH row l k=ZgH row m k:=by
 apply Az;intro i;rw [Zl1,Zl1];by_cases hc:(∃x∈l,x.toNat=i)/\i<row.length
 .rw [if_pos hc,if_pos ⟨(h i).1 hc.1,hc.2⟩]
 .rw [if_neg hc,if_neg fun h'=>hc ⟨(h i).2 h'.1,h'.2⟩]
def Zgt (row:List Int):Nat:=row.countP fun v=>decide (v<0)
theorem Zmf {k:Int}(hk:0<=k):∀(row:List Int) (i:Nat),Zgt (row.set i k)<=Zgt row/\(∀v,row[i]?=some v->v<0->Zgt (row.set i k)+1<=Zgt row)
 | [],i=>by simp [Zgt]
 |v::row,0=>by
  simp only[List.set_cons_zero,Zgt,Aa];have:¬k<0:=by omega
  refine ⟨by simp [this],fun u hu hn=>?_⟩;simp at hu;subst hu;simp [this,hn]
 |v::row,i+1=>by
  obtain ⟨h1,h2⟩:=Zmf hk row i;simp only[BT,Zgt,Aa]at *;refine ⟨yE,fun u hu hn=>?_⟩;have:=h2 u (by simpa using hu) hn;omega
theorem ZpH {k:Int}(hk:0<=k):∀(l row:List Int),Zgt (ZgH row l k)<=Zgt row
 | [],_=>AY _
 |x::l,row=>AL (ZpH hk l (row.set x.toNat k)) (Zmf hk row _).1
def Qa (R:List Zf) (L:List Int) (s:Int) (row:List Int) (k:Nat):List Int:=R.filterMap fun r=>if lvN L r.for_.toNat=s/\rdN row r.for_<0/\Zkb row k r then some r.for_ else none
theorem Zh6 {R:List Zf}{L:List Int}{s:Int}{row:List Int}{k:Nat}{x:Int}:x∈Qa R L s row k↔∃r∈R,r.for_=x/\lvN L x.toNat=s/\rdN row x<0/\Zkb row k r:=by
 unfold Qa;rw [AR];constructor
 .rintro ⟨r,mr,h⟩;split at h
  .rename_i hc;obtain rfl:=AQ h;exact ⟨r,mr,rfl,hc⟩
  .simp at h
 .rintro ⟨r,mr,rfl,h⟩;exact ⟨r,mr,by rw [if_pos h]⟩
structure RIn (n:Nat) (row:List Int) (k:Nat):Prop where
 len:row.length=n
 val:∀i,i<n->∃v,row[i]?=some v/\(v=-1\/(0<=v/\v<(k:Int)))
 few:k+Zgt row<=n
theorem RIn.next {n:Nat}{R:List Zf}{L row:List Int}{s:Int}{k:Nat}(hR:∀r∈R,OkN n r) (h:RIn n row k) (hc:Qa R L s row k≠[]):RIn n (ZgH row (Qa R L s row k) (k:Int)) (k+1)/\Zgt (ZgH row (Qa R L s row k) (k:Int))+1<=Zgt row:=by
 have hd:Zgt (ZgH row (Qa R L s row k) (k:Int))+1<=Zgt row:=by
  cases e:Qa R L s row k with
  |nil=>exact absurd e hc
  |cons x l=>
   have mx:x∈Qa R L s row k:=by rw [e];simp
   obtain ⟨r,mr,rfl,_,h2,_⟩:=Zh6.1 mx;obtain ⟨v,hv,_⟩:=h.val r.for_.toNat (hR r mr).1.2;have h3:v<0:=by unfold rdN at h2;rw [hv]at h2;exact h2
   have h4:=(Zmf (k:=(k:Int)) yE row r.for_.toNat).2 v hv h3;have h5:=ZpH (k:=(k:Int)) yE l (row.set r.for_.toNat (k:Int));exact AL (Nat.succ_le_succ h5) h4
 refine ⟨⟨by rw [ZrE,h.len],fun i hi=>?_,by have:=h.few;omega⟩,hd⟩;rw [Zl1];obtain ⟨v,hv,a⟩:=h.val i hi;split
 .exact ⟨_,rfl,.inr ⟨yE,yE⟩⟩
 .refine ⟨v,hv,?_⟩;rcases a with a|⟨h1,h2⟩
  .exact .inl a
  .exact .inr ⟨h1,yE⟩
def QY (R:List Zf) (L:List Int) (s:Int):Nat->List Int->Nat->List Int×Nat
 |0,row,k=>(row,k)
 |f+1,row,k=>if Qa R L s row k=[] then (row,k) else QY R L s f (ZgH row (Qa R L s row k) (k:Int)) (k+1)
theorem Zgj {n:Nat}{R:List Zf}{L:List Int}{s:Int}(hR:∀r∈R,OkN n r):∀(f:Nat) (row:List Int) (k:Nat),RIn n row k->Zgt row<=f->RIn n (QY R L s f row k).1 (QY R L s f row k).2/\Qa R L s (QY R L s f row k).1 (QY R L s f row k).2=[]
 |0,row,k,h,hf=>by
  refine ⟨h,Classical.byContradiction fun hc=>?_⟩;have:=(h.next hR hc).2;omega
 |f+1,row,k,h,hf=>by
  unfold QY;by_cases hc:Qa R L s row k=[]
  .rw [if_pos hc];exact ⟨h,hc⟩
  .rw [if_neg hc];obtain ⟨h1,h2⟩:=h.next hR hc
   exact Zgj hR f _ _ h1 yE
theorem ZvZ {R:List Zf}{L:List Int}{s:Int}(hs:∀r∈R,¬lvN L r.for_.toNat=s) (f:Nat) (row:List Int) (k:Nat):QY R L s f row k=(row,k):=by
 cases f with
 |zero=>rfl
 |succ f=>
  unfold QY;rw [if_pos];rw [B5];intro x mx;obtain ⟨r,mr,rfl,h,_⟩:=Zh6.1 mx;exact hs r mr h
def QN (R:List Zf) (L:List Int) (n:Nat) (l:List Nat) (st:List Int×Nat):List Int×Nat:=l.foldl (fun st s=>QY R L ((s:Nat):Int) n st.1 st.2) st
theorem Zm9 {n:Nat}{R:List Zf}{L:List Int}(hR:∀r∈R,OkN n r):∀(l:List Nat) (st:List Int×Nat),RIn n st.1 st.2->RIn n (QN R L n l st).1 (QN R L n l st).2
 | [],_,h=>h
 |s::l,st,h=>Zm9 hR l _ (Zgj hR n st.1 st.2 h (by have:=h.few;omega)).1
theorem ZqH (R:List Zf) (L:List Int) (n:Nat) (l:List Nat) (s:Nat) (st:List Int×Nat):QN R L n (l++[s]) st=QY R L (s:Int) n (QN R L n l st).1 (QN R L n l st).2:=by
 unfold QN;rw [AJ];rfl
theorem ZrQ {n:Nat}{R:List Zf}{L:List Int}{a b:Nat}(h1:∀r∈R,lvN L r.for_.toNat<(a:Int)) (h2:∀r∈R,lvN L r.for_.toNat<(b:Int)) (st:List Int×Nat):QN R L n (AD a) st=QN R L n (AD b) st:=by
 have key:∀(a d:Nat),(∀r∈R,lvN L r.for_.toNat<(a:Int))->QN R L n (AD (a+d)) st=QN R L n (AD a) st:=by
  intro a d ha;induction d with
  |zero=>rfl
  |succ d ih=>
   rw [show a+(d+1)=(a+d)+1 by omega,List.range_succ,ZqH,ih,ZvZ];intro r mr e;have:=ha r mr;omega
 rcases Nat.le_total a b with h|h
 .have:=key a (b-a) h1;rw [show a+(b-a)=b by omega]at this;exact this.symm
 .have:=key b (a-b) h2;rw [show b+(a-b)=a by omega]at this;exact this
end
section
open Classical
theorem Zy4 (F:List Zc):∀n (l:List Zl),l.length=n->∀t∈Zz l F,∀f∈t.facts,∃x∈l,x.kind=1/\x.pattern.rel=f.rel:=by
 intro n;induction n with
 |zero=>
  intro l h t mt f mf;rw [Ac h]at mt;simp [Zz]at mt;subst mt;simp [ZvF]at mf
 |succ n ih=>
  intro l h;obtain ⟨p,x,rfl⟩:∃p x,l=p++[x]:=⟨l.dropLast,l.getLast (by intro e;simp [e]at h),(Aj _).symm⟩
  intro t mt f mf;rw [Zaw]at mt;obtain ⟨s,ms,mt⟩:=AG.1 mt;have a:f∈s.facts->∃y∈p++[x],y.kind=1/\y.pattern.rel=f.rel:=fun hf=>by
   obtain ⟨y,my,hy⟩:=ih p (by simpa using h) s ms f hf;exact ⟨y,by simp [my],hy⟩
  unfold QD at mt;by_cases hk:x.kind=1
  .rw [if_pos hk]at mt;obtain ⟨g,mg,hg⟩:=AR.1 mt;obtain ⟨b,hb,rfl⟩:=Ah.1 hg;simp only[A4,AM]at mf;rcases mf with mf|rfl
   .exact a mf
   .refine ⟨x,yG,hk,?_⟩;unfold XL at hb;split at hb
    .rename_i hc;unfold ZhA at hc;simp only[A3,decide_eq_true_eq,ZQ]at hc;first|exact hc.1.2|exact hc.2|exact hc.1.1.2|exact hc.2.1|exact hc.1.2.1
    .simp at hb
  .rw [if_neg hk]at mt;split at mt
   .simp at mt;subst mt;exact a mf
   .simp at mt
def ZgF (F:List Zc) (x:Int):ByteArray:=match F[x.toNat]? with|some f=>f.rel|none=>⟨#[]⟩
theorem ZkL {F:List Zc}{f:Zc}{x:Int}(e:YD F f=x) (h0:0<=x):(0<=x/\x.toNat<F.length)/\ZgF F x=f.rel/\f∈F:=by
 rcases ZnU F f with ⟨_,h2⟩|⟨j,h1,h2⟩
 .omega
 .have ej:x.toNat=j:=by omega
  refine ⟨⟨h0,?_⟩,?_,AH h2⟩
  .rw [ej];exact (AN.1 h2).1
  .unfold ZgF;rw [ej,h2]
structure ZGm (R:List Zg) (F:List Zc) (x:Zf):Prop where
 node:0<=x.for_/\x.for_.toNat<F.length
 inn:∀y∈x.inn,(0<=y/\y.toNat<F.length)/\Zgx R (ZgF F x.for_) (ZgF F y)
 outs:∀y∈x.outs,(0<=y/\y.toNat<F.length)/\Zgx R (ZgF F x.for_) (ZgF F y)/\ZgF F y≠ZgF F x.for_/\¬Xy R (ZgF F y) (ZgF F x.for_)
 up:x.inn.Pairwise (·<·)/\x.outs.Pairwise (·<·)
theorem ZeG {R:List Zg}{base F:List Zc}(h:Yo R base F) {x:Zf}(mx:x∈Xg R F base):ZGm R F x:=by
 rcases ZnR.1 mx with ⟨f,mf,rfl⟩|⟨r,mr,t,mt,a,ma,rfl⟩
 .obtain ⟨j,h1,h2⟩:=ZpL (h.good.inc f mf)
  have:=(AN.1 h2).1
  exact ⟨⟨by simp only;omega,by simp only;omega⟩,yG,yG,AI,AI⟩
 .have o:Yn a t∈F:=h.closed r mr t mt a ma
  obtain ⟨j,h1,h2⟩:=ZpL o
  have hr:=(h.rule mr).1
  have k:=hr
  unfold Z2 at k
  simp only[A3]at k
  have hk:a.kind=1:=by
   have:=AA.1 k.2 a ma
   simpa using this
  obtain ⟨hn,q,_⟩:=ZkL (F:=F) (f:=Yn a t) rfl (by rw [h1];omega)
  have hok:=h.good.ok _ o
  have hname:∀p b,Y3 (Zdk (Zb8 p b)).1=true->(Zdk (Zb8 p b)).1.rel=p.rel:=fun p b hf=>by
   cases hi:Zb8 p b with
   |none=>
    rw [hi]at hf
    exact absurd hf yF
   |some g=>
    unfold Zb8 at hi
    split at hi
    .obtain ⟨l,_,rfl⟩:=Ah.1 hi
     rfl
    .simp at hi
  have i:ZgF F (YD F (Yn a t))=a.pattern.rel:=q.trans (hname a.pattern t.binding hok)
  have hw:a.pattern.rel∈XH r:=AR.2 ⟨a,ma,by rw [if_pos (.inl hk)]⟩
  refine ⟨hn,fun y my=>?_,fun y my=>?_,(Qz F _).1,(Qz F _).1⟩
  .obtain ⟨f,mf,e,e0⟩:=((Qz F t.facts).2.1 y).1 my
   obtain ⟨k1,k2,_⟩:=ZkL e e0
   obtain ⟨c,mc,ck,cr⟩:=Zy4 F _ (ZaR r) rfl t mt f mf
   refine ⟨k1,r,mr,?_,?_⟩
   .show ZgF F (YD F (Yn a t))∈_
    rw [i];exact hw
   .rw [k2,<-cr]
    exact AR.2 ⟨c,(Ay.1 mc).1,by rw [if_pos (.inl ck)]⟩
  .obtain ⟨f,mf,e,e0⟩:=((Qz F (Zuc r t)).2.1 y).1 my
   obtain ⟨k1,k2,k3⟩:=ZkL e e0
   obtain ⟨c,mc,rfl⟩:=Af.1 mf
   obtain ⟨mc,ck⟩:=Ay.1 mc
   have cr:=hname c.pattern t.binding (h.good.ok _ k3)
   have hy:ZgF F y=c.pattern.rel:=k2.trans cr
   have m:ZgF F (Yk F r t a).for_=a.pattern.rel:=i
   have d:Zkn R c.pattern.rel a.pattern.rel=true:=by
    have h1:=h.logical
    rw [A3]at h1
    have h2:=AA.1 h1.2 r mr
    unfold Xo at h2
    rw [A3]at h2
    have h3:=AA.1 h2.2 c mc
    unfold ZgW at h3
    rw [ck]at h3
    simp only[Au,AW]at h3
    exact AA.1 h3 _ (ZX.2 hw)
   unfold Zkn at d
   simp only[A3,Bool.not_eq_true',decide_eq_false_iff_not]at d
   rw [m,hy]
   refine ⟨k1,⟨r,mr,hw,AR.2 ⟨c,mc,by rw [if_pos (.inr (by simpa using ck))]⟩⟩,fun e=>?_,d.2⟩
   have:=Zv7.1 d.1
   exact this e.symm
theorem Zvr {R:List Zg}{base F:List Zc}(h:Yo R base F):∀x∈Xg R F base,OkN F.length x:=fun x mx=>by
 have hf:=ZeG h mx;exact ⟨hf.node,fun y my=>(hf.inn y my).1,fun y my=>(hf.outs y my).1⟩
theorem ZqX {R:List Zg}{base F:List Zc}(h:Yo R base F):Zp1 (Xg R F base):=by
 have a:∀x y,Zmv (Xg R F base) x y->Zgx R (ZgF F x) (ZgF F y):=fun x y ⟨r,mr,e,hy⟩=>by
  have hf:=ZeG h mr;subst e;rcases hy with hy|hy
  .exact (hf.inn y hy).2
  .exact (hf.outs y hy).2.1
 have b:∀x y,ZbB (Xg R F base) x y->Xy R (ZgF F x) (ZgF F y):=fun x y hd=>by
  induction hd with
  |one h1=>exact .one (a _ _ h1)
  |step _ h1 ih=>exact .next ih (a _ _ h1)
 intro r mr y my;obtain ⟨_,_,h2,h3⟩:=(ZeG h mr).outs y my;exact ⟨fun e=>h2 (by rw [e]),fun hd=>h3 (b _ _ hd)⟩
end
theorem ZHW {σ ρ:Type}{body:σ×Int->Option ((σ×Int) ⊕ ρ)}{f:σ->Nat->σ}{fin:σ->Option ρ}(I:Nat->σ->Prop) (m:Nat)
  (h1:∀k s,k<m->I k s->body (s,(k:Int))=some (.inl (f s k,((k+1:Nat):Int)))/\I (k+1) (f s k))
  (h2:∀s,I m s->body (s,(m:Int))=(fin s).bind fun x=>some (.inr x)):
  ∀(d k:Nat) (s:σ),k+d=m->I k s->iter body (s,(k:Int))=fin ((List.range' k d).foldl f s)
 |0,k,s,hk,hI=>by
  have e:k=m:=by omega
  subst e;rw [ZjL,h2 s hI];show _=fin s
  cases fin s<;>rfl
 |d+1,k,s,hk,hI=>by
  obtain ⟨e1,e2⟩:=h1 k s yE hI;rw [ZjL,e1];show iter body (f s k,((k+1:Nat):Int))=_
  rw [ZHW I m h1 h2 d (k+1) (f s k) yE e2];rfl
theorem Zjv (x a b:Int):Qr x a b=some (decide (a<=x)&&decide (x<=b)):=by
 unfold Qr;cases decide (a<=x)<;>simp
def Zwl (l:List Int) (n:Int) (i:Nat) (x:Int):Bool:=decide (0<=x)&&(decide (x<n)&&(decide (i=0)||(match l[i-1]? with|some y=>decide (y<x)|none=>false)))
def ZlI (l:List Int) (n:Int):Bool:=Q5 (Zwl l n) l 0
theorem Zzg {l:List Int}{j:Nat}{x:Int}(hl:l.length<=1000000000) (hj:l[j]?=some x) (h0:0<j):∃y,l[j-1]?=some y/\atI l (i64.wrap ((j:Int)-1))=some y:=by
 have hlt:=(AN.1 hj).1;have hg:l[j-1]?=some l[j-1]:=AC yE;refine ⟨l[j-1],hg,?_⟩;have hw:i64.wrap ((j:Int)-1)=((j-1:Nat):Int):=by rw [ZeT yE yE];omega
 rw [hw];unfold atI;rw [if_pos yE,AO,hg]
theorem ZLD (l:List Int) (n:Int) (hl:l.length<=1000000000):ZIU l n=some (ZlI l n):=by
 unfold ZIU ZlI;rw [Xu (p:=Zwl l n) (r:=false)]
 .cases Q5 (Zwl l n) l 0<;>rfl
 .intro j x hj;rw [AB];unfold Zwl;by_cases h1:x<0
  .rw [if_pos (by simpa using h1),show decide (0<=x)=false by simp;omega];rfl
  .rw [if_neg (by simpa using h1),show decide (0<=x)=true by simp;omega];by_cases h2:n<=x
   .rw [if_pos (by simpa using h2),show decide (x<n)=false by simp;omega];rfl
   .rw [if_neg (by simpa using h2),show decide (x<n)=true by simp;omega];by_cases h3:j=0
    .subst h3;rfl
    .obtain ⟨y,e1,e2⟩:=Zzg hl hj yE;rw [if_pos (by simp;omega),e2,A0,e1];by_cases h4:x<=y
     .rw [if_pos (by simpa using h4)];simp [h3,show ¬y<x by omega]
     .rw [if_neg (by simpa using h4)];simp [h3,show y<x by omega]
theorem ZiW (l:List Int) (n:Int) (hl:l.length<=1000000000):Zci l n=some (ZlI l (i64.wrap (n-1)+1)):=by
 unfold Zci ZlI;generalize i64.wrap (n-1)=m
 rw [Xu (p:=Zwl l (m+1)) (r:=false)]
 .cases Q5 (Zwl l (m+1)) l 0<;>rfl
 .intro j x hj;rw [AB,Zjv,A0];unfold Zwl;by_cases h1:x<0
  .rw [show decide (0<=x)=false by simp;omega];rfl
  .rw [show decide (0<=x)=true by simp;omega];by_cases h2:m<x
   .rw [show decide (x<=m)=false by simp;omega,show decide (x<m+1)=false by simp;omega];rfl
   .rw [show decide (x<=m)=true by simp;omega,show decide (x<m+1)=true by simp;omega];by_cases h3:j=0
    .subst h3;rfl
    .obtain ⟨y,e1,e2⟩:=Zzg hl hj yE;rw [show (true&&true)=true from rfl,if_pos rfl,if_pos (by simp;omega),e2,A0,e1];by_cases h4:x<=y
     .rw [if_pos (by simpa using h4)];simp [h3,show ¬y<x by omega]
     .rw [if_neg (by simpa using h4)];simp [h3,show y<x by omega]
theorem Zpl (l:List Int) (n:Int) (hl:l.length<=1000000000) (h0:0<=n) (h1:n<=1000000000):Zci l n=some (ZlI l n):=by
 rw [ZiW l n hl,ZeT yE yE];congr 2
 omega
theorem ZwI {l:List Int}{n:Int}(h1:∀x∈l,0<=x/\x<n) (h2:l.Pairwise (·<·)):ZlI l n=true:=by
 have key:∀(q a:List Int),l=a++q->Q5 (Zwl l n) q a.length=true:=by
  intro q;induction q with
  |nil=>intro _ _;rfl
  |cons x q ih=>
   intro a e;simp only[Q5,A3];refine ⟨?_,?_⟩
   .have hx:=h1 x (by rw [e];simp);simp only[Zwl,A3,decide_eq_true_eq,As];refine ⟨hx.1,hx.2,?_⟩;by_cases h0:a.length=0
    .exact .inl h0
    .right
     have b:a.length-1<a.length:=by omega
     have hg:l[a.length-1]?=some a[a.length-1]:=by rw [e,Ae b,AC b]
     rw [hg];rw [e,List.pairwise_append]at h2;simpa using h2.2.2 _ (List.getElem_mem b) x yG
   .have:=ih (a++[x]) (by rw [e];simp);simpa using this
 exact key l [] rfl
def ZvJ (n:Int) (r:Zf):Bool:=decide (0<=r.for_)&&(decide (r.for_<n)&&(ZlI r.inn n&&ZlI r.outs n))
def Zgm (b:Zt):Bool:=decide (0<=b.nodes)&&(decide (b.nodes<=24)&&(decide (b.reasons.length<=60)&&b.reasons.all (ZvJ b.nodes)))
def Zx5 (b:Zt):Prop:=∀r∈b.reasons,r.inn.length<=1000000000/\r.outs.length<=1000000000
theorem ZKG {b:Zt}(h:Zx5 b) (hl:b.reasons.length<=1000000000):ZJt b=some (Zgm b):=by
 unfold ZJt Zgm;by_cases h0:b.nodes<0
 .rw [if_pos (by simpa using h0),show decide (0<=b.nodes)=false by simp;omega];rfl
 rw [if_neg (by simpa using h0),show decide (0<=b.nodes)=true by simp;omega];by_cases h1:24<b.nodes
 .rw [if_pos (by simpa using h1),show decide (b.nodes<=24)=false by simp;omega];rfl
 rw [if_neg (by simpa using h1),show decide (b.nodes<=24)=true by simp;omega];by_cases h2:60<b.reasons.length
 .rw [if_pos (by simp;omega),show decide (b.reasons.length<=60)=false by simp;omega];rfl
 rw [if_neg (by simp;omega),show decide (b.reasons.length<=60)=true by simp;omega];simp only[A6];rw [Z0 (p:=ZvJ b.nodes) (r:=false)]
 .cases b.reasons.all (ZvJ b.nodes)<;>rfl
 .intro i r mr;obtain ⟨s1,s2⟩:=h r mr;unfold ZvJ;by_cases q1:r.for_<0
  .rw [if_pos (by simpa using q1),show decide (0<=r.for_)=false by simp;omega];rfl
  rw [if_neg (by simpa using q1),show decide (0<=r.for_)=true by simp;omega];by_cases q2:b.nodes<=r.for_
  .rw [if_pos (by simpa using q2),show decide (r.for_<b.nodes)=false by simp;omega];rfl
  rw [if_neg (by simpa using q2),show decide (r.for_<b.nodes)=true by simp;omega,ZLD _ _ s1,ZLD _ _ s2];simp only[A0,A6];cases ZlI r.inn b.nodes<;>cases ZlI r.outs b.nodes<;>rfl
theorem Znj {b:Zt}(h:Zx5 b) (hl:b.reasons.length<=1000000000):ZcJ b=some (Zgm b):=by
 unfold ZcJ Zgm;by_cases hn:0<=b.nodes/\b.nodes<=24
 .have hw:i64.wrap (b.nodes-1)=b.nodes-1:=ZeT yE yE;rw [Z0 (p:=ZvJ b.nodes) (r:=false)]
  .rw [Zjv,show decide (0<=b.nodes)=true by simp;omega,show decide (b.nodes<=24)=true by simp;omega];simp only[A0,BE,if_true,A6];have hc:decide ((b.reasons.length:Int)<=60)=decide (b.reasons.length<=60):=by rw [A8];simp;omega
   rw [hc];cases b.reasons.all (ZvJ b.nodes)<;>cases decide (b.reasons.length<=60)<;>rfl
  .intro i r mr;obtain ⟨s1,s2⟩:=h r mr;rw [Zjv,hw,Zpl _ _ s1 hn.1 yE,Zpl _ _ s2 hn.1 yE];unfold ZvJ;have hc:decide (r.for_<=b.nodes-1)=decide (r.for_<b.nodes):=by rw [A8];simp;omega
   rw [hc];simp only[A0];cases decide (0<=r.for_)<;>cases decide (r.for_<b.nodes)<;>cases ZlI r.inn b.nodes<;>cases ZlI r.outs b.nodes<;>rfl
 .have hf:(decide (0<=b.nodes)&&(decide (b.nodes<=24)&&(decide (b.reasons.length<=60)&&b.reasons.all (ZvJ b.nodes))))=false:=by
   by_cases h0:0<=b.nodes
   .have:decide (b.nodes<=24)=false:=by simp;omega
    rw [this];simp
   .have:decide (0<=b.nodes)=false:=by simp;omega
    rw [this];simp
  rw [hf,Z0 (p:=fun r=>decide (0<=r.for_)&&(decide (r.for_<=i64.wrap (b.nodes-1))&&(ZlI r.inn (i64.wrap (b.nodes-1)+1)&&ZlI r.outs (i64.wrap (b.nodes-1)+1)))) (r:=false)]
  .rw [Zjv];have:(decide (0<=b.nodes)&&decide (b.nodes<=24))=false:=by
    cases h1:decide (0<=b.nodes)<;>cases h2:decide (b.nodes<=24)<;>simp at h1 h2 ⊢
    omega
   rw [this];split<;>rfl
  .intro i r mr;obtain ⟨s1,s2⟩:=h r mr;rw [Zjv,ZiW _ _ s1,ZiW _ _ s2];simp only[A0];cases decide (0<=r.for_)<;>cases decide (r.for_<=i64.wrap (b.nodes-1))<;>cases ZlI r.inn (i64.wrap (b.nodes-1)+1)<;>cases ZlI r.outs (i64.wrap (b.nodes-1)+1)<;>rfl
section
open Classical
def Zv6 (row:List Bool):Nat:=row.countP fun v=>!v
theorem Zry:∀(row:List Bool) (i:Nat),row[i]?=some false->Zv6 (row.set i true)+1=Zv6 row
 | [],i,h=>by simp at h
 |v::row,0,h=>by
  simp at h;subst h;simp [Zv6]
 |v::row,i+1,h=>by
  have ih:=Zry row i (by simpa using h);simp only[Zv6,BT,Aa]at *;omega
def ZfC (s:List Bool×List Int) (y:Int):List Bool×List Int:=if s.1[y.toNat]?=some true then s else (s.1.set y.toNat true,s.2++[y])
structure QJ (n:Nat) (R:List Zf) (x:Int) (s:List Bool×List Int):Prop where
 len:s.1.length=n
 row:∃t,s.2=x::t/\(∀y∈t,(0<=y/\y.toNat<n)/\ZbB R x y/\s.1[y.toNat]?=some true)/\(∀y:Int,0<=y->s.1[y.toNat]?=some true->y∈t)/\t.length+Zv6 s.1=n
structure Zhe (s u:List Bool×List Int):Prop where
 mono:∀i:Nat,s.1[i]?=some true->u.1[i]?=some true
 more:∃v,u.2=s.2++v
theorem Zhe.refl (s:List Bool×List Int):Zhe s s:=⟨fun _ h=>h,[],yG⟩
theorem Zhe.trans {s t u:List Bool×List Int}(h:Zhe s t) (k:Zhe t u):Zhe s u:=⟨fun i hi=>k.mono i (h.mono i hi),by
 obtain ⟨a,ha⟩:=h.more;obtain ⟨b,hb⟩:=k.more;exact ⟨a++b,by rw [hb,ha,List.append_assoc]⟩⟩
theorem ZwQ {row:List Bool}{j:Nat}(hj:j<row.length) (i:Nat):(row.set j true)[i]?=if j=i then some true else row[i]?:=by
 rw [B4];by_cases e:j=i
 .rw [if_pos e,if_pos e,if_pos hj]
 .rw [if_neg e,if_neg e]
theorem Zu8 {n:Nat}{R:List Zf}{x y:Int}{s:List Bool×List Int}(h:QJ n R x s) (hy:0<=y/\y.toNat<n) (hd:ZbB R x y):QJ n R x (ZfC s y)/\Zhe s (ZfC s y)/\(ZfC s y).1[y.toNat]?=some true:=by
 unfold ZfC;by_cases hs:s.1[y.toNat]?=some true
 .rw [if_pos hs];exact ⟨h,.refl s,hs⟩
 .rw [if_neg hs];have hl:y.toNat<s.1.length:=by rw [h.len];exact hy.2
  have hf:s.1[y.toNat]?=some false:=by
   rw [AC hl]at hs ⊢;cases hv:s.1[y.toNat]with
   |true=>rw [hv]at hs;exact absurd rfl hs
   |false=>rfl
  have d:=ZwQ hl;obtain ⟨t,t1,t2,t3,t4⟩:=h.row;have f:∀i:Nat,s.1[i]?=some true->(s.1.set y.toNat true)[i]?=some true:=fun i hi=>by
   rw [d];split
   .rfl
   .exact hi
  refine ⟨⟨by simp [h.len],t++[y],by simp [t1],fun z mz=>?_,fun z z0 hz=>?_,?_⟩,⟨f,[y],rfl⟩,by rw [d,if_pos rfl]⟩
  .rcases A4.1 mz with mz|mz
   .obtain ⟨a,b,c⟩:=t2 z mz;exact ⟨a,b,f _ c⟩
   .simp at mz;subst mz;exact ⟨hy,hd,by rw [d,if_pos rfl]⟩
  .rw [d]at hz;by_cases e:y.toNat=z.toNat
   .have:z=y:=by omega
    simp [this]
   .rw [if_neg e]at hz;exact A4.2 (.inl (t3 z z0 hz))
  .have:=Zry s.1 y.toNat hf;simp only[AF,AZ];omega
theorem Zph {n:Nat}{R:List Zf}{x:Int}:∀{l:List Int}{s:List Bool×List Int},QJ n R x s->(∀y∈l,(0<=y/\y.toNat<n)/\ZbB R x y)->QJ n R x (l.foldl ZfC s)/\Zhe s (l.foldl ZfC s)/\∀y∈l,(l.foldl ZfC s).1[y.toNat]?=some true
 | [],s,h,_=>⟨h,.refl s,yG⟩
 |y::l,s,h,hl=>by
  obtain ⟨a1,a2,a3⟩:=Zu8 h (hl y yG).1 (hl y yG).2;obtain ⟨b1,b2,b3⟩:=Zph (l:=l) a1 fun z mz=>hl z (by simp [mz]);exact ⟨b1,a2.trans b2,fun z mz=>by
   rcases A5.1 mz with rfl|mz
   .exact b2.mono _ a3
   .exact b3 z mz⟩
def Zho (z:Int) (s:List Bool×List Int) (r:Zf):List Bool×List Int:=if r.for_=z then (r.inn++r.outs).foldl ZfC s else s
theorem Zwu {n:Nat}{R:List Zf}{x z:Int}(hR:∀r∈R,OkN n r) (hz:z=x\/ZbB R x z) {r:Zf}(mr:r∈R) (e:r.for_=z):∀y∈r.inn++r.outs,(0<=y/\y.toNat<n)/\ZbB R x y:=fun y my=>by
 have hy:=A4.1 my;have hd:Zmv R z y:=⟨r,mr,e,hy⟩
 refine ⟨hy.elim ((hR r mr).2.1 y) ((hR r mr).2.2 y),?_⟩;rcases hz with rfl|hz
 .exact .one hd
 .exact .step hz hd
theorem Zu0 {n:Nat}{R:List Zf}{x z:Int}(hR:∀r∈R,OkN n r) (hz:z=x\/ZbB R x z) {s:List Bool×List Int}(h:QJ n R x s) {r:Zf}(mr:r∈R):QJ n R x (Zho z s r)/\Zhe s (Zho z s r)/\(r.for_=z->∀y∈r.inn++r.outs,(Zho z s r).1[y.toNat]?=some true):=by
 unfold Zho;by_cases e:r.for_=z
 .rw [if_pos e];obtain ⟨a1,a2,a3⟩:=Zph h (Zwu hR hz mr e);exact ⟨a1,a2,fun _=>a3⟩
 .rw [if_neg e];exact ⟨h,.refl s,fun h=>absurd h e⟩
theorem ZsE {n:Nat}{R:List Zf}{x z:Int}(hR:∀r∈R,OkN n r) (hz:z=x\/ZbB R x z):∀{l:List Zf}{s:List Bool×List Int},(∀r∈l,r∈R)->QJ n R x s->QJ n R x (l.foldl (Zho z) s)/\Zhe s (l.foldl (Zho z) s)/\∀r∈l,r.for_=z->∀y∈r.inn++r.outs,(l.foldl (Zho z) s).1[y.toNat]?=some true
 | [],s,_,h=>⟨h,.refl s,yG⟩
 |r::l,s,hl,h=>by
  obtain ⟨a1,a2,a3⟩:=Zu0 hR hz h (hl r yG);obtain ⟨b1,b2,b3⟩:=ZsE hR hz (l:=l) (fun q mq=>hl q (by simp [mq])) a1;exact ⟨b1,a2.trans b2,fun q mq e y my=>by
   rcases A5.1 mq with rfl|mq
   .exact b2.mono _ (a3 e y my)
   .exact b3 q mq e y my⟩
theorem QJ.at {n:Nat}{R:List Zf}{x:Int}{s:List Bool×List Int}(h:QJ n R x s) {i:Nat}{z:Int}(hi:s.2[i]?=some z):z=x\/ZbB R x z:=by
 obtain ⟨t,t1,t2,_⟩:=h.row;have:=AH hi;rw [t1]at this;exact (A5.1 this).imp id fun m=>(t2 z m).2.1
theorem QJ.fin {n:Nat}{R:List Zf}{x:Int}(hR:∀r∈R,OkN n r) {d:List Bool}{c:List Int}(hI:QJ n R x (d,c)) (hC:∀j z,j<c.length->c[j]?=some z->∀y,Zmv R z y->d[y.toNat]?=some true):d.length=n/\∀y:Int,0<=y->(d[y.toNat]?=some true↔ZbB R x y):=by
 obtain ⟨t,t1,t2,t3,t4⟩:=hI.row;simp only at t1 t4;refine ⟨hI.len,fun y y0=>⟨fun hy=>(t2 y (t3 y y0 hy)).2.1,fun hy=>?_⟩⟩;have f:∀z∈c,∀y,Zmv R z y->d[y.toNat]?=some true:=fun z mz=>by
  obtain ⟨j,hj,e⟩:=List.getElem_of_mem mz;exact hC j z hj (by rw [AC hj,e])
 have h0:∀a b,Zmv R a b->0<=b:=fun a b ⟨r,mr,_,hb⟩=>hb.elim (fun h=>((hR r mr).2.1 b h).1) fun h=>((hR r mr).2.2 b h).1;have:∀y,ZbB R x y->0<=y/\d[y.toNat]?=some true:=fun y hd=>by
  induction hd with
  |one h=>exact ⟨h0 _ _ h,f x (by rw [t1];simp) _ h⟩
  |step _ h ih=>exact ⟨h0 _ _ h,f _ (by rw [t1];exact List.mem_cons_of_mem _ (t3 _ ih.1 ih.2)) _ h⟩
 exact (this y hy).2
theorem ZtH {σ ρ:Type}{n:Nat}{R:List Zf}{x:Int}(hR:∀r∈R,OkN n r) (st:List Bool->List Int->Nat->σ) (g:List Bool->ρ) {body:σ->Option (σ ⊕ ρ)}
  (h1:∀b a i z,QJ n R x (b,a)->i<n+1->a[i]?=some z->(z=x\/ZbB R x z)->body (st b a i)=some (.inl (st (R.foldl (Zho z) (b,a)).1 (R.foldl (Zho z) (b,a)).2 (i+1))))
  (h2:∀b a,QJ n R x (b,a)->body (st b a a.length)=some (.inr (g b))):
  ∀m b a i,QJ n R x (b,a)->i<=a.length->n+1-i<=m->(∀j z,j<i->a[j]?=some z->∀y,Zmv R z y->b[y.toNat]?=some true)->∃row,iter body (st b a i)=some (g row)/\row.length=n/\∀y:Int,0<=y->(row[y.toNat]?=some true↔ZbB R x y):=by
 intro m;induction m with
 |zero=>
  intro b a i hI hi hm hC;obtain ⟨t,t1,t2,t3,t4⟩:=hI.row;simp only at t1 t4;have:a.length=t.length+1:=by rw [t1];simp
  have c:i=a.length:=by omega
  subst c;exact ⟨b,YI (h2 b a hI),hI.fin hR hC⟩
 |succ m ih=>
  intro b a i hI hi hm hC;by_cases c:i=a.length
  .subst c;exact ⟨b,YI (h2 b a hI),hI.fin hR hC⟩
  .have f:i<a.length:=by omega
   obtain ⟨z,hz⟩:∃z,a[i]?=some z:=⟨_,AC f⟩
   have d:=hI.at (i:=i) (z:=z) hz;obtain ⟨t,t1,t2,t3,t4⟩:=hI.row;simp only at t1 t4;have htl:a.length=t.length+1:=by rw [t1];simp
   have k:i<n+1:=by omega
   rw [YV (h1 b a i z hI k hz d)];obtain ⟨b1,b2,b3⟩:=ZsE hR d (l:=R) (fun _ h=>h) hI;obtain ⟨v,hv⟩:=b2.more;simp only at hv;refine ih _ _ (i+1) b1 (by rw [hv,AF];omega) yE fun j u hj hu y hd=>?_;rw [hv]at hu;rw [Ae yE]at hu;by_cases o:j<i
   .exact b2.mono _ (hC j u o hu y hd)
   .obtain rfl:j=i:=by omega
    rw [hz]at hu;obtain rfl:=AQ hu;obtain ⟨r,mr,e,hy⟩:=hd;exact b3 r mr e y (A4.2 hy)
end
section
open Classical
theorem Zz4 {P:Nat->Prop}:∀v,P v->∃v,P v/\∀u,P u->v<=u:=by
 intro v;induction v using Nat.strongRecOn with
 |ind v ih=>
  intro hv;by_cases h:∃u,P u/\u<v
  .obtain ⟨u,hu,hl⟩:=h;exact ih u hl hu
  .exact ⟨v,hv,fun u hu=>by
    by_cases hl:u<v
    .exact absurd ⟨u,hu,hl⟩ h
    .omega⟩
theorem Zxf {n:Nat}{R:List Zf}(hR:∀r∈R,OkN n r) {t0:Nat->Int}(h0:ZlR R t0):∃L,Zba n R L:=by
 have hm:∀i:Nat,∃v:Nat,(∃t,ZlR R t/\(t i).toNat=v)/\∀u,(∃t,ZlR R t/\(t i).toNat=u)->v<=u:=fun i=>Zz4 _ ⟨t0,h0,rfl⟩;let m:Nat->Nat:=fun i=>Classical.choose (hm i)
 have m1:∀i,∃t,ZlR R t/\(t i).toNat=m i:=fun i=>(Classical.choose_spec (hm i)).1;have m2:∀i t,ZlR R t->((m i:Nat):Int)<=t i:=fun i t ht=>by
  have:=(Classical.choose_spec (hm i)).2 _ ⟨t,ht,rfl⟩;have:=ht.pos i;show ((Classical.choose (hm i):Nat):Int)<=t i
  omega
 let L:List Int:=(AD n).map fun i=>((m i:Nat):Int)
 have hL:∀i,i<n->lvN L i=((m i:Nat):Int):=fun i hi=>by
  have:L[i]?=some ((m i:Nat):Int):=by simp [L,hi]
  unfold lvN;rw [this];rfl
 have a:∀i,¬i<n->lvN L i=0:=fun i hi=>by
  unfold lvN;rw [AT (by simp [L];omega)];rfl
 refine ⟨L,by simp [L],⟨fun i=>?_,fun r mr y my=>?_,fun r mr y my=>?_⟩,fun t ht i=>?_⟩
 .by_cases hi:i<n
  .rw [hL i hi];omega
  .rw [a i hi];exact AU _
 .obtain ⟨f1,f2,_⟩:=hR r mr;rw [hL _ f1.2,hL _ (f2 y my).2];obtain ⟨t,ht,e⟩:=m1 r.for_.toNat;have:=m2 y.toNat t ht;have:=ht.inn r mr y my;have:=ht.pos r.for_.toNat;omega
 .obtain ⟨f1,_,f3⟩:=hR r mr;rw [hL _ f1.2,hL _ (f3 y my).2];obtain ⟨t,ht,e⟩:=m1 r.for_.toNat;have:=m2 y.toNat t ht;have:=ht.outs r mr y my;have:=ht.pos r.for_.toNat;omega
 .by_cases hi:i<n
  .rw [hL i hi];exact m2 i t ht
  .rw [a i hi];exact ht.pos i
theorem Zw5 {n:Nat}{R:List Zf}(hR:∀r∈R,OkN n r) (hS:Zp1 R):∃L,Zba n R L/\∀i,lvN L i<n\/lvN L i=0:=by
 obtain ⟨h1,h2⟩:=ZtT hR hS;obtain ⟨L,hL⟩:=Zxf hR h1;refine ⟨L,hL,fun i=>?_⟩;have:=hL.least _ h1 i;have:=hL.sol.pos i;rcases h2 i with h|h<;>omega
def Zdf (s:List Int×Bool) (r:Zf):List Int×Bool:=if lvN s.1 r.for_.toNat<Zjk s.1 r then (Qj s.1 r,true) else s
theorem ZhN {n:Nat}:∀{R:List Zf}{s:List Int×Bool},s.1.length=n->(∀r∈R,OkN n r)->(R.foldl Zdf s).1=Qb R s.1/\((R.foldl Zdf s).2=true↔s.2=true\/Qb R s.1≠s.1)
 | [],s,_,_=>by simp [Qb]
 |r::R,s,hl,hR=>by
  have a:∀q∈R,OkN n q:=fun q mq=>hR q (by simp [mq]);rw [A9];show _/\(_↔s.2=true\/Qb R (Qj s.1 r)≠s.1)
  by_cases hc:lvN s.1 r.for_.toNat<Zjk s.1 r
  .have e:Zdf s r=(Qj s.1 r,true):=if_pos hc;rw [e];obtain ⟨h1,h2⟩:=ZhN (R:=R) (s:=(Qj s.1 r,true)) (by rw [Zdy];exact hl) a;refine ⟨h1,iff_of_true (h2.2 (.inl rfl)) (.inr fun he=>?_)⟩;have h3:=ZbU R (Qj s.1 r) r.for_.toNat;rw [he]at h3;have:lvN (Qj s.1 r) r.for_.toNat=Zjk s.1 r:=by
    unfold Qj;rw [ZaF,if_pos ⟨rfl,by have:=(hR r yG).1.2;omega⟩]
   omega
  .have e:Zdf s r=s:=if_neg hc;rw [e,ZmD hc];obtain ⟨h1,h2⟩:=ZhN hl a;refine ⟨h1.trans ?_,h2⟩;show Qb R s.1=Qb R (Qj s.1 r)
   rw [ZmD hc]
theorem Zlv {n:Nat}{R:List Zf}{L:List Int}(hL:Zba n R L):Qb R L=L:=
 Zgg (ZfJ R L) fun i _=>BR (ZdY hL.sol (fun _ h=>h) (fun _=>AU _) i) (ZbU R L i)
theorem ZpC {n:Nat}{L row:List Int}(hl:row.length=n) (hL:L.length=n) (h:Zi2 n L row=0):row=L:=by
 refine Zgg (hl.trans hL.symm) fun i hi=>?_;unfold Zi2 at h;rw [Ag]at h;simpa using h i (AX.2 yE)
theorem Zu1 (n:Nat) (L row:List Int):Zi2 n L row<=n:=by
 have:=Ad (p:=fun i=>decide (¬lvN row i=lvN L i)) (l:=AD n);rw [BS]at this;exact this
theorem ZsG {σ ρ:Type}{n:Nat}{R:List Zf}{L:List Int}(hL:Zba n R L) (hR:∀r∈R,OkN n r) (st:List Int->Bool->σ) (g:List Int->ρ) {body:σ->Option (σ ⊕ ρ)}
  (h1:∀row,row.length=n->(∀i,0<=lvN row i/\lvN row i<=lvN L i)->body (st row true)=some (.inl (st (R.foldl Zdf (row,false)).1 (R.foldl Zdf (row,false)).2)))
  (h2:∀row,body (st row false)=some (.inr (g row))):
  ∀k row,row.length=n->(∀i,0<=lvN row i/\lvN row i<=lvN L i)->Zi2 n L row<=k->iter body (st row true)=some (g L):=by
 have a:∀row,row.length=n->(∀i,0<=lvN row i/\lvN row i<=lvN L i)->Qb R row=row->iter body (st row true)=some (g L):=fun row hl h0 e=>by
  obtain ⟨e1,e2⟩:=ZhN (s:=(row,false)) hl hR;have e3:(R.foldl Zdf (row,false)).2=false:=by
   cases hb:(R.foldl Zdf (row,false)).2 with
   |false=>rfl
   |true=>
    rcases e2.1 hb with h|h
    .simp at h
    .exact absurd e h
  rw [YV (h1 row hl h0),e3,e1];have b:Zba n R row:=ZvI hl hR (fun i=>(h0 i).1) (fun t ht i=>AK (h0 i).2 (hL.least t ht i)) e;show iter body (st (Qb R row) false)=_
  rw [e,YI (h2 row),b.uniq hL]
 intro k;induction k with
 |zero=>
  intro row hl h0 hk;have e:row=L:=ZpC hl hL.len yE;exact a row hl h0 (by rw [e];exact Zlv hL)
 |succ k ih=>
  intro row hl h0 hk;by_cases e:Qb R row=row
  .exact a row hl h0 e
  .obtain ⟨e1,e2⟩:=ZhN (s:=(row,false)) hl hR;rw [YV (h1 row hl h0),e2.2 (.inr e),e1];refine ih _ (by rw [ZfJ];exact hl) (fun i=>⟨AK (h0 i).1 (ZbU R row i),ZdY hL.sol (fun _ h=>h) (fun i=>(h0 i).2) i⟩) ?_;rcases ZnT hL hl hR (fun i=>(h0 i).1) (fun i=>(h0 i).2) with h|h
   .exact absurd (by rw [ZpC hl hL.len h];exact Zlv hL) e
   .show Zi2 n L (Qb R row)<=k
    omega
/- the reference writes each greater level at once -/
theorem Zw9 {row:List Int}{f:Nat}(hf:f<row.length):row.set f (lvN row f)=row:=Zgg (by simp) fun i _=>by
 rw [ZaF];split
 .rename_i h;rw [h.1]
 .rfl
theorem Zqx {row:List Int}{f:Nat}(hf:f<row.length):∀(l:List Int) (v:Int),lvN row f<=v->l.foldl (fun s y=>s.set f (mx (lvN s f) (lvN s y.toNat))) (row.set f v)=row.set f (l.foldl (fun m y=>mx m (lvN row y.toNat)) v)
 | [],_,_=>rfl
 |y::l,v,hv=>by
  have e1:lvN (row.set f v) f=v:=by rw [ZaF,if_pos ⟨rfl,hf⟩]
  have e2:mx v (lvN (row.set f v) y.toNat)=mx v (lvN row y.toNat):=by
   rw [ZaF];split
   .rename_i h;rw [h.1];unfold mx;split<;>split<;>omega
   .rfl
  rw [A9,A9,e1,e2,BU];exact Zqx hf l _ (AK hv (Zx8 v _).1)
theorem ZsT {row:List Int}{f:Nat}(hf:f<row.length):∀(l:List Int) (v:Int),(∀y∈l,y.toNat≠f)->l.foldl (fun s y=>s.set f (mx (lvN s f) (lvN s y.toNat+1))) (row.set f v)=row.set f (l.foldl (fun m y=>mx m (lvN row y.toNat+1)) v)
 | [],_,_=>rfl
 |y::l,v,hl=>by
  have e1:lvN (row.set f v) f=v:=by rw [ZaF,if_pos ⟨rfl,hf⟩]
  have e2:lvN (row.set f v) y.toNat=lvN row y.toNat:=by
   rw [ZaF,if_neg fun h=>hl y yG h.1]
  rw [A9,A9,e1,e2,BU];exact ZsT hf l _ fun z mz=>hl z (by simp [mz])
theorem Ztu {row:List Int}{r:Zf}(hf:r.for_.toNat<row.length) (hS:∀y∈r.outs,y.toNat≠r.for_.toNat):r.outs.foldl (fun s y=>s.set r.for_.toNat (mx (lvN s r.for_.toNat) (lvN s y.toNat+1))) (r.inn.foldl (fun s y=>s.set r.for_.toNat (mx (lvN s r.for_.toNat) (lvN s y.toNat))) row)=Qj row r:=by
 have e:=Zqx hf r.inn (lvN row r.for_.toNat) (AU _);rw [Zw9 hf]at e;rw [e,ZsT hf _ _ hS];rfl
/- rounds -/
theorem ZsU {σ ρ:Type}{n top:Nat}{R:List Zf}{L:List Int}(hR:∀r∈R,OkN n r) (st:List Int->Nat->Nat->σ) (g:List Int->ρ) {body:σ->Option (σ ⊕ ρ)}
  (h1:∀row k s,RIn n row k->s<=top->Qa R L ((s:Nat):Int) row k≠[]->body (st row k s)=some (.inl (st (ZgH row (Qa R L ((s:Nat):Int) row k) ((k:Nat):Int)) (k+1) s)))
  (h2:∀row k s,RIn n row k->s<=top->Qa R L ((s:Nat):Int) row k=[]->body (st row k s)=some (.inl (st row k (s+1))))
  (h3:∀row k,RIn n row k->body (st row k (top+1))=some (.inr (g row))):
  ∀d s row k,s+d=top+1->RIn n row k->iter body (st row k s)=some (g (QN R L n (List.range' s d) (row,k)).1):=by
 have c:∀f s row k,s<=top->RIn n row k->Zgt row<=f->iter body (st row k s)=iter body (st (QY R L ((s:Nat):Int) f row k).1 (QY R L ((s:Nat):Int) f row k).2 (s+1)):=by
  intro f
  induction f with
  |zero=>
   intro s row k hs hI hf
   have hc:Qa R L ((s:Nat):Int) row k=[]:=Classical.byContradiction fun hc=>by have:=(hI.next hR hc).2;omega
   exact YV (h2 row k s hI hs hc)
  |succ f ih=>
   intro s row k hs hI hf
   unfold QY
   by_cases hc:Qa R L ((s:Nat):Int) row k=[]
   .rw [if_pos hc]
    exact YV (h2 row k s hI hs hc)
   .rw [if_neg hc,YV (h1 row k s hI hs hc)]
    obtain ⟨a,b⟩:=hI.next hR hc
    exact ih s _ _ hs a yE
 intro d
 induction d with
 |zero=>
  intro s row k hs hI
  obtain rfl:s=top+1:=by omega
  exact YI (h3 row k hI)
 |succ d ih=>
  intro s row k hs hI
  have hu:Zgt row<=n:=by have:=hI.few;omega
  rw [c n s row k yE hI hu]
  exact ih (s+1) _ _ yE (Zgj hR n row k hI hu).1
theorem ZkW {row:List Int}{R:List Zf}{L:List Int}{s:Int}{k:Nat}{l:List Int}(h:∀x,x∈l↔x∈Qa R L s row k):ZgH row l (k:Int)=ZgH row (Qa R L s row k) (k:Int)/\(l=[]↔Qa R L s row k=[]):=by
 refine ⟨Zuh fun i=>?_,?_⟩
 .constructor
  .rintro ⟨x,mx,e⟩;exact ⟨x,(h x).1 mx,e⟩
  .rintro ⟨x,mx,e⟩;exact ⟨x,(h x).2 mx,e⟩
 .rw [B5,B5];exact forall_congr' fun x=>not_congr (h x)
theorem Zt7 {σ ρ:Type}{n:Nat}{R:List Zf}{L:List Int}{s:Int}(hR:∀r∈R,OkN n r) (st:List Int->Nat->List Int->σ) (g:List Int->Nat->ρ) (cm:List Int->Nat->List Int) (a:∀row k x,RIn n row k->(x∈cm row k↔x∈Qa R L s row k)) {body:σ->Option (σ ⊕ ρ)}
  (h1:∀row k,RIn n row k->cm row k≠[]->RIn n (ZgH row (cm row k) (k:Int)) (k+1)->body (st row k (cm row k))=some (.inl (st (ZgH row (cm row k) (k:Int)) (k+1) (cm (ZgH row (cm row k) (k:Int)) (k+1)))))
  (h2:∀row k,RIn n row k->body (st row k [])=some (.inr (g row k))):
  ∀f row k,RIn n row k->Zgt row<=f->iter body (st row k (cm row k))=some (g (QY R L s f row k).1 (QY R L s f row k).2):=by
 intro f;induction f with
 |zero=>
  intro row k hI hf;have hc:Qa R L s row k=[]:=Classical.byContradiction fun hc=>by have:=(hI.next hR hc).2;omega
  rw [(ZkW fun x=>a row k x hI).2.2 hc,YI (h2 row k hI)];rfl
 |succ f ih=>
  intro row k hI hf;unfold QY;by_cases hc:Qa R L s row k=[]
  .rw [if_pos hc,(ZkW fun x=>a row k x hI).2.2 hc,YI (h2 row k hI)]
  .obtain ⟨e1,e2⟩:=ZkW fun x=>a row k x hI;rw [if_neg hc,YV (h1 row k hI (fun h=>hc (e2.1 h)) (by rw [e1];exact (hI.next hR hc).1)),e1];exact ih _ _ (hI.next hR hc).1 (by have:=(hI.next hR hc).2;omega)
end
section
open Classical
structure Zdx (b:Zt):Prop where
 n0:0<=b.nodes
 n1:b.nodes<=24
 len:b.reasons.length<=60
 ok:∀r∈b.reasons,OkN b.nodes.toNat r
 up:∀r∈b.reasons,r.inn.Pairwise (·<·)/\r.outs.Pairwise (·<·)
 few:∀r∈b.reasons,r.inn.length<=4/\r.outs.length<=4
 strat:Zp1 b.reasons
theorem Zdx.of {R:List Zg}{base F:List Zc}(h:Yo R base F) (a:(Xg R F base).length<=60):Zdx {nodes:=(F.length:Int),reasons:=Xg R F base}:=by
 have:=h.len;exact ⟨by simp only;omega,by simp only;omega,a,fun r mr=>by simpa using Zvr h r mr,fun r mr=>(ZeG h mr).up,fun r mr=>ZqQ h mr,ZqX h⟩
theorem Zdx.valid {b:Zt}(h:Zdx b):Zgm b=true:=by
 unfold Zgm;have h0:=h.n0;have h1:=h.n1;simp only[A3,decide_eq_true_eq];refine ⟨h.n0,h.n1,h.len,AA.2 fun r mr=>?_⟩;obtain ⟨⟨f0,f1⟩,f2,f3⟩:=h.ok r mr;obtain ⟨u1,u2⟩:=h.up r mr;unfold ZvJ;simp only[A3,decide_eq_true_eq];exact ⟨f0,yE,ZwI (fun y my=>by have:=f2 y my;omega) u1,ZwI (fun y my=>by have:=f3 y my;omega) u2⟩
theorem Zdx.small {b:Zt}(h:Zdx b):Zx5 b:=fun r mr=>by have:=h.few r mr;omega
def ZaI:List Zc->List Int->List Zc
 |f::F,v::l=>if 0<=v then f::ZaI F l else ZaI F l
 |_,_=>[]
theorem Zo5:∀{F:List Zc}{l:List Int},(ZaI F l).length<=F.length/\∀f∈ZaI F l,f∈F
 | [],l=>by simp [ZaI]
 |f::F,[]=>by simp [ZaI]
 |f::F,v::l=>by
  obtain ⟨h1,h2⟩:=Zo5 (F:=F) (l:=l);unfold ZaI;split
  .refine ⟨by simp;omega,fun g mg=>?_⟩;rcases A5.1 mg with rfl|mg
   .simp
   .simp [h2 g mg]
  .exact ⟨by simp;omega,fun g mg=>by simp [h2 g mg]⟩
def lvB (b:Zt):List Int:=if h:∃L,Zba b.nodes.toNat b.reasons L then Classical.choose h else []
def rdB (b:Zt):List Int:=(QN b.reasons (lvB b) b.nodes.toNat (AD b.nodes.toNat) (B6 b.nodes.toNat (-1),0)).1
theorem Zdx.lv {b:Zt}(h:Zdx b):Zba b.nodes.toNat b.reasons (lvB b)/\∀i,0<=lvN (lvB b) i/\(lvN (lvB b) i<b.nodes.toNat\/lvN (lvB b) i=0):=by
 obtain ⟨L,hL,h2⟩:=Zw5 h.ok h.strat;have a:∃L,Zba b.nodes.toNat b.reasons L:=⟨L,hL⟩
 have e:lvB b=Classical.choose a:=dif_pos a;have h1:Zba b.nodes.toNat b.reasons (lvB b):=by rw [e];exact Classical.choose_spec a
 refine ⟨h1,fun i=>⟨h1.sol.pos i,?_⟩⟩;rw [h1.uniq hL];exact h2 i
theorem ZkE (n:Nat):RIn n (B6 n (-1)) 0:=⟨by simp,fun i hi=>⟨-1,by simp [hi],.inl rfl⟩,by
 have:=Ad (p:=fun v:Int=>decide (v<0)) (l:=B6 n (-1));rw [List.length_replicate]at this;unfold Zgt;omega⟩
theorem Zdx.rd {b:Zt}(h:Zdx b):(rdB b).length=b.nodes.toNat:=(Zm9 h.ok _ _ (ZkE _)).len
end
end
end Go.Proofs.YtlpkbfjcdaanmaaGreatDoor
