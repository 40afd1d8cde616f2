/- Texts of this proof, joined: BDraw, BAny, BSound, BFn, BTok, Laid, DT. What each holds is said at its theorems. -/
import Derived.Test.YtcaokdmjlknmmaaGreatDoorIsDeskQ4
import Derived.Orders
import Derived.Test.YtcaokdmjlknmmaaGreatDoorIsDeskQ1
import Derived.Test.YtcaokdmjlknmmaaGreatDoorIsDeskQ3
import GoSem.Claims
import Derived.Test.YtcaokdmjlknmmaaGreatDoorIsDeskQ2
import Derived.Test.YtcaokdmjlknmmaaGreatDoorProg
import Derived.Lib.LaidTab
import Derived.Lib.ItoaNum
open Array renaming replicate→AM,getD_eq_getD_getElem?→AN,getElem?_eq_none→Ag,getElem?_eq_some_iff→Ai,getElem?_setIfInBounds→Ao,getElem?_setIfInBounds_ne→Aq,getElem?_append→Ax
open Bool renaming and_eq_true→AC,or_eq_true→AK,not_eq_true'→Ac
open List renaming map→A0,mem_append→AE,mem_map→AF,mem_cons→AJ,getElem?_eq_some_iff→AO,nodup_cons→AP,all_eq_true→AQ,map_congr_left→AT,not_mem_nil→AW,nodup_append→AX,mem_of_getElem?→AY,range→AZ,cons_append→Ad,mem_flatMap→Ah,set_getElem_self→Al,mem_or_eq_of_mem_set→Am,mem_filterMap→An,getElem_mem→As,range_eq_range'→At,mapM_cons→Au,toArray→Aw,size_toArray→Ay,mem_range'_1→Az,mem_iff_getElem?→B9,length_eq_one_iff→BB
open List.Sublist renaming append→Ak,refl→Ar
open List.cons renaming injEq→Aa
open Nat renaming le_of_ble_eq_true→AH,zero_le→AI,le_refl→AL,lt_or_ge→Ae
open Option renaming map_eq_some_iff→AD,bind_eq_some_iff→AG,map_none→AR,map_some→AS,bind_some→AU,getD_some→Aj
open Option.some renaming injEq→AA
open Prod.mk renaming injEq→AB
open Go.Proofs.Tryz
set_option linter.unusedSimpArgs false
set_option linter.unusedVariables false
set_option maxRecDepth 1000000
set_option maxHeartbeats 4000000
namespace Go.Proofs.YtcaokdmjlknmmaaGreatDoor
theorem yO{p:Prop}(h:p:=by kernel_rfl):p:=h
theorem yP{α:Type}{a:Option α}{b c:α}(h:a=some b)(e:b=c:=by kernel_rfl):a=some c:=h.trans (congrArg some e)
section
open Go.RowKit
def Zxh:Option TI->Bool
 |some (.slice _ _ _ z)=>z.all ZjT
 |_=>false
def cls (tt:Nat->Option TI) (hs:FuncId->Nat):Op->Nat
 |.move _=>0
 |.assign _=>0
 |.pick _ _ _=>0
 |.build _ _=>0
 |.nilCheck _=>0
 |.binOp _ _ _ _ _=>0
 |.unOp _ _ _=>0
 |.convert _ t _=>if Zdh (tt t)=true then 1 else 0
 |.slice t _ lo hi _=>if Zdh (tt t)=true then 0 else if lo.isSome&&hi.isNone then 4 else 3
 |.fieldAddr _ _ _=>0
 |.field _ _ _=>0
 |.index _ _ _=>0
 |.extract _ _=>0
 |.alloc _=>1
 |.box _ _=>1
 |.load _ _=>1
 |.makeMap _ _=>1
 |.lookup _ _ _ _=>1
 |.makeSlice _ _ _=>1
 |.indexAddr _ _ _=>1
 |.buildSlice t _ ps=>if ps.size=0\/Zxh (tt t)=true then 2 else 3
 |.call ⟨.builtin .len,_,_⟩=>1
 |.call ⟨.builtin .max,_,_⟩=>0
 |.call ⟨.builtin .min,_,_⟩=>0
 |.call ⟨.value (.func f),_,_⟩=>if hs f=0\/hs f=4 then 1 else 4
 |_=>4
section
variable {P:Program} {W:ZaA} {U:Nat->Prop} {key:Nat} {st st':St} {w w':World} {a:Act} {tt:Nat->Option TI} {S:Ctx} {Q:Exit->Act->World->Prop}
def Zak (tt:Nat->Option TI) (S:Ctx) (key:Nat) (o:Oper) (st:St) (v:SV) (u:List (Nat×Ob)):Prop:=
 match YG o.op with
 |some c=>QU S c.1 (S.hd c.1) key st (evs tt st c.2.1 c.2.2) v u
 |none=>match Xf o.op with
  |some c=>∃fc,Zon (st.sl c.1)=some fc/\S.hd fc.1=0/\QU S fc.1 0 key st (evs tt st c.2.1 c.2.2++fc.2.map ZkF) v u
  |none=>opE tt key o st=some (v,u)
def opR (tt:Nat->Option TI) (S:Ctx) (all:List Oper) (key:Nat) (o:Oper) (st:St) (v:SV) (u:List (Nat×Ob)):Prop:=
 match ZaZ all o with
 |none=>Zak tt S key o st v u
 |some (none,_)=>v=.und/\u=[]
 |some (some t,want)=>gK (st.sl t) want (Zak tt S key o st v u) (v=.und/\u=[])
theorem ZtD [NW] {o:Oper}{K:St->Prop}:opS tt S key o K st↔∃v u,Zak tt S key o st v u/\K ((st.put o.dst v).app u):=by
 cases hc:YG o.op with
 |some c=>
  simp only[opS,Zak,hc]
  exact Zlc
 |none=>
  simp only[opS,Zak,hc]
  cases hd:Xf o.op with
  |some c=>
   simp only
   constructor
   .intro h
    unfold Ye at h
    split at h
    .rename_i fc a
     obtain ⟨h0,h⟩:=h
     obtain ⟨v,u,h1,h2⟩:=Zlc.1 h
     exact ⟨v,u,⟨fc,a,h0,h1⟩,h2⟩
    .exact h.elim
   .rintro ⟨v,u,⟨fc,a,h0,h1⟩,h2⟩
    rw [a]
    exact ⟨h0,Zlc.2 ⟨v,u,h1,h2⟩⟩
  |none=>
   simp only
   constructor
   .intro h
    unfold Ye at h
    split at h
    .rename_i r hr
     exact ⟨r.1,r.2,hr,h⟩
    .exact h.elim
   .rintro ⟨v,u,h1,h2⟩
    rw [h1]
    exact h2
theorem Zhu [NW] {all:List Oper}{o:Oper}{K:St->Prop}:opG tt S all key o K st↔∃v u,opR tt S all key o st v u/\K ((st.put o.dst v).app u):=by
 have a:K (st.put o.dst .und)↔∃v u,(v=SV.und/\u=[])/\K ((st.put o.dst v).app u):=by
  constructor
  .intro h;exact ⟨.und,[],⟨rfl,rfl⟩,h⟩
  .rintro ⟨v,u,⟨rfl,rfl⟩,h⟩;exact h
 cases hg:ZaZ all o with
 |none=>simp only[opG,opR,hg];exact ZtD
 |some q=>
  obtain ⟨q,b⟩:=q
  cases q with
  |none=>simp only[opG,opR,hg];exact a
  |some t=>
   simp only[opG,opR,hg,gK]
   by_cases h1:Zam (st.sl t)=true
   .by_cases h2:(X8 (st.sl t)==b)=true
    .simp only[h1,h2,if_true];exact ZtD
    .simp only[h1,h2,if_true,if_false];exact a
   .by_cases h2:Zp9 (st.sl t)=true
    .simp only[h1,h2,if_true,if_false];exact a
    .simp only[h1,h2,if_false];simp
theorem Zej [NW] {ts:List TypeId}{xs:List Operand}(h:∀x∈xs,∀t,st.ev tt t x=st'.ev tt t x):evs tt st ts xs=evs tt st' ts xs:=by
 unfold evs
 refine AT fun p hp=>h p.2 ?_ p.1
 rw [<-Zfu ts xs]
 exact AF.2 ⟨p,hp,rfl⟩
def Wk (st st':St) (U:Nat->Prop):Prop:=∀k,U k->st'.ob k=st.ob k\/st'.ob k=Z6 (st.ob k)
theorem Wk.of (h:∀k,U k->st.ob k=st'.ob k):Wk st st' U:=fun k hk=>.inl (h k hk).symm
theorem Zhc (a:Wk st st' U):∀{xs:List AV},XD U xs->YI st xs=YI st' xs
 | [],_=>rfl
 |x::r,h=>by
  have hx:Zcb st x=Zcb st' x:=by
   cases x with
   |row k=>
    simp only[Zcb]
    rcases a k (h (.row k) yG) with e|e
    .rw [e]
    .rw [e];cases st.ob k<;>rfl
   |_=>rfl
  have hr:=Zhc a (xs:=r) (fun y m=>h y (by simp [m]))
  simp only[YI,hx,hr]
theorem ZeA [NW] (a:Wk st st' U):∀{xs:List SV},(∀x∈xs,svU U x)->ZU st xs=ZU st' xs
 | [],_=>rfl
 |x::r,h=>by
  have hx:Zdr st x=Zdr st' x:=by
   cases x with
   |p ag cs=>simp only[Zdr,Zhc a (h (.p ag cs) yG)]
   |_=>rfl
  have hr:=ZeA a (xs:=r) (fun y m=>h y (by simp [m]))
  simp only[ZU,hx,hr]
theorem Zti (a:Wk st st' U) {t:Option TI}{x:SV}(hx:svU U x):Qb st t x=Qb st' t x:=by
 cases x with
 |bp k off=>
  simp only[Qb]
  rcases a k hx with e|e
  .rw [e]
  .rw [e];cases st.ob k<;>rfl
 |rp k m i off=>
  simp only[Qb]
  rcases a k hx with e|e
  .rw [e]
  .rw [e];cases st.ob k<;>rfl
 |p ag cs=>cases ag with
  |true=>rfl
  |false=>cases cs with
   |nil=>rfl
   |cons y r=>cases r<;>cases y<;>first|rfl|(rename_i z;cases z<;>rfl)|(rename_i z _ _;cases z<;>rfl)
 |_=>rfl
theorem Zvr (a:Wk st st' U) {t:Option TI}{x:SV}(hx:svU U x):ZnR st t x=ZnR st' t x:=by
 unfold ZnR
 split<;>try rfl
 rename_i k
 rcases a k (hx (.row k) yG) with e|e
 .rw [e]
 .rw [e];cases st.ob k<;>rfl
theorem Zpf (a:Wk st st' U) {m:Nat}{x i:SV}(hx:svU U x):QT st m x i=QT st' m x i:=by
 unfold QT
 split<;>try rfl
 rename_i k _ _
 rcases a k (hx (.row k) yG) with e|e
 .rw [e]
 .rw [e];cases st.ob k<;>rfl
theorem Zup (a:st.ob=st'.ob) (x:SV):Zjh st x=Zjh st' x:=by
 unfold Zjh
 rw [a]
theorem ZmF [NW] (a:st.ob=st'.ob):∀xs:List SV,ZeI st xs=ZeI st' xs
 | []=>rfl
 |x::r=>by simp only[ZeI,Zup a x,ZmF a r]
theorem Zs4 (a:Wk st st' U) {t:Option TI}{x i:SV}{ok:Bool}(hx:svU U x):Zg0 st t x i ok=Zg0 st' t x i ok:=by
 unfold Zg0
 split<;>try rfl
 rename_i k
 rcases a k (hx (.row k) yG) with e|e
 .rw [e]
 .rw [e];cases st.ob k<;>rfl
theorem ZsO (a:Wk st st' U) {x:SV}(hx:svU U x):Zh5 st x=Zh5 st' x:=by
 unfold Zh5
 split<;>try rfl
 rename_i k
 rcases a k (hx (.row k) yG) with e|e
 .rw [e]
 .rw [e];cases st.ob k<;>rfl
theorem Zse [NW] (a:Wk st st' U) {s t:Nat}{x:SV}(hx:svU U x):ZgO tt st s t x=ZgO tt st' s t x:=by
 unfold ZgO
 rw [ZsO a hx]
def Mk (st st':St) (U:Nat->Prop):Prop:=∀k,U k->st'.ob k=st.ob k\/st'.ob k=.gone
theorem Zkq (c:Mk st st' U):∀{xs:List AV}{r:List CT},XD U xs->YI st' xs=some r->YI st xs=some r
 | [],_,_,h=>h
 |x::xs,r,hu,h=>by
  simp only[YI]at h ⊢
  obtain ⟨a,h1,h⟩:=AG.1 h
  obtain ⟨b,h2,rfl⟩:=AD.1 h
  have hx:Zcb st x=some a:=by
   cases x with
   |row k=>
    simp only[Zcb]at h1 ⊢
    rcases c k (hu (.row k) yG) with e|e
    .rwa [e]at h1
    .rw [e]at h1;simp at h1
   |_=>exact h1
  rw [hx,AU,Zkq c (fun y m=>hu y (by simp [m])) h2]
  rfl
theorem ZgW [NW] (c:Mk st st' U):∀{xs:List SV}{r:List (Bool×List CT)},(∀x∈xs,svU U x)->ZU st' xs=some r->ZU st xs=some r
 | [],_,_,h=>h
 |x::xs,r,hu,h=>by
  simp only[ZU]at h ⊢
  obtain ⟨a,h1,h⟩:=AG.1 h
  obtain ⟨b,h2,rfl⟩:=AD.1 h
  have hx:Zdr st x=some a:=by
   cases x with
   |p ag cs=>
    simp only[Zdr]at h1 ⊢
    obtain ⟨l,h3,rfl⟩:=AD.1 h1
    rw [Zkq c (hu (.p ag cs) yG) h3]
    rfl
   |_=>exact h1
  rw [hx,AU,ZgW c (fun y m=>hu y (by simp [m])) h2]
  rfl
theorem Zsj (a:Mk st st' U) {t:Option TI}{x r:SV}(hx:svU U x) (h:Qb st' t x=some r):Qb st t x=some r:=by
 cases x with
 |bp k off=>
  simp only[Qb]at h ⊢
  rcases a k hx with e|e
  .rwa [e]at h
  .rw [e]at h;simp at h
 |rp k m i off=>
  simp only[Qb]at h ⊢
  rcases a k hx with e|e
  .rwa [e]at h
  .rw [e]at h;simp at h
 |p ag cs=>cases ag with
  |true=>exact h
  |false=>cases cs with
   |nil=>exact h
   |cons y r=>cases r<;>cases y<;>first|exact h|(rename_i z;cases z<;>exact h)|(rename_i z _ _;cases z<;>exact h)
 |_=>exact h
theorem ZuB (a:Mk st st' U) {t:Option TI}{x r:SV}(hx:svU U x) (h:ZnR st' t x=some r):ZnR st t x=some r:=by
 unfold ZnR at h ⊢
 split at h<;>try exact h
 rename_i k
 rcases a k (hx (.row k) yG) with e|e
 .rwa [e]at h
 .rw [e]at h;simp at h
theorem Zpc (a:Mk st st' U) {m:Nat}{x i r:SV}(hx:svU U x) (h:QT st' m x i=some r):QT st m x i=some r:=by
 unfold QT at h ⊢
 split at h<;>try exact h
 rename_i k _ _
 rcases a k (hx (.row k) yG) with e|e
 .rwa [e]at h
 .rw [e]at h;simp at h
theorem Zs8 (a:Mk st st' U) {t:Option TI}{x i r:SV}{ok:Bool}(hx:svU U x) (h:Zg0 st' t x i ok=some r):Zg0 st t x i ok=some r:=by
 unfold Zg0 at h ⊢
 split at h<;>try exact h
 rename_i k
 rcases a k (hx (.row k) yG) with e|e
 .rwa [e]at h
 .rw [e]at h;simp at h
theorem Zs3 (a:Mk st st' U) {x r:SV}(hx:svU U x) (h:Zh5 st' x=some r):Zh5 st x=some r:=by
 unfold Zh5 at h ⊢
 split at h<;>try exact h
 rename_i k
 rcases a k (hx (.row k) yG) with e|e
 .rwa [e]at h
 .rw [e]at h;simp at h
theorem ZtA (h:st.ob=st'.ob):∀xs:List AV,Zdc st xs=Zdc st' xs
 | []=>rfl
 |x::r=>by
  have e:avT st x=avT st' x:=by
   cases x with
   |row k=>simp only[avT,h]
   |c y=>cases y<;>rfl
   |_=>rfl
  simp only[Zdc,e,ZtA h r]
theorem Zuy (h:st.ob=st'.ob) (t:Option TI) (x v:SV):Zf6 st t x v=Zf6 st' t x v:=by
 unfold Zf6
 split
 .rw [h]
 .rw [h]
  split
  .rename_i vs _ _ _ _ _ _
   cases ZfW vs with
   |some ys=>rfl
   |none=>simp only[Zmc,ZtA h]
  .rfl
 .rfl
theorem Zn8 [NW] {o:Oper}{sl a:Nat->SV}{ob:Nat->Ob}{n n':Nat}(hl:∀x∈o.op.operands,∀t,St.ev tt ⟨sl,ob,n⟩ t x=St.ev tt ⟨a,ob,n'⟩ t x):opE tt key o ⟨sl,ob,n⟩=opE tt key o ⟨a,ob,n'⟩:=by
 obtain ⟨dst,op,ty,pos,af,gd⟩:=o
 cases op with
 |build t d=>
  have hp:∀fs z,d.toList.map (Zgg tt ⟨sl,ob,n⟩ fs z)=d.toList.map (Zgg tt ⟨a,ob,n'⟩ fs z):=fun fs z=>AT fun p hp=>by
   have:=hl p.2 (by simp [Op.operands];exact ⟨p.1,by simpa using hp⟩) 0
   unfold Zgg
   split
   .rfl
   .rw [this]
  simp only[opE,hp]
 |buildSlice t len d=>
  have hp:∀e,(d.toList.map fun p=>St.ev tt ⟨sl,ob,n⟩ e p.2)=d.toList.map fun p=>St.ev tt ⟨a,ob,n'⟩ e p.2:=fun e=>AT fun p hp=>hl p.2 (by simp [Op.operands];exact ⟨p.1,by simpa using hp⟩) e
  have he:∀m l,Y6 ⟨sl,ob,n⟩ m l=Y6 ⟨a,ob,n'⟩ m l:=fun m l=>by
   have h1:∀x,avT ⟨sl,ob,n⟩ x=avT ⟨a,ob,n'⟩ x:=fun x=>by cases x<;>rfl
   have h2:∀xs,Zdc ⟨sl,ob,n⟩ xs=Zdc ⟨a,ob,n'⟩ xs:=fun xs=>by
    induction xs with
    |nil=>rfl
    |cons x xs ih=>simp only[Zdc,h1,ih]
   induction l with
   |nil=>rfl
   |cons x xs ih=>cases x<;>simp only[Y6,h2,ih]
  have hz:∀ks,ZI ⟨sl,ob,n⟩ ks=ZI ⟨a,ob,n'⟩ ks:=fun ks=>by
   induction ks with
   |nil=>rfl
   |cons k r ih=>simp only[ZI,ih]
  simp only[opE,hp,he,hz]
 |slice t x lo hi mx=>
  simp only[Op.operands]at hl
  cases mx with
  |some _=>rfl
  |none=>
   have hx:=fun t=>hl x yG t
   cases lo with
   |none=>cases hi with
    |none=>simp only[opE,hx,AR];rfl
    |some h=>have hh:=fun t=>hl h yG t;simp only[opE,hx,hh,AR,AS];rfl
   |some l=>
    have q:=fun t=>hl l yG t
    cases hi with
    |none=>simp only[opE,hx,q,AR,AS];rfl
    |some h=>have hh:=fun t=>hl h yG t;simp only[opE,hx,q,hh,AS];rfl
 |call c=>
  obtain ⟨g,args,ts⟩:=c
  cases g with
  |builtin b=>
   have:=Zej (tt:=tt) (st:=⟨sl,ob,n⟩) (st':=⟨a,ob,n'⟩) (ts:=ts.toList) (xs:=args.toList) (fun x m t=>hl x (by simp [Op.operands,Call.operands];simpa using m) t)
   simp only[opE,this]
   unfold ZfU
   split<;>rfl
  |value f=>rfl
  |invoke r m=>rfl
 |move x=>have:=fun t=>hl x (by simp [Op.operands]) t;simp only[opE,this]
 |assign x=>have:=fun t=>hl x (by simp [Op.operands]) t;simp only[opE,this]
 |pick c x y=>have h1:=fun t=>hl c (by simp [Op.operands]) t;have h2:=fun t=>hl x (by simp [Op.operands]) t;have h3:=fun t=>hl y (by simp [Op.operands]) t;simp only[opE,h1,h2,h3]
 |alloc t=>rfl
 |box t x=>have:=fun t=>hl x (by simp [Op.operands]) t;simp only[opE,this]
 |load t x=>have:=fun t=>hl x (by simp [Op.operands]) t;simp only[opE,this];rfl
 |store t x v=>have h1:=fun t=>hl x (by simp [Op.operands]) t;have h2:=fun t=>hl v (by simp [Op.operands]) t;simp only[opE,h1,h2];rw [Zuy (st:=⟨sl,ob,n⟩) (st':=⟨a,ob,n'⟩) rfl]
 |nilCheck x=>have:=fun t=>hl x (by simp [Op.operands]) t;simp only[opE,this]
 |binOp op t x y t'=>have h1:=fun t=>hl x (by simp [Op.operands]) t;have h2:=fun t=>hl y (by simp [Op.operands]) t;simp only[opE,h1,h2]
 |unOp op t x=>have:=fun t=>hl x (by simp [Op.operands]) t;simp only[opE,this]
 |convert s t x=>have:=fun t=>hl x (by simp [Op.operands]) t;simp only[opE,this];rfl
 |makeFunc fn first j=>
  cases fn with
  |func f=>
   have hc:j.toList.map (St.ev tt ⟨sl,ob,n⟩ 0)=j.toList.map (St.ev tt ⟨a,ob,n'⟩ 0):=AT fun x hx=>hl x (by simp [Op.operands];exact .inr (by simpa using hx)) 0
   simp only[opE,hc,ZmF (st:=⟨sl,ob,n⟩) (st':=⟨a,ob,n'⟩) rfl]
  |_=>rfl
 |makeMap t r=>cases r<;>rfl
 |lookup t x i ok=>have h1:=fun t=>hl x (by simp [Op.operands]) t;have h2:=fun t=>hl i (by simp [Op.operands]) t;simp only[opE,h1,h2];rfl
 |mapUpdate t x i v=>have h1:=fun t=>hl x (by simp [Op.operands]) t;have h2:=fun t=>hl i (by simp [Op.operands]) t;have h3:=fun t=>hl v (by simp [Op.operands]) t;simp only[opE,h1,h2,h3];rfl
 |makeSlice t x y=>have h1:=fun t=>hl x (by simp [Op.operands]) t;have h2:=fun t=>hl y (by simp [Op.operands]) t;simp only[opE,h1,h2]
 |fieldAddr t x f=>have:=fun t=>hl x (by simp [Op.operands]) t;simp only[opE,this]
 |field t x f=>have:=fun t=>hl x (by simp [Op.operands]) t;simp only[opE,this]
 |indexAddr t x y=>have h1:=fun t=>hl x (by simp [Op.operands]) t;have h2:=fun t=>hl y (by simp [Op.operands]) t;simp only[opE,h1,h2];rfl
 |index t x y=>have h1:=fun t=>hl x (by simp [Op.operands]) t;have h2:=fun t=>hl y (by simp [Op.operands]) t;simp only[opE,h1,h2]
 |extract x i=>have:=fun t=>hl x (by simp [Op.operands]) t;simp only[opE,this]
 |_=>rfl
theorem Zt5 (sl:Nat->SV) (ob ob':Nat->Ob) (n n' t:Nat) (x:Operand):St.ev tt ⟨sl,ob,n⟩ t x=St.ev tt ⟨sl,ob',n'⟩ t x:=by cases x<;>rfl
theorem Zwa {st st':St}(h:∀k,U k->st.ob k=st'.ob k) {x:AV}(hx:avU U x):avT st x=avT st' x:=by
 cases x with
 |row k=>simp only[avT];rw [h k hx]
 |c x=>cases x<;>rfl
 |nil e m=>rfl
 |n x=>rfl
 |dead=>rfl
theorem Zn6 [NW] {st st':St}(h:∀k,U k->st.ob k=st'.ob k):∀{xs:List AV},XD U xs->Zdc st xs=Zdc st' xs
 | [],_=>rfl
 |x::r,hx=>by simp only[Zdc];rw [Zwa h (hx x yG),Zn6 h fun y m=>hx y (by simp [m])]
theorem Zkp [NW] {st st':St}{m:Nat}(h:∀k,U k->st.ob k=st'.ob k):∀{xs:List SV},(∀v∈xs,svU U v)->Y6 st m xs=Y6 st' m xs
 | [],_=>rfl
 |.p a cs::r,hx=>by
  simp only[Y6]
  rw [Zn6 h (hx (.p a cs) yG),Zkp h fun v mv=>hx v (by simp [mv])]
 |.any::r,_=>rfl
 |.und::r,_=>rfl
 |.tup _::r,_=>rfl
 |.bp _ _::r,_=>rfl
 |.rp _ _ _ _::r,_=>rfl
 |.ep _ _::r,_=>rfl
 |.fn _::r,_=>rfl
theorem Zvh {x:AV}{ct:CT}{ks:List Nat}{d:Nat}(h:avT st x=some (ct,ks,d)) (hx:avU U x):∀k∈ks,U k:=by
 intro k mk
 cases x with
 |c y=>cases y<;>simp only[avT,AA,AB]at h<;>(rw [<-h.2.1]at mk;simp at mk)
 |nil e m=>
  simp only[avT]at h
  split at h<;>simp only[AA,AB,reduceCtorEq]at h
  rw [<-h.2.1]at mk;simp at mk
 |row j=>
  simp only[avT]at h
  split at h
  .split at h<;>simp only[AA,AB]at h
   .rw [<-h.2.1]at mk;simp at mk
   .rw [<-h.2.1]at mk;simp at mk;subst mk;exact hx
  .simp at h
 |n x=>simp [avT]at h
 |dead=>simp [avT]at h
theorem Zmv [NW]:∀{xs:List AV}{cts:List CT}{ks:List Nat}{d:Nat},Zdc st xs=some (cts,ks,d)->XD U xs->∀k∈ks,U k
 | [],_,_,_,h,_,k,mk=>by simp only[Zdc,AA,AB]at h;rw [<-h.2.1]at mk;simp at mk
 |x::r,_,_,_,h,hu,k,mk=>by
  simp only[Zdc]at h
  obtain ⟨⟨c1,k1,d1⟩,h1,h⟩:=AG.1 h
  obtain ⟨⟨c2,k2,d2⟩,h2,h⟩:=AD.1 h
  simp only[AB]at h
  rw [<-h.2.1]at mk
  rcases AE.1 mk with mk|mk
  .exact Zvh h1 (hu x yG) k mk
  .exact Zmv h2 (fun y my=>hu y (by simp [my])) k mk
theorem Zf1 [NW] {m:Nat}:∀{xs:List SV}{es:List (List CT)}{ks:List Nat}{d:Nat},Y6 st m xs=some (es,ks,d)->(∀v∈xs,svU U v)->∀k∈ks,U k
 | [],_,_,_,h,_,k,mk=>by simp only[Y6,AA,AB]at h;rw [<-h.2.1]at mk;simp at mk
 |x::r,_,_,_,h,hu,k,mk=>by
  cases x with
  |p a cs=>
   simp only[Y6]at h
   split at h
   .obtain ⟨⟨c1,k1,d1⟩,h1,h⟩:=AG.1 h
    obtain ⟨⟨c2,k2,d2⟩,h2,h⟩:=AD.1 h
    simp only[AB]at h
    rw [<-h.2.1]at mk
    rcases AE.1 mk with mk|mk
    .exact Zmv h1 (hu (.p a cs) yG) k mk
    .exact Zf1 h2 (fun v mv=>hu v (by simp [mv])) k mk
   .simp at h
  |_=>simp [Y6]at h
theorem ZrZ {st st':St}{ks:List Nat}(h:∀k∈ks,st.ob k=st'.ob k):ZI st ks=ZI st' ks:=by
 induction ks with
 |nil=>rfl
 |cons k r ih=>simp only[ZI,h k yG,ih fun j mj=>h j (by simp [mj])]
theorem Zlq {ks:List Nat}{p:Nat×Ob}(h:p∈ZI st ks):p.1∈ks/\p.2=Z6 (st.ob p.1):=by
 induction ks with
 |nil=>simp [ZI]at h
 |cons k r ih=>
  simp only[ZI,AJ]at h
  rcases h with rfl|h
  .exact ⟨yG,rfl⟩
  .exact ⟨by simp [(ih h).1],(ih h).2⟩
theorem Zlm [NW] {hs:FuncId->Nat}{o:Oper}{sl:Nat->SV}{ob ob':Nat->Ob}{n n':Nat}(h:cls tt hs o.op=0\/(cls tt hs o.op<=3/\(∀k,U k->ob k=ob' k)/\∀t x,svU U (St.ev tt ⟨sl,ob,n⟩ t x))\/(cls tt hs o.op<=1/\Wk ⟨sl,ob,n⟩ ⟨sl,ob',n'⟩ U/\∀t x,svU U (St.ev tt ⟨sl,ob,n⟩ t x))):opE tt key o ⟨sl,ob,n⟩=opE tt key o ⟨sl,ob',n'⟩:=by
 have he:=fun t x=>Zt5 (tt:=tt) sl ob ob' n n' t x
 have q:cls tt hs o.op<=3:=by rcases h with h|h|h<;>omega
 have j:cls tt hs o.op=0\/(Wk ⟨sl,ob,n⟩ ⟨sl,ob',n'⟩ U/\∀t x,svU U (St.ev tt ⟨sl,ob',n'⟩ t x)):=by
  rcases h with h|h|h
  .exact .inl h
  .exact .inr ⟨fun k hk=>.inl (h.2.1 k hk).symm,fun t x=>he t x ▸ h.2.2 t x⟩
  .exact .inr ⟨h.2.1,fun t x=>he t x ▸ h.2.2 t x⟩
 obtain ⟨dst,op,ty,pos,af,gd⟩:=o
 cases op with
 |build t d=>
  have hp:∀fs z,d.toList.map (Zgg tt ⟨sl,ob,n⟩ fs z)=d.toList.map (Zgg tt ⟨sl,ob',n'⟩ fs z):=fun fs z=>AT fun p hp=>by
   unfold Zgg
   split
   .rfl
   .rw [he]
  simp only[opE,hp]
 |buildSlice t len d=>
  have hc:2<=cls tt hs (.buildSlice t len d):=by simp only[cls];split<;>omega
  have h':(∀k,U k->ob k=ob' k)/\∀t x,svU U (St.ev tt ⟨sl,ob,n⟩ t x):=by
   rcases h with h|h|h
   .simp only at h;omega
   .exact h.2
   .simp only at h;omega
  obtain ⟨h1,h2⟩:=h'
  simp only[opE,he]
  split
  .rename_i e m _ z _
   have hu:∀v∈d.toList.map (fun p=>St.ev tt ⟨sl,ob',n'⟩ e p.2),svU U v:=fun v mv=>by obtain ⟨p,_,rfl⟩:=AF.1 mv;rw [<-he];exact h2 _ _
   rw [Zkp (U:=U) (st:=⟨sl,ob,n⟩) (st':=⟨sl,ob',n'⟩) h1 hu]
   cases hel:Y6 ⟨sl,ob',n'⟩ m (d.toList.map fun p=>St.ev tt ⟨sl,ob',n'⟩ e p.2) with
   |none=>rfl
   |some a=>
    have hk:=Zf1 (U:=U) hel hu
    have:=ZrZ (st:=⟨sl,ob,n⟩) (st':=⟨sl,ob',n'⟩) (ks:=a.2.1) (fun k mk=>h1 k (hk k mk))
    simp only[AU,this]
  .rfl
 |load t x=>
  obtain ⟨h1,h2⟩:=j.resolve_left (by simp [cls])
  simp only[opE,he]
  rw [Zti (U:=U) (st:=⟨sl,ob,n⟩) (st':=⟨sl,ob',n'⟩) h1 (h2 0 x)]
 |indexAddr t x y=>
  obtain ⟨h1,h2⟩:=j.resolve_left (by simp [cls])
  simp only[opE,he]
  split
  .rw [Zpf (U:=U) (st:=⟨sl,ob,n⟩) (st':=⟨sl,ob',n'⟩) h1 (h2 0 x)]
  .rfl
 |call c=>
  obtain ⟨u,args,ts⟩:=c
  cases u with
  |builtin b=>
   have A:evs tt ⟨sl,ob,n⟩ ts.toList args.toList=evs tt ⟨sl,ob',n'⟩ ts.toList args.toList:=Zej fun x _ t=>he t x
   simp only[opE,A]
   unfold ZfU
   split
   .rename_i t _ v he1 B
    obtain ⟨h1,h2⟩:=j.resolve_left (by simp [cls])
    have hu:svU U v:=by
     have hm:v∈evs tt ⟨sl,ob',n'⟩ ts.toList args.toList:=by simp [B]
     obtain ⟨p,_,rfl⟩:=AF.1 hm
     exact h2 _ _
    rw [Zvr (U:=U) (st:=⟨sl,ob,n⟩) (st':=⟨sl,ob',n'⟩) h1 hu]
   .simp [cls]at q
   .rfl
   .rfl
   .rfl
  |value f=>rfl
  |invoke r m=>rfl
 |store t x v=>simp [cls]at q
 |makeFunc fn first caps=>simp [cls]at q
 |mapUpdate t x i v=>simp [cls]at q
 |makeMap t r=>cases r<;>rfl
 |lookup t x i ok=>
  obtain ⟨h1,h2⟩:=j.resolve_left (by simp [cls])
  simp only[opE,he]
  rw [Zs4 (U:=U) (st:=⟨sl,ob,n⟩) (st':=⟨sl,ob',n'⟩) h1 (h2 0 x)]
 |convert s t x=>
  simp only[opE,he]
  by_cases w:Zdh (tt t)=true
  .obtain ⟨h1,h2⟩:=j.resolve_left (by simp [cls,w])
   rw [Zse (U:=U) (st:=⟨sl,ob,n⟩) (st':=⟨sl,ob',n'⟩) h1 (h2 0 x)]
  .have e:∀st:St,ZgO tt st s t (St.ev tt ⟨sl,ob',n'⟩ 0 x)=ZqM (tt s) (tt t) (St.ev tt ⟨sl,ob',n'⟩ 0 x):=fun st=>by
    unfold ZgO
    rw [if_neg (by simp [w])]
   rw [e,e]
 |slice t x lo hi mx=>
  cases mx with
  |some _=>rfl
  |none=>
   by_cases g:Zdh (tt t)=true
   .have C:Zb6 (tt t)=false:=by
     unfold Zdh at g
     split at g
     .rename_i e;rw [e];rfl
     .simp at g
    have hu:∀l h v,Q7 ⟨sl,ob,n⟩ key (tt t) l h v=Q7 ⟨sl,ob',n'⟩ key (tt t) l h v:=fun l h v=>by
     unfold Q7
     split
     .simp [C]
     .rfl
     .rfl
    cases lo<;>cases hi<;>simp only[opE,he,AR,AS,hu]
   .have hc:2<cls tt hs (.slice t x lo hi none):=by simp only[cls];rw [if_neg g];split<;>omega
    have h':(∀k,U k->ob k=ob' k)/\∀t x,svU U (St.ev tt ⟨sl,ob,n⟩ t x):=by
     rcases h with h|h|h
     .simp only at h;omega
     .exact h.2
     .simp only at h;omega
    obtain ⟨h1,h2⟩:=h'
    have hu:∀l h v,svU U v->Q7 ⟨sl,ob,n⟩ key (tt t) l h v=Q7 ⟨sl,ob',n'⟩ key (tt t) l h v:=fun l h v hv=>by
     unfold Q7
     split
     .rename_i k
      have hk:U k:=hv (.row k) yG
      simp only[h1 k hk]
     .rfl
     .rfl
    simp only[opE,he]
    exact hu _ _ _ (he 0 x ▸ h2 0 x)
 |_=>first|rfl|simp only[opE,he]
theorem Zea {x y:Option SV}{r:SV×List (Nat×Ob)}(h:∀v,x=some v->y=some v) (hx:Zbt x=some r):Zbt y=some r:=by
 obtain ⟨v,h1,rfl⟩:=AD.1 hx
 rw [h v h1]
 rfl
theorem ZxF [NW] {hs:FuncId->Nat}{o:Oper}{sl:Nat->SV}{ob ob':Nat->Ob}{n n':Nat}{r:SV×List (Nat×Ob)}(hc:cls tt hs o.op<=1) (a:Mk ⟨sl,ob,n⟩ ⟨sl,ob',n'⟩ U) (hu:∀t x,svU U (St.ev tt ⟨sl,ob,n⟩ t x)) (h:opE tt key o ⟨sl,ob',n'⟩=some r):opE tt key o ⟨sl,ob,n⟩=some r:=by
 have he:=fun t x=>Zt5 (tt:=tt) sl ob ob' n n' t x
 by_cases h0:cls tt hs o.op=0
 .rw [Zlm (U:=U) (n':=n') (ob':=ob') (.inl h0)];exact h
 obtain ⟨dst,op,ty,pos,af,gd⟩:=o
 cases op with
 |load t x=>
  simp only[opE,he]at h ⊢
  exact Zea (fun v hv=>Zsj a (he 0 x ▸ hu 0 x) hv) h
 |indexAddr t x y=>
  simp only[opE,he]at h ⊢
  split at h
  .exact Zea (fun v hv=>Zpc a (he 0 x ▸ hu 0 x) hv) h
  .simp at h
 |lookup t x i ok=>
  simp only[opE,he]at h ⊢
  exact Zea (fun v hv=>Zs8 a (he 0 x ▸ hu 0 x) hv) h
 |convert s t x=>
  simp only[opE,he]at h ⊢
  refine Zea (fun v hv=>?_) h
  unfold ZgO at hv ⊢
  split at hv
  .rename_i hb
   rw [if_pos hb]
   exact Zs3 a (he 0 x ▸ hu 0 x) hv
  .rename_i hb
   rw [if_neg hb]
   exact hv
 |call c=>
  obtain ⟨d,args,ts⟩:=c
  cases d with
  |builtin b=>
   have e:evs tt ⟨sl,ob,n⟩ ts.toList args.toList=evs tt ⟨sl,ob',n'⟩ ts.toList args.toList:=Zej fun x _ t=>he t x
   simp only[opE,e]at h ⊢
   unfold ZfU at h ⊢
   split at h
   .rename_i t _ v he1 g
    have j:svU U v:=by
     have hm:v∈evs tt ⟨sl,ob',n'⟩ ts.toList args.toList:=by simp [g]
     obtain ⟨p,_,rfl⟩:=AF.1 hm
     rw [<-he];exact hu _ _
    exact Zea (fun w hw=>ZuB a j hw) h
   .simp [cls]at hc
   .exact h
   .exact h
   .exact h
  |value f=>exact h
  |invoke r m=>exact h
 |slice t x lo hi mx=>simp only[cls]at hc h0;split at hc<;>rename_i hq<;>simp [hq]at h0<;>(split at hc<;>omega)
 |buildSlice t len parts=>simp only[cls]at hc;split at hc<;>omega
 |store t x v=>simp [cls]at hc
 |makeFunc fn first caps=>simp [cls]at hc
 |mapUpdate t x i v=>simp [cls]at hc
 |makeMap t r=>cases r<;>exact h
 |_=>first|exact h|(simp only[opE,he]at h ⊢;exact h)
theorem YE:∀(cts:List (Bool×CT)) (key:Nat),key<=(ZA key cts).2.2/\∀p∈(ZA key cts).2.1,key<=p.1/\p.1<(ZA key cts).2.2
 | [],key=>by simp [ZA]
 |(true,x)::r,key=>YE r key
 |(false,ct)::r,key=>by
  cases ct with
  |sl e m xs=>
   obtain ⟨h1,h2⟩:=YE r (key+1)
   refine ⟨by simp only[ZA];omega,fun p hp=>?_⟩
   simp only[ZA,AJ]at hp ⊢
   rcases hp with rfl|hp
   .exact ⟨AL _,by simp only;omega⟩
   .have:=h2 p hp;omega
  |int k n=>exact YE r key
  |bool b=>exact YE r key
  |str s=>exact YE r key
  |ifc s=>exact YE r key
  |any=>exact YE r key
  |nl a b=>exact YE r key
  |pt s=>exact YE r key
  |fn f s=>exact YE r key
  |mp a b s=>exact YE r key
theorem ZgG [NW]:∀(a:List RT) (key:Nat),key<=(Zx key a).2.2/\∀p∈(Zx key a).2.1,key<=p.1/\p.1<(Zx key a).2.2
 | [],key=>by simp [Zx]
 |x::r,key=>by
  obtain ⟨h1,h2⟩:=YE x.2 key
  obtain ⟨h3,h4⟩:=ZgG r (ZA key x.2).2.2
  refine ⟨by simp only[Zx];omega,fun p hp=>?_⟩
  simp only[Zx,AE]at hp ⊢
  rcases hp with hp|hp
  .have:=h2 p hp;omega
  .have:=h4 p hp;omega
theorem YO {v:Option SV}{r:SV×List (Nat×Ob)}(h:Zbt v=some r):r.2=[]:=by
 obtain ⟨u,_,rfl⟩:=AD.1 h;rfl
theorem Zxg [NW] {hs:FuncId->Nat}{o:Oper}{r:SV×List (Nat×Ob)}(hU:∀t x,svU U (st.ev tt t x)) (h:opE tt key o st=some r):(cls tt hs o.op=0->r.2=[])/\(cls tt hs o.op<=2->∀p∈r.2,key<=p.1/\p.1<key+16)/\(cls tt hs o.op<=3->∀p∈r.2,(key<=p.1/\p.1<key+16)\/(U p.1/\p.2=Z6 (st.ob p.1))):=by
 have nil:r.2=[]->(cls tt hs o.op=0->r.2=[])/\(cls tt hs o.op<=2->∀p∈r.2,key<=p.1/\p.1<key+16)/\(cls tt hs o.op<=3->∀p∈r.2,(key<=p.1/\p.1<key+16)\/(U p.1/\p.2=Z6 (st.ob p.1))):=fun e=>⟨fun _=>e,fun _ p hp=>by simp [e]at hp,fun _ p hp=>by simp [e]at hp⟩
 obtain ⟨dst,op,ty,pos,af,gd⟩:=o
 cases op with
 |move x=>simp only[opE,AA]at h;exact nil (by rw [<-h])
 |assign x=>simp only[opE,AA]at h;exact nil (by rw [<-h])
 |pick c x y=>
  simp only[opE]at h
  split at h
  .simp only[AA]at h;exact nil (by rw [<-h])
  .simp at h
 |alloc t=>
  simp only[opE]at h
  obtain ⟨z,_,rfl⟩:=AD.1 h
  exact ⟨fun e=>by simp [cls]at e,fun _ p hp=>by simp at hp;subst hp;simp,fun _ p hp=>by simp at hp;subst hp;simp⟩
 |box t x=>
  simp only[opE]at h
  split at h
  .simp only[AA]at h
   subst h
   exact ⟨fun e=>by simp [cls]at e,fun _ p hp=>by simp at hp;subst hp;simp,fun _ p hp=>by simp at hp;subst hp;simp⟩
  .simp at h
 |build t a=>
  simp only[opE]at h
  split at h
  .obtain ⟨cs,_,rfl⟩:=AD.1 h;exact nil rfl
  .simp at h
 |buildSlice t len a=>
  simp only[opE]at h
  split at h
  .obtain ⟨⟨xs,ks,d⟩,h1,h⟩:=AG.1 h
   split at h
   .simp only[AA]at h
    subst h
    rename_i e0 _ _ z q l
    have hu:∀v∈a.toList.map (fun p=>st.ev tt e0 p.2),svU U v:=fun v mv=>by obtain ⟨p,_,rfl⟩:=AF.1 mv;exact hU _ _
    have hk:=Zf1 (U:=U) h1 hu
    refine ⟨fun e=>by simp only[cls]at e;split at e<;>simp at e,fun e p hp=>?_,fun e p hp=>?_⟩
    .by_cases hs:a.size=0
     .have:a=#[]:=by simpa using hs
      subst this
      simp [Y6]at h1
      obtain ⟨_,rfl,_⟩:=h1
      simp [ZI]at hp;subst hp;simp
     .by_cases hf:Zxh (tt t)=true
      .have hz:z.all ZjT=true:=by rw [q]at hf;exact hf
       have u:ks=[]:=by
        have h3:=l.2.2.2
        rw [hz]at h3
        simpa using h3
       subst u
       simp [ZI]at hp;subst hp;simp
      .simp [cls,hs,hf]at e
    .rcases AE.1 hp with hp|hp
     .obtain ⟨p1,p2⟩:=Zlq hp
      exact .inr ⟨hk _ p1,p2⟩
     .simp at hp;subst hp;simp
   .simp at h
  .simp at h
 |load t x=>exact nil (YO h)
 |store t x v=>exact ⟨fun e=>by simp [cls]at e,fun e=>by simp [cls]at e,fun e=>by simp [cls]at e⟩
 |makeFunc fn first caps=>exact ⟨fun e=>by simp [cls]at e,fun e=>by simp [cls]at e,fun e=>by simp [cls]at e⟩
 |mapUpdate t x i v=>exact ⟨fun e=>by simp [cls]at e,fun e=>by simp [cls]at e,fun e=>by simp [cls]at e⟩
 |lookup t x i ok=>exact nil (YO h)
 |makeMap t r=>
  cases r with
  |none=>
   simp only[opE,Zn4]at h
   split at h
   .simp only[AA]at h
    subst h
    exact ⟨fun e=>by simp [cls]at e,fun _ p hp=>by simp at hp;subst hp;simp,fun _ p hp=>by simp at hp;subst hp;simp⟩
   .simp at h
  |some _=>simp [opE]at h
 |nilCheck x=>
  simp only[opE]at h
  split at h<;>simp only[AA,reduceCtorEq]at h<;>exact nil (by rw [<-h])
 |binOp op t x y t'=>exact nil (YO h)
 |unOp op t x=>exact nil (YO h)
 |convert s t x=>exact nil (YO h)
 |makeSlice t n c=>
  simp only[opE,ZqA]at h
  split at h
  .split at h
   .obtain ⟨ze,_,h⟩:=AG.1 h
    split at h
    .simp only[AA]at h
     subst h
     exact ⟨fun e=>by simp [cls]at e,fun _ p hp=>by simp at hp;subst hp;simp,fun _ p hp=>by simp at hp;subst hp;simp⟩
    .simp at h
   .simp at h
  .simp at h
 |slice t x lo hi mx=>
  cases mx with
  |some _=>simp [opE]at h
  |none=>
   by_cases g:Zdh (tt t)=true
   .have w:Zb6 (tt t)=false:=by
     unfold Zdh at g
     split at g
     .rename_i e;rw [e];rfl
     .simp at g
    refine nil ?_
    simp only[opE,Q7]at h
    split at h
    .simp [w]at h
    .obtain ⟨v,_,rfl⟩:=AD.1 h;rfl
    .simp at h
   .have hc:3<=cls tt hs (.slice t x lo hi none):=by simp only[cls];rw [if_neg g];split<;>omega
    refine ⟨fun e=>by simp only at e;omega,fun e=>by simp only at e;omega,fun e p hp=>?_⟩
    have A:∀d,mvS d (lo.map (st.ev tt 0)) (hi.map (st.ev tt 0))=false:=fun d=>by
     cases lo with
     |none=>rfl
     |some _=>cases hi with
      |none=>simp [cls,g]at e
      |some _=>rfl
    simp only[opE,Q7]at h
    split at h
    .rename_i k hv
     have hk:U k:=by
      have:=hU 0 x
      rw [hv]at this
      exact this (.row k) yG
     split at h
     .split at h
      .rename_i B
       split at h
       .rw [A,if_neg yG]at h
        obtain ⟨_,_,h⟩:=AG.1 h
        obtain ⟨_,_,rfl⟩:=AD.1 h
        simp at hp
        subst hp
        exact .inr ⟨hk,by rw [B];rfl⟩
       .simp at h
      .simp at h
     .simp at h
    .obtain ⟨v,_,rfl⟩:=AD.1 h
     simp at hp
    .simp at h
 |fieldAddr t x f=>
  simp only[opE]at h
  split at h
  .exact nil (YO h)
  .simp at h
 |field t x f=>
  simp only[opE]at h
  split at h
  .exact nil (YO h)
  .simp at h
 |indexAddr t x i=>
  simp only[opE]at h
  split at h
  .exact nil (YO h)
  .simp at h
 |index t x i=>exact nil (YO h)
 |extract x i=>exact nil (YO h)
 |call c=>
  obtain ⟨j,args,ts⟩:=c
  cases j with
  |builtin b=>
   simp only[opE,ZfU]at h
   split at h
   .exact nil (YO h)
   .exact ⟨fun e=>by simp [cls]at e,fun e=>by simp [cls]at e,fun e=>by simp [cls]at e⟩
   .exact nil (YO h)
   .exact nil (YO h)
   .simp at h
  |value f=>simp [opE]at h
  |invoke r m=>simp [opE]at h
 |_=>simp [opE]at h
theorem Zbk {hs:FuncId->Nat}{o:Op}{c:FuncId×List TypeId×List Operand}(h:YG o=some c):cls tt hs o=if hs c.1=0\/hs c.1=4 then 1 else 4:=by
 unfold YG at h
 split at h
 .simp only[AA]at h;rw [<-h];rfl
 .simp at h
theorem ZmW {o:Op}{c:Nat×List TypeId×List Operand}(h:Xf o=some c):∃args ts,o=.call ⟨.value (.tmp c.1),args,ts⟩/\c.2.1=ts.toList/\c.2.2=args.toList:=by
 unfold Xf at h
 split at h
 .rename_i s args ts
  simp only[AA]at h
  rw [<-h]
  exact ⟨args,ts,rfl,rfl,rfl⟩
 .simp at h
theorem Zgx [NW] {hs:FuncId->Nat}{o:Op}{c:Nat×List TypeId×List Operand}(h:Xf o=some c):cls tt hs o=4:=by
 obtain ⟨args,ts,rfl,_⟩:=ZmW h
 rfl
theorem ZlY [NW] (hU:∀t x,svU U (st.ev tt t x)) {all:List Oper}{o:Oper}{v:SV}{u:List (Nat×Ob)}(h:opR tt S all key o st v u):(cls tt S.hd o.op=0->u=[])/\(cls tt S.hd o.op<=2->∀p∈u,key<=p.1/\p.1<key+16)/\(cls tt S.hd o.op<=3->∀p∈u,(key<=p.1/\p.1<key+16)\/(U p.1/\p.2=Z6 (st.ob p.1))):=by
 have nil:u=[]->(cls tt S.hd o.op=0->u=[])/\(cls tt S.hd o.op<=2->∀p∈u,key<=p.1/\p.1<key+16)/\(cls tt S.hd o.op<=3->∀p∈u,(key<=p.1/\p.1<key+16)\/(U p.1/\p.2=Z6 (st.ob p.1))):=fun e=>⟨fun _=>e,fun _ p hp=>by simp [e]at hp,fun _ p hp=>by simp [e]at hp⟩
 have b:Zak tt S key o st v u->(cls tt S.hd o.op=0->u=[])/\(cls tt S.hd o.op<=2->∀p∈u,key<=p.1/\p.1<key+16)/\(cls tt S.hd o.op<=3->∀p∈u,(key<=p.1/\p.1<key+16)\/(U p.1/\p.2=Z6 (st.ob p.1))):=fun h=>by
  unfold Zak at h
  split at h
  .rename_i c hc
   by_cases h0:S.hd c.1=0\/S.hd c.1=4
   .have h':∃a,(Zx key a).2.2<=key+16/\u=(Zx key a).2.1:=by
     rcases h0 with h0|h0
     .rw [h0]at h
      obtain ⟨l,a,_,_,_,h3,_,e⟩:=h
      exact ⟨a,h3,e⟩
     .rw [h0]at h
      obtain ⟨l,a,_,_,_,h3,_,e⟩:=h
      exact ⟨a,h3,e⟩
    obtain ⟨a,h3,rfl⟩:=h'
    have hp:∀p∈(Zx key a).2.1,key<=p.1/\p.1<key+16:=fun p hp=>by
     have:=(ZgG a key).2 p hp
     omega
    exact ⟨fun e=>by rw [Zbk hc,if_pos h0]at e;simp at e,fun _=>hp,fun _ p m=>.inl (hp p m)⟩
   .refine ⟨fun e=>by rw [Zbk hc,if_neg h0]at e;simp at e,fun e=>by rw [Zbk hc,if_neg h0]at e;simp at e,fun e=>by rw [Zbk hc,if_neg h0]at e;simp at e⟩
  .split at h
   .rename_i c hc
    have h4:=Zgx (tt:=tt) (hs:=S.hd) hc
    exact ⟨fun e=>by rw [h4]at e;simp at e,fun e=>by rw [h4]at e;simp at e,fun e=>by rw [h4]at e;simp at e⟩
   .exact Zxg hU h
 unfold opR at h
 split at h
 .exact b h
 .exact nil h.2
 .unfold gK at h
  split at h
  .split at h
   .exact b h
   .exact nil h.2
  .split at h
   .exact nil h.2
   .exact h.elim
theorem Zch (h:st.ob=st'.ob):∀ks:List Nat,ZI st ks=ZI st' ks
 | []=>rfl
 |k::r=>by simp only[ZI,Zch h r,h]
theorem ZDv (s:SV):svU (fun _=>True) s:=by
 cases s<;>first|trivial|(intro y my;cases y<;>trivial)|(intro y my z mz;cases z<;>trivial)
theorem Zuv [NW] (h:st.ob=st'.ob) (v:SV):Zf8 st v=Zf8 st' v:=by
 have ha:∀cs,YI st cs=YI st' cs:=fun cs=>Zhc (U:=fun _=>True) (fun k _=>.inl (by rw [h])) (fun x _=>by cases x<;>trivial)
 unfold Zf8
 split
 .rw [h]
  split
  .rw [ha]
  .rfl
 .rw [h]
 .rfl
theorem ZjZ (h:st.ob=st'.ob):∀xs:List AV,YC st xs=YC st' xs
 | []=>rfl
 |x::r=>by
  have e:Zfi st x=Zfi st' x:=by
   cases x with
   |row k=>simp only[Zfi,h]
   |c y=>cases y<;>rfl
   |_=>rfl
  simp only[YC,e,ZjZ h r]
theorem ZoH (h:st.ob=st'.ob) (v:SV):Zdn st v=Zdn st' v:=by
 unfold Zdn
 split
 .rw [h]
  split
  .rw [ZjZ h]
  .rfl
 .rfl
theorem Zo5 (h:st.ob=st'.ob) (vs:List SV):Zic st vs=Zic st' vs:=by
 unfold Zic
 split
 .rfl
 .rw [ZjZ h]
 .rfl
theorem ZmK [NW] (h:st.ob=st'.ob) {f:FuncId}{n:Nat}{vs:List SV}{v:SV}{u:List (Nat×Ob)}:QU S f n key st vs v u↔QU S f n key st' vs v u:=by
 have hs:∀xs,ZU st xs=ZU st' xs:=fun xs=>ZeA (U:=fun _=>True) (fun k _=>.inl (by rw [h])) (fun x _=>ZDv x)
 unfold QU
 split
 .simp only[hs]
 .simp only[hs,Zuv h,Zch h]
 .simp only[hs,Zch h]
 .simp only[hs]
 .simp only[hs,ZoH h,Zo5 h,Zch h]
 .simp only[hs,ZoH h,Zo5 h,Zch h]
 .simp only[hs,Zo5 h,Zch h]
 .simp only[hs,Zch h]
theorem ZuN [NW] {o:Oper}{v:SV}{u:List (Nat×Ob)}(hl:∀x∈o.op.operands,∀t,st.ev tt t x=st'.ev tt t x)
  (a:cls tt S.hd o.op=0\/st.ob=st'.ob\/(∀t x,svU U (st.ev tt t x))/\((cls tt S.hd o.op<=3/\∀k,U k->st.ob k=st'.ob k)\/(cls tt S.hd o.op<=1/\Wk st st' U))):Zak tt S key o st v u↔Zak tt S key o st' v u:=by
 cases hc:YG o.op with
 |some c=>
  simp only[Zak,hc]
  have l:∃args ts,o.op=.call ⟨.value (.func c.1),args,ts⟩/\c.2.1=ts.toList/\c.2.2=args.toList:=by
   unfold YG at hc
   split at hc
   .rename_i f args ts he
    simp only[AA]at hc
    rw [<-hc]
    exact ⟨args,ts,he,rfl,rfl⟩
   .simp at hc
  obtain ⟨args,ts,ho,e1,e2⟩:=l
  have d:evs tt st c.2.1 c.2.2=evs tt st' c.2.1 c.2.2:=Zej fun x m t=>hl x (by rw [ho];rw [e2]at m;simp [Op.operands,Call.operands];exact .inr (by simpa using m)) t
  rw [<-d]
  rcases a with e|a|⟨hu,a⟩
  .rw [Zbk hc]at e
   split at e<;>simp at e
  .exact ZmK a
  .have g:cls tt S.hd o.op<=3:=by rcases a with h|h<;>omega
   have j:Wk st st' U:=by
    rcases a with h|h
    .exact .of h.2
    .exact h.2
   have h0:S.hd c.1=0\/S.hd c.1=4:=by
    rw [Zbk hc]at g
    split at g
    .assumption
    .simp at g
   have b:∀x∈evs tt st c.2.1 c.2.2,svU U x:=fun x hx=>by
    obtain ⟨p,_,rfl⟩:=AF.1 hx
    exact hu _ _
   rcases h0 with h0|h0
   .have i:ZU st (evs tt st c.2.1 c.2.2)=ZU st' (evs tt st c.2.1 c.2.2):=ZeA (U:=U) j b
    rw [h0]
    simp only[QU,i]
   .have i:ZU st ((evs tt st c.2.1 c.2.2).map nlS)=ZU st' ((evs tt st c.2.1 c.2.2).map nlS):=ZeA (U:=U) j (fun x hx=>by
     obtain ⟨y,my,rfl⟩:=AF.1 hx
     exact Zw8 (b y my))
    rw [h0]
    simp only[QU,i]
 |none=>
  simp only[Zak,hc]
  have:opE tt key o st=opE tt key o st':=by
   obtain ⟨sl,ob,n⟩:=st
   obtain ⟨q,ob',n'⟩:=st'
   have s1:opE tt key o ⟨q,ob',n'⟩=opE tt key o ⟨sl,ob',n⟩:=Zn8 fun x m t=>by
    rw [<-hl x m t];exact Zt5 _ _ _ _ _ _ _
   rw [s1]
   rcases a with hc|a|⟨hu,⟨hc,a⟩|⟨hc,a⟩⟩
   .exact Zlm (U:=U) (.inl hc)
   .simp only at a;subst a;rfl
   .exact Zlm (U:=U) (.inr (.inl ⟨hc,a,hu⟩))
   .exact Zlm (U:=U) (.inr (.inr ⟨hc,a,hu⟩))
  cases hd:Xf o.op with
  |none=>simp only[this]
  |some c=>
   simp only
   obtain ⟨args,ts,ho,e1,e2⟩:=ZmW hd
   have d:evs tt st c.2.1 c.2.2=evs tt st' c.2.1 c.2.2:=Zej fun x m t=>hl x (by rw [ho];rw [e2]at m;simp [Op.operands,Call.operands];exact .inr (by simpa using m)) t
   have w:st.sl c.1=st'.sl c.1:=hl (.tmp c.1) (by rw [ho];simp [Op.operands,Call.operands]) 0
   have h4:=Zgx (tt:=tt) (hs:=S.hd) hd
   rcases a with h0|h0|⟨_,⟨h0,_⟩|⟨h0,_⟩⟩
   .omega
   .rw [d,w]
    constructor
    .rintro ⟨fc,f1,f2,f3⟩;exact ⟨fc,f1,f2,(ZmK h0).1 f3⟩
    .rintro ⟨fc,f1,f2,f3⟩;exact ⟨fc,f1,f2,(ZmK h0).2 f3⟩
   .omega
   .omega
theorem QF [NW] {a:Array Oper}{o:Oper}{v:SV}{u:List (Nat×Ob)}(hl:∀s∈o.looksAt a,st.sl s=st'.sl s)
  (b:cls tt S.hd o.op=0\/st.ob=st'.ob\/(∀t x,svU U (st.ev tt t x))/\((cls tt S.hd o.op<=3/\∀k,U k->st.ob k=st'.ob k)\/(cls tt S.hd o.op<=1/\Wk st st' U))):opR tt S a.toList key o st v u↔opR tt S a.toList key o st' v u:=by
 have c:∀x∈o.op.operands,∀t,st.ev tt t x=st'.ev tt t x:=fun x m t=>by
  cases x with
  |tmp s=>exact hl s (by
    unfold Oper.looksAt
    refine AE.2 (.inl (An.2 ⟨.tmp s,by simpa using m,rfl⟩)))
  |_=>rfl
 have h1:=ZuN (S:=S) (key:=key) (v:=v) (u:=u) c b
 unfold opR
 cases hg:ZaZ a.toList o with
 |none=>exact h1
 |some q=>
  obtain ⟨q,want⟩:=q
  cases q with
  |none=>rfl
  |some t=>
   have ht:st.sl t=st'.sl t:=hl t (by
    unfold ZaZ at hg
    split at hg
    .simp at hg
    .rename_i g d
     simp only[AA,AB]at hg
     unfold Oper.looksAt
     refine AE.2 (.inr ?_)
     rw [d]
     have:(a[g.1]?).bind (·.dst)=some t:=by simpa using hg.1
     simp [this])
   simp only[gK,ht,h1]
theorem ZCu [NW] (hU:StU U st) (t:Nat) (x:Operand):svU U (st.ev tt t x):=by
 cases x with
 |tmp s=>exact hU.sl s
 |const v=>
  show svU U (cvT (tt t) v)
  unfold cvT
  split
  .exact XE _
  .exact XE _
  .split
   .exact XE _
   .trivial
  .split
   .intro y m;simp at m;subst m;trivial
   .trivial
  .trivial
 |global _=>trivial
 |func _=>trivial
theorem XY [NW]:∀{u:List (Nat×Ob)}{ob:Nat->Ob}{k:Nat},(∀p∈u,p.1≠k)->Zh ob u k=ob k
 | [],_,_,_=>rfl
 |p::r,ob,k,h=>by
  rw [Zh,XY fun q m=>h q (by simp [m])]
  exact ZP _ _ fun e=>h p yG e.symm
theorem Zkc [NW]:∀{u:List (Nat×Ob)}{ob ob':Nat->Ob}{k:Nat},(∃p∈u,p.1=k)->Zh ob u k=Zh ob' u k
 | [],_,_,_,h=>by simp at h
 |p::r,ob,ob',k,h=>by
  rw [Zh,Zh]
  by_cases hr:∃q∈r,q.1=k
  .exact Zkc hr
  .have hn:∀q∈r,q.1≠k:=fun q m e=>hr ⟨q,m,e⟩
   rw [XY hn,XY hn]
   obtain ⟨q,mq,e⟩:=h
   rcases AJ.1 mq with rfl|mq
   .rw [<-e,ZB,ZB]
   .exact absurd e (hn q mq)
theorem Zrj [NW] {u1 u2:List (Nat×Ob)}{ob:Nat->Ob}(h:∀p∈u1,∀q∈u2,p.1≠q.1):Zh (Zh ob u1) u2=Zh (Zh ob u2) u1:=by
 funext k
 by_cases h1:∃p∈u1,p.1=k
 .obtain ⟨p,mp,rfl⟩:=h1
  rw [XY fun q mq e=>h p mp q mq e.symm]
  exact Zkc ⟨p,mp,rfl⟩
 .have hn:∀q∈u1,q.1≠k:=fun q m e=>h1 ⟨q,m,e⟩
  rw [XY (ob:=Zh ob u2) hn]
  by_cases h2:∃p∈u2,p.1=k
  .exact Zkc h2
  .have a:∀q∈u2,q.1≠k:=fun q m e=>h2 ⟨q,m,e⟩
   rw [XY a,XY a,XY hn]
theorem Zde [NW] (st:St) (d:Option Nat) (v:SV) (s:Nat) (h:∀t,d=some t->s≠t):(st.put d v).sl s=st.sl s:=by
 cases d with
 |none=>rfl
 |some t=>exact ZP _ _ (h t rfl)
theorem Xw (st:St) (d:Option Nat) (v:SV):(st.put d v).ob=st.ob:=by cases d<;>rfl
theorem ZlM (st:St) (d:Option Nat) (v:SV):(st.put d v).n=st.n:=by cases d<;>rfl
theorem Zoq (st:St) (d e:Option Nat) (v u:SV) (h:∀t,d=some t->e≠some t):((st.put d v).put e u).sl=((st.put e u).put d v).sl:=by
 cases d with
 |none=>rfl
 |some t=>cases e with
  |none=>rfl
  |some s=>
   have a:t≠s:=fun e=>h t rfl (e ▸ rfl)
   funext k
   show upd (upd st.sl t v) s u k=upd (upd st.sl s u) t v k
   unfold upd
   by_cases h1:k=s
   .by_cases h2:k=t
    .exact absurd (h2.symm.trans h1) a
    .have b:¬s=t:=fun e=>a e.symm
     simp [h1,b]
   .simp [h1]
def Zvj (tt:Nat->Option TI):Op->Bool
 |.slice t _ (some _) none none=>!Zdh (tt t)
 |.call ⟨.builtin .append,_,_⟩=>true
 |_=>false
theorem ZhE [NW] {a:Array Oper}{o:Oper}{v:SV}{u:List (Nat×Ob)}(hl:∀s∈o.looksAt a,st.sl s=st'.sl s) (h1:Zak tt S key o st' v u->Zak tt S key o st v u) (h:opR tt S a.toList key o st' v u):opR tt S a.toList key o st v u:=by
 unfold opR at h ⊢
 cases hg:ZaZ a.toList o with
 |none=>rw [hg]at h;exact h1 h
 |some q=>
  obtain ⟨q,want⟩:=q
  rw [hg]at h
  cases q with
  |none=>exact h
  |some t=>
   have ht:st.sl t=st'.sl t:=hl t (by
    unfold ZaZ at hg
    split at hg
    .simp at hg
    .rename_i g c
     simp only[AA,AB]at hg
     unfold Oper.looksAt
     refine AE.2 (.inr ?_)
     rw [c]
     have:(a[g.1]?).bind (·.dst)=some t:=by simpa using hg.1
     simp [this])
   simp only[gK,ht]at h ⊢
   split at h
   .rename_i hb
    rw [if_pos hb]
    split at h
    .rename_i b;rw [if_pos b];exact h1 h
    .rename_i b;rw [if_neg b];exact h
   .rename_i hb
    rw [if_neg hb]
    exact h
theorem ZaX {a:Array Oper}{o:Oper}(hl:∀s∈o.looksAt a,st.sl s=st'.sl s):∀x∈o.op.operands,∀t,st.ev tt t x=st'.ev tt t x:=fun x m t=>by
 cases x with
 |tmp s=>exact hl s (by
   unfold Oper.looksAt
   refine AE.2 (.inl (An.2 ⟨.tmp s,by simpa using m,rfl⟩)))
 |_=>rfl
theorem Zvf [NW] {o:Oper}{v:SV}{u:List (Nat×Ob)}(hl:∀x∈o.op.operands,∀t,st.ev tt t x=st'.ev tt t x) (a:cls tt S.hd o.op<=1) (hu:∀t x,svU U (st.ev tt t x)) (d:Mk st st' U) (h:Zak tt S key o st' v u):Zak tt S key o st v u:=by
 cases hc:YG o.op with
 |some c=>
  simp only[Zak,hc]at h ⊢
  have g:∃args ts,o.op=.call ⟨.value (.func c.1),args,ts⟩/\c.2.1=ts.toList/\c.2.2=args.toList:=by
   unfold YG at hc
   split at hc
   .rename_i f args ts he
    simp only[AA]at hc
    rw [<-hc]
    exact ⟨args,ts,he,rfl,rfl⟩
   .simp at hc
  obtain ⟨args,ts,ho,e1,e2⟩:=g
  have i:evs tt st c.2.1 c.2.2=evs tt st' c.2.1 c.2.2:=Zej fun x m t=>hl x (by rw [ho];rw [e2]at m;simp [Op.operands,Call.operands];exact .inr (by simpa using m)) t
  rw [<-i]at h
  have h0:S.hd c.1=0\/S.hd c.1=4:=by
   rw [Zbk hc]at a
   split at a
   .assumption
   .simp at a
  have b:∀x∈evs tt st c.2.1 c.2.2,svU U x:=fun x hx=>by
   obtain ⟨p,_,rfl⟩:=AF.1 hx
   exact hu _ _
  rcases h0 with h0|h0
  .rw [h0]at h ⊢
   simp only[QU]at h ⊢
   obtain ⟨al,e,h1,h2⟩:=h
   exact ⟨al,e,ZgW d b h1,h2⟩
  .rw [h0]at h ⊢
   simp only[QU]at h ⊢
   obtain ⟨al,e,h1,h2⟩:=h
   exact ⟨al,e,ZgW d (fun x hx=>by
    obtain ⟨y,my,rfl⟩:=AF.1 hx
    exact Zw8 (b y my)) h1,h2⟩
 |none=>
  simp only[Zak,hc]at h ⊢
  cases hd:Xf o.op with
  |some c=>have h4:=Zgx (tt:=tt) (hs:=S.hd) hd;omega
  |none=>
   rw [hd]at h
   simp only at h ⊢
   obtain ⟨sl,ob,n⟩:=st
   obtain ⟨j,ob',n'⟩:=st'
   have s1:opE tt key o ⟨j,ob',n'⟩=opE tt key o ⟨sl,ob',n⟩:=Zn8 fun x m t=>by
    rw [<-hl x m t];exact Zt5 _ _ _ _ _ _ _
   rw [s1]at h
   exact ZxF a d hu h
theorem Zy9 {o:Op}(h:Zvj tt o=true):(∃t x lo,o=.slice t x (some lo) none none/\Zdh (tt t)=false)\/∃args ts,o=.call ⟨.builtin .append,args,ts⟩:=by
 unfold Zvj at h
 split at h
 .exact .inl ⟨_,_,_,rfl,by simpa using h⟩
 .exact .inr ⟨_,_,rfl⟩
 .simp at h
theorem Zxi [NW] {s:SV}{a:List (List CT)×List Nat×Nat}(hs:svU U s) (h:ZfQ st s=some a):∀k∈a.2.1,U k:=by
 unfold ZfQ at h
 split at h
 .simp only[AA]at h;rw [<-h];simp
 .split at h
  .split at h
   .simp at h
   .simp only[AA]at h
    rw [<-h]
    intro k hk
    simp only[AJ,AW,or_false]at hk
    subst hk
    exact hs (.row _) yG
  .simp at h
 .simp at h
theorem Zxl [NW] {fl:Bool}{s:SV}{a:List (List CT)×List Nat×Nat}(hs:svU U s) (h:ZfT st fl s=some a):∀k∈a.2.1,U k:=by
 unfold ZfT at h
 split at h
 .simp only[AA]at h;rw [<-h];simp
 .simp only[AA]at h;rw [<-h];simp
 .split at h
  .split at h
   .simp only[AA]at h;rw [<-h];simp
   .simp only[AA]at h
    rw [<-h]
    intro k hk
    simp only[AJ,AW,or_false]at hk
    subst hk
    exact hs (.row _) yG
  .simp at h
 .simp at h
theorem ZvE [NW] {t:Option TI}{s x:SV}(hs:svU U s) (hx:svU U x) (a:∀k,U k->st.ob k=st'.ob k):Zng st key t s x=Zng st' key t s x:=by
 have e1:ZfQ st s=ZfQ st' s:=by
  unfold ZfQ
  split
  .rfl
  .rename_i k
   rw [a k (hs (.row k) yG)]
  .rfl
 have e2:∀fl,ZfT st fl x=ZfT st' fl x:=fun fl=>by
  unfold ZfT
  split
  .rfl
  .rfl
  .rename_i k
   rw [a k (hx (.row k) yG)]
  .rfl
 have e3:∀e m,ZlK st e m s=ZlK st' e m s:=fun e m=>by
  unfold ZlK
  split
  .rename_i k
   rw [a k (hs (.row k) yG)]
  .rfl
  .rfl
 have e4:∀m,Zkm st m x=Zkm st' m x:=fun m=>by
  unfold Zkm
  split
  .rename_i k
   rw [a k (hx (.row k) yG)]
  .rfl
  .rfl
  .rfl
 unfold Zng
 split
 .simp only[e1,e2,e3,e4]
 .rfl
theorem Ztr {ts:List TypeId}{vs:List SV}{r:SV×List (Nat×Ob)}(h:ZfU tt st key .append ts vs=some r):∃t s x,ts=[t,t]/\vs=[s,x]/\Zng st key (tt t) s x=some r:=by
 match ts,vs,h with
 | [t,u],[s,x],h=>
  simp only[ZfU]at h
  split at h
  .rename_i e;subst e;exact ⟨t,s,x,rfl,rfl,h⟩
  .simp at h
 | [],_,h=>simp [ZfU]at h
 | [_],_,h=>simp [ZfU]at h
 |_::_::_::_,_,h=>simp [ZfU]at h
 | [_,_],[],h=>simp [ZfU]at h
 | [_,_],[_],h=>simp [ZfU]at h
 | [_,_],_::_::_::_,h=>simp [ZfU]at h
theorem ZxR [NW] {o:Oper}{v:SV}{u:List (Nat×Ob)}(hm:Zvj tt o.op=true) (hU:∀t x,svU U (st.ev tt t x)) (h:Zak tt S key o st v u):(∀p∈u,(key<=p.1/\p.1<key+16)\/(U p.1/\(p.2=st.ob p.1\/p.2=.gone))):=by
 obtain ⟨g,op,ty,i,af,gd⟩:=o
 obtain ⟨t,x,lo,ho,hs⟩|⟨args,ts,ho⟩:=Zy9 hm
 rotate_left
 .simp only at ho
  subst ho
  have h':ZfU tt st key .append ts.toList (evs tt st ts.toList args.toList)=some (v,u):=h
  obtain ⟨t,s,x,_,he,h'⟩:=Ztr h'
  have c:svU U s/\svU U x:=by
   have d:∀y∈evs tt st ts.toList args.toList,svU U y:=fun y my=>by
    obtain ⟨p,_,rfl⟩:=AF.1 my
    exact hU _ _
   exact ⟨d s (by rw [he];simp),d x (by rw [he];simp)⟩
  unfold Zng at h'
  split at h'
  .obtain ⟨a,h1,h'⟩:=AG.1 h'
   obtain ⟨b,h2,h'⟩:=AG.1 h'
   split at h'
   .simp only[AA,AB]at h'
    rw [<-h'.2]
    intro p hp
    rcases AE.1 hp with hp|hp
    .obtain ⟨k,mk,rfl⟩:=AF.1 hp
     refine .inr ⟨?_,.inr rfl⟩
     rcases AE.1 mk with mk|mk
     .exact Zxi c.1 h1 k mk
     .exact Zxl c.2 h2 k mk
    .simp only[AJ,AW,or_false]at hp
     subst hp
     exact .inl ⟨AL _,by simp only;omega⟩
   .simp at h'
  .simp at h'
 simp only at ho
 subst ho
 have h':opE tt key ⟨g,.slice t x (some lo) none none,ty,i,af,gd⟩ st=some (v,u):=h
 simp only[opE,Q7,AS,AR]at h'
 intro p hp
 split at h'
 .rename_i k hv
  have hk:U k:=by
   have:=hU 0 x
   rw [hv]at this
   exact this (.row k) yG
  split at h'
  .split at h'
   .rename_i j
    split at h'
    .split at h'
     .obtain ⟨l,_,e⟩:=AD.1 h'
      simp only[AB]at e
      rw [<-e.2]at hp
      simp only[AJ,AW,or_false]at hp
      rcases hp with rfl|rfl
      .exact .inr ⟨hk,.inr rfl⟩
      .exact .inl ⟨AL _,by simp only;omega⟩
     .rename_i f
      obtain ⟨_,_,h'⟩:=AG.1 h'
      obtain ⟨_,_,e⟩:=AD.1 h'
      simp only[AB]at e
      rw [<-e.2]at hp
      simp only[AJ,AW,or_false]at hp
      subst hp
      refine .inr ⟨hk,.inl ?_⟩
      simp only[mvS]at f
      split at f
      .rename_i hd;rw [j,hd]
      .simp at f
    .simp at h'
   .simp at h'
  .simp at h'
 .obtain ⟨_,_,e⟩:=AD.1 h'
  simp only[AB]at e
  rw [<-e.2]at hp
  simp at hp
 .simp at h'
theorem ZxQ [NW] {o:Oper}{v:SV}{u:List (Nat×Ob)}(hm:Zvj tt o.op=true) (hl:∀x∈o.op.operands,∀t,st.ev tt t x=st'.ev tt t x) (hU:∀t x,svU U (st'.ev tt t x)) (b:∀k,U k->st.ob k=st'.ob k) (h:Zak tt S key o st' v u):Zak tt S key o st v u:=by
 obtain ⟨c,op,ty,d,af,gd⟩:=o
 obtain ⟨t,x,lo,ho,hs⟩|⟨args,ts,ho⟩:=Zy9 hm
 rotate_left
 .simp only at ho
  subst ho
  have h':ZfU tt st' key .append ts.toList (evs tt st' ts.toList args.toList)=some (v,u):=h
  show ZfU tt st key .append ts.toList (evs tt st ts.toList args.toList)=some (v,u)
  have e:evs tt st ts.toList args.toList=evs tt st' ts.toList args.toList:=Zej fun x m t=>hl x (by simpa [Op.operands,Call.operands]using m) t
  have a:∀y∈evs tt st' ts.toList args.toList,svU U y:=fun y my=>by
   obtain ⟨p,_,rfl⟩:=AF.1 my
   exact hU _ _
  obtain ⟨t,s,x,et,he,h'⟩:=Ztr h'
  rw [e,he,et]
  rw [he]at a
  show (if t=t then Zng st key (tt t) s x else none)=_
  rw [if_pos rfl,ZvE (a s yG) (a x yG) b,h']
 simp only at ho
 subst ho
 have h':opE tt key ⟨c,.slice t x (some lo) none none,ty,d,af,gd⟩ st'=some (v,u):=h
 show opE tt key ⟨c,.slice t x (some lo) none none,ty,d,af,gd⟩ st=some (v,u)
 have e1:=hl x (by simp [Op.operands]) 0
 have e2:=hl lo (by simp [Op.operands]) 0
 simp only[opE,AS,AR,e1,e2]at h' ⊢
 rw [<-h']
 have hx:=hU 0 x
 unfold Q7
 split
 .rename_i k hv
  rw [hv]at hx
  have hk:U k:=hx (.row k) yG
  simp only[b k hk]
 .rfl
 .rfl
theorem ZaM [NW] {a:List Oper}{o:Oper}{v:SV}{u:List (Nat×Ob)}{C:Prop}(h:opR tt S a key o st v u) (h1:Zak tt S key o st v u->C) (h2:u=[]->C):C:=by
 unfold opR at h
 split at h
 .exact h1 h
 .exact h2 h.2
 .unfold gK at h
  split at h
  .split at h
   .exact h1 h
   .exact h2 h.2
  .split at h
   .exact h2 h.2
   .exact h.elim
def Zui (tt:Nat->Option TI) (hs:FuncId->Nat) (x y:Op):Bool:=cls tt hs x==0||cls tt hs y==0||(Nat.ble (cls tt hs x) 2&&Nat.ble (cls tt hs y) 2)||(Nat.ble (cls tt hs x) 1&&Nat.ble (cls tt hs y) 3)||(Nat.ble (cls tt hs x) 3&&Nat.ble (cls tt hs y) 1)||(Zvj tt x&&Nat.ble (cls tt hs y) 1)
theorem comm [NW] {c:Array Oper}{oi oj:Oper}{ki kj:Nat}{vi vj:SV}{ui uj:List (Nat×Ob)}(G:oi.apart c oj=true) (hc:Zui tt S.hd oi.op oj.op=true) (hU:StU U st) (m:∀k,ki<=k->k<ki+16->¬U k) (j:∀k,kj<=k->k<kj+16->¬U k) (hdis:ki+16<=kj\/kj+16<=ki)
  (h:opR tt S c.toList ki oi st vi ui) (h':opR tt S c.toList kj oj ((st.put oi.dst vi).app ui) vj uj):
  opR tt S c.toList kj oj st vj uj/\opR tt S c.toList ki oi ((st.put oj.dst vj).app uj) vi ui/\((((st.put oi.dst vi).app ui).put oj.dst vj).app uj)=((((st.put oj.dst vj).app uj).put oi.dst vi).app ui):=by
 obtain ⟨a1,a2,a3⟩:=Oper.apart_spec G
 have b:∀t x,svU U (st.ev tt t x):=fun t x=>ZCu hU t x
 obtain ⟨i1,i2,i3⟩:=ZlY (U:=U) b h
 have l:(∀p∈ui,∀q∈uj,p.1≠q.1)->((((st.put oi.dst vi).app ui).put oj.dst vj).app uj)=((((st.put oj.dst vj).app uj).put oi.dst vi).app ui):=fun H=>by
  have o:((((st.put oi.dst vi).app ui).put oj.dst vj).app uj).sl=((((st.put oj.dst vj).app uj).put oi.dst vi).app ui).sl:=by
   have e1:∀(s:St) (u:List (Nat×Ob)) (d:Option Nat) (v:SV),((s.app u).put d v).sl=(s.put d v).sl:=fun s u d v=>by cases d<;>rfl
   show (((st.put oi.dst vi).app ui).put oj.dst vj).sl=(((st.put oj.dst vj).app uj).put oi.dst vi).sl
   rw [e1,e1]
   exact Zoq st _ _ _ _ fun t ht=>a2 t ht
  have i:((((st.put oi.dst vi).app ui).put oj.dst vj).app uj).ob=((((st.put oj.dst vj).app uj).put oi.dst vi).app ui).ob:=by
   show Zh (((st.put oi.dst vi).app ui).put oj.dst vj).ob uj=Zh (((st.put oj.dst vj).app uj).put oi.dst vi).ob ui
   rw [Xw,Xw]
   show Zh (Zh (st.put oi.dst vi).ob ui) uj=Zh (Zh (st.put oj.dst vj).ob uj) ui
   rw [Xw,Xw]
   exact Zrj H
  have hn:((((st.put oi.dst vi).app ui).put oj.dst vj).app uj).n=((((st.put oj.dst vj).app uj).put oi.dst vi).app ui).n:=by
   show (((st.put oi.dst vi).app ui).put oj.dst vj).n=(((st.put oj.dst vj).app uj).put oi.dst vi).n
   rw [ZlM,ZlM]
   show (st.put oi.dst vi).n=(st.put oj.dst vj).n
   rw [ZlM,ZlM]
  generalize ((((st.put oi.dst vi).app ui).put oj.dst vj).app uj)=s1 at o i hn ⊢
  generalize ((((st.put oj.dst vj).app uj).put oi.dst vi).app ui)=s2 at o i hn ⊢
  cases s1;cases s2
  simp only at o i hn
  subst o i hn
  rfl
 by_cases A:Zvj tt oi.op=true/\cls tt S.hd oj.op<=1
 .obtain ⟨hm,hj⟩:=A
  have B:∀p∈ui,(ki<=p.1/\p.1<ki+16)\/(U p.1/\(p.2=st.ob p.1\/p.2=.gone)):=ZaM h (fun h=>ZxR hm b h) fun e p hp=>by rw [e]at hp;simp at hp
  have I:Mk st ((st.put oi.dst vi).app ui) U:=fun k hk=>by
   show Zh (st.put oi.dst vi).ob ui k=st.ob k\/Zh (st.put oi.dst vi).ob ui k=.gone
   rw [Xw]
   have z:∀(u:List (Nat×Ob)) (ob:Nat->Ob),(∀p∈u,(ki<=p.1/\p.1<ki+16)\/(U p.1/\(p.2=st.ob p.1\/p.2=.gone)))->(ob k=st.ob k\/ob k=.gone)->(Zh ob u k=st.ob k\/Zh ob u k=.gone):=by
    intro u
    induction u with
    |nil=>intro ob _ h;exact h
    |cons p u ih=>
     intro ob hp h
     refine ih _ (fun x mx=>hp x (by simp [mx])) ?_
     by_cases g:k=p.1
     .rcases hp p yG with h1|h1
      .exact absurd (g ▸ hk) (m p.1 h1.1 h1.2)
      .rw [g,ZB];exact h1.2
     .rw [ZP _ _ g];exact h
   exact z ui st.ob B (.inl rfl)
  have C:∀s∈oj.looksAt c,st.sl s=((st.put oi.dst vi).app ui).sl s:=fun s ms=>(Zde st oi.dst vi s fun t ht e=>a1 t ht (e ▸ ms)).symm
  have hA:opR tt S c.toList kj oj st vj uj:=ZhE C (Zvf (ZaX C) hj b I) h'
  obtain ⟨_,j2,_⟩:=ZlY (U:=U) b hA
  have D:∀s∈oi.looksAt c,((st.put oj.dst vj).app uj).sl s=st.sl s:=fun s ms=>Zde st oj.dst vj s fun t ht e=>a3 t ht (e ▸ ms)
  have J:∀k,U k->((st.put oj.dst vj).app uj).ob k=st.ob k:=fun k hk=>by
   show Zh (st.put oj.dst vj).ob uj k=st.ob k
   rw [Xw]
   exact XY fun p mp e=>j p.1 (j2 yE p mp).1 (j2 yE p mp).2 (e ▸ hk)
  refine ⟨hA,ZhE D (ZxQ hm (ZaX D) b J) h,l fun p mp q mq e=>?_⟩
  have h2:=j2 yE q mq
  rcases B p mp with h1|h1
  .omega
  .exact j q.1 h2.1 h2.2 (e ▸ h1.1)
 have a:cls tt S.hd oi.op=0\/cls tt S.hd oj.op=0\/(cls tt S.hd oi.op<=2/\cls tt S.hd oj.op<=2)\/(cls tt S.hd oi.op<=1/\cls tt S.hd oj.op<=3)\/(cls tt S.hd oi.op<=3/\cls tt S.hd oj.op<=1):=by
  unfold Zui at hc
  simp only[AK,beq_iff_eq,AC]at hc
  rcases hc with ((((hc|hc)|hc)|hc)|hc)|hc
  .exact .inl hc
  .exact .inr (.inl hc)
  .exact .inr (.inr (.inl ⟨AH hc.1,AH hc.2⟩))
  .exact .inr (.inr (.inr (.inl ⟨AH hc.1,AH hc.2⟩)))
  .exact .inr (.inr (.inr (.inr ⟨AH hc.1,AH hc.2⟩)))
  .exact absurd ⟨hc.1,AH hc.2⟩ A
 have f:∀{u:List (Nat×Ob)} {q:Nat},(∀p∈u,q<=p.1/\p.1<q+16)->(∀k,q<=k->k<q+16->¬U k)->∀k,U k->st.ob k=Zh st.ob u k:=fun hu hq k hk=>(XY fun p mp e=>hq p.1 (hu p mp).1 (hu p mp).2 (e ▸ hk)).symm
 have y:∀{u:List (Nat×Ob)} {q:Nat},(∀p∈u,(q<=p.1/\p.1<q+16)\/(U p.1/\p.2=Z6 (st.ob p.1)))->(∀k,q<=k->k<q+16->¬U k)->∀k,U k->Zh st.ob u k=st.ob k\/Zh st.ob u k=Z6 (st.ob k):=fun {u q} hu hq k hk=>by
  have z:∀(u:List (Nat×Ob)) (ob:Nat->Ob),(∀p∈u,(q<=p.1/\p.1<q+16)\/(U p.1/\p.2=Z6 (st.ob p.1)))->(ob k=st.ob k\/ob k=Z6 (st.ob k))->(Zh ob u k=st.ob k\/Zh ob u k=Z6 (st.ob k)):=by
   intro u
   induction u with
   |nil=>intro ob _ h;exact h
   |cons p u ih=>
    intro ob hp h
    refine ih _ (fun x mx=>hp x (by simp [mx])) ?_
    by_cases g:k=p.1
    .rcases hp p yG with h1|h1
     .exact absurd (g ▸ hk) (hq p.1 h1.1 h1.2)
     .right;rw [g,ZB];exact h1.2
    .rw [ZP _ _ g];exact h
  exact z u st.ob hu (.inl rfl)
 have hA:opR tt S c.toList kj oj st vj uj:=by
  refine (QF (U:=U) (st:=st) (st':=(st.put oi.dst vi).app ui) (fun s ms=>(Zde st oi.dst vi s fun t ht e=>a1 t ht (e ▸ ms)).symm) ?_).2 h'
  show cls tt S.hd oj.op=0\/st.ob=Zh (st.put oi.dst vi).ob ui\/_/\((cls tt S.hd oj.op<=3/\∀k,U k->st.ob k=Zh (st.put oi.dst vi).ob ui k)\/(cls tt S.hd oj.op<=1/\∀k,U k->Zh (st.put oi.dst vi).ob ui k=st.ob k\/Zh (st.put oi.dst vi).ob ui k=Z6 (st.ob k)))
  rw [Xw]
  rcases a with a|a|⟨c1,c2⟩|⟨c1,c2⟩|⟨c1,c2⟩
  .right;left;rw [i1 a];rfl
  .left;exact a
  .right;right;exact ⟨b,.inl ⟨yE,f (i2 c1) m⟩⟩
  .right;right;exact ⟨b,.inl ⟨c2,f (i2 yE) m⟩⟩
  .right;right;exact ⟨b,.inr ⟨c2,y (i3 c1) m⟩⟩
 obtain ⟨E,w,F⟩:=ZlY (U:=U) b hA
 refine ⟨hA,?_,?_⟩
 .refine (QF (U:=U) (st:=st) (st':=(st.put oj.dst vj).app uj) (fun s ms=>(Zde st oj.dst vj s fun t ht e=>a3 t ht (e ▸ ms)).symm) ?_).1 h
  show cls tt S.hd oi.op=0\/st.ob=Zh (st.put oj.dst vj).ob uj\/_/\((cls tt S.hd oi.op<=3/\∀k,U k->st.ob k=Zh (st.put oj.dst vj).ob uj k)\/(cls tt S.hd oi.op<=1/\∀k,U k->Zh (st.put oj.dst vj).ob uj k=st.ob k\/Zh (st.put oj.dst vj).ob uj k=Z6 (st.ob k)))
  rw [Xw]
  rcases a with a|a|⟨c1,c2⟩|⟨c1,c2⟩|⟨c1,c2⟩
  .left;exact a
  .right;left;rw [E a];rfl
  .right;right;exact ⟨b,.inl ⟨yE,f (w c2) j⟩⟩
  .right;right;exact ⟨b,.inr ⟨c1,y (F c2) j⟩⟩
  .right;right;exact ⟨b,.inl ⟨c1,f (w yE) j⟩⟩
 .rcases a with a|a|⟨c1,c2⟩|⟨c1,c2⟩|⟨c1,c2⟩
  .exact l fun p mp=>by rw [i1 a]at mp;simp at mp
  .exact l fun p mp q mq=>by rw [E a]at mq;simp at mq
  .refine l fun p mp q mq e=>?_
   have:=i2 c1 p mp
   have:=w c2 q mq
   omega
  .refine l fun p mp q mq e=>?_
   have h1:=i2 yE p mp
   rcases F c2 q mq with h2|h2
   .omega
   .exact m p.1 h1.1 h1.2 (e ▸ h2.1)
  .refine l fun p mp q mq e=>?_
   have h1:=w yE q mq
   rcases i3 c1 p mp with h2|h2
   .omega
   .exact j q.1 h1.1 h1.2 (e ▸ h2.1)
/- a load and a call into which something is handed: what is handed in stands at the key 0, the load looks elsewhere -/
def ZhJ:Op->Bool
 |.load _ _=>true
 |_=>false
def Zvn (hs:FuncId->Nat) (o:Op):Bool:=match YG o with
 |some c=>hs c.1==1
 |none=>false
def ZoD:Op->Bool
 |.slice _ _ _ _ none=>true
 |_=>false
def Zpl:Op->Bool
 |.indexAddr _ _ _=>true
 |_=>false
def Zuz (tt:Nat->Option TI) (hs:FuncId->Nat) (b:Bool) (all:List Oper) (x y:Op):Bool:=Zui tt hs x y||(b&&((!Zmd all all&&((ZhJ x&&Zvn hs y)||(Zvn hs x&&ZhJ y)))||ZoD x||ZoD y||((ZhJ x||Zpl x)&&Yy all y)||(Yy all x&&(ZhJ y||Zpl y))))
theorem Zrq {o:Op}{c:FuncId×List TypeId×List Operand}(h:YG o=some c):∃args ts,o=.call ⟨.value (.func c.1),args,ts⟩/\c.2.2=args.toList:=by
 unfold YG at h
 split at h
 .rename_i f args ts
  simp only[AA]at h
  rw [<-h]
  exact ⟨args,ts,rfl,rfl⟩
 .simp at h
theorem Zqh {all:List Oper}{o:Op}(hn:st.n=st'.n) (h:∀x∈o.operands,∀t,st.ev tt t x=st'.ev tt t x):stk tt S all o st=stk tt S all o st':=by
 unfold stk
 split
 .rename_i t x
  rw [h x (by simp [Op.operands]),hn]
 .rename_i t x w
  rw [h x (by simp [Op.operands]),hn]
 .rename_i t x _ _ _
  rw [h x (by simp [Op.operands])]
 .split
  .rename_i c hc
   obtain ⟨args,ts,ho,e⟩:=Zrq hc
   unfold hdC
   split
   .cases hh:c.2.2.head? with
    |none=>rfl
    |some x=>
     have mx:x∈args.toList:=by rw [<-e];exact List.mem_of_mem_head? hh
     simp only
     rw [h x (by rw [ho];simp [Op.operands,Call.operands];exact .inr (by simpa using mx))]
   .rfl
  .rfl
theorem Zep [NW] {a:Array Oper}{oi oj:Oper}{vi vj:SV}{ui uj:List (Nat×Ob)}(b:oi.apart a oj=true):stk tt S a.toList oj.op st=stk tt S a.toList oj.op ((st.put oi.dst vi).app ui)/\stk tt S a.toList oi.op ((st.put oj.dst vj).app uj)=stk tt S a.toList oi.op st:=by
 obtain ⟨a1,a2,a3⟩:=Oper.apart_spec b
 exact ⟨Zqh (ZlM st oi.dst vi).symm (ZaX fun s ms=>(Zde st oi.dst vi s fun t ht e=>a1 t ht (e ▸ ms)).symm),Zqh (ZlM st oj.dst vj) (ZaX fun s ms=>Zde st oj.dst vj s fun t ht e=>a3 t ht (e ▸ ms))⟩
theorem Zoh [NW] {all:List Oper}{o:Oper}{v:SV}{u:List (Nat×Ob)}(ho:Zvn S.hd o.op=true) (hs:stk tt S all o.op st=true) (h:Zak tt S key o st v u):∀p∈u,p.1=0\/(key<=p.1/\p.1<key+16)\/p.2=Z6 (st.ob p.1):=by
 unfold Zvn at ho
 split at ho
 rotate_left
 .simp at ho
 rename_i c hc
 have h1:S.hd c.1=1:=by simpa using ho
 unfold Zak at h
 rw [hc]at h
 simp only[h1,QU]at h
 obtain ⟨v0,r,k,hh,l,b,h',hv,hk,hl,hs',hne,hn,rfl,rfl⟩:=h
 have h2:hdC tt 1 c.2.2.head? st=true:=by
  have e:stk tt S all o.op st=hdC tt (S.hd c.1) c.2.2.head? st:=by
   unfold stk
   split
   .rename_i hq;rw [hq]at hc;simp [YG]at hc
   .rename_i hq;rw [hq]at hc;simp [YG]at hc
   .rename_i hq;rw [hq]at hc;simp [YG]at hc
   .rw [hc]
  rw [<-h1,<-e];exact hs
 have d:∃off,v0=.bp 0 off:=by
  unfold hdC at h2
  simp only at h2
  cases hx:c.2.2 with
  |nil=>rw [hx]at h2;simp at h2
  |cons x xs=>
   rw [hx]at h2 hv
   simp only[List.head?_cons]at h2
   have e0:∀ts:List TypeId,∃t q,evs tt st ts (x::xs)=st.ev tt t x::q:=fun ts=>by cases ts<;>exact ⟨_,_,rfl⟩
   obtain ⟨t,q,e0⟩:=e0 c.2.1
   rw [e0]at hv
   simp only[Aa]at hv
   have hb:hdB (st.ev tt 0 x)=true:=h2
   have ht:∀t',hdB (st.ev tt t' x)=true->∃off,st.ev tt t x=.bp 0 off:=fun t' hb=>by
    cases x with
    |tmp s=>
     have a:hdB (st.sl s)=true:=hb
     unfold hdB at a
     split at a
     .rename_i k' off e;exact ⟨off,by show st.sl s=_;rw [e,of_decide_eq_true a]⟩
     .simp at a
    |const u=>
     exfalso
     have a:hdB (cvT (tt t') u)=true:=hb
     unfold cvT at a
     split at a<;>first|(simp [hdB]at a;done)|(split at a<;>simp [hdB]at a)
    |func f=>simp [St.ev,hdB]at hb
    |global g=>simp [St.ev,hdB]at hb
   obtain ⟨off,e⟩:=ht 0 hb
   exact ⟨off,by rw [<-hv.1,e]⟩
 obtain ⟨off,rfl⟩:=d
 have i:k=0:=by
  unfold Zf8 at hk
  split at hk
  .rename_i k' e
   simp only[SV.bp.injEq]at e
   obtain ⟨rfl,rfl⟩:=e
   split at hk
   .rename_i t cs hb
    split at hk
    .obtain ⟨_,_,e⟩:=AD.1 hk
     simp only[AB]at e
     exact e.1.symm
    .simp at hk
   .simp at hk
  .rename_i e;simp at e
  .simp at hk
 subst i
 intro p mp
 rcases AE.1 mp with mp|mp
 .exact .inr (.inr (Zlq mp).2)
 .rcases AJ.1 mp with rfl|mp
  .exact .inl rfl
  .have:=(ZgG b key).2 p mp
   exact .inr (.inl yE)
theorem ZnV [NW] {all:List Oper}(hm:Zmd all all=false) {o:Oper}{v:SV}{u:List (Nat×Ob)}(ho:ZhJ o.op=true) (hl:∀x∈o.op.operands,∀t,st.ev tt t x=st'.ev tt t x) (hs:stk tt S all o.op st=true) (hU:∀t x,svU U (st.ev tt t x)) (c:∀k,U k->k≠0->st'.ob k=st.ob k\/st'.ob k=Z6 (st.ob k)):Zak tt S key o st v u↔Zak tt S key o st' v u:=by
 obtain ⟨dst,op,ty,pos,af,gd⟩:=o
 unfold ZhJ at ho
 simp only at ho
 split at ho
 rotate_left
 .simp at ho
 rename_i t x
 have e1:=hl x (by simp [Op.operands]) 0
 have hx:=hU 0 x
 have a:ldB (st.ev tt 0 x)=true:=by
  have h1:ldX (Zmd all all) st.n (st.ev tt 0 x)=true:=hs
  rw [hm]at h1
  exact h1
 have key:Qb st (tt t) (st.ev tt 0 x)=Qb st' (tt t) (st'.ev tt 0 x):=by
  rw [<-e1]
  unfold Qb
  split
  .rename_i k off hv
   rw [hv]at hx a
   have b:k≠0:=fun e=>by subst e;simp [ldB]at a
   rcases c k hx b with h|h
   .rw [h]
   .rw [h]
    cases st.ob k<;>rfl
  .rename_i k m i off hv
   rw [hv]at hx a
   have b:k≠0:=fun e=>by subst e;simp [ldB]at a
   rcases c k hx b with h|h
   .rw [h]
   .rw [h]
    cases st.ob k<;>rfl
  .rfl
  .rfl
  .rfl
 show opE tt _ _ st=some (v,u)↔opE tt _ _ st'=some (v,u)
 simp only[opE,key]
theorem Zs6 [NW] {a:List Oper}{o:Oper}{v:SV}{u:List (Nat×Ob)}(ho:ZhJ o.op=true) (h:opR tt S a key o st v u):u=[]:=by
 refine ZaM h (fun h=>?_) id
 obtain ⟨b,op,ty,c,af,gd⟩:=o
 unfold ZhJ at ho
 simp only at ho
 split at ho
 .have h':opE tt key ⟨b,.load _ _,ty,c,af,gd⟩ st=some (v,u):=h
  exact YO h'
 .simp at ho
theorem Zlf {a:Array Oper}{o:Oper}{v:SV}{u:List (Nat×Ob)}(hl:∀s∈o.looksAt a,st.sl s=st'.sl s) (h1:Zak tt S key o st v u↔Zak tt S key o st' v u) [NW]:opR tt S a.toList key o st v u↔opR tt S a.toList key o st' v u:=⟨ZhE (fun s ms=>(hl s ms).symm) h1.1,ZhE hl h1.2⟩
theorem Zlk [NW] {all:List Oper}{o:Oper}{v:SV}{u:List (Nat×Ob)}(ho:ZoD o.op=true) (hs:stk tt S all o.op st=true) (h:Zak tt S key o st v u):u=[]/\∀{st':St},(∀x∈o.op.operands,∀t,st.ev tt t x=st'.ev tt t x)->Zak tt S key o st' v u:=by
 obtain ⟨b,op,ty,c,af,gd⟩:=o
 unfold ZoD at ho
 simp only at ho
 split at ho
 rotate_left
 .simp at ho
 rename_i t x lo hi
 have a:slB (st.ev tt 0 x)=true:=hs
 have h':opE tt key ⟨b,.slice t x lo hi none,ty,c,af,gd⟩ st=some (v,u):=h
 unfold slB at a
 split at a
 rotate_left
 .simp at a
 rename_i y hy
 constructor
 .simp only[opE]at h'
  rw [hy]at h'
  simp only[Q7]at h'
  obtain ⟨_,_,e⟩:=AD.1 h'
  simp only[AB]at e
  exact e.2.symm
 .intro st' hl
  show opE tt key ⟨b,.slice t x lo hi none,ty,c,af,gd⟩ st'=some (v,u)
  have e1:=hl x (by simp [Op.operands]) 0
  have e2:lo.map (st.ev tt 0)=lo.map (st'.ev tt 0):=by
   cases lo with
   |none=>rfl
   |some l=>exact congrArg some (hl l (by simp [Op.operands]) 0)
  have e3:hi.map (st.ev tt 0)=hi.map (st'.ev tt 0):=by
   cases hi with
   |none=>rfl
   |some l=>exact congrArg some (hl l (by simp [Op.operands]) 0)
  rw [<-h']
  simp only[opE,<-e1,<-e2,<-e3,hy,Q7]
theorem Zo1 {all:List Oper}{o:Oper}:∀{l:List Oper},o∈l->Yy all o.op=true->Zmd all l=true
 | [],m,_=>by simp at m
 |x::l,m,h=>by
  unfold Zmd
  rcases AJ.1 m with rfl|m
  .rw [h];rfl
  .rw [Zo1 m h];cases Yy all x.op<;>rfl
theorem ZvL [NW] {a:List Oper}{o:Oper}{v:SV}{u:List (Nat×Ob)}(ho:(ZhJ o.op||Zpl o.op)=true) (h:opR tt S a key o st v u):u=[]:=by
 rw [AK]at ho
 rcases ho with ho|ho
 .exact Zs6 ho h
 refine ZaM h (fun h=>?_) id
 obtain ⟨b,op,ty,c,af,gd⟩:=o
 unfold Zpl at ho
 simp only at ho
 split at ho
 .have h':opE tt key ⟨b,.indexAddr _ _ _,ty,c,af,gd⟩ st=some (v,u):=h
  simp only[opE]at h'
  split at h'
  .exact YO h'
  .simp at h'
 .simp at ho
theorem Zxr [NW] {all:List Oper}(hm:Zmd all all=true) {o:Oper}{v:SV}{u:List (Nat×Ob)}{kb t1 t2:Nat}{c1 c2:List AV}(ho:(ZhJ o.op||Zpl o.op)=true) (hl:∀x∈o.op.operands,∀t,st.ev tt t x=st'.ev tt t x) (hs:stk tt S all o.op st=true)
  (hk:st.n<=kb) (hb:st.ob kb=.box t1 c1) (b:st'.ob kb=.box t2 c2) (a:∀k,k≠kb->st'.ob k=st.ob k):Zak tt S key o st v u↔Zak tt S key o st' v u:=by
 obtain ⟨dst,op,ty,pos,af,gd⟩:=o
 rw [AK]at ho
 rcases ho with ho|ho
 .unfold ZhJ at ho
  simp only at ho
  split at ho
  rotate_left
  .simp at ho
  rename_i t x
  have e1:=hl x (by simp [Op.operands]) 0
  have c:ldN st.n (st.ev tt 0 x)=true:=by
   have h1:ldX (Zmd all all) st.n (st.ev tt 0 x)=true:=hs
   rw [hm]at h1
   exact h1
  have key:Qb st (tt t) (st.ev tt 0 x)=Qb st' (tt t) (st'.ev tt 0 x):=by
   rw [<-e1]
   unfold Qb
   split
   .rename_i k off hv
    rw [hv]at c
    have h1:k<st.n:=by simpa [ldN]using c
    rw [a k yE]
   .rename_i k m i off hv
    by_cases e:k=kb
    .subst e
     rw [hb,b]
    .rw [a k e]
   .rfl
   .rfl
   .rfl
  show opE tt _ _ st=some (v,u)↔opE tt _ _ st'=some (v,u)
  simp only[opE,key]
 .unfold Zpl at ho
  simp only at ho
  split at ho
  rotate_left
  .simp at ho
  rename_i t x i
  have e1:=hl x (by simp [Op.operands]) 0
  have e2:=hl i (by simp [Op.operands]) 0
  have key:∀m,QT st m (st.ev tt 0 x) (st.ev tt 0 i)=QT st' m (st'.ev tt 0 x) (st'.ev tt 0 i):=fun m=>by
   rw [<-e1,<-e2]
   unfold QT
   split
   .rfl
   .rename_i k _ j _ _
    by_cases e:k=kb
    .subst e
     rw [hb,b]
    .rw [a k e]
   .rfl
  show opE tt _ _ st=some (v,u)↔opE tt _ _ st'=some (v,u)
  simp only[opE,key]
theorem Zwd [NW] {all:List Oper}{o:Oper}{v:SV}{u:List (Nat×Ob)}(ho:Yy all o.op=true) (hs:stk tt S all o.op st=true) (h:Zak tt S key o st v u):∃(kb t:Nat) (c1 c2:List AV),st.n<=kb/\st.ob kb=.box t c1/\u=[(kb,.box t c2)]:=by
 obtain ⟨a,op,ty,c,af,gd⟩:=o
 unfold Yy at ho
 simp only at ho
 split at ho
 rotate_left
 .simp at ho
 rename_i t x w
 have h1:stY (stX all x) st.n (st.ev tt 0 x)=true:=hs
 rw [ho]at h1
 have h2:stB st.n (st.ev tt 0 x)=true:=h1
 have h':opE tt key ⟨a,.store t x w,ty,c,af,gd⟩ st=some (v,u):=h
 simp only[opE]at h'
 obtain ⟨u',h3,h4⟩:=AD.1 h'
 simp only[AB]at h4
 obtain ⟨_,rfl⟩:=h4
 unfold stB at h2
 split at h2
 rotate_left
 .simp at h2
 rename_i k off hv
 rw [hv]at h3
 have hk:st.n<=k:=by simpa using h2
 unfold Zf6 at h3
 split at h3
 .rename_i k' off' b vs e1 e2
  simp only[SV.bp.injEq]at e1
  obtain ⟨rfl,rfl⟩:=e1
  split at h3
  .rename_i tb cs hb
   split at h3
   .simp only[AA]at h3
    exact ⟨k,tb,cs,_,hk,hb,h3.symm⟩
   .simp at h3
  .simp at h3
 .rename_i e1 _
  simp at e1
 .simp at h3
theorem ZCN [NW] {b:Bool}{c:Array Oper}{oi oj:Oper}{ki kj:Nat}{vi vj:SV}{ui uj:List (Nat×Ob)}(j:oi.apart c oj=true) (hc:Zuz tt S.hd b c.toList oi.op oj.op=true) (N:oi∈c.toList) (O:oj∈c.toList) (hU:StU U st) (I:∀k,ki<=k->k<ki+16->¬U k) (J:∀k,kj<=k->k<kj+16->¬U k) (K:ki+16<=kj\/kj+16<=ki)
  (w:b=true->stk tt S c.toList oi.op st=true) (l:b=true->stk tt S c.toList oj.op ((st.put oi.dst vi).app ui)=true) (h:opR tt S c.toList ki oi st vi ui) (h':opR tt S c.toList kj oj ((st.put oi.dst vi).app ui) vj uj):
  opR tt S c.toList kj oj st vj uj/\opR tt S c.toList ki oi ((st.put oj.dst vj).app uj) vi ui/\((((st.put oi.dst vi).app ui).put oj.dst vj).app uj)=((((st.put oj.dst vj).app uj).put oi.dst vi).app ui):=by
 by_cases L:Zui tt S.hd oi.op oj.op=true
 .exact comm j L hU I J K h h'
 have hb:b=true/\((Zmd c.toList c.toList=false/\((ZhJ oi.op=true/\Zvn S.hd oj.op=true)\/(Zvn S.hd oi.op=true/\ZhJ oj.op=true)))\/ZoD oi.op=true\/ZoD oj.op=true\/((ZhJ oi.op||Zpl oi.op)=true/\Yy c.toList oj.op=true)\/(Yy c.toList oi.op=true/\(ZhJ oj.op||Zpl oj.op)=true)):=by
  unfold Zuz at hc
  rw [AK]at hc
  have:=hc.resolve_left L
  rw [AC]at this
  obtain ⟨q1,q2⟩:=this
  refine ⟨q1,?_⟩
  rw [AK,AK,AK,AK,AC,AC (ZhJ oi.op||Zpl oi.op),AC (Yy c.toList oi.op),AK,AC,AC,Ac]at q2
  rcases q2 with (((q|q)|q)|q)|q
  .exact .inl q
  .exact .inr (.inl q)
  .exact .inr (.inr (.inl q))
  .exact .inr (.inr (.inr (.inl q)))
  .exact .inr (.inr (.inr (.inr q)))
 obtain ⟨hb,hc⟩:=hb
 obtain ⟨a1,a2,a3⟩:=Oper.apart_spec j
 have M:∀t x,svU U (st.ev tt t x):=fun t x=>ZCu hU t x
 have g:∀s∈oj.looksAt c,st.sl s=((st.put oi.dst vi).app ui).sl s:=fun s ms=>(Zde st oi.dst vi s fun t ht e=>a1 t ht (e ▸ ms)).symm
 have i:∀s∈oi.looksAt c,st.sl s=((st.put oj.dst vj).app uj).sl s:=fun s ms=>(Zde st oj.dst vj s fun t ht e=>a3 t ht (e ▸ ms)).symm
 have f:(((st.put oi.dst vi).put oj.dst vj)).sl=(((st.put oj.dst vj).put oi.dst vi)).sl:=Zoq st _ _ _ _ fun t ht=>a2 t ht
 have e1:∀(s:St) (u:List (Nat×Ob)) (d:Option Nat) (v:SV),((s.app u).put d v)=((s.put d v).app u):=fun s u d v=>by cases d<;>rfl
 have o:ui=[]\/uj=[]->((((st.put oi.dst vi).app ui).put oj.dst vj).app uj)=((((st.put oj.dst vj).app uj).put oi.dst vi).app ui):=fun hn=>by
  rw [e1,e1]
  have hs:((st.put oi.dst vi).put oj.dst vj)=((st.put oj.dst vj).put oi.dst vi):=by
   have h2:((st.put oi.dst vi).put oj.dst vj).ob=((st.put oj.dst vj).put oi.dst vi).ob:=by simp only[Xw]
   have h3:((st.put oi.dst vi).put oj.dst vj).n=((st.put oj.dst vj).put oi.dst vi).n:=by simp only[ZlM]
   generalize ((st.put oi.dst vi).put oj.dst vj)=s1 at f h2 h3
   generalize ((st.put oj.dst vj).put oi.dst vi)=s2 at f h2 h3
   cases s1;cases s2
   simp only at f h2 h3
   subst f h2 h3
   rfl
  rw [hs]
  rcases hn with rfl|rfl<;>rfl
 rcases hc with ⟨hm,hc⟩|y|y|⟨l1,l2⟩|⟨l1,l2⟩
 rotate_left
 ·-- the first is a slice that is only read
  have hs:=w hb
  have hn:ui=[]:=ZaM h (fun h=>(Zlk y hs h).1) id
  subst hn
  have hA:opR tt S c.toList kj oj st vj uj:=(QF (U:=U) g (.inr (.inl (by show st.ob=(st.put oi.dst vi).ob;rw [Xw])))).2 h'
  refine ⟨hA,ZhE (fun s ms=>(i s ms).symm) (fun h=>(Zlk y hs h).2 (ZaX i)) h,o (.inl rfl)⟩
 ·-- the second is one
  have hs:=(Zep (tt:=tt) (S:=S) (st:=st) (vi:=vi) (ui:=ui) (vj:=vj) (uj:=uj) j).1.trans (l hb)
  have hn:uj=[]:=ZaM h' (fun h=>(Zlk y (l hb) h).1) id
  subst hn
  have hA:opR tt S c.toList kj oj st vj []:=ZhE g (fun h=>(Zlk y (l hb) h).2 (fun x m t=>(ZaX g x m t).symm)) h'
  refine ⟨hA,?_,o (.inr rfl)⟩
  exact (QF (U:=U) i (.inr (.inl (by show st.ob=(st.put oj.dst vj).ob;rw [Xw])))).1 h
 ·-- what is read beside a store into a new box
  have F:=Zo1 O l2
  have z:=ZvL l1 h
  have A:st.ob=((st.put oi.dst vi).app ui).ob:=by
   subst z
   show st.ob=(st.put oi.dst vi).ob
   rw [Xw]
  have hA:=(QF (U:=U) g (.inr (.inl A))).2 h'
  have hs:=(Zep (tt:=tt) (S:=S) (st:=st) (vi:=vi) (ui:=ui) (vj:=vj) (uj:=uj) j).1.trans (l hb)
  refine ⟨hA,?_,o (.inl z)⟩
  refine ZaM hA (fun hx=>?_) (fun e=>?_)
  .obtain ⟨kb,t,c1,c2,hk,G,hu⟩:=Zwd l2 hs hx
   subst hu
   refine (Zlf i (Zxr (kb:=kb) F l1 (ZaX i) (w hb) hk G (t2:=t) (c2:=c2) ?_ fun k H=>?_)).1 h
   .exact ZB _ _ _
   .show upd (st.put oj.dst vj).ob kb _ k=_
    rw [ZP _ _ H,Xw]
  .refine (QF (U:=U) i (.inr (.inl ?_))).1 h
   subst e
   show st.ob=(st.put oj.dst vj).ob
   rw [Xw]
 .have F:=Zo1 N l1
  have B:=ZvL l2 h'
  have hs:=(Zep (tt:=tt) (S:=S) (st:=st) (vi:=vi) (ui:=ui) (vj:=vj) (uj:=uj) j).1.trans (l hb)
  have hA:opR tt S c.toList kj oj st vj uj:=by
   refine ZaM h (fun hx=>?_) (fun e=>?_)
   .obtain ⟨kb,t,c1,c2,hk,G,hu⟩:=Zwd l1 (w hb) hx
    subst hu
    refine (Zlf g (Zxr (kb:=kb) F l2 (ZaX g) hs hk G (t2:=t) (c2:=c2) ?_ fun k H=>?_)).2 h'
    .exact ZB _ _ _
    .show upd (st.put oi.dst vi).ob kb _ k=_
     rw [ZP _ _ H,Xw]
   .refine (QF (U:=U) g (.inr (.inl ?_))).2 h'
    subst e
    show st.ob=(st.put oi.dst vi).ob
    rw [Xw]
  refine ⟨hA,(QF (U:=U) i (.inr (.inl ?_))).1 h,o (.inr B)⟩
  subst B
  show st.ob=(st.put oj.dst vj).ob
  rw [Xw]
 have E:∀{u:List (Nat×Ob)} {q:Nat},(∀p∈u,p.1=0\/(q<=p.1/\p.1<q+16)\/p.2=Z6 (st.ob p.1))->(∀k,q<=k->k<q+16->¬U k)->∀k,U k->k≠0->Zh st.ob u k=st.ob k\/Zh st.ob u k=Z6 (st.ob k):=fun {u q} hu hq k hk C=>by
  have P:∀(u:List (Nat×Ob)) (ob:Nat->Ob),(∀p∈u,p.1=0\/(q<=p.1/\p.1<q+16)\/p.2=Z6 (st.ob p.1))->(ob k=st.ob k\/ob k=Z6 (st.ob k))->(Zh ob u k=st.ob k\/Zh ob u k=Z6 (st.ob k)):=by
   intro u
   induction u with
   |nil=>intro ob _ h;exact h
   |cons p u ih=>
    intro ob hp h
    refine ih _ (fun x mx=>hp x (by simp [mx])) ?_
    by_cases D:k=p.1
    .rcases hp p yG with h1|h1|h1
     .exact absurd (D.trans h1) C
     .exact absurd (D ▸ hk) (hq p.1 h1.1 h1.2)
     .right;rw [D,ZB];exact h1
    .rw [ZP _ _ D];exact h
  exact P u st.ob hu (.inl rfl)
 rcases hc with ⟨l1,l2⟩|⟨l1,l2⟩
 .have z:=Zs6 l1 h
  have A:st.ob=((st.put oi.dst vi).app ui).ob:=by
   subst z
   show st.ob=(st.put oi.dst vi).ob
   rw [Xw]
  have hA:=(QF (U:=U) g (.inr (.inl A))).2 h'
  have hs:=(Zep (tt:=tt) (S:=S) (st:=st) (vi:=vi) (ui:=ui) (vj:=vj) (uj:=uj) j).1.trans (l hb)
  refine ⟨hA,?_,o (.inl z)⟩
  refine ZaM hA (fun hx=>?_) (fun e=>?_)
  .refine (Zlf i (ZnV (U:=U) hm l1 (ZaX i) (w hb) M fun k hk C=>?_)).1 h
   show Zh (st.put oj.dst vj).ob uj k=_\/Zh (st.put oj.dst vj).ob uj k=_
   rw [Xw]
   exact E (Zoh l2 hs hx) J k hk C
  .refine (QF (U:=U) i (.inr (.inl ?_))).1 h
   subst e
   show st.ob=(st.put oj.dst vj).ob
   rw [Xw]
 .have B:=Zs6 l2 h'
  have hs:=(Zep (tt:=tt) (S:=S) (st:=st) (vi:=vi) (ui:=ui) (vj:=vj) (uj:=uj) j).1.trans (l hb)
  have hA:opR tt S c.toList kj oj st vj uj:=by
   refine ZaM h (fun hx=>?_) (fun e=>?_)
   .refine (Zlf g (ZnV (U:=U) hm l2 (ZaX g) hs M fun k hk C=>?_)).2 h'
    show Zh (st.put oi.dst vi).ob ui k=_\/Zh (st.put oi.dst vi).ob ui k=_
    rw [Xw]
    exact E (Zoh l1 (w hb) hx) I k hk C
   .refine (QF (U:=U) g (.inr (.inl ?_))).2 h'
    subst e
    show st.ob=(st.put oi.dst vi).ob
    rw [Xw]
  refine ⟨hA,(QF (U:=U) i (.inr (.inl ?_))).1 h,o (.inr B)⟩
  subst B
  show st.ob=(st.put oj.dst vj).ob
  rw [Xw]
end
end
section
open Go.RowKit
section
variable {P:Program} {J:World->Prop} {JF:Nat->Prop} {W:ZaA} {U:Nat->Prop} {key:Nat} {st st':St} {w w':World} {a:Act} {tt:Nat->Option TI} {hds:FuncId->Nat} {Q:Exit->Act->World->Prop}
def Zxk [NW] (W:ZaA) (N:Nat) (U:Nat->Prop) (st:St):Prop:=∃a w,Inv W U st a w/\a.tmps.size=N
theorem Zv1 [NW] (htt:MOk P J JF W tt) {N:Nat}{all:List Oper}{o:Oper}{v:SV}{u:List (Nat×Ob)}(h:opR tt (SC P J JF hds) all key o st v u) (hR:Zxk W N U st) (d:∀k,key<=k->k<key+16->¬U k) (hd:∀t,o.dst=some t->t<N/\(W.hv=none\/t≠0)):
  Zxk W N (Uk U key) ((st.put o.dst v).app u):=by
 obtain ⟨a,w,hI,hN⟩:=hR
 have i:∀t,o.dst=some t->t<a.tmps.size/\(W.hv=none\/t≠0):=fun t ht=>hN ▸ hd t ht
 have j:v=.und/\u=[]->Zxk W N (Uk U key) ((st.put o.dst v).app u):=fun ⟨e1,e2⟩=>by
  subst e1 e2
  exact ⟨_,w,Zt8 hI _ i,by rw [Zc4];exact hN⟩
 have l:Zak tt (SC P J JF hds) key o st v u->Zxk W N (Uk U key) ((st.put o.dst v).app u):=fun h=>by
  obtain ⟨⟨g,hH,hS⟩,hU,f,hh⟩:=hI
  have evals:∀(ts:List TypeId) (args:List Operand),ZD (SVR g w) (evs tt st ts args) (args.map a.eval)/\∀x∈evs tt st ts args,svU U x:=fun ts args=>by
   have he:args.map a.eval=(ZiI ts args).map fun p=>a.eval p.2:=by
    have:=congrArg (A0 a.eval) (Zfu ts args)
    rw [<-this,List.map_map];rfl
   refine ⟨?_,fun x mx=>?_⟩
   .rw [he]
    exact ZD.of_map _ _ fun p _=>(ZkE htt.tt hS hU p.1 p.2).1
   .obtain ⟨p,_,rfl⟩:=AF.1 mx
    exact (ZkE htt.tt hS hU p.1 p.2).2
  cases hc:YG o.op with
  |some c=>
   simp only[Zak,hc]at h
   obtain ⟨_,b⟩:=Zgj htt h hH hU d (evals c.2.1 c.2.2).1 (evals c.2.1 c.2.2).2
   obtain ⟨e,w',fr,⟨rv,_,g',t1,t2,t3,t4,t5,t6⟩,_⟩:=b []
   exact ⟨_,_,ZfJ hS hU f hh i t1 t2 t3 t4 t5 t6,by rw [Zc4];exact hN⟩
  |none=>
   simp only[Zak,hc]at h
   cases hd2:Xf o.op with
   |some c=>
    rw [hd2]at h
    simp only at h
    obtain ⟨fc,h1,_,h⟩:=h
    obtain ⟨cs,_,q⟩:=Zqb h1 (hS c.1)
    obtain ⟨_,b⟩:=Zgj htt h hH hU d ((evals c.2.1 c.2.2).1.append q) (fun x mx=>by
     rcases AE.1 mx with m|m
     .exact (evals c.2.1 c.2.2).2 x m
     .obtain ⟨c,_,rfl⟩:=AF.1 m
      exact XE _)
    obtain ⟨e,w',fr,⟨rv,_,g',t1,t2,t3,t4,t5,t6⟩,_⟩:=b []
    exact ⟨_,_,ZfJ hS hU f hh i t1 t2 t3 t4 t5 t6,by rw [Zc4];exact hN⟩
   |none=>
    rw [hd2]at h
    simp only at h
    obtain ⟨g',cv,w',_,t1,t2,t3,t4,t5,t6⟩:=Zoo (P:=P) (W:=W) (a:=a) htt.tt o h hH hS hU (d key (AL _) yE)
    exact ⟨_,_,ZfJ hS hU f hh i t1 t2 t3 t4 t5 t6,by rw [Zc4];exact hN⟩
 unfold opR at h
 split at h
 .exact l h
 .exact j h
 .unfold gK at h
  split at h
  .split at h
   .exact l h
   .exact j h
  .split at h
   .exact j h
   .exact h.elim
theorem Zho {S:Ctx}{b:Bool}{all:List Oper}{base i:Nat}{r:List Nat}{K:St->Prop}{o:Oper}(ho:all[i]?=some o):ZfP tt S b all base (i::r) K st=ifB b (stk tt S all o.op st) (opG tt S all (base+16*i) o (ZfP tt S b all base r K) st):=by simp only[ZfP,ho]
theorem ZtG [NW] {S:Ctx}{all:List Oper}{base:Nat}{K:St->Prop}:∀(r:List Oper) (i:Nat) (st:St),all.drop i=r->Z4 tt S all (base+16*i) r K st->ZfP tt S false all base (List.range' i r.length) K st
 | [],_,_,_,h=>h
 |o::r,i,st,hr,h=>by
  have hi:all[i]?=some o:=by
   have:=congrArg (fun l=>l[0]?) hr
   simpa using this
  have a:all.drop (i+1)=r:=by
   have:=congrArg List.tail hr
   simpa using this
  rw [List.length_cons,List.range'_succ,Zho hi]
  obtain ⟨v,u,h1,h2⟩:=Zhu.1 h
  refine Zhu.2 ⟨v,u,h1,ZtG r (i+1) _ a ?_⟩
  rw [show base+16*(i+1)=base+16*i+16 by omega]
  exact h2
theorem ZpM {b c:Bool}{P:Prop}:ifB b c P↔(b=true->c=true)/\P:=by
 cases b<;>simp [ifB]
theorem ZCx [NW] (htt:MOk P J JF W tt) {b:Bool}{f:Array Oper}{N base i:Nat}{o:Oper}(ho:f.toList[i]?=some o) (hN:∀o∈f.toList,∀t,o.dst=some t->t<N/\(W.hv=none\/t≠0)) {K:St->Prop}{R2:List Nat}:∀(R1:List Nat) (U:Nat->Prop) (st:St),(R1++i::R2).Nodup->
  (∀j∈R1,∃oj,f.toList[j]?=some oj/\oj.apart f o=true/\Zuz tt hds b f.toList oj.op o.op=true)->(∀j∈R1++i::R2,∀k,base+16*j<=k->k<base+16*j+16->¬U k)->Zxk W N U st->
  ZfP tt (SC P J JF hds) b f.toList base (R1++i::R2) K st->(b=true->stk tt (SC P J JF hds) f.toList o.op st=true)/\opG tt (SC P J JF hds) f.toList (base+16*i) o (ZfP tt (SC P J JF hds) b f.toList base (R1++R2) K) st:=by
 intro R1
 induction R1 with
 |nil=>
  intro U st _ _ _ _ h
  rw [List.nil_append,Zho ho]at h
  exact ZpM.1 h
 |cons j R1 ih=>
  intro U st l g hk hR h
  obtain ⟨oj,hj,m,u⟩:=g j yG
  rw [Ad,Zho hj]at h
  obtain ⟨sj,h⟩:=ZpM.1 h
  obtain ⟨vj,uj,h1,h2⟩:=Zhu.1 h
  have p:=hk j yG
  have v:=hk i yG
  rw [Ad,AP]at l
  have hij:i≠j:=fun e=>l.1 (by simp [e])
  have w:=Zv1 htt h1 hR p (hN oj (AY hj))
  obtain ⟨si,h3⟩:=ih (Uk U (base+16*j)) _ l.2 (fun q mq=>g q (by simp [mq])) (fun q mq k a b hU=>by
   rcases hU with hU|⟨c,d⟩
   .exact hk q (by simp;simp at mq;exact .inr mq) k a b hU
   .have:q=j:=by omega
    subst this
    exact l.1 mq) w h2
  obtain ⟨vi,ui,h4,h5⟩:=Zhu.1 h3
  obtain ⟨_,_,x,_⟩:=hR
  obtain ⟨c1,c2,c3⟩:=ZCN (tt:=tt) (S:=SC P J JF hds) (b:=b) m u (AY hj) (AY ho) x.wf p v yE sj si h1 h4
  have e1:=(Zep (tt:=tt) (S:=SC P J JF hds) (st:=st) (vi:=vj) (ui:=uj) (vj:=vi) (uj:=ui) m).1
  have e2:=(Zep (tt:=tt) (S:=SC P J JF hds) (st:=st) (vi:=vj) (ui:=uj) (vj:=vi) (uj:=ui) m).2
  refine ⟨fun hb=>e1.trans (si hb),Zhu.2 ⟨vi,ui,c1,?_⟩⟩
  rw [Ad,Zho hj]
  exact ZpM.2 ⟨fun hb=>e2.trans (sj hb),Zhu.2 ⟨vj,uj,c2,c3 ▸ h5⟩⟩
def anc (ops:Array Oper):Nat->Nat->List Nat
 |0,_=>[]
 |n+1,j=>match ops[j]? with
  |some o=>(o.after.toList.filter (Region.binds .any)).flatMap fun e=>e.on::anc ops n e.on
  |none=>[]
def ZoF (tt:Nat->Option TI) (hds:FuncId->Nat) (b:Bool) (ops:Array Oper) (i j:Nat):Bool:=!Nat.beq i j&&match ops[i]?,ops[j]? with
 |some oi,some oj=>(oi.after.toList.all fun e=>!Region.binds .any e||!Nat.beq e.on j)&&((anc ops ops.size j).contains i||(oi.apart ops oj&&Zuz tt hds b ops.toList oi.op oj.op))
 |_,_=>true
def ZjU (tt:Nat->Option TI) (hds:FuncId->Nat) (b:Bool) (ops:Array Oper):List Nat->Bool
 | []=>true
 |i::r=>r.all (ZoF tt hds b ops i)&&ZjU tt hds b ops r
def elB (ops:Array Oper) (j:Nat):Bool:=match ops[j]? with
 |some oj=>oj.after.toList.all fun e=>!Region.binds .any e||(Nat.blt e.on ops.size&&!Nat.beq e.on j)
 |none=>true
def ZAb (ops:Array Oper):Bool:=(AZ ops.size).all (elB ops)
def Ztb (tt:Nat->Option TI) (hds:FuncId->Nat) (ops:Array Oper):Bool:=ZjU tt hds false ops (AZ ops.size)&&ZAb ops
def Zub (tt:Nat->Option TI) (hds:FuncId->Nat) (b:Bool) (ops:Array Oper) (l:List Nat):Bool:=ZjU tt hds b ops l&&ZAb ops&&Nat.ble l.length ops.size&&l.all (Nat.blt · ops.size)&&(AZ ops.size).all l.contains
theorem Zq5 {a:Array Oper}(h:ZAb a=true) (j:Nat):elB a j=true:=by
 rcases Ae j a.size with hj|hj
 .exact AQ.1 h j (by simpa using hj)
 .unfold elB
  rw [Ag hj]
theorem ZoR {b:Bool}{a:Array Oper}:∀{l:List Nat},ZjU tt hds b a l=true->l.Pairwise fun i j=>ZoF tt hds b a i j=true
 | [],_=>List.Pairwise.nil
 |i::r,h=>by
  simp only[ZjU,AC,AQ]at h
  exact List.Pairwise.cons h.1 (ZoR h.2)
theorem Zte {i j:Nat}(h:(!Nat.beq i j)=true):i≠j:=fun e=>by subst e;simp at h
theorem ZlW {b:Bool}{a:Array Oper}{i j:Nat}{oi oj:Oper}(h:ZoF tt hds b a i j=true) (hi:a[i]?=some oi) (hj:a[j]?=some oj):(∀e∈oi.after,Region.binds .any e=true->e.on≠j)/\(i∈anc a a.size j\/(oi.apart a oj=true/\Zuz tt hds b a.toList oi.op oj.op=true)):=by
 simp only[ZoF,hi,hj,AC,AQ,AK]at h
 refine ⟨fun e me hb=>?_,h.2.2.imp (fun h=>by simpa using h) fun h=>h⟩
 have h1:=h.2.1 e (by simpa using me)
 rw [hb]at h1
 exact Zte (h1.resolve_left yG)
theorem Zls {b:Array Oper}{a:Array Bool}(c:∀i o,b[i]?=some o->a.getD i false=true->∀e∈o.after,Region.binds .any e=true->a.getD e.on false=true):
  ∀(n j:Nat) (o:Oper),b[j]?=some o->(∀e∈o.after,Region.binds .any e=true->a.getD e.on false=true)->∀i∈anc b n j,a.getD i false=true
 |0,j,o,_,_,i,mi=>by simp [anc]at mi
 |n+1,j,o,ho,he,i,mi=>by
  simp only[anc,ho,Ah,List.mem_filter]at mi
  obtain ⟨e,⟨me,hb⟩,mi⟩:=mi
  have hl:=he e (by simpa using me) hb
  rcases AJ.1 mi with rfl|mi
  .exact hl
  .cases ho':b[e.on]? with
   |none=>cases n<;>simp [anc,ho']at mi
   |some o'=>exact Zls c n e.on o' ho' (fun e' d f=>c e.on o' ho' hl e' d f) i mi
theorem ZuU [NW] (htt:MOk P J JF W tt) {b:Bool}{g:Array Oper}{N base:Nat}(hN:∀o∈g.toList,∀t,o.dst=some t->t<N/\(W.hv=none\/t≠0)) (hE:∀j,elB g j=true) {K:St->Prop}
  (hQ:∀U' st' a' w',Inv W U' st' a' w'->(∀k,base+16*g.size<=k->¬U' k)->a'.tmps.size=N->K st'->Q .normal a' w'):
  ∀(p:Nat) (R:List Nat) (f:Array Bool) (U:Nat->Prop) (st:St) (a:Act) (w:World),R.length<=p->R.Pairwise (fun i j=>ZoF tt hds b g i j=true)->f.size=g.size->(∀i,i∈R↔(i<g.size/\f.getD i true=false))->
   (∀i o,g[i]?=some o->f.getD i false=true->∀e∈o.after,Region.binds .any e=true->f.getD e.on false=true)->
   ZfP tt (SC P J JF hds) b g.toList base R K st->Inv W U st a w->(∀j∈R,∀k,base+16*j<=k->k<base+16*j+16->¬U k)->(∀k,base+16*g.size<=k->¬U k)->a.tmps.size=N->wpAny P .any g Q p f a w:=by
 have L:∀j oj,g[j]?=some oj->∀e∈oj.after,Region.binds .any e=true->e.on<g.size/\e.on≠j:=fun j oj hj e me hb=>by
  have h1:=hE j
  simp only[elB,hj,AQ,AK,AC]at h1
  have h2:=h1 e (by simpa using me)
  rw [hb]at h2
  have h3:=h2.resolve_left yG
  exact ⟨AH h3.1,Zte h3.2⟩
 intro p
 induction p with
 |zero=>
  intro R f U st a w B _ y l _ h hI _ hU hs
  have hR:R=[]:=List.eq_nil_of_length_eq_zero yE
  subst hR
  refine ⟨?_,hQ U st a w hI hU hs h⟩
  rw [List.eq_nil_iff_forall_not_mem]
  intro i mi
  obtain ⟨h1,o,h2,_⟩:=mem_ready.1 mi
  exact absurd ((l i).2 ⟨(Ai.1 h2).1,h1⟩) yG
 |succ p ih=>
  intro R f U st a w B z y l F h hI hk hU hs
  refine ⟨fun hr=>?_,fun i mi=>?_⟩
  .cases R with
   |nil=>exact hQ U st a w hI hU hs h
   |cons r0 R=>
    exfalso
    obtain ⟨m1,m2⟩:=(l r0).1 yG
    have:r0∈Region.ready .any g f:=mem_ready.2 ⟨m2,g[r0],by simp [m1],fun e me hb=>by
     have x:=L r0 g[r0] (by simp [m1]) e me hb
     by_cases hl:f.getD e.on true=false
     .have mR:=(l e.on).2 ⟨x.1,hl⟩
      rcases AJ.1 mR with e1|mR
      .exact absurd e1 x.2
      .exact absurd rfl ((ZlW ((List.pairwise_cons.1 z).1 _ mR) (oi:=g[r0]) (oj:=g[e.on]'x.1) (by simp [m1]) (by simp [x.1])).1 e me hb)
     .have G:e.on<f.size:=by omega
      simp only[AN,G,getElem?_pos,Aj,Bool.not_eq_false]at hl ⊢
      exact hl⟩
    rw [hr]at this
    simp at this
  .obtain ⟨i1,o,i2,i3⟩:=mem_ready.1 mi
   have C:i<g.size:=(Ai.1 i2).1
   have M:i∈R:=(l i).2 ⟨C,i1⟩
   obtain ⟨R1,R2,rfl⟩:=List.append_of_mem M
   have A:(R1++i::R2).Nodup:=z.imp fun h=>by
    simp only[ZoF,AC]at h
    exact Zte h.1
   have ho:g.toList[i]?=some o:=by simpa using i2
   have H:=Zls F g.size i o i2 i3
   have D:∀j∈R1,∃oj,g.toList[j]?=some oj/\oj.apart g o=true/\Zuz tt hds b g.toList oj.op o.op=true:=fun j mj=>by
    obtain ⟨j1,j2⟩:=(l j).1 (by simp [mj])
    have O:=(List.pairwise_append.1 z).2.2 j mj i yG
    have hj:g[j]?=some g[j]:=by simp [j1]
    refine ⟨g[j],by simp [j1],(ZlW O hj i2).2.resolve_left fun ma=>?_⟩
    have:=H j ma
    have x:j<f.size:=by omega
    simp only[AN,x,getElem?_pos,Aj]at this j2
    rw [this]at j2;simp at j2
   have S:=(ZCx htt ho hN R1 U st A D hk ⟨a,w,hI,hs⟩ h).2
   refine wpOp_mono ?_ (ZoM htt i2 S hI (hk i yG) (fun t ht=>by rw [hs];exact hN o (AY ho) t ht))
   rintro a' w' ⟨st',T,hs',V⟩
   have I:∀q,(f.setIfInBounds i true).getD q true=if q=i then true else f.getD q true:=fun q=>by
    by_cases e:q=i
    .subst e;simp [AN,Ao,y,C]
    .simp [AN,Aq (fun e':i=q=>e e'.symm),e]
   have E:∀q,(f.setIfInBounds i true).getD q false=if q=i then true else f.getD q false:=fun q=>by
    by_cases e:q=i
    .subst e;simp [AN,Ao,y,C]
    .simp [AN,Aq (fun e':i=q=>e e'.symm),e]
   have v:i∉R1++R2:=by
    rw [AX]at A
    intro m
    rcases AE.1 m with m|m
    .exact A.2.2 i m i yG rfl
    .exact (AP.1 A.2.1).1 m
   refine ih (R1++R2) _ (Uk U (base+16*i)) st' a' w' (by simp at B ⊢;omega) (z.sublist (Ak (Ar _) (List.sublist_cons_self i R2))) (by simp [y]) (fun q=>?_) (fun q oq hq hl e me hb=>?_) V T (fun q mq k c d u=>?_) (fun k X u=>?_) yE
   .rw [I q]
    by_cases e:q=i
    .subst e;simp only[if_true,Bool.true_eq_false,and_false,iff_false];exact v
    .rw [if_neg e,<-l q];simp [e]
   .rw [E]at hl ⊢
    by_cases e1:e.on=i
    .simp [e1]
    .rw [if_neg e1]
     by_cases e2:q=i
     .subst e2
      rw [i2]at hq
      simp only[AA]at hq
      subst hq
      exact i3 e me hb
     .rw [if_neg e2]at hl
      exact F q oq hq hl e me hb
   .have Y:q∈R1++i::R2:=by simp at mq ⊢;rcases mq with mq|mq<;>simp [mq]
    rcases u with u|⟨c',d'⟩
    .exact hk q Y k c d u
    .have:q=i:=by omega
     subst this
     exact v mq
   .rcases u with u|⟨c',d'⟩
    .exact hU k X u
    .omega
end
end
section
open Go.RowKit
theorem ZtE:∀{ρ:List Nat}{k i j:Nat},ZpE ρ k i=some j->i<=j/\ρ[j - i]?=some k
 | [],_,_,_,h=>by simp [ZpE]at h
 |x::r,k,i,j,h=>by
  simp only[ZpE]at h
  split at h
  .rename_i e
   simp only[AA]at h
   subst h e
   exact ⟨AL _,yG⟩
  .obtain ⟨h1,h2⟩:=ZtE h
   refine ⟨yE,?_⟩
   rw [show j - i=(j - (i+1))+1 by omega]
   simpa using h2
theorem ZdI [NW] {ρ:List Nat}{k j:Nat}(h:ZpE ρ k 0=some j):ρ[j]?=some k:=by simpa using (ZtE h).2
theorem ZoQ {α:Type}:∀{l:List α},l.Nodup->∀{i j:Nat}(hi:i<l.length) (hj:j<l.length),l[i]=l[j]->i=j
 | [],_,_,_,hi,_,_=>by simp at hi
 |x::l,h,0,0,_,_,_=>rfl
 |x::l,h,0,j+1,_,hj,e=>by
  rw [AP]at h
  exact absurd (by simp at e;rw [e];exact As _) h.1
 |x::l,h,i+1,0,hi,_,e=>by
  rw [AP]at h
  exact absurd (by simp at e;rw [<-e];exact As _) h.1
 |x::l,h,i+1,j+1,hi,hj,e=>by
  rw [AP]at h
  have:=ZoQ h.2 (i:=i) (j:=j) (by simpa using hi) (by simpa using hj) (by simpa using e)
  omega
section
variable {P:Program} {J:World->Prop} {JF:Nat->Prop} {W:ZaA} {U:Nat->Prop} {st st':St} {w w':World} {a:Act} {tt:Nat->Option TI} {S:Ctx}
theorem ZB0 [NW] {g g':Gh}{ρ:List Nat}(hv:∀j k,ρ[j]?=some k->g'.val j=g.val k) (ho:XF g' g) {x:AV}{v:Value}(h:AVR g w x v):AVR g' w (rAV ρ x) v:=by
 cases x with
 |c x=>obtain ⟨L,h1,h2⟩:=h;exact ⟨L,h1,fun b m o=>h2 b m (ho.own b o)⟩
 |n x=>exact NR.move h (fun _ _ _=>rfl) (ho.grow _)
 |row k=>
  simp only[rAV]
  split
  .rename_i j hj
   exact ⟨by rw [hv j k (ZdI hj)];exact h.1,h.2⟩
  .exact h.2
 |nil e m=>exact h
 |dead=>exact h
theorem ZD.map_left {α β γ:Type}{R:α->γ->Prop}{R':β->γ->Prop}(f:α->β) (h:∀a c,R a c->R' (f a) c):∀{l:List α}{r:List γ},ZD R l r->ZD R' (l.map f) r
 | [],[],_=>trivial
 |_::_,_::_,hh=>⟨h _ _ hh.1,hh.2.map_left f h⟩
 | [],_::_,h=>h.elim
 |_::_,[],h=>h.elim
theorem ZwC [NW] (ρ:List Nat) (x:AV):avU (fun j=>j<ρ.length) (rAV ρ x):=by
 cases x with
 |row k=>
  simp only[rAV]
  split
  .rename_i j hj
   exact (AO.1 (ZdI hj)).1
  .trivial
 |_=>trivial
theorem ZtZ [NW] (hI:Inv W U st a w) {ρ:List Nat}(hρ:ρ.Nodup):Inv W (fun j=>j<ρ.length) (st.ren ρ) a w:=by
 obtain ⟨⟨g,hH,hS⟩,hU,B,hh⟩:=hI
 let g':Gh:=⟨fun j=>match ρ[j]? with|some k=>g.val k|none=>undef,fun j=>match ρ[j]? with|some k=>g.O k|none=>[],fun j=>match ρ[j]? with|some k=>g.D k|none=>[],g.Z⟩
 have gs:∀j k,ρ[j]?=some k->g'.val j=g.val k/\g'.O j=g.O k/\g'.D j=g.D k:=fun j k h=>by simp [g',h]
 have gn:∀j,ρ[j]?=none->g'.O j=[]/\g'.D j=[]:=fun j h=>by simp [g',h]
 have ho:∀b,g'.own b->g.own b:=fun b hb=>by
  rcases hb with ⟨j,mj⟩|hz
  .cases h:ρ[j]? with
   |none=>rw [(gn j h).1]at mj;simp at mj
   |some k=>rw [(gs j k h).2.1]at mj;exact .inl ⟨k,mj⟩
  .exact .inr hz
 have A:XF g' g:=.of ho fun j b mb=>by
  cases h:ρ[j]? with
  |none=>rw [(gn j h).2]at mb;simp at mb
  |some k=>rw [(gs j k h).2.2]at mb;exact ⟨k,mb⟩
 have C:∀x v,AVR g w x v->AVR g' w (rAV ρ x) v:=fun x v h=>ZB0 (fun j k F=>(gs j k F).1) A h
 have u:∀xs vs,ZD (AVR g w) xs vs->ZD (AVR g' w) (xs.map (rAV ρ)) vs:=fun xs vs h=>h.map_left _ C
 have E:∀ag cs v,PVR g w ag cs v->PVR g' w ag (cs.map (rAV ρ)) v:=fun ag cs v h=>by
  cases ag with
  |true=>obtain ⟨vs,h1,h2⟩:=h;exact ⟨vs,h1,u _ _ h2⟩
  |false=>obtain ⟨x,rfl,h2⟩:=h;exact ⟨_,rfl,C _ _ h2⟩
 refine ⟨⟨g',⟨hH.below,fun j=>?_,fun j=>?_,fun j i G b mb=>?_,fun j b mb=>?_,hH.gz,hH.zx,hH.nw,fun j b mb=>by
  cases h:ρ[j]? with
  |none=>rw [(gn j h).1]at mb;simp at mb
  |some k=>rw [(gs j k h).2.1]at mb;exact hH.oy k b mb⟩,fun t=>?_⟩,⟨fun t=>?_,fun j=>?_,fun j hj=>?_⟩,B,hh⟩
 .show ObR g' w j (match ρ[j]? with|some k=>rOb ρ (st.ob k)|none=>.gone)
  cases h:ρ[j]? with
  |none=>exact gn j h
  |some k=>
   obtain ⟨e1,e2,e3⟩:=gs j k h
   have l:=hH.obs k
   show ObR g' w j (rOb ρ (st.ob k))
   cases hok:st.ob k with
   |gone=>rw [hok]at l;exact ⟨e2.trans l.1,e3.trans l.2⟩
   |box t cs=>
    rw [hok]at l
    obtain ⟨b,vs,h1,h2,h3,h4,h5⟩:=l
    exact ⟨b,vs,e1.trans h1,e2.trans h2,e3.trans h3,h4,u _ _ h5⟩
   |map kk vk kv=>
    rw [hok]at l
    obtain ⟨b,es,c,h1,h2,h3,h4⟩:=l
    exact ⟨b,es,c,e1.trans h1,e2.trans h2,e3.trans h3,h4⟩
   |row e m xs d=>
    rw [hok]at l
    obtain ⟨hm,cs,L,h1,h2,h4⟩:=l
    refine ⟨hm,cs,L,by rw [e1];exact h1,h2,?_⟩
    rw [e1,e2,e3]
    rcases h4 with h4|⟨hd,h3,h4,h5⟩|⟨hd,h3,h4,h5⟩
    .exact .inl h4
    .exact .inr (.inl ⟨hd,h3,h4,fun b mb o=>h5 b mb (ho b o)⟩)
    .exact .inr (.inr ⟨hd,h3,h4,fun b mb o=>h5 b mb (ho b o)⟩)
 .cases h:ρ[j]? with
  |none=>rw [(gn j h).1,(gn j h).2];simp
  |some k=>rw [(gs j k h).2.1,(gs j k h).2.2];exact hH.nodup k
 .cases h:ρ[j]? with
  |none=>rw [(gn j h).1,(gn j h).2]at mb;simp at mb
  |some k=>
   rw [(gs j k h).2.1,(gs j k h).2.2]at mb
   cases h':ρ[i]? with
   |none=>rw [(gn i h').1,(gn i h').2];simp
   |some q=>
    rw [(gs i q h').2.1,(gs i q h').2.2]
    refine hH.apart k q (fun e=>G ?_) b mb
    subst e
    obtain ⟨l1,e1⟩:=AO.1 h
    obtain ⟨l2,e2⟩:=AO.1 h'
    exact ZoQ hρ l1 l2 (e1.trans e2.symm)
 .cases h:ρ[j]? with
  |none=>rw [(gn j h).1,(gn j h).2]at mb;simp at mb
  |some k=>
   rw [(gs j k h).2.1,(gs j k h).2.2]at mb
   refine ⟨(hH.plain k b mb).1,(hH.plain k b mb).2.of ?_⟩
   show ZjJ (match ρ[j]? with|some k=>rOb ρ (st.ob k)|none=>.gone)=_
   rw [h]
   show ZjJ (rOb ρ (st.ob k))=_
   cases st.ob k<;>rfl
 .have hs:=hS t
  show SVR g' w (rSV ρ (st.sl t)) _
  cases hsl:st.sl t with
  |any=>trivial
  |und=>rw [hsl]at hs;exact hs
  |p ag cs=>rw [hsl]at hs;exact E _ _ _ hs
  |tup xs=>
   rw [hsl]at hs
   obtain ⟨vs,h1,h2⟩:=hs
   exact ⟨vs,h1,h2.map_left (fun x:Bool×List AV=>(x.1,x.2.map (rAV ρ))) fun x v h=>E x.1 x.2 v h⟩
  |bp k off=>
   rw [hsl]at hs
   simp only[rSV]
   split
   .rename_i j hj
    obtain ⟨b,h1,h2⟩:=hs
    exact ⟨b,((gs j k (ZdI hj)).1).trans h1,h2⟩
   .trivial
  |rp k m i off=>
   rw [hsl]at hs
   simp only[rSV]
   split
   .rename_i j hj
    obtain ⟨b,o,n,c,h1,h2⟩:=hs
    exact ⟨b,o,n,c,((gs j k (ZdI hj)).1).trans h1,h2⟩
   .trivial
  |ep e off=>
   rw [hsl]at hs
   obtain ⟨b,lo,cs,L,h1,h2,h3,h4,h5⟩:=hs
   exact ⟨b,lo,cs,L,h1,h2,h3,fun x m o=>h4 x m (ho x o),h5⟩
  |fn f=>rw [hsl]at hs;exact hs
 .show svU _ (rSV ρ (st.sl t))
  cases st.sl t with
  |p ag cs=>intro y my;obtain ⟨x,_,rfl⟩:=AF.1 my;exact ZwC ρ x
  |tup xs=>
   intro y my
   obtain ⟨x,_,rfl⟩:=AF.1 my
   intro z mz
   obtain ⟨q,_,rfl⟩:=AF.1 mz
   exact ZwC ρ q
  |bp k off=>
   simp only[rSV]
   split
   .rename_i j hj;exact (AO.1 (ZdI hj)).1
   .trivial
  |rp k m i off=>
   simp only[rSV]
   split
   .rename_i j hj;exact (AO.1 (ZdI hj)).1
   .trivial
  |_=>trivial
 .show obU _ (match ρ[j]? with|some k=>rOb ρ (st.ob k)|none=>.gone)
  split
  .rename_i k _
   cases st.ob k with
   |box t cs=>intro y my;obtain ⟨x,_,rfl⟩:=AF.1 my;exact ZwC ρ x
   |_=>trivial
  .trivial
 .show (match ρ[j]? with|some k=>rOb ρ (st.ob k)|none=>.gone)=.gone
  have:ρ[j]?=none:=List.getElem?_eq_none yE
  rw [this]
theorem Zx4 [NW] {g:Gh}{ob:Nat->Ob}(hI:HI W g ob w) {k e m d d':Nat}{xs:List (List CT)}(hk:ob k=.row e m xs d) (hd:d'<d):∃g1:Gh,HI W g1 (upd ob k (.row e m xs d')) w/\g1.val=g.val/\XF g1 g:=by
 by_cases h0:d'=0
 .obtain ⟨g1,h1,h2,h3,_⟩:=Zjm hI k
  rw [hk]at h1
  exact ⟨g1,by rw [h0];exact h1,h2,h3⟩
 .have ho:=hI.obs k
  rw [hk]at ho
  obtain ⟨hm,cs,L,o1,o2,o3⟩:=ho
  have h2:d=2/\g.O k=(g.val k).ownBlock.toList/\g.D k=L:=by
   rcases o3 with o3|⟨q,_⟩|⟨q,_⟩
   .exact o3
   .omega
   .omega
  obtain ⟨rfl,q1,q2⟩:=h2
  obtain rfl:d'=1:=by omega
  let g1:Gh:=⟨g.val,g.O,upd g.D k [],g.Z⟩
  have hown:∀b,g1.own b↔g.own b:=fun b=>Iff.rfl
  have l:XF g1 g:=.of (fun b hb=>hb) fun j b mb=>by
   by_cases hj:j=k
   .subst hj;simp [g1,upd]at mb
   .exact ⟨j,by simpa [g1,upd,hj]using mb⟩
  have f:∀j b,b∈g1.O j++g1.D j->b∈g.O j++g.D j:=fun j b mb=>by
   by_cases hj:j=k
   .subst hj;simp [g1,upd]at mb;simp [mb]
   .simpa [g1,upd,hj]using mb
  refine ⟨g1,⟨hI.below,fun j=>?_,fun j=>?_,fun i j o b mb mj=>hI.apart i j o b (f i b mb) (f j b mj),fun j b mb=>⟨(hI.plain j b (f j b mb)).1,(hI.plain j b (f j b mb)).2.of (by
   by_cases hj:j=k
   .subst hj;rw [ZB,hk];rfl
   .rw [ZP _ _ hj])⟩,hI.gz,hI.zx,hI.nw,hI.oy⟩,rfl,l⟩
  .by_cases hj:j=k
   .subst hj
    rw [ZB]
    refine ⟨hm,cs,L,o1,o2,.inr (.inl ⟨rfl,q1,by simp [g1,upd],fun b mb hb=>?_⟩)⟩
    have mk:b∈g.D j:=by rw [q2];exact mb
    rcases hb with ⟨i,mi⟩|hz
    .by_cases o:i=j
     .subst o
      have:=hI.nodup i
      rw [AX]at this
      exact this.2.2 b mi b mk rfl
     .exact hI.apart i j o b (by simp;exact .inl mi) (by simp [mk])
    .exact hI.nz (k:=j) (b:=b) (by simp [mk]) hz
   .rw [ZP _ _ hj]
    have a:=hI.obs j
    cases hh:ob j with
    |gone=>rw [hh]at a;exact ⟨a.1,by simpa [g1,upd,hj]using a.2⟩
    |box t ds=>
     rw [hh]at a
     obtain ⟨b,vs,h1,h2,h3,h4,h5⟩:=a
     exact ⟨b,vs,h1,h2,by simpa [g1,upd,hj]using h3,h4,h5.mono fun x u _ hx=>AVR.less hx rfl l⟩
    |map kk vk kv=>
     rw [hh]at a
     obtain ⟨b,es,c,h1,h2,h3,h4⟩:=a
     exact ⟨b,es,c,h1,h2,by simpa [g1,upd,hj]using h3,h4⟩
    |row e' m' xs' d2=>
     rw [hh]at a
     obtain ⟨p,v,L',p1,p2,p3⟩:=a
     refine ⟨p,v,L',p1,p2,?_⟩
     have e2:g1.D j=g.D j:=by simp [g1,upd,hj]
     rw [e2]
     exact p3
  .by_cases hj:j=k
   .subst hj
    have:=hI.nodup j
    rw [AX]at this
    simpa [g1,upd]using this.1
   .have:=hI.nodup j
    simpa [g1,upd,hj]using this
theorem ZyK [NW] (m:Bool×Nat×Nat) (hI:Inv W U st a w) (hk:∀k,st.n<=k->¬U k):∃U',Inv W U' (st.mat m) a w/\∀k,(st.mat m).n<=k->¬U' k:=by
 have A:∃U',Inv W U' st a w/\∀k,st.n<=k->¬U' k:=⟨U,hI,hk⟩
 have S:¬U st.n:=hk st.n (AL _)
 have N:∀k,st.n+1<=k->¬(U k\/k=st.n):=fun k l h=>by
  rcases h with h|h
  .exact hk k yE h
  .omega
 have T:∀(e q:Nat),0<q->∀g,HI W g st.ob w->∃g',HI W g' (upd st.ob st.n (.row e q [] 2)) w/\(∀x u,svU U x->SVR g w x u->SVR g' w x u)/\g'.val st.n=.slice none 0 0/\(∀x u,avU U x->AVR g w x u->AVR g' w x u):=fun e q hq g hH=>by
  obtain ⟨t1,t2⟩:=hH.turn (key:=st.n) (U:=U) (w':=w) (v:=.slice none 0 0) (O:=[]) (D:=[]) (o:=.row e q [] 2) hI.wf.ob S [] yG hH.below (AL _) (fun _ _ _=>rfl) yG yG yG yG
   (fun _=>⟨hq,[],[],by simpa [Gh.turn,upd]using Zfg _ _ _ _,⟨rfl,rfl⟩,.inl ⟨rfl,by simp [Gh.turn,upd,Value.ownBlock],by simp [Gh.turn]⟩⟩)
  refine ⟨_,t1,t2,by simp [Gh.turn,upd],fun x u hx hu=>hu.move hx (fun k l=>ZP _ _ fun e=>S (e ▸ l)) (fun _ _ _=>rfl) (Zn9 yG yG)⟩
 have up:∀k,U k->(U k\/k=st.n):=fun _ h=>.inl h
 obtain ⟨⟨g,hH,hS⟩,hU,B,hh⟩:=hI
 have P:∀k e q xs d,st.ob k=.row e q xs d->∃g1:Gh,HI W g1 (upd st.ob k (.row e q xs 0)) w/\g1.val=g.val/\XF g1 g/\U k/\∀v,AVR g w (.row k) v->AVR g1 w (.c (.sl e q xs)) v:=fun k e q xs d f=>by
  obtain ⟨g1,i1,i2,i3,_⟩:=Zjm hH k
  rw [f]at i1
  obtain ⟨L,t1,t2⟩:=Zq8 i1 (ZB st.ob k (.row e q xs 0))
  exact ⟨g1,i1,i2,i3,Classical.byContradiction fun hn=>by have:=hU.gone _ hn;rw [f]at this;simp at this,fun v hv=>⟨L,by rw [hv.1,<-i2];exact t1,t2⟩⟩
 have Q:∀{gg:Gh} {cs:List AV} {vs:List Value} {j:Nat} {y:AV} {v:Value},ZD (AVR gg w) cs vs->vs[j]?=some v->AVR gg w y v->ZD (AVR gg w) (cs.set j y) vs:=fun {gg cs vs j y v} h1 h2 h3=>by
  have:=h1.set (i:=j) h3
  obtain ⟨hl,he⟩:=AO.1 h2
  rw [<-he,Al hl]at this
  exact this
 have R:∀{gg:Gh} {ag:Bool} {cs:List AV} {v:Value} {j:Nat} {x y:AV},PVR gg w ag cs v->cs[j]?=some x->(∀u,AVR gg w x u->AVR gg w y u)->PVR gg w ag (cs.set j y) v:=fun {gg ag cs v j x y} h1 h2 h3=>by
  cases ag with
  |true=>
   obtain ⟨vs,rfl,h4⟩:=h1
   obtain ⟨u,u1,u2⟩:=h4.at h2
   exact ⟨vs,rfl,Q h4 u1 (h3 u u2)⟩
  |false=>
   obtain ⟨z,rfl,h4⟩:=h1
   cases j with
   |zero=>simp at h2;subst h2;exact ⟨y,rfl,h3 v h4⟩
   |succ j=>simp at h2
 have K:∀{V:Nat->Prop} {cs:List AV} {j:Nat} {y:AV},XD V cs->avU V y->XD V (cs.set j y):=fun {V cs j y} h1 h2 z mz=>by
  rcases Am mz with mz|mz
  .exact h1 z mz
  .subst mz;exact h2
 unfold St.mat
 split
 .split
  .rename_i ag cs X
   have G:XD U cs:=by have:=hU.sl m.2.1;rw [X]at this;exact this
   have hs:=hS m.2.1
   rw [X]at hs
   split
   .rename_i e q H
    split
    .rename_i hq
     obtain ⟨g',t1,t2,t3,t4⟩:=T e q hq g hH
     refine ⟨fun k=>U k\/k=st.n,⟨⟨g',t1,fun t=>?_⟩,⟨fun t=>?_,fun k=>?_,fun k l=>?_⟩,B,hh⟩,N⟩
     .show SVR g' w (upd st.sl m.2.1 (.p ag (cs.set m.2.2 (.row st.n))) t) _
      by_cases ht:t=m.2.1
      .subst ht
       rw [ZB]
       have h1:PVR g' w ag cs (a.tmps.getD m.2.1 undef):=t2 (.p ag cs) _ G hs
       refine R h1 H fun u hu=>?_
       have Z:u=.slice none 0 0:=hu
       rw [Z]
       exact ⟨t3.symm,rfl⟩
      .rw [ZP _ _ ht];exact t2 _ _ (hU.sl t) (hS t)
     .show svU _ (upd st.sl m.2.1 (.p ag (cs.set m.2.2 (.row st.n))) t)
      by_cases ht:t=m.2.1
      .subst ht;rw [ZB];exact K (G.mono up) (.inr rfl)
      .rw [ZP _ _ ht];exact (hU.sl t).mono up
     .show obU _ (upd st.ob st.n _ k)
      by_cases l:k=st.n
      .subst l;rw [ZB];trivial
      .rw [ZP _ _ l];exact (hU.ob k).mono up
     .show upd st.ob st.n _ k=_
      rw [ZP _ _ fun e=>l (.inr e)];exact hU.gone k fun h=>l (.inl h)
    .exact A
   .rename_i k H
    split
    .rename_i e q xs d f
     obtain ⟨g1,i1,i2,i3,C,i4⟩:=P k e q xs d f
     refine ⟨U,⟨⟨g1,i1,fun t=>?_⟩,⟨fun t=>?_,fun j=>?_,fun j hj=>?_⟩,B,hh⟩,hk⟩
     .show SVR g1 w (upd st.sl m.2.1 (.p ag (cs.set m.2.2 (.c (.sl e q xs)))) t) _
      by_cases ht:t=m.2.1
      .subst ht
       rw [ZB]
       have h1:PVR g1 w ag cs (a.tmps.getD m.2.1 undef):=(show SVR g w (.p ag cs) _ from hs).less i2 i3
       exact R h1 H fun u hu=>i4 u ⟨hu.1.trans (by rw [i2]),hu.2⟩
      .rw [ZP _ _ ht];exact (hS t).less i2 i3
     .show svU _ (upd st.sl m.2.1 (.p ag (cs.set m.2.2 (.c (.sl e q xs)))) t)
      by_cases ht:t=m.2.1
      .subst ht;rw [ZB];exact K G trivial
      .rw [ZP _ _ ht];exact hU.sl t
     .show obU U (upd st.ob k (.row e q xs 0) j)
      by_cases h1:j=k
      .subst h1;rw [ZB];trivial
      .rw [ZP _ _ h1];exact hU.ob j
     .show upd st.ob k (.row e q xs 0) j=_
      rw [ZP _ _ (show j≠k from fun e'=>hj (e' ▸ C))];exact hU.gone j hj
    .exact A
   .exact A
  .exact A
 .split
  .rename_i ty cs f
   split
   .rename_i e q H
    split
    .rename_i hq
     obtain ⟨g',t1,t2,t3,t4⟩:=T e q hq g hH
     have C:U m.2.1:=Classical.byContradiction fun hn=>by have:=hU.gone _ hn;rw [f]at this;simp at this
     have E:m.2.1≠st.n:=fun e=>S (e ▸ C)
     have G:XD U cs:=by have:=hU.ob m.2.1;rw [f]at this;exact this
     have F:=t1.obs m.2.1
     rw [ZP _ _ E,f]at F
     obtain ⟨b,vs,b1,b2,b3,b4,b5⟩:=F
     obtain ⟨u,u1,u2⟩:=b5.at H
     have Y:u=.slice none 0 0:=u2
     have aa:vs.set m.2.2 u=vs:=by
      obtain ⟨hl,he⟩:=AO.1 u1
      rw [<-he];exact Al hl
     have I:ObR g' w m.2.1 (.box ty (cs.set m.2.2 (.row st.n))):=by
      refine ⟨b,vs,b1,b2,b3,b4,?_⟩
      have:=b5.set (i:=m.2.2) (a:=AV.row st.n) (b:=u) ⟨by rw [Y,t3],by rw [Y];rfl⟩
      rw [aa]at this
      exact this
     have J:∀k,(upd (upd st.ob m.2.1 (.box ty (cs.set m.2.2 (.row st.n)))) st.n (.row e q [] 2)) k=if k=m.2.1 then .box ty (cs.set m.2.2 (.row st.n)) else (upd st.ob st.n (.row e q [] 2)) k:=fun k=>by
      by_cases h1:k=st.n
      .have h2:¬k=m.2.1:=fun e'=>E (e'.symm.trans h1)
       have h3:¬st.n=m.2.1:=fun e'=>E e'.symm
       simp [upd,h1,h3]
      .by_cases h2:k=m.2.1
       .simp [upd,h2,E]
       .simp [upd,h1,h2]
     refine ⟨fun k=>U k\/k=st.n,⟨⟨g',⟨t1.below,fun k=>?_,t1.nodup,t1.apart,fun k b mb=>⟨(t1.plain k b mb).1,(t1.plain k b mb).2.of (by
       show ZjJ ((upd (upd st.ob m.2.1 (.box ty (cs.set m.2.2 (.row st.n)))) st.n (.row e q [] 2)) k)=_
       rw [J k]
       split
       .rename_i h1;subst h1;rw [ZP _ _ E,f];rfl
       .rfl)⟩,t1.gz,t1.zx,t1.nw,t1.oy⟩,fun t=>t2 _ _ (hU.sl t) (hS t)⟩,⟨fun t=>(hU.sl t).mono up,fun k=>?_,fun k l=>?_⟩,B,hh⟩,N⟩
     .show ObR g' w k ((upd (upd st.ob m.2.1 (.box ty (cs.set m.2.2 (.row st.n)))) st.n (.row e q [] 2)) k)
      rw [J k]
      split
      .rename_i h1;subst h1;exact I
      .exact t1.obs k
     .show obU _ ((upd (upd st.ob m.2.1 (.box ty (cs.set m.2.2 (.row st.n)))) st.n (.row e q [] 2)) k)
      rw [J k]
      split
      .intro y my
       rcases Am my with my|my
       .exact (G y my).mono up
       .subst my;exact .inr rfl
      .by_cases h1:k=st.n
       .subst h1;rw [ZB];trivial
       .rw [ZP _ _ h1];exact (hU.ob k).mono up
     .show (upd (upd st.ob m.2.1 (.box ty (cs.set m.2.2 (.row st.n)))) st.n (.row e q [] 2)) k=_
      rw [J k,if_neg (show ¬k=m.2.1 from fun e'=>l (.inl (e' ▸ C))),ZP _ _ (show k≠st.n from fun e'=>l (.inr e'))]
      exact hU.gone k fun h=>l (.inl h)
    .exact A
   .rename_i k H
    split
    .rename_i e q xs d M
     obtain ⟨g1,i1,i2,i3,C,i4⟩:=P k e q xs d M
     have ab:U m.2.1:=Classical.byContradiction fun hn=>by have:=hU.gone _ hn;rw [f]at this;simp at this
     have E:k≠m.2.1:=fun e'=>by rw [e',f]at M;simp at M
     have G:XD U cs:=by have:=hU.ob m.2.1;rw [f]at this;exact this
     have F:=i1.obs m.2.1
     rw [ZP _ _ (fun e'=>E e'.symm),f]at F
     obtain ⟨b,vs,b1,b2,b3,b4,b5⟩:=F
     obtain ⟨u,u1,u2⟩:=b5.at H
     have I:ObR g1 w m.2.1 (.box ty (cs.set m.2.2 (.c (.sl e q xs)))):=⟨b,vs,b1,b2,b3,b4,Q b5 u1 (i4 u ⟨u2.1.trans (by rw [i2]),u2.2⟩)⟩
     refine ⟨U,⟨⟨g1,⟨i1.below,fun j=>?_,i1.nodup,i1.apart,fun j b mb=>⟨(i1.plain j b mb).1,(i1.plain j b mb).2.of (by
       show ZjJ (upd (upd st.ob k (.row e q xs 0)) m.2.1 (.box ty (cs.set m.2.2 (.c (.sl e q xs)))) j)=_
       by_cases h1:j=m.2.1
       .subst h1;rw [ZB,ZP _ _ (fun e'=>E e'.symm),f];rfl
       .rw [ZP _ _ h1])⟩,i1.gz,i1.zx,i1.nw,i1.oy⟩,fun t=>(hS t).less i2 i3⟩,⟨hU.sl,fun j=>?_,fun j hj=>?_⟩,B,hh⟩,hk⟩
     .show ObR g1 w j (upd (upd st.ob k (.row e q xs 0)) m.2.1 (.box ty (cs.set m.2.2 (.c (.sl e q xs)))) j)
      by_cases h1:j=m.2.1
      .subst h1;rw [ZB];exact I
      .rw [ZP _ _ h1];exact i1.obs j
     .show obU U (upd (upd st.ob k (.row e q xs 0)) m.2.1 (.box ty (cs.set m.2.2 (.c (.sl e q xs)))) j)
      by_cases h1:j=m.2.1
      .subst h1;rw [ZB];exact K G trivial
      .rw [ZP _ _ h1]
       by_cases h2:j=k
       .subst h2;rw [ZB];trivial
       .rw [ZP _ _ h2];exact hU.ob j
     .show upd (upd st.ob k (.row e q xs 0)) m.2.1 (.box ty (cs.set m.2.2 (.c (.sl e q xs)))) j=_
      rw [ZP _ _ (show j≠m.2.1 from fun e'=>hj (e' ▸ ab)),ZP _ _ (show j≠k from fun e'=>hj (e' ▸ C))];exact hU.gone j hj
    .exact A
   .exact A
  .rename_i e q xs d f
   split
   .rename_i ac
    have C:U m.2.1:=Classical.byContradiction fun hn=>by have:=hU.gone _ hn;rw [f]at this;simp at this
    obtain ⟨g1,t1,t2,t3⟩:=Zx4 hH f ac
    refine ⟨U,⟨⟨g1,t1,fun t=>(hS t).less t2 t3⟩,⟨hU.sl,fun k=>?_,fun k l=>?_⟩,B,hh⟩,hk⟩
    .show obU U (upd st.ob m.2.1 (.row e q xs m.2.2) k)
     by_cases h1:k=m.2.1
     .subst h1;rw [ZB];trivial
     .rw [ZP _ _ h1];exact hU.ob k
    .show upd st.ob m.2.1 (.row e q xs m.2.2) k=_
     rw [ZP _ _ (show k≠m.2.1 from fun e'=>l (e' ▸ C))];exact hU.gone k l
   .exact A
  .exact A
theorem ZwA [NW] (m:Bool×Nat×Nat) (hI:Inv W U st a w) (hk:∀k,st.n<=k->¬U k):∃U',Inv W U' (st.matN m) a w/\∀k,(st.matN m).n<=k->¬U' k:=by
 have c:∃U',Inv W U' st a w/\∀k,st.n<=k->¬U' k:=⟨U,hI,hk⟩
 obtain ⟨⟨g,hH,hS⟩,hU,o,hh⟩:=hI
 unfold St.matN
 split
 .rename_i ag cs x
  have A:XD U cs:=by have:=hU.sl m.2.1;rw [x]at this;exact this
  have hs:=hS m.2.1
  rw [x]at hs
  split
  .rename_i k f
   split
   .rename_i e q xs d l
    split
    .rename_i hd
     subst hd
     obtain ⟨g1,i1,i2,i3,i5⟩:=Zjm hH k
     rw [l]at i1
     obtain ⟨hm,B,L,o1,o2,o3,o5⟩:=hH.deep l
     have i4:∀v,AVR g w (.row k) v->AVR g1 w (.n (.sl e q xs)) v:=fun v hv=>by
      rcases o5 with ⟨_,q1,q2⟩|⟨q1,_⟩|⟨q1,_⟩
      .have hN:=hH.nodup k
       have hP:=hH.plain k
       have hF:=i5 ⟨_,_,_,_,l⟩
       rw [q1,q2]at hN hP hF
       rw [l]at hP
       refine ⟨e,q,xs,B,L,rfl,hm,by rw [hv.1];exact o1,o2,by rw [hv.1];exact hN,fun b mb=>?_⟩
       rw [hv.1]at mb
       exact ⟨hF b mb,hH.nw b (hP b mb).1,(hP b mb).2⟩
      .omega
      .omega
     have C:U k:=Classical.byContradiction fun hn=>by have:=hU.gone _ hn;rw [l]at this;simp at this
     refine ⟨U,⟨⟨g1,i1,fun t=>?_⟩,⟨fun t=>?_,fun j=>?_,fun j hj=>?_⟩,o,hh⟩,hk⟩
     .show SVR g1 w (upd st.sl m.2.1 (.p ag (cs.set (m.2.2 - 4096) (.n (.sl e q xs)))) t) _
      by_cases ht:t=m.2.1
      .subst ht
       rw [ZB]
       have h0:PVR g w ag cs (a.tmps.getD m.2.1 undef):=hs
       have h1:PVR g1 w ag cs (a.tmps.getD m.2.1 undef):=(show SVR g w (.p ag cs) _ from hs).less i2 i3
       cases ag with
       |true=>
        obtain ⟨vs,e1,h4⟩:=h0
        obtain ⟨D,y,E⟩:=h1
        have ev:vs=D:=by rw [e1]at y;simpa using y
        subst ev
        obtain ⟨u,u1,u2⟩:=h4.at f
        refine ⟨vs,e1,?_⟩
        have:=E.set (i:=m.2.2 - 4096) (i4 u u2)
        obtain ⟨hl,he⟩:=AO.1 u1
        rw [<-he,Al hl]at this
        exact this
       |false=>
        obtain ⟨z,rfl,h4⟩:=h0
        cases hj:m.2.2 - 4096 with
        |zero=>rw [hj]at f;simp at f;subst f;exact ⟨_,rfl,i4 _ h4⟩
        |succ j=>rw [hj]at f;simp at f
      .rw [ZP _ _ ht];exact (hS t).less i2 i3
     .show svU U (upd st.sl m.2.1 (.p ag (cs.set (m.2.2 - 4096) (.n (.sl e q xs)))) t)
      by_cases ht:t=m.2.1
      .subst ht;rw [ZB]
       intro z mz
       rcases Am mz with mz|mz
       .exact A z mz
       .subst mz;trivial
      .rw [ZP _ _ ht];exact hU.sl t
     .show obU U (upd st.ob k (.row e q xs 0) j)
      by_cases h1:j=k
      .subst h1;rw [ZB];trivial
      .rw [ZP _ _ h1];exact hU.ob j
     .show upd st.ob k (.row e q xs 0) j=_
      rw [ZP _ _ (show j≠k from fun e'=>hj (e' ▸ C))];exact hU.gone j hj
    .exact c
   .exact c
  .exact c
 .exact c
theorem ZmZ [NW]:∀(ms:List (Bool×Nat×Nat)) {U:Nat->Prop}{st:St},Inv W U st a w->(∀k,st.n<=k->¬U k)->∃U',Inv W U' (st.mats ms) a w
 | [],U,st,hI,_=>⟨U,hI⟩
 |m::r,U,st,hI,hk=>by
  simp only[St.mats]
  split
  .obtain ⟨U',h1,h2⟩:=ZwA m hI hk
   exact ZmZ r h1 h2
  .obtain ⟨U',h1,h2⟩:=ZyK m hI hk
   exact ZmZ r h1 h2
theorem Zy8 {p:Nat->Prop}(h:∃n,p n):∃n,p n/\∀m,m<n->¬p m:=by
 obtain ⟨n,hn⟩:=h
 induction n using Nat.strongRecOn with
 |_ n ih=>
  by_cases hm:∃m,m<n/\p m
  .obtain ⟨m,h1,h2⟩:=hm;exact ih m h1 h2
  .exact ⟨n,hn,fun m h1 h2=>hm ⟨m,h1,h2⟩⟩
theorem ZuH [NW] {c:Code}{Q:Exit->Act->World->Prop}(J:Nat->Act->World->Prop) (n:Nat) (h₀:J n a w) (b:∀n a w,J n a w->c.wp P (Exit.then (fun a' w'=>∃m,m<n/\J m a' w') Q) a w):(Code.loop c).wp P Q a w:=by
 classical
 let μ:Act->World->Nat:=fun a w=>if h:∃n,J n a w then Classical.choose (Zy8 h) else 0
 have hμ:∀a w (h:∃n,J n a w),J (μ a w) a w/\∀m,m<μ a w->¬J m a w:=fun a w h=>by
  simp only[μ,dif_pos h]
  exact Classical.choose_spec (Zy8 h)
 refine wp_loop (fun a w=>∃n,J n a w) μ ⟨n,h₀⟩ fun a w h=>?_
 refine wp_mono (b (μ a w) a w (hμ a w h).1) fun e a' w' he=>?_
 cases e with
 |normal=>
  obtain ⟨m,h1,h2⟩:=he
  refine ⟨⟨m,h2⟩,?_⟩
  have h3:=hμ a' w' ⟨m,h2⟩
  rcases Ae m (μ a' w') with h4|h4
  .exact absurd h2 (h3.2 m h4)
  .omega
 |_=>exact he
mutual
theorem RC.deep {w:World}:∀{x:CT}{v:Value}{L:List Nat},RC w x v L->ctD x
 |.int _ _,_,_,_=>trivial
 |.bool _,_,_,_=>trivial
 |.str _,_,_,h=>h.2.2
 |.sl _ _ _,_,_,⟨A,cap,cs,L0,L1,h1,h2,h3,h4,h5,h6,h7⟩=>⟨by unfold maxLen at h3;omega,h7.deep⟩
 |.pt _,_,_,⟨_,_,_,_,_,_,_,h⟩=>h.deep
 |.fn _ _,_,_,⟨_,_,h⟩=>h.deep
 |.mp _ _ _,_,_,_=>trivial
 |.ifc _,_,_,_=>trivial
 |.any,_,_,_=>trivial
 |.nl _ _,_,_,_=>trivial
theorem RCs.deep {w:World}:∀{x:List CT}{v:List Value}{L:List Nat},RCs w x v L->ctsD x
 | [],_,_,_=>trivial
 |_::_,_,_,⟨v,cs,L1,L2,h1,h2,h3,h4⟩=>⟨h3.deep,h4.deep⟩
theorem REs.deep {w:World}{m:Nat}:∀{x:List (List CT)}{v:List Value}{L:List Nat},REs w m x v L->essD x
 | [],_,_,_=>trivial
 |_::_,_,_,⟨c1,c2,L1,L2,h1,h2,h3,h4⟩=>⟨h3.1.deep,h4.deep⟩
end
theorem AVR.deep [NW] {g:Gh}{w:World}:∀{x:AV}{v:Value},AVR g w x v->avD x
 |.c _,_,⟨_,h,_⟩=>h.deep
 |.n _,_,h=>by obtain ⟨_,h1,_⟩:=NR.toC h;exact h1.deep
 |.row _,_,_=>trivial
 |.nil _ _,_,_=>trivial
 |.dead,_,_=>trivial
theorem AVRs.deep [NW] {g:Gh}{w:World}:∀{x:List AV}{v:List Value},ZD (AVR g w) x v->Zwe x
 | [],[],_=>trivial
 |_::_,_::_,h=>⟨h.1.deep,AVRs.deep h.2⟩
 | [],_::_,h=>h.elim
 |_::_,[],h=>h.elim
theorem Inv.deep [NW] (hI:Inv W U st a w):WF st:=by
 obtain ⟨⟨g,hH,hS⟩,hU,hdef,hh⟩:=hI
 refine ⟨fun t b cs ht=>?_,fun k t cs hk=>?_,fun k e m xs d hk=>?_⟩
 .have h:=hS t
  rw [ht]at h
  cases b with
  |true=>obtain ⟨vs,_,h2⟩:=h;exact AVRs.deep h2
  |false=>obtain ⟨x,rfl,h2⟩:=h;exact ⟨h2.deep,trivial⟩
 .have h:=hH.obs k
  rw [hk]at h
  obtain ⟨b,vs,_,_,_,_,h2⟩:=h
  exact AVRs.deep h2
 .have h:=hH.obs k
  rw [hk]at h
  obtain ⟨_,cs,L,h1,h2,_⟩:=h
  refine ⟨?_,h2.deep⟩
  rcases h1.2 with ⟨_,h3⟩|⟨_,_,cap,_,_,_,_,h3,h4,_⟩
  .omega
  .unfold maxLen at h4;omega
def ZA9:Ex->Exit
 |.normal=>.normal
 |.exit id=>.exit id
 |.ret=>.ret
def XH (od:OD) (tt:Nat->Option TI) (hs:FuncId->Nat) (k0:Bool) (N:Nat):Code->Bool
 |.skip=>true
 |.region id ops d=>(ops.toList.all fun o=>match o.dst with|some t=>Nat.blt t N&&(!k0||Nat.blt 0 t)|none=>true)&&(match od id with|none=>!d||Ztb tt hs ops|some l=>d&&Zub tt hs l.2 ops l.1)
 |.seq x y=>XH od tt hs k0 N x&&XH od tt hs k0 N y
 |.cond _ x y=>XH od tt hs k0 N x&&XH od tt hs k0 N y
 |.block _ x=>XH od tt hs k0 N x
 |.loop x=>XH od tt hs k0 N x
 |.exit _=>true
 |.ret=>true
 |_=>false
theorem ZaG [NW] {od:OD}(htt:MOk P J JF W tt) (hmix:P.follows .mixedOrders=true) {hds:FuncId->Nat}{k0:Bool}(v:W.hv=none\/k0=true) {N:Nat}:∀(c:Code),XH od tt hds k0 N c=true->∀(Qs:Ex->St->Prop) (Q:Exit->Act->World->Prop),
  (∀ex U' st' a' w',Inv W U' st' a' w'->(∀k,st'.n<=k->¬U' k)->a'.tmps.size=N->Qs ex st'->Q (ZA9 ex) a' w')->
  ∀U st a w,Inv W U st a w->(∀k,st.n<=k->¬U k)->a.tmps.size=N->swp tt (SC P J JF hds) od c Qs st->c.wp P Q a w
 |.skip,_,Qs,Q,hQ,U,st,a,w,hI,hk,hs,h=>wp_skip (hQ .normal U st a w hI hk hs h)
 |.exit id,_,Qs,Q,hQ,U,st,a,w,hI,hk,hs,h=>wp_exit (hQ (.exit id) U st a w hI hk hs h)
 |.ret,_,Qs,Q,hQ,U,st,a,w,hI,hk,hs,h=>wp_ret (hQ .ret U st a w hI hk hs h)
 |.region id m d,f,Qs,Q,hQ,U,st,a,w,hI,hk,hs,h=>by
  simp only[XH,AC,AQ]at f
  have hN:∀o∈m.toList,∀t,o.dst=some t->t<N/\(W.hv=none\/t≠0):=fun o mo t ht=>by
   have:=f.1 o mo
   rw [ht]at this
   simp only[AC,AK]at this
   refine ⟨AH this.1,v.imp (fun h=>h) fun h=>?_⟩
   rcases this.2 with h2|h2
   .rw [h]at h2;simp at h2
   .have h3:0<t:=AH h2
    exact Nat.ne_of_gt h3
  have A:∀U' st' a' w',Inv W U' st' a' w'->(∀k,st.n+16*m.toList.length<=k->¬U' k)->a'.tmps.size=N->ZoX (st.n+16*m.toList.length) (Qs .normal) st'->Q .normal a' w':=fun U' st' a' w' h1 h2 h3 h4=>
   hQ .normal U' { st' with n:=st.n+16*m.toList.length } a' w' ⟨h1.ex,⟨h1.wf.sl,h1.wf.ob,h1.wf.gone⟩,h1.defers,h1.hand⟩ h2 h3 h4
  have B:Inv W U st a { w with drawn:=w.drawn+1 }:=by
   obtain ⟨⟨g,hH,hS⟩,hU,E,hh⟩:=hI
   have hw:∀b,b<w.heap.size->¬g.own b->({ w with drawn:=w.drawn+1 }:World).heap[b]?=w.heap[b]?:=fun _ _ _=>rfl
   refine ⟨⟨g,hH.step (U:=U) (fun _=>False) ⟨hH.below.os,hH.below.tape,hH.below.output,hH.below.size,hH.below.block⟩ rfl (fun _ _ _=>rfl) (fun _ _=>⟨rfl,rfl,rfl,rfl⟩) hU.ob (fun _ _=>rfl) (X7.refl _ _) (fun _ h=>h.elim),fun t=>?_⟩,hU,E,hh⟩
   exact (hS t).move (hU.sl t) (fun _ _=>rfl) hw (X7.refl _ _) (AL _)
  have z:∀(b:Bool) (R:List Nat),ZjU tt hds b m R=true->(∀j,elB m j=true)->R.length<=m.size->(∀i,i∈R↔i<m.size)->ZfP tt (SC P J JF hds) b m.toList st.n R (ZoX (st.n+16*m.toList.length) (Qs .normal)) st->(Code.region id m true).wp P Q a w:=fun b R h1 h2 h3 h4 h5=>by
   refine wp_region_any hmix ?_
   refine ZuU (base:=st.n) htt hN h2 (fun U' st' a' w' h1 h2 h3 h4=>A U' st' a' w' h1 (by simpa using h2) h3 h4) m.size R (AM m.size false) U st a _ h3 (ZoR h1) yG (fun i=>?_) (fun i o ho hl=>?_) h5 B (fun j _ k C _=>hk k yE) (fun k C=>hk k yE) hs
   .rw [h4]
    constructor
    .intro hi;exact ⟨hi,by simp [AN,hi]⟩
    .exact fun hi=>hi.1
   .exfalso
    have hi:i<m.size:=(Ai.1 ho).1
    simp [AN,hi]at hl
  cases ho:od id with
  |none=>
   have u:=f.2
   simp only[ho]at u
   simp only[swp,ho,Zsg]at h
   have h':Z4 tt (SC P J JF hds) m.toList st.n m.toList (ZoX (st.n+16*m.toList.length) (Qs .normal)) st:=h
   cases d with
   |false=>
    refine wp_region ?_
    have:=Zn0 (Q:=Q) htt hN m.toList 0 st.n U st a w yG h' hI hk hs A
    rw [At]
    simpa using this
   |true=>
    have q:Ztb tt hds m=true:=by simpa using u
    simp only[Ztb,AC]at q
    have h2:=ZtG (tt:=tt) (S:=SC P J JF hds) (all:=m.toList) (base:=st.n) (K:=ZoX (st.n+16*m.toList.length) (Qs .normal)) m.toList 0 st yG (by simpa using h')
    rw [<-At]at h2
    exact z false (AZ m.size) q.1 (Zq5 q.2) yG yG (by simpa using h2)
  |some l=>
   have u:=f.2
   simp only[ho,AC]at u
   simp only[swp,ho,Zsg]at h
   obtain ⟨rfl,q⟩:=u
   simp only[Zub,AC]at q
   exact z l.2 l.1 q.1.1.1.1 (Zq5 q.1.1.1.2) (AH q.1.1.2) (fun i=>⟨fun mi=>AH (AQ.1 q.1.2 i mi),fun hi=>by simpa using AQ.1 q.2 i (by simpa using hi)⟩) h
 |.seq x y,f,Qs,Q,hQ,U,st,a,w,hI,hk,hs,h=>by
  simp only[XH,AC]at f
  refine wp_seq (ZaG htt hmix v x f.1 (Zgy (swp tt (SC P J JF hds) od y Qs) Qs) _ ?_ U st a w hI hk hs h)
  intro ex U' st' a' w' h1 h2 h3 h4
  cases ex with
  |normal=>exact ZaG htt hmix v y f.2 Qs Q hQ U' st' a' w' h1 h2 h3 h4
  |exit id=>exact hQ (.exit id) U' st' a' w' h1 h2 h3 h4
  |ret=>exact hQ .ret U' st' a' w' h1 h2 h3 h4
 |.cond c x y,f,Qs,Q,hQ,U,st,a,w,hI,hk,hs,h=>by
  simp only[XH,AC]at f
  simp only[swp,Zou]at h
  split at h
  .rename_i hb
   obtain ⟨b,D⟩:∃b,st.ev tt 0 c=.p false [.c (.bool b)]:=by
    unfold Zam at hb
    split at hb
    .rename_i b he;exact ⟨b,he⟩
    .simp at hb
   obtain ⟨g,hH,hS⟩:=hI.ex
   have hv:=(ZkE (P:=P) htt.tt hS hI.wf 0 c).1
   rw [D]at hv
   have G:=ZfZ hv
   refine wp_cond G ?_
   cases b with
   |true=>rw [if_pos (by rw [D];rfl)]at h;exact ZaG htt hmix v x f.1 Qs Q hQ U st a w hI hk hs h
   |false=>rw [if_neg (by rw [D];simp [X8])]at h;exact ZaG htt hmix v y f.2 Qs Q hQ U st a w hI hk hs h
  .exact h.elim
 |.block id x,f,Qs,Q,hQ,U,st,a,w,hI,hk,hs,h=>by
  refine wp_block (ZaG htt hmix v x f (ZgP id Qs) _ ?_ U st a w hI hk hs h)
  intro ex U' st' a' w' h1 h2 h3 h4
  cases ex with
  |normal=>exact hQ .normal U' st' a' w' h1 h2 h3 h4
  |exit j=>
   show Exit.inBlock id Q (.exit j) a' w'
   simp only[ZgP]at h4
   simp only[Exit.inBlock]
   split
   .rename_i e;rw [if_pos e]at h4;exact hQ .normal U' st' a' w' h1 h2 h3 h4
   .rename_i e;rw [if_neg e]at h4;exact hQ (.exit j) U' st' a' w' h1 h2 h3 h4
  |ret=>exact hQ .ret U' st' a' w' h1 h2 h3 h4
 |.loop x,f,Qs,Q,hQ,U,st,a,w,hI,hk,hs,h=>by
  obtain ⟨n,hn⟩:=h
  refine ZuH (fun n a w=>∃U st,Inv W U st a w/\(∀k,st.n<=k->¬U k)/\a.tmps.size=N/\Zkr (swp tt (SC P J JF hds) od x) Qs n st) n ⟨U,st,hI,hk,hs,hn⟩ ?_
  rintro n a w ⟨U,st,hI,hk,hs,hn⟩
  cases n with
  |zero=>exact hn.elim
  |succ n=>
   obtain ⟨ms,ρ,hρ,hb⟩:=hn
   obtain ⟨U2,F⟩:=ZmZ ms hI hk
   refine ZaG htt hmix v x f (Zgy (Zkr (swp tt (SC P J JF hds) od x) Qs n) Qs) _ ?_ _ ((st.mats ms).ren ρ) a w (ZtZ F hρ) (fun k C hU=>by simp only[St.ren]at C;omega) hs (hb (ZtZ F hρ).deep)
   intro ex U' st' a' w' h1 h2 h3 h4
   cases ex with
   |normal=>exact ⟨n,yE,U',st',h1,h2,h3,h4⟩
   |exit id=>exact hQ (.exit id) U' st' a' w' h1 h2 h3 h4
   |ret=>exact hQ .ret U' st' a' w' h1 h2 h3 h4
 |.rangeFunc _ _ _ _,f,_,_,_,_,_,_,_,_,_,_,_=>by simp [XH]at f
 |.scope _,f,_,_,_,_,_,_,_,_,_,_,_=>by simp [XH]at f
 |.label _,f,_,_,_,_,_,_,_,_,_,_,_=>by simp [XH]at f
 |.goto _,f,_,_,_,_,_,_,_,_,_,_,_=>by simp [XH]at f
 |.refuse _,f,_,_,_,_,_,_,_,_,_,_,_=>by simp [XH]at f
end
end
section
open Go.RowKit
section
variable {P:Program} {J:World->Prop} {JF:Nat->Prop} {W:ZaA} {U:Nat->Prop} {st:St} {w w':World} {a:Act} {tt:Nat->Option TI} {g:Gh}
def nK (g:Gh) (K:Nat->Prop) (b:Nat):Prop:=g.Z b\/∃k,K k/\b∈g.O k
theorem Zwu {k e m n B:Nat}{cs:List Value}(h:w.ownsV 0 e m (g.val k) n cs) (hB:∀b∈(g.val k).ownBlock.toList,B<=b):w.ownsV B e m (g.val k) n cs:=by
 refine ⟨h.1,?_⟩
 rcases h.2 with h0|⟨q,o,cap,a,hv,hg,r⟩
 .exact .inl h0
 .exact .inr ⟨q,o,cap,a,hv,hB q (by simp [hv,Value.ownBlock]),r⟩
variable {K:Nat->Prop}
theorem Zrl [NW] {B:Nat}(hI:HI W g st.ob w) (hK:∀k,K k->ZjJ (st.ob k)=false/\∀e m xs d,st.ob k=.row e m xs d->d=2) {x:AV}{ct:Bool×CT}{ks:List Nat}{v:Value}(h:Zfz st x=some (ct,ks)) (l:∀k∈ks,K k/\∀b∈g.O k++g.D k,B<=b) (hx:AVR g w x v):OC w B (nK g K) ct v (g.F ks):=by
 have a:∀b,nK g K b->g.own b:=fun b hb=>by
  rcases hb with hz|⟨k,_,mk⟩
  .exact .inr hz
  .exact .inl ⟨k,mk⟩
 cases x with
 |c y=>
  obtain ⟨L,h1,h2⟩:=hx
  cases y<;>simp only[Zfz,AA,AB]at h<;>obtain ⟨rfl,rfl⟩:=h
  .exact ⟨⟨h1.1,rfl⟩,by simp [Gh.F]⟩
  .exact ⟨⟨h1.1,rfl⟩,by simp [Gh.F]⟩
  .exact ⟨⟨h1.1,rfl,h1.2.2⟩,by simp [Gh.F]⟩
  .exact ⟨by simp [Gh.F],L,h1,fun b mb hb=>h2 b mb (a b hb)⟩
  .exact ⟨by simp [Gh.F],L,h1,fun b mb hb=>h2 b mb (a b hb)⟩
  .exact ⟨by simp [Gh.F],L,h1,fun b mb hb=>h2 b mb (a b hb)⟩
  .exact ⟨by simp [Gh.F],L,h1,fun b mb hb=>h2 b mb (a b hb)⟩
  .exact ⟨⟨rfl,h1.2⟩,by simp [Gh.F]⟩
  .exact ⟨by simp [Gh.F],L,h1,fun b mb hb=>h2 b mb (a b hb)⟩
  .exact ⟨by simp [Gh.F],L,h1,fun b mb hb=>h2 b mb (a b hb)⟩
 |row k=>
  simp only[Zfz]at h
  split at h
  .rename_i e m xs d hk
   obtain ⟨hm,cs,L,o1,o2,o3,o5⟩:=hI.deep hk
   split at h
   .rename_i hd
    simp only[AA,AB]at h
    obtain ⟨rfl,rfl⟩:=h
    have i:=l k yG
    rcases o5 with ⟨_,q1,q2⟩|⟨q,_⟩|⟨q,_⟩
    .refine ⟨hm,cs,L,by rw [hx.1];exact Zwu o1 fun b mb=>i.2 b (by simp [q1,mb]),o2,by simp [Gh.F,q1,q2,hx.1],fun b mb=>.inr ⟨k,i.1,by rw [q1];rw [hx.1]at mb;exact mb⟩⟩
    .omega
    .omega
   .rename_i hd
    simp only[AA,AB]at h
    obtain ⟨rfl,rfl⟩:=h
    have f:¬K k:=fun h=>hd ((hK k h).2 e m xs d hk)
    obtain ⟨A,cap,L0,s1,s2,s3,s4,s5⟩:=Sl.row o1
    refine ⟨by simp [Gh.F],L0++L,⟨A,cap,cs,L0,L,by rw [hx.1,s1],s2,s3,rfl,hm,s4,o2⟩,fun b mb hb=>?_⟩
    rcases AE.1 mb with m1|m1
    .have m2:=s5.subset m1
     rcases o5 with ⟨q,_⟩|⟨_,q1,q2⟩|⟨_,_,_,q⟩
     .exact hd q
     .have mk:b∈g.O k++g.D k:=by simp [q1,m2]
      rcases hb with hz|⟨j,hj,mj⟩
      .exact hI.nz mk hz
      .exact hI.apart k j (fun e=>f (e ▸ hj)) b mk (by simp [mj])
     .exact q b m2 (a b hb)
    .exact o3 b m1 (a b hb)
  .rename_i kk vk kv hk
   simp only[AA,AB]at h
   obtain ⟨rfl,rfl⟩:=h
   have ho:=hI.obs k
   rw [hk]at ho
   obtain ⟨b,es,c,q1,q2,q3,q4,q5,q6⟩:=ho
   have f:¬K k:=fun h=>by have:=(hK k h).1;rw [hk]at this;simp [ZjJ]at this
   refine ⟨by simp [Gh.F],[b],⟨b,es,c,by rw [hx.1,q1],q4,q5,q6,rfl⟩,fun x mx hb=>?_⟩
   simp at mx;subst mx
   have mk:x∈g.O k++g.D k:=by simp [q2]
   rcases hb with hz|⟨j,hj,mj⟩
   .exact hI.nz mk hz
   .exact hI.apart k j (fun e=>f (e ▸ hj)) x mk (by simp [mj])
  .simp at h
 |nil e m=>
  simp only[Zfz]at h
  split at h
  .rename_i hm
   simp only[AA,AB]at h
   obtain ⟨rfl,rfl⟩:=h
   have o:v=.slice none 0 0:=hx
   subst o
   exact ⟨hm,[],[],Zfg _ _ _ _,⟨rfl,rfl⟩,by simp [Gh.F,Value.ownBlock],by simp [Value.ownBlock]⟩
  .simp at h
 |n y=>
  obtain ⟨L,h1,h2⟩:=NR.toC hx
  simp only[Zfz,AA,AB]at h
  obtain ⟨rfl,rfl⟩:=h
  exact ⟨by simp [Gh.F],L,h1,fun b mb hb=>h2 b mb (a b hb)⟩
 |dead=>
  simp only[Zfz,AA,AB]at h
  obtain ⟨rfl,rfl⟩:=h
  exact ⟨by simp [Gh.F],[],⟨rfl,hx⟩,yG⟩
theorem ZnY [NW] {B:Nat}(hI:HI W g st.ob w) (hK:∀k,K k->ZjJ (st.ob k)=false/\∀e m xs d,st.ob k=.row e m xs d->d=2):∀{xs:List AV}{cts:List (Bool×CT)}{ks:List Nat}{vs:List Value},Zdj st xs=some (cts,ks)->(∀k∈ks,K k/\∀b∈g.O k++g.D k,B<=b)->ZD (AVR g w) xs vs->OCs w B (nK g K) cts vs (g.F ks)
 | [],_,_,[],h,_,_=>by
  simp only[Zdj,AA,AB]at h
  obtain ⟨rfl,rfl⟩:=h
  exact ⟨rfl,by simp [Gh.F]⟩
 | [],_,_,_::_,_,_,h=>h.elim
 |_::_,_,_,[],_,_,h=>h.elim
 |x::r,cts,ks,v::vs,h,hks,hr=>by
  simp only[Zdj]at h
  obtain ⟨⟨c1,k1⟩,h1,h⟩:=AG.1 h
  obtain ⟨⟨c2,k2⟩,h2,h⟩:=AD.1 h
  simp only[AB]at h
  obtain ⟨rfl,rfl⟩:=h
  exact ⟨v,vs,g.F k1,g.F k2,rfl,by simp [Gh.F],Zrl hI hK h1 (fun k mk=>hks k (by simp [mk])) hr.1,ZnY hI hK h2 (fun k mk=>hks k (by simp [mk])) hr.2⟩
theorem ZrG [NW] {B:Nat}(hI:HI W g st.ob w) (hK:∀k,K k->ZjJ (st.ob k)=false/\∀e m xs d,st.ob k=.row e m xs d->d=2) {ag:Bool}{cs:List AV}{cts:List (Bool×CT)}{ks:List Nat}{v:Value}(h:Zdj st cs=some (cts,ks)) (a:∀k∈ks,K k/\∀b∈g.O k++g.D k,B<=b) (hx:PVR g w ag cs v):OP w B (nK g K) (ag,cts) v (g.F ks):=by
 cases ag with
 |true=>obtain ⟨vs,rfl,h2⟩:=hx;exact .inl ⟨rfl,vs,rfl,ZnY hI hK h a h2⟩
 |false=>
  obtain ⟨x,rfl,h2⟩:=hx
  simp only[Zdj]at h
  obtain ⟨⟨c1,k1⟩,h1,h⟩:=AG.1 h
  simp at h
  obtain ⟨rfl,rfl⟩:=h
  exact .inr ⟨rfl,c1,rfl,Zrl hI hK h1 a h2⟩
theorem OC.one {B:Nat}{n:Nat->Prop}{x:Bool×CT}{v:Value}{F:List Nat}(h:OC w B n x v F):v.oneCell'=true:=by
 obtain ⟨b,x⟩:=x
 cases b with
 |true=>obtain ⟨_,L,h1,_⟩:=h;exact h1.one
 |false=>
  cases x with
  |sl e q xs=>
   obtain ⟨_,cs,L,o1,_⟩:=h
   obtain ⟨A,cap,hv⟩:=ZeK o1
   rw [hv];rfl
  |int k i=>exact h.1.one
  |bool b=>exact h.1.one
  |str s=>exact h.1.one
  |ifc s=>exact h.1.one
  |any=>exact h.1.one
  |_=>exact h.elim
/- what is given is said to be lent -/
theorem Zpj [NW] {B:Nat}{n:Nat->Prop}:∀{r d:List (Bool×CT)}{vs:List Value}{F:List Nat},OCs w B n r vs F->wkC r d->F.Nodup->∃F',F'.Sublist F/\∀m:Nat->Prop,(∀b∈F',n b->m b)->(∀b,m b->n b)->(∀b∈F,m b->b∈F')->OCs w B m d vs F'
 | [],[],vs,F,h,_,_=>⟨[],yG,fun m _ _ _=>⟨h.1,rfl⟩⟩
 | [],_::_,_,_,_,h,_=>h.elim
 |_::_,[],_,_,_,h,_=>h.elim
 |x::r,y::d,_,_,⟨v,vs,F1,F2,rfl,rfl,h1,h2⟩,a,hnd=>by
  rw [AX]at hnd
  have a:wk1 x y (wkC r d):=a
  unfold wk1 at a
  by_cases c:Ztz y.2=true
  .rw [if_pos c]at a
   obtain ⟨F2',s2,g⟩:=Zpj h2 a hnd.2.1
   refine ⟨F2',s2.trans (List.sublist_append_right _ _),fun m m1 m2 m3=>⟨v,vs,[],F2',rfl,rfl,?_,g m m1 m2 fun b mb hb=>m3 b (by simp [mb]) hb⟩⟩
   have f:=h1.one
   obtain ⟨b2,y⟩:=y
   cases y<;>simp [Ztz]at c
   cases b2 with
   |true=>exact ⟨rfl,[],⟨rfl,f⟩,yG⟩
   |false=>exact ⟨⟨rfl,f⟩,rfl⟩
  rw [if_neg c]at a
  obtain ⟨e1,e2,hw⟩:=a
  obtain ⟨F2',s2,g⟩:=Zpj h2 hw hnd.2.1
  have key:∃F1',F1'.Sublist F1/\∀m:Nat->Prop,(∀b∈F1',n b->m b)->(∀b,m b->n b)->(∀b∈F1,m b->b∈F1')->OC w B m y v F1':=by
   obtain ⟨b1,x⟩:=x
   obtain ⟨b2,y⟩:=y
   simp only at e1 e2
   subst e1
   cases b1 with
   |true=>
    have:b2=true:=by rcases e2 with e|e<;>simp_all
    subst this
    obtain ⟨rfl,L,q1,q2⟩:=h1
    exact ⟨[],yG,fun m _ m2 _=>⟨rfl,L,q1,fun b mb hb=>q2 b mb (m2 b hb)⟩⟩
   |false=>
    cases b2 with
    |false=>
     refine ⟨F1,Ar _,fun m m1 _ _=>?_⟩
     cases x with
     |sl e q xs=>
      obtain ⟨hm,cs,L,o1,o2,o3,o4⟩:=h1
      exact ⟨hm,cs,L,o1,o2,o3,fun b mb=>m1 b (by simp [o3,mb]) (o4 b mb)⟩
     |int k i=>exact h1
     |bool b=>exact h1
     |str s=>exact h1
     |ifc s=>exact h1
     |any=>exact h1
     |_=>exact h1.elim
    |true=>
     refine ⟨[],yG,fun m _ _ m3=>⟨rfl,?_⟩⟩
     cases x with
     |sl e q xs=>
      obtain ⟨hm,cs,L,o1,o2,o3,o4⟩:=h1
      obtain ⟨A,cap,L0,s1,s2,s3,s4,s5⟩:=Sl.row o1
      refine ⟨L0++L,⟨A,cap,cs,L0,L,s1,s2,s3,rfl,hm,s4,o2⟩,fun b mb hb=>?_⟩
      have:b∈F1:=by
       rw [o3]
       rcases AE.1 mb with m1|m1
       .exact AE.2 (.inl (s5.subset m1))
       .exact AE.2 (.inr m1)
      have:=m3 b this hb
      simp at this
     |int k i=>exact ⟨[],h1.1,yG⟩
     |bool b=>exact ⟨[],h1.1,yG⟩
     |str s=>exact ⟨[],h1.1,yG⟩
     |ifc s=>exact ⟨[],h1.1,yG⟩
     |any=>exact ⟨[],h1.1,yG⟩
     |_=>exact h1.elim
  obtain ⟨F1',s1,f⟩:=key
  refine ⟨F1'++F2',Ak s1 s2,fun m m1 m2 m3=>⟨v,vs,F1',F2',rfl,rfl,f m (fun b mb=>m1 b (by simp [mb])) m2 (fun b mb hb=>?_),g m (fun b mb=>m1 b (by simp [mb])) m2 (fun b mb hb=>?_)⟩⟩
  .rcases AE.1 (m3 b (by simp [mb]) hb) with h|h
   .exact h
   .exact absurd rfl (hnd.2.2 b mb b (s2.subset h))
  .rcases AE.1 (m3 b (by simp [mb]) hb) with h|h
   .exact absurd rfl (hnd.2.2 b (s1.subset h) b mb)
   .exact h
theorem Zzq [NW] {B:Nat}{n:Nat->Prop}{x y:RT}{v:Value}{F:List Nat}(h:OP w B n x v F) (e1:x.1=y.1) (hw:wkC x.2 y.2) (d:F.Nodup):∃F',F'.Sublist F/\∀m:Nat->Prop,(∀b∈F',n b->m b)->(∀b,m b->n b)->(∀b∈F,m b->b∈F')->OP w B m y v F':=by
 rcases h with ⟨h1,vs,rfl,h2⟩|⟨h1,ct,h2,h3⟩
 .obtain ⟨F',s,h⟩:=Zpj h2 hw d
  exact ⟨F',s,fun m a b c=>.inl ⟨e1 ▸ h1,vs,rfl,h m a b c⟩⟩
 .obtain ⟨F',s,h⟩:=Zpj (r:=x.2) (vs:=[v]) (F:=F) (by rw [h2];exact ⟨v,[],F,[],rfl,yG,h3,rfl,rfl⟩) hw d
  refine ⟨F',s,fun m p1 p2 p3=>.inr ⟨e1 ▸ h1,?_⟩⟩
  have h4:=h m p1 p2 p3
  generalize y.2=l at h4 hw
  cases l with
  |nil=>rw [h2]at hw;exact hw.elim
  |cons c l=>
   cases l with
   |nil=>
    obtain ⟨v',vs',F1,F2,q1,rfl,q3,q4⟩:=h4
    simp only[Aa]at q1
    obtain ⟨rfl,rfl⟩:=q1
    obtain ⟨_,rfl⟩:=q4
    exact ⟨c,rfl,by simpa using q3⟩
   |cons _ _=>
    rw [h2]at hw
    have hw:wk1 _ _ False:=hw
    unfold wk1 at hw
    split at hw
    .exact hw.elim
    .exact hw.2.2.elim
theorem ZvV [NW] {B:Nat}{n:Nat->Prop}:∀{r a:List RT}{vs:List Value}{F:List Nat},OPs w B n r vs F->wkR r a->F.Nodup->∃F',F'.Sublist F/\∀m:Nat->Prop,(∀b∈F',n b->m b)->(∀b,m b->n b)->(∀b∈F,m b->b∈F')->OPs w B m a vs F'
 | [],[],vs,F,h,_,_=>⟨[],yG,fun m _ _ _=>⟨h.1,rfl⟩⟩
 | [],_::_,_,_,_,h,_=>h.elim
 |_::_,[],_,_,_,h,_=>h.elim
 |x::r,y::a,_,_,⟨v,vs,F1,F2,rfl,rfl,h1,h2⟩,⟨e1,e2,hw⟩,hnd=>by
  rw [AX]at hnd
  obtain ⟨F2',s2,c⟩:=ZvV h2 hw hnd.2.1
  obtain ⟨F1',s1,d⟩:=Zzq h1 e1 e2 hnd.1
  refine ⟨F1'++F2',Ak s1 s2,fun m m1 m2 m3=>⟨v,vs,F1',F2',rfl,rfl,d m (fun b mb=>m1 b (by simp [mb])) m2 (fun b mb hb=>?_),c m (fun b mb=>m1 b (by simp [mb])) m2 (fun b mb hb=>?_)⟩⟩
  .rcases AE.1 (m3 b (by simp [mb]) hb) with h|h
   .exact h
   .exact absurd rfl (hnd.2.2 b mb b (s2.subset h))
  .rcases AE.1 (m3 b (by simp [mb]) hb) with h|h
   .exact absurd rfl (hnd.2.2 b (s1.subset h) b mb)
   .exact h
def Ziu (tmps:Array Value):ResultVar->Sem Value
 |.tmp t=>pure (tmps.getD t undef)
 |.cell b t=>do loadVar t (<-asAddr (tmps.getD b undef))
theorem Zsx (fn:Func) (a:Array Value):results fn a=(do let vs <-fn.results.mapM (Ziu a);pure (if h:vs.size=1 then vs[0] else .tuple vs)):=by
 unfold results
 congr 1
theorem Zmj [NW] {B:Nat}(htt:∀t i,tt t=some i->TOk P t i) (hI:HI W g st.ob w) (hS:∀t,SVR g w (st.sl t) (a.tmps.getD t undef)) (hU:StU U st) (hK:∀k,K k->ZjJ (st.ob k)=false/\∀e m xs d,st.ob k=.row e m xs d->d=2):∀{rs:List ResultVar}{j:List RT}{ks:List Nat},Zb5 tt st rs=some (j,ks)->(∀k∈ks,K k/\∀b∈g.O k++g.D k,B<=b)->
  ∃vs:List Value,(rs.mapM (Ziu a.tmps)).run P w=.ok vs w/\OPs w B (nK g K) j vs (g.F ks)
 | [],j,ks,h,_=>by
  simp only[Zb5,AA,AB]at h
  obtain ⟨rfl,rfl⟩:=h
  exact ⟨[],yG,rfl,by simp [Gh.F]⟩
 |.tmp t::r,j,ks,h,hks=>by
  simp only[Zb5]at h
  split at h
  .rename_i ag cs f
   obtain ⟨⟨c1,k1⟩,h1,h⟩:=AG.1 h
   obtain ⟨⟨c2,k2⟩,h2,h⟩:=AD.1 h
   simp only[AB]at h
   obtain ⟨rfl,rfl⟩:=h
   obtain ⟨vs,i1,i2⟩:=Zmj htt hI hS hU hK h2 (fun k mk=>hks k (by simp [mk]))
   have hs:=hS t
   rw [f]at hs
   refine ⟨a.tmps.getD t undef::vs,?_,_,vs,g.F k1,g.F k2,rfl,by simp [Gh.F],ZrG hI hK h1 (fun k mk=>hks k (by simp [mk])) hs,i2⟩
   simp only[Au,Ziu,Sem.run_bind,Sem.run_pure,Result.andThen_ok,i1]
  .simp at h
 |.cell t ty::r,j,ks,h,hks=>by
  simp only[Zb5]at h
  split at h
  .rename_i ag cs f
   obtain ⟨⟨c1,k1⟩,h1,h⟩:=AG.1 h
   obtain ⟨⟨c2,k2⟩,h2,h⟩:=AD.1 h
   simp only[AB]at h
   obtain ⟨rfl,rfl⟩:=h
   obtain ⟨vs,i1,i2⟩:=Zmj htt hI hS hU hK h2 (fun k mk=>hks k (by simp [mk]))
   obtain ⟨cv,l1,l2,_⟩:=Zuf (P:=P) (U:=U) htt hI hU f (hS t)
   have hl:(do loadVar ty (<-asAddr (a.tmps.getD t undef)):Sem Value).run P w=.ok cv w:=by
    have:∃b,a.tmps.getD t undef=.pointer (some b):=by
     have hs:=hS t
     cases hsl':st.sl t with
     |bp k off=>rw [hsl']at hs;obtain ⟨b,_,hv⟩:=hs;exact ⟨_,hv⟩
     |rp k m i off=>rw [hsl']at hs;obtain ⟨b,_,_,_,_,hv⟩:=hs;exact ⟨_,hv⟩
     |ep e off=>rw [hsl']at hs;obtain ⟨b,_,_,_,hv,_⟩:=hs;exact ⟨_,hv⟩
     |p l o=>
      rw [hsl']at hs f
      cases l with
      |true=>simp [Qb]at f
      |false=>
       cases o with
       |nil=>simp [Qb]at f
       |cons y q=>
        cases q with
        |cons _ _=>cases y<;>first|(simp [Qb]at f;done)|(rename_i z;cases z<;>simp [Qb]at f)
        |nil=>cases y with
         |c z=>cases z with
          |pt e=>obtain ⟨b,_,_,hv,_⟩:=Ztu hs;exact ⟨_,hv⟩
          |_=>simp [Qb]at f
         |_=>simp [Qb]at f
     |_=>rw [hsl']at f;simp [Qb]at f
    obtain ⟨b,hb⟩:=this
    rw [hb]at l1 ⊢
    simpa [Instr.loadAt,Instr.sureAddr,asAddr]using l1
   refine ⟨cv::vs,?_,_,vs,g.F k1,g.F k2,rfl,by simp [Gh.F],ZrG hI hK h1 (fun k mk=>hks k (by simp [mk])) l2,i2⟩
   have u:(Ziu a.tmps (.cell t ty)).run P w=.ok cv w:=hl
   simp only[Au,Sem.run_bind,u,i1,Sem.run_pure,Result.andThen_ok]
  .simp at h
theorem Zsr:∀{xs:List AV}{cts:List (Bool×CT)}{ks:List Nat},Zdj st xs=some (cts,ks)->∀k∈ks,∃e m xs,st.ob k=.row e m xs 2
 | [],_,_,h,k,mk=>by
  simp only[Zdj,AA,AB]at h
  rw [<-h.2]at mk;simp at mk
 |x::r,cts,ks,h,k,mk=>by
  simp only[Zdj]at h
  obtain ⟨⟨c1,k1⟩,h1,h⟩:=AG.1 h
  obtain ⟨⟨c2,k2⟩,h2,h⟩:=AD.1 h
  simp only[AB]at h
  obtain ⟨rfl,rfl⟩:=h
  rcases AE.1 mk with mk|mk
  .cases x with
   |c y=>cases y<;>simp only[Zfz,AA,AB]at h1<;>(rw [<-h1.2]at mk;simp at mk)
   |row j=>
    simp only[Zfz]at h1
    split at h1
    .rename_i e m xs d hk
     split at h1
     .rename_i hd
      simp only[AA,AB]at h1
      rw [<-h1.2]at mk
      simp at mk
      subst mk
      exact ⟨e,m,xs,by rw [hk,hd]⟩
     .simp only[AA,AB]at h1
      rw [<-h1.2]at mk;simp at mk
    .simp only[AA,AB]at h1
     rw [<-h1.2]at mk;simp at mk
    .simp at h1
   |nil e m=>
    simp only[Zfz]at h1
    split at h1
    .simp only[AA,AB]at h1
     rw [<-h1.2]at mk;simp at mk
    .simp at h1
   |n y=>
    simp only[Zfz,AA,AB]at h1
    rw [<-h1.2]at mk;simp at mk
   |dead=>
    simp only[Zfz,AA,AB]at h1
    rw [<-h1.2]at mk;simp at mk
  .exact Zsr h2 k mk
theorem Zlg [NW]:∀{rs:List ResultVar}{a:List RT}{ks:List Nat},Zb5 tt st rs=some (a,ks)->∀k∈ks,∃e m xs,st.ob k=.row e m xs 2
 | [],_,_,h,k,mk=>by
  simp only[Zb5,AA,AB]at h
  rw [<-h.2]at mk;simp at mk
 |.tmp t::r,a,ks,h,k,mk=>by
  simp only[Zb5]at h
  split at h
  .obtain ⟨⟨c1,k1⟩,h1,h⟩:=AG.1 h
   obtain ⟨⟨c2,k2⟩,h2,h⟩:=AD.1 h
   simp only[AB]at h
   obtain ⟨rfl,rfl⟩:=h
   rcases AE.1 mk with mk|mk
   .exact Zsr h1 k mk
   .exact Zlg h2 k mk
  .simp at h
 |.cell t ty::r,a,ks,h,k,mk=>by
  simp only[Zb5]at h
  split at h
  .obtain ⟨⟨c1,k1⟩,h1,h⟩:=AG.1 h
   obtain ⟨⟨c2,k2⟩,h2,h⟩:=AD.1 h
   simp only[AB]at h
   obtain ⟨rfl,rfl⟩:=h
   rcases AE.1 mk with mk|mk
   .exact Zsr h1 k mk
   .exact Zlg h2 k mk
  .simp at h
theorem Zty [NW] {z:Nat->Prop}{x:Bool×List CT}{v:Value}(hg:∀b,g.own b->z b) (h:ZhI w z x v):SVR g w (.p x.1 (x.2.map .c)) v:=by
 rcases h with ⟨h1,vs,L,rfl,h2,h4⟩|⟨h1,ct,L,h2,h3,h4⟩
 .rw [h1];exact ⟨vs,rfl,h2.avr fun b mb hb=>h4 b mb (hg b hb)⟩
 .rw [h1,h2];exact ⟨_,rfl,L,h3,fun b mb hb=>h4 b mb (hg b hb)⟩
theorem Zt7 [NW] {x:CT}{v:Value}{L:List Nat}(h:RC w x v L) (hL:∀b∈L,¬g.own b):AVR g w (Zpv x) v:=by
 cases x with
 |nl e m=>exact h.1
 |_=>exact ⟨L,h,hL⟩
theorem Zro [NW]:∀{e:List CT}{cs:List Value}{L:List Nat},RCs w e cs L->(∀b∈L,¬g.own b)->ZD (AVR g w) (e.map Zpv) cs
 | [],_,_,⟨h1,h2⟩,_=>by subst h1;trivial
 |x::r,_,_,⟨v,cs,L1,L2,h1,h2,h3,h4⟩,hL=>by
  subst h1 h2
  exact ⟨Zt7 h3 fun b m=>hL b (by simp [m]),Zro h4 fun b m=>hL b (by simp [m])⟩
theorem Zwt [NW] {z:Nat->Prop}{x:Bool×List CT}{v:Value}(hg:∀b,g.own b->z b) (h:ZhI w z x v):SVR g w (.p x.1 (x.2.map Zpv)) v:=by
 rcases h with ⟨h1,vs,L,rfl,h2,h4⟩|⟨h1,ct,L,h2,h3,h4⟩
 .rw [h1];exact ⟨vs,rfl,Zro h2 fun b mb hb=>h4 b mb (hg b hb)⟩
 .rw [h1,h2];exact ⟨_,rfl,Zt7 h3 fun b mb hb=>h4 b mb (hg b hb)⟩
theorem Zwz (e:List CT):XD U (e.map Zpv):=fun y m=>by
 obtain ⟨x,_,rfl⟩:=AF.1 m
 cases x<;>trivial
theorem Zuj [NW] {B:Nat}(htt:∀t i,tt t=some i->TOk P t i) {fn:Func}{f:List RT}(hI:Inv W U st a w) (hH:HI W g st.ob w) (hS:∀t,SVR g w (st.sl t) (a.tmps.getD t undef)) {r:List RT}{ks:List Nat}(hx:Zb5 tt st fn.results.toList=some (r,ks)) (j:ks.Nodup) (hw:wkR r f)
  (hB:∀k∈ks,∀b∈g.O k++g.D k,B<=b) (K0:Nat->Prop) (l:∀k,K0 k->ZjJ (st.ob k)=false/\∀e m xs d,st.ob k=.row e m xs d->d=2):
  ∃v m us F',F'.Sublist (g.F ks)/\(results fn a.tmps).run P w=.ok v w/\(OPs w B m f us F'/\Own w B F'/\v=(if h:us.toArray.size=1 then us.toArray[0] else .tuple us.toArray))/\(∀b,m b->g.own b)/\(∀b,m b->g.Z b\/(∃k,(k∈ks\/K0 k)/\b∈g.O k))/\∀b,b∉g.F ks->(g.Z b\/∃k,K0 k/\b∈g.O k)->m b:=by
 obtain ⟨us,r1,r2⟩:=Zmj (K:=fun k=>k∈ks\/K0 k) htt hH hS hI.wf (fun k hk=>by
  rcases hk with hk|hk
  .obtain ⟨e',m',o,h'⟩:=Zlg hx k hk
   refine ⟨by rw [h'];rfl,fun e m xs d he=>?_⟩
   rw [he]at h'
   simp only[Ob.row.injEq]at h'
   exact h'.2.2.2
  .exact l k hk) hx (fun k mk=>⟨.inl mk,hB k mk⟩)
 have c:=hH.nodupF j
 obtain ⟨F',s,hF⟩:=ZvV r2 hw c
 have p:∀b∈g.F ks,B<=b:=fun b mb=>by
  obtain ⟨k,hk,mk⟩:=Zfj mb
  exact hB k hk b mk
 refine ⟨(if h:us.toArray.size=1 then us.toArray[0] else .tuple us.toArray),fun b=>nK g (fun k=>k∈ks\/K0 k) b/\(b∈g.F ks->b∈F'),us,F',s,?_,⟨hF _ (fun b mb hb=>⟨hb,fun _=>mb⟩) (fun b hb=>hb.1) (fun b mb hb=>hb.2 mb),⟨c.sublist s,fun b mb=>p b (s.subset mb),fun b mb=>?_⟩,rfl⟩,fun b hb=>?_,fun b hb=>hb.1,fun b hb hn=>⟨?_,fun mb=>absurd mb hb⟩⟩
 .rw [Zsx]
  have e:fn.results.mapM (Ziu a.tmps)=Aw <$> fn.results.toList.mapM (Ziu a.tmps):=by
   rw [<-List.mapM_toArray]
  have e2:(Aw <$> fn.results.toList.mapM (Ziu a.tmps)).run P w=.ok us.toArray w:=by
   rw [map_eq_pure_bind]
   simp only[Sem.run_bind,r1,Result.andThen_ok,Sem.run_pure]
  rw [e]
  simp only[Sem.run_bind,e2,Result.andThen_ok,Sem.run_pure]
 .obtain ⟨k,hk,mk⟩:=Zfj (s.subset mb)
  obtain ⟨e',m',o,h'⟩:=Zlg hx k hk
  have:=(hH.plain k b mk).2
  rw [h']at this
  exact this
 .rcases hb.1 with hz|⟨k,_,mk⟩
  .exact .inr hz
  .exact .inl ⟨k,mk⟩
 .rcases hn with hz|⟨k,hk,mk⟩
  .exact .inl hz
  .exact .inr ⟨k,.inr hk,mk⟩
theorem Zxv [NW] {B:Nat}(htt:∀t i,tt t=some i->TOk P t i) {fn:Func}{c:List RT}(hI:Inv W U st a w) (hH:HI W g st.ob w) (hS:∀t,SVR g w (st.sl t) (a.tmps.getD t undef)) {r:List RT}{ks:List Nat}(hx:Zb5 tt st fn.results.toList=some (r,ks)) (f:ks.Nodup) (hw:wkR r c)
  (hB:∀k∈ks,∀b∈g.O k++g.D k,B<=b) (K0:Nat->Prop) (j:∀k,K0 k->ZjJ (st.ob k)=false/\∀e m xs d,st.ob k=.row e m xs d->d=2):
  ∃v m,(results fn a.tmps).run P w=.ok v w/\ZiY w B m c v/\(∀b,m b->g.own b)/\(∀b,m b->g.Z b\/(∃k,(k∈ks\/K0 k)/\b∈g.O k))/\∀b,b∉g.F ks->(g.Z b\/∃k,K0 k/\b∈g.O k)->m b:=by
 obtain ⟨v,m,us,F',_,h1,⟨h2,h3,h4⟩,h5⟩:=Zuj htt hI hH hS hx f hw hB K0 j
 exact ⟨v,m,h1,⟨us,F',h2,h3,h4⟩,h5⟩
end
abbrev nw0:NW:=⟨0⟩
section
variable {P:Program} {J:World->Prop} {JF:Nat->Prop} {W:ZaA} {U:Nat->Prop} {st:St} {w w':World} {a:Act} {tt:Nat->Option TI} {od:OD} {g:Gh}
structure JOk (J:World->Prop) (JF:Nat->Prop):Prop where
 below:∀(x:Nat->Prop) (w w':World),J w->(∀b,x b->JF b)->w'.os=w.os->w'.tape=w.tape->w'.output=w.output->w.heap.size<=w'.heap.size->(∀k,k<w.heap.size->¬x k->w'.heap[k]?=w.heap[k]?)->J w'
 new:∀(w:World) b,J w->w.heap.size<=b->JF b
theorem ZcO {args:List (Bool×List CT)}{vs:List Value}{N t o:Nat}(h:vs.length<=N) (v:Value) (hv:vs[t]?=some v):(vs.toArray++AM (N - vs.toArray.size) undef).getD t undef=v:=by
 have hl:t<vs.length:=(AO.1 hv).1
 simp only[AN,Ax,Ay,hl,if_true,List.getElem?_toArray,hv,Aj]
theorem Zl3 {vs:List Value}{N t:Nat}(ht:vs.length<=t):(vs.toArray++AM (N - vs.toArray.size) undef).getD t undef=undef:=by
 simp only[AN,Ax,Ay,show ¬t<vs.length by omega,if_false,Array.getElem?_replicate]
 split<;>rfl
theorem Zrh (htt : ∀ t i, tt t = some i → TOk P t i) (hJ : JOk J JF) (hmix : P.follows .mixedOrders = true) {hds : FuncId → Nat} {f : FuncId} {fn : Func} {c : Code} {args : List (Bool × List CT)} {res : List RT} (hf : P.funcs[f]? = some fn) (hname : (fn.name == "runtime.NumGoroutine") = false) (hb : fn.body = some c)
  (hok:XH od tt hds false fn.ntmps c=true) (hlen:Nat.ble args.length fn.ntmps=true) (h:fnS od tt (SC P J JF hds) fn.results.toList c args res):Zm P J f args res:=by
 letI:NW:=nw0
 refine ⟨⟨fn,hf,hname,by rw [hb];rfl⟩,fun w z vs hj hz hargs=>?_⟩
 have hlen':args.length<=fn.ntmps:=AH hlen
 have hvl:=hargs.len
 refine calls_of_wp hf hb ?_
 let W:ZaA:={ w with z:=z,x:=fun _=>False,hv:=none }
 let g0:Gh:=⟨fun _=>undef,fun _=>[],fun _=>[],z⟩
 have hg0:∀b,g0.own b->z b:=fun b hb=>by
  rcases hb with ⟨k,m⟩|h
  .simp [g0]at m
  .exact h
 have hI0:Inv W (fun _=>False) (Zq args) { tmps:=vs.toArray++AM (fn.ntmps - vs.toArray.size) undef,defers:=[] } w:=by
  refine ⟨⟨g0,⟨⟨rfl,rfl,rfl,AL _,fun _ _ _=>rfl⟩,fun k=>⟨rfl,rfl⟩,fun k=>by simp [g0],fun k j _ b m=>by simp [g0]at m,fun k b m=>by simp [g0]at m,rfl,fun b hb=>⟨hz b hb,fun h=>h,fun h=>h⟩,fun _ _=>AI _,fun k b m=>by simp [g0]at m⟩,fun t=>?_⟩,⟨fun t=>?_,fun k=>trivial,fun k _=>rfl⟩,rfl,fun v hv=>by simp [W]at hv⟩
  .show SVR g0 w (match args[t]? with|some x=>.p x.1 (x.2.map Zpv)|none=>.und) _
   cases ht:args[t]? with
   |none=>exact Zl3 (by have:args.length<=t:=(by simpa using ht);omega)
   |some x=>
    obtain ⟨v,hv,hr⟩:=hargs.at ht
    show SVR g0 w (.p x.1 (x.2.map Zpv)) ((vs.toArray++AM (fn.ntmps - vs.toArray.size) undef).getD t undef)
    rw [ZcO (args:=args) (o:=0) yE v hv]
    exact Zwt hg0 hr
  .show svU _ (match args[t]? with|some x=>.p x.1 (x.2.map Zpv)|none=>.und)
   split
   .exact Zwz _
   .trivial
 have hM:MOk P J JF W tt:=⟨htt,fun w' hb=>hJ.below (fun _=>False) w w' hj (fun _ h=>h.elim) hb.os hb.tape hb.output hb.size (fun k hk hx=>hb.block k hk hx),fun b hb=>hJ.new w b hj hb,fun b h=>h.elim⟩
 refine ZaG (W:=W) hM hmix (.inl rfl) c hok (Zp2 tt fn.results.toList fun _ r _=>wkR r res) _ ?_ _ (Zq args) _ w hI0 (fun _ _ h=>h) (by simp;omega) h
 intro ex U' st' a' w' hI' _ _ hK
 have fin:(match Zb5 tt st' fn.results.toList with|some x=>x.2.Nodup/\wkR x.1 res|none=>False)->a'.defers=[]/\∃v,(results fn a'.tmps).run P w'=.ok v w'/\∃u n,Ending.returned v=.returned u/\ZiY w' w.heap.size n res u/\(∀b,z b->n b)/\Below w.heap.size w w':=fun hK=>by
  split at hK
  .rename_i x hx
   obtain ⟨r,ks⟩:=x
   obtain ⟨hnd,hw⟩:=hK
   obtain ⟨g,hH,hS⟩:=hI'.ex
   have hBg:∀k∈ks,∀b∈g.O k++g.D k,W.heap.size<=b:=fun k _ b mb=>(hH.plain k b mb).1.resolve_right fun h=>h.elim (fun h=>h) fun h=>h
   obtain ⟨v,m,e1,e2,_,_,e4⟩:=Zxv htt hI' hH hS hx hnd hw hBg (fun _=>False) (fun _ h=>h.elim)
   have hbel:=hH.below
   exact ⟨hI'.defers,v,e1,v,m,rfl,e2,fun b hb=>e4 b (fun mb=>by obtain ⟨k,hk,mk⟩:=Zfj mb;have:=hBg k hk b mk;have:=hz b hb;have e:W.heap.size=w.heap.size:=rfl;omega) (.inl (by rw [hH.gz];exact hb)),hbel.os,hbel.tape,hbel.output,hbel.size,fun k hk=>hbel.block k hk fun h=>h⟩
  .exact hK.elim
 cases ex with
 |normal=>exact fin hK
 |exit id=>exact hK.elim
 |ret=>exact fin hK
def gvN:Option (Bool×List (Bool×CT))->Nat
 |none=>0
 |some _=>1
theorem ZuD (htt : ∀ t i, tt t = some i → TOk P t i) (hJ : JOk J JF) (hmix : P.follows .mixedOrders = true) {hds : FuncId → Nat} {f : FuncId} {fn : Func} {c : Code} {t0 : Nat} {cs cs' : List (Bool × CT)} {gv : Option (Bool × List (Bool × CT))} {args : List (Bool × List CT)} {res : List RT} (hf : P.funcs[f]? = some fn) (hname : (fn.name == "runtime.NumGoroutine") = false) (hb : fn.body = some c)
  (hok:XH od tt hds true fn.ntmps c=true) (hlen:Nat.blt (args.length+gvN gv) fn.ntmps=true) (hh:fnO od tt (SC P J JF hds) fn.results.toList c t0 cs gv args res cs'):Zf4 P J JF f t0 cs gv args res cs':=by
 letI:NW:=nw0
 refine ⟨⟨fn,hf,hname,by rw [hb];rfl⟩,fun w z q v0 gs vs b us us2 F hj hqb hqJ hz hul hgr hO hargs=>?_⟩
 have hlen':args.length+gvN gv<fn.ntmps:=AH hlen
 have hvl:=hargs.len
 have hgl:gs.length=gvN gv:=by
  cases gv with
  |none=>rw [hgr.1];rfl
  |some g=>obtain ⟨ag,gc⟩:=g;cases ag with
   |true=>rw [hgr.1];rfl
   |false=>rw [hgr.1,hgr.2.1];rfl
 refine calls_of_wp hf hb ?_
 let W:ZaA:={ w with z:=z,x:=q,hv:=some v0,y:=fun x=>x∈F }
 obtain ⟨val,O,D,hB,hA⟩:=XN (l:=true) 1 hO.ocs (fun _=>rfl)
 have hlen2:(v0::(gs++vs)).length<=fn.ntmps:=by simp;omega
 have hbd:∃avs up hi,(ZA 1 (cs++gvC gv)).1=avs/\(ZA 1 (cs++gvC gv)).2.1=up/\(ZA 1 (cs++gvC gv)).2.2=hi:=⟨_,_,_,rfl,rfl,rfl⟩
 obtain ⟨avs,up,hi,ha1,ha2,ha3⟩:=hbd
 rw [ha1]at hA
 rw [ha2,ha3]at hB
 rw [ha3]at hA
 have hle:=hB.le
 have hndF:=AP.1 hO.own.nodup
 have hnd:=Zek (hB.foot ▸ hndF.2)
 have hmemF:∀j,(1<=j/\j<hi)->∀x∈O j++D j,x∈F:=fun j hj x mx=>by
  rw [hB.foot]
  exact Ah.2 ⟨j,Az.2 ⟨hj.1,yE⟩,mx⟩
 let g0:Gh:=⟨fun k=>if k=0 then v0 else val k,fun k=>if k=0 then [b] else if 1<=k/\k<hi then O k else [],fun k=>if k=0 then [] else if 1<=k/\k<hi then D k else [],z⟩
 have g00:g0.val 0=v0/\g0.O 0=[b]/\g0.D 0=[]:=⟨rfl,rfl,rfl⟩
 have gT:∀k,1<=k/\k<hi->g0.val k=val k/\g0.O k=O k/\g0.D k=D k:=fun k hk=>by
  have h0:¬k=0:=by omega
  exact ⟨by simp only[g0,if_neg h0],by simp only[g0,if_neg h0,if_pos hk],by simp only[g0,if_neg h0,if_pos hk]⟩
 have gN:∀k,¬k=0->¬(1<=k/\k<hi)->g0.O k=[]/\g0.D k=[]:=fun k h0 hk=>⟨by simp only[g0,if_neg h0,if_neg hk],by simp only[g0,if_neg h0,if_neg hk]⟩
 have hOq:∀k,1<=k/\k<hi->∀x∈O k,q x:=fun k hk x mx=>by
  obtain ⟨_,_,_,_,_,_,_,_,_,p6⟩:=hB.at_ k hk.1 hk.2
  rcases p6 x mx with h|h
  .exact absurd (by simp [hmemF k hk x (by simp [mx])]) (hz x h).2.2
  .exact h
 have hg0:∀x,g0.own x->z x\/q x:=fun x hx=>by
  rcases hx with ⟨k,m⟩|h
  .by_cases h0:k=0
   .subst h0;rw [g00.2.1]at m;simp at m;subst m;exact .inr hqb
   .by_cases hk:1<=k/\k<hi
    .rw [(gT k hk).2.1]at m;exact .inr (hOq k hk x m)
    .rw [(gN k h0 hk).1]at m;simp at m
  .exact .inl h
 have hob:∀k,(Ze8 t0 cs gv args).ob k=if k=0 then .box t0 (avs.take cs.length) else Zh (fun _=>.gone) up k:=fun k=>by
  show (if k=0 then Ob.box t0 ((ZA 1 (cs++gvC gv)).1.take cs.length) else Zh (fun _=>.gone) (ZA 1 (cs++gvC gv)).2.1 k)=_
  rw [ha1,ha2]
 have hAV:∀x u,CR val w (fun x=>z x\/q x) true 1 hi x u->AVR g0 w x u/\avU (fun k=>k<hi) x:=fun x u h=>by
  cases x with
  |row k=>
   obtain ⟨c1,c2,c3,c4⟩:=h
   exact ⟨⟨by rw [(gT k ⟨c1,c2⟩).1];exact c3,c4⟩,c2⟩
  |c x=>
   obtain ⟨L,h1,h2⟩:=h
   exact ⟨⟨L,h1,fun b mb o=>(h2 b mb).2 (hg0 b o)⟩,trivial⟩
  |n _=>exact h.elim
  |nil _ _=>exact h.elim
  |dead=>exact h.elim
 have hcellsA:ZD (AVR g0 w) avs (us++us2)/\XD (fun k=>k<hi) avs:=⟨hA.mono fun x c _ h=>(hAV x c h).1,fun x mx=>by
  obtain ⟨i,hi'⟩:=B9.1 mx
  obtain ⟨c,_,hc'⟩:=hA.at hi'
  exact (hAV x c hc').2⟩
 have hcells:ZD (AVR g0 w) (avs.take cs.length) us/\XD (fun k=>k<hi) (avs.take cs.length):=⟨by
  have:=hcellsA.1.take cs.length
  rwa [<-hul,List.take_left' rfl,hul]at this,fun x mx=>hcellsA.2 x (List.mem_of_mem_take mx)⟩
 have hcellsG:ZD (AVR g0 w) (avs.drop cs.length) us2/\XD (fun k=>k<hi) (avs.drop cs.length):=⟨by
  have:=hcellsA.1.drop cs.length
  rwa [<-hul,List.drop_left' rfl,hul]at this,fun x mx=>hcellsA.2 x (List.mem_of_mem_drop mx)⟩
 have hpl:∀k,∀x∈g0.O k++g0.D k,x=b/\k=0\/(1<=k/\k<hi)/\x∈O k++D k:=fun k x m=>by
  by_cases h0:k=0
  .subst h0;rw [g00.2.1,g00.2.2]at m;simp at m;exact .inl ⟨m,rfl⟩
  .by_cases hk:1<=k/\k<hi
   .rw [(gT k hk).2.1,(gT k hk).2.2]at m;exact .inr ⟨hk,m⟩
   .rw [(gN k h0 hk).1,(gN k h0 hk).2]at m;simp at m
 have hI0:Inv W (fun k=>k<hi) (Ze8 t0 cs gv args) { tmps:=(v0::(gs++vs)).toArray++AM (fn.ntmps - (v0::(gs++vs)).toArray.size) undef,defers:=[] } w:=by
  refine ⟨⟨g0,⟨⟨rfl,rfl,rfl,AL _,fun _ _ _=>rfl⟩,fun k=>?_,fun k=>?_,fun k j hkj x m mj=>?_,fun k x m=>?_,rfl,fun x hx=>⟨(hz x hx).1,(hz x hx).2.1,fun h=>(hz x hx).2.2 (by simp [show x∈F from h])⟩,fun _ _=>AI _,fun k x m=>?_⟩,fun t=>?_⟩,⟨fun t=>?_,fun k=>?_,fun k hk=>?_⟩,rfl,fun v hv=>?_⟩
  .rw [hob k]
   by_cases h0:k=0
   .subst h0;rw [if_pos rfl]
    exact ⟨b,us,hO.val,rfl,rfl,hO.cell,hcells.1⟩
   .rw [if_neg h0]
    by_cases hk:1<=k/\k<hi
    .obtain ⟨e,m,ys,cs2,p1,p2,p3,p4,p5,_⟩:=hB.at_ k hk.1 hk.2
     obtain ⟨e1,e2,e3⟩:=gT k hk
     rw [p1]
     exact ⟨p2,cs2,D k,by rw [e1];exact p3,p4,.inl ⟨rfl,by rw [e1,e2];exact p5,e3⟩⟩
    .rw [hB.out k hk];exact gN k h0 hk
  .by_cases h0:k=0
   .subst h0;simp [g00]
   .by_cases hk:1<=k/\k<hi
    .rw [(gT k hk).2.1,(gT k hk).2.2];exact hnd.1 k hk.1 yE
    .rw [(gN k h0 hk).1,(gN k h0 hk).2];simp
  .rcases hpl k x m with ⟨rfl,rfl⟩|⟨h1,h2⟩
   .rcases hpl j x mj with ⟨_,rfl⟩|⟨h3,h4⟩
    .exact hkj rfl
    .exact hndF.1 (hmemF j h3 x h4)
   .rcases hpl j x mj with ⟨rfl,rfl⟩|⟨h3,h4⟩
    .exact hndF.1 (hmemF k h1 x h2)
    .exact hnd.2 k j h1.1 yE h3.1 yE hkj x h2 h4
  .rw [hob k]
   rcases hpl k x m with ⟨rfl,rfl⟩|⟨h1,h2⟩
   .rw [if_pos rfl]
    exact ⟨.inr (.inl hqb),_,_,hO.cell⟩
   .obtain ⟨e,m,ys,cs2,p1,_⟩:=hB.at_ k h1.1 h1.2
    rw [if_neg (by omega:¬k=0),p1]
    exact ⟨.inr (.inr (hmemF k h1 x h2)),hO.own.plain x (by simp [hmemF k h1 x h2])⟩
  .by_cases h0:k=0
   .subst h0;rw [g00.2.1]at m;simp at m;subst m;exact .inr hqb
   .by_cases hk:1<=k/\k<hi
    .rw [(gT k hk).2.1]at m;exact .inr (hOq k hk x m)
    .rw [(gN k h0 hk).1]at m;simp at m
  .have harg:∀(t o:Nat),o=gvN gv->SVR g0 w (match args[t]? with|some x=>.p x.1 (x.2.map .c)|none=>.und) (((v0::(gs++vs)).toArray++AM (fn.ntmps - (v0::(gs++vs)).toArray.size) undef).getD (t+o+1) undef):=fun t o ho=>by
    cases ht:args[t]? with
    |none=>exact Zl3 (by have:args.length<=t:=(by simpa using ht);simp;omega)
    |some x=>
     obtain ⟨v,hv,hr⟩:=hargs.at ht
     show SVR g0 w (.p x.1 (x.2.map .c)) _
     rw [ZcO (args:=args) (o:=0) hlen2 v (by
      rw [List.getElem?_cons_succ,List.getElem?_append_right yE,show t+o - gs.length=t by omega]
      exact hv)]
     exact Zty hg0 hr
   cases t with
   |zero=>
    show SVR g0 w (.bp 0 0) (((v0::(gs++vs)).toArray++AM (fn.ntmps - (v0::(gs++vs)).toArray.size) undef).getD 0 undef)
    rw [ZcO (args:=args) (o:=0) hlen2 v0 rfl]
    exact ⟨b,hO.val,hO.val⟩
   |succ t=>
    cases gv with
    |none=>exact harg t 0 rfl
    |some g=>
     cases t with
     |succ t=>exact harg t 1 rfl
     |zero=>
      show SVR g0 w (.p g.1 ((ZA 1 (cs++g.2)).1.drop cs.length)) _
      rw [show (ZA 1 (cs++g.2)).1=avs from ha1]
      obtain ⟨ag,gc⟩:=g
      cases ag with
      |true=>
       obtain ⟨rfl,_⟩:=hgr
       rw [ZcO (args:=args) (o:=0) hlen2 (.agg us2.toArray) rfl]
       exact ⟨us2,rfl,hcellsG.1⟩
      |false=>
       obtain ⟨rfl,h1,_⟩:=hgr
       obtain ⟨u,hu⟩:=BB.1 h1
       subst hu
       rw [ZcO (args:=args) (o:=0) hlen2 u rfl]
       have hd:=hcellsG.1
       generalize avs.drop cs.length=dd at hd
       cases dd with
       |nil=>exact hd.elim
       |cons y yr=>
        cases yr with
        |nil=>exact ⟨y,rfl,hd.1⟩
        |cons _ _=>exact hd.2.elim
  .cases t with
   |zero=>show 0<hi;omega
   |succ t=>
    cases gv with
    |none=>
     show svU _ (match args[t]? with|some x=>.p x.1 (x.2.map .c)|none=>.und)
     split
     .exact Zj9 true _
     .trivial
    |some g=>
     cases t with
     |zero=>
      show svU _ (.p g.1 ((ZA 1 (cs++g.2)).1.drop cs.length))
      rw [show (ZA 1 (cs++g.2)).1=avs from ha1]
      exact hcellsG.2
     |succ t=>
      show svU _ (match args[t]? with|some x=>.p x.1 (x.2.map .c)|none=>.und)
      split
      .exact Zj9 true _
      .trivial
  .rw [hob k]
   by_cases h0:k=0
   .rw [if_pos h0];exact hcells.2
   .rw [if_neg h0]
    by_cases hk:1<=k/\k<hi
    .obtain ⟨e,m,ys,cs2,p1,_⟩:=hB.at_ k hk.1 hk.2
     rw [p1];trivial
    .rw [hB.out k hk];trivial
  .rw [hob k,if_neg (by omega:¬k=0),hB.out k yE]
  .have:v0=v:=by simpa [W]using hv
   subst this
   exact ZcO (args:=args) (o:=0) hlen2 v0 rfl
 have hM:MOk P J JF W tt:=⟨htt,fun w' hb=>hJ.below q w w' hj (fun x hx=>(hqJ x hx).1) hb.os hb.tape hb.output hb.size (fun k hk hx=>hb.block k hk hx),fun b hb=>hJ.new w b hj hb,fun x hx=>(hqJ x hx).1⟩
 refine ZaG (W:=W) hM hmix (.inr rfl) c hok (Zp2 tt fn.results.toList fun st r ks=>wkR r res/\ks=[]/\opB st t0 cs' (st.sl 0)) _ ?_ _ (Ze8 t0 cs gv args) _ w hI0 (fun k hk h0=>by
  have:(Ze8 t0 cs gv args).n=hi:=ha3
  omega) (by simp;omega) hh
 intro ex U' st' a' w' hI' _ _ hK
 have fin:(match Zb5 tt st' fn.results.toList with|some x=>x.2.Nodup/\wkR x.1 res/\x.2=[]/\opB st' t0 cs' (st'.sl 0)|none=>False)->a'.defers=[]/\∃v,(results fn a'.tmps).run P w'=.ok v w'/\∃u n us' F',Ending.returned v=.returned u/\ZiY w' w.heap.size n res u/\(∀x,z x->n x)/\n b/\(∀x,n x->z x\/q x\/w.heap.size<=x)/\ZtX w' n t0 cs' v0 b us' [] F'/\(∀x∈F',x∈F\/w.heap.size<=x)/\Zyv q w w':=fun hK=>by
  split at hK
  .rename_i x hx
   obtain ⟨r,ks⟩:=x
   obtain ⟨hnd',hw,hk0,hbk⟩:=hK
   simp only at hk0
   subst hk0
   obtain ⟨g,hH,hS⟩:=hI'.ex
   have hv0:a'.tmps.getD 0 undef=v0:=hI'.hand v0 rfl
   have hS0:=hS 0
   rw [hv0]at hS0
   obtain ⟨k,ds,ks',e1,e2,e3,e4⟩:=ZyN hbk
   rw [e1]at hS0
   obtain ⟨b2,hb1,hb2⟩:=hS0
   have hbb:b2=b:=by have:=hO.val;rw [hb2]at this;simpa using this
   subst hbb
   have hob':=hH.obs k
   rw [e2]at hob'
   obtain ⟨b',us',o1,o2,o3,o4,o5⟩:=hob'
   have hbb:b'=b2:=by rw [hb1]at o1;simpa using o1.symm
   subst hbb
   obtain ⟨q1,q2⟩:=Zhq hH e3 o5
   have hkks:k∉ks':=fun m=>by
    obtain ⟨e,m',xs,hr⟩:=q2 k m
    rw [e2]at hr;simp at hr
   have hFk:∀x∈g.F ks',∃j∈ks',x∈g.O j++g.D j:=fun x mx=>Zfj mx
   obtain ⟨v,m,e5,e6,e7,_,e8⟩:=Zxv htt hI' hH hS hx hnd' hw (fun k hk=>by simp at hk) (fun j=>j=k\/j∈ks') (fun j hj=>by
    rcases hj with rfl|hj
    .exact ⟨by rw [e2];rfl,fun e m xs d h=>by rw [e2]at h;simp at h⟩
    .obtain ⟨e,m',xs,hr⟩:=q2 j hj
     exact ⟨by rw [hr];rfl,fun e m xs d h=>by rw [hr]at h;simp only[Ob.row.injEq]at h;exact h.2.2.2.symm⟩)
   have hmm:∀x,(g.Z x\/∃j,(j=k\/j∈ks')/\x∈g.O j)->m x:=fun x hx=>e8 x (fun mb=>by simp [Gh.F]at mb) hx
   have hbel:=hH.below
   have q1l:OCs w' 0 m cs' us' (g.F ks'):=q1.low (fun x hx=>e7 x hx) fun x mx hox=>by
    obtain ⟨j,hj,mj⟩:=hFk x mx
    rcases hox with ⟨i,mi⟩|hZ
    .by_cases hij:i=j
     .subst hij;exact hmm x (.inr ⟨i,.inr hj,mi⟩)
     .exact absurd (by simp [mi]:x∈g.O i++g.D i) (hH.apart j i (fun h=>hij h.symm) x mj)
    .exact hmm x (.inl hZ)
   refine ⟨hI'.defers,v,e5,v,m,us',g.F ks',rfl,e6,fun x hx=>hmm x (.inl (by rw [hH.gz];exact hx)),hmm _ (.inr ⟨k,.inl rfl,by simp [o2]⟩),fun x hx=>?_,⟨hO.val,o4,by rw [List.append_nil];exact q1l,⟨AP.2 ⟨fun mb=>?_,hH.nodupF e4⟩,fun _ _=>AI _,fun x mx=>?_⟩⟩,fun x mx=>?_,⟨hbel.os,hbel.tape,hbel.output,hbel.size,fun i hi hq=>hbel.block i hi hq⟩⟩
   .rcases e7 x hx with ⟨j,mj⟩|hZ
    .rcases hH.oy j x mj with h|h
     .exact .inr (.inr h)
     .exact .inr (.inl h)
    .exact .inl (by rw [hH.gz]at hZ;exact hZ)
   .obtain ⟨j,hj,mj⟩:=hFk _ mb
    exact hH.apart k j (fun e=>hkks (e ▸ hj)) _ (by simp [o2]) mj
   .rcases AJ.1 mx with rfl|mx
    .exact ⟨_,_,o4⟩
    .obtain ⟨j,hj,mj⟩:=hFk x mx
     obtain ⟨e,m',xs,hr⟩:=q2 j hj
     have:=(hH.plain j x mj).2
     rw [hr]at this
     exact this
   .obtain ⟨j,hj,mj⟩:=hFk x mx
    rcases (hH.plain j x mj).1 with h|h|h
    .exact .inr h
    .rcases AJ.1 (hqJ x h).2 with rfl|h'
     .exact absurd mj (hH.apart k j (fun e=>hkks (e ▸ hj)) _ (by simp [o2]))
     .exact .inl h'
    .exact .inl h
  .exact hK.elim
 cases ex with
 |normal=>exact fin hK
 |exit id=>exact hK.elim
 |ret=>exact fin hK
theorem Zva (htt : ∀ t i, tt t = some i → TOk P t i) (hJ : JOk J JF) (hmix : P.follows .mixedOrders = true) {hds : FuncId → Nat} {f : FuncId} {fn : Func} {c : Code} {gv : Bool × List (Bool × CT)} {args : List (Bool × List CT)} {res : List RT} (hf : P.funcs[f]? = some fn) (hname : (fn.name == "runtime.NumGoroutine") = false) (hb : fn.body = some c)
  (hok:XH od tt hds false fn.ntmps c=true) (hlen:Nat.blt args.length fn.ntmps=true) (hh:fnG od tt (SC P J JF hds) fn.results.toList c gv args res):Zo2 P J JF f gv args res:=by
 letI:NW:=nw0
 refine ⟨⟨fn,hf,hname,by rw [hb];rfl⟩,fun w z q gs vs us F hj hqJ hz hgr hocs hown hargs=>?_⟩
 have hlen':args.length<fn.ntmps:=AH hlen
 have hvl:=hargs.len
 have hg1:∃v0,gs=[v0]/\((gv.1=true/\v0=.agg us.toArray)\/(gv.1=false/\us=[v0])):=by
  obtain ⟨ag,gc⟩:=gv
  cases ag with
  |true=>exact ⟨_,hgr.1,.inl ⟨rfl,rfl⟩⟩
  |false=>
   obtain ⟨h1,h2,_⟩:=hgr
   obtain ⟨u,hu⟩:=BB.1 h2
   exact ⟨u,by rw [h1,hu],.inr ⟨rfl,hu⟩⟩
 obtain ⟨v0,rfl,hv0⟩:=hg1
 refine calls_of_wp hf hb ?_
 let W:ZaA:={ w with z:=z,x:=q,hv:=none,y:=fun x=>x∈F }
 obtain ⟨val,O,D,hB,hA⟩:=XN (l:=true) 0 hocs (fun _=>rfl)
 have hbd:∃avs up hi,(ZA 0 gv.2).1=avs/\(ZA 0 gv.2).2.1=up/\(ZA 0 gv.2).2.2=hi:=⟨_,_,_,rfl,rfl,rfl⟩
 obtain ⟨avs,up,hi,ha1,ha2,ha3⟩:=hbd
 rw [ha1]at hA
 rw [ha2,ha3]at hB
 rw [ha3]at hA
 have hlen2:(v0::vs).length<=fn.ntmps:=by simp;omega
 have hnd:=Zek (hB.foot ▸ hown.nodup)
 have hmemF:∀j,(0<=j/\j<hi)->∀x∈O j++D j,x∈F:=fun j hj x mx=>by
  rw [hB.foot]
  exact Ah.2 ⟨j,Az.2 ⟨hj.1,yE⟩,mx⟩
 let g0:Gh:=⟨val,fun k=>if k<hi then O k else [],fun k=>if k<hi then D k else [],z⟩
 have gT:∀k,k<hi->g0.val k=val k/\g0.O k=O k/\g0.D k=D k:=fun k hk=>⟨rfl,if_pos hk,if_pos hk⟩
 have gN:∀k,¬k<hi->g0.O k=[]/\g0.D k=[]:=fun k hk=>⟨if_neg hk,if_neg hk⟩
 have hOq:∀k,k<hi->∀x∈O k,q x:=fun k hk x mx=>by
  obtain ⟨_,_,_,_,_,_,_,_,_,p6⟩:=hB.at_ k (AI _) hk
  rcases p6 x mx with h|h
  .exact absurd (hmemF k ⟨AI _,hk⟩ x (by simp [mx])) (hz x h).2.2
  .exact h
 have hg0:∀x,g0.own x->z x\/q x:=fun x hx=>by
  rcases hx with ⟨k,m⟩|h
  .by_cases hk:k<hi
   .rw [(gT k hk).2.1]at m;exact .inr (hOq k hk x m)
   .rw [(gN k hk).1]at m;simp at m
  .exact .inl h
 have hob:∀k,(ZoI gv args).ob k=Zh (fun _=>.gone) up k:=fun k=>by
  show Zh (fun _=>.gone) (ZA 0 gv.2).2.1 k=_
  rw [ha2]
 have hAV:∀x u,CR val w (fun x=>z x\/q x) true 0 hi x u->AVR g0 w x u/\avU (fun k=>k<hi) x:=fun x u h=>by
  cases x with
  |row k=>
   obtain ⟨c1,c2,c3,c4⟩:=h
   exact ⟨⟨c3,c4⟩,c2⟩
  |c x=>
   obtain ⟨L,h1,h2⟩:=h
   exact ⟨⟨L,h1,fun b mb o=>(h2 b mb).2 (hg0 b o)⟩,trivial⟩
  |n _=>exact h.elim
  |nil _ _=>exact h.elim
  |dead=>exact h.elim
 have hcells:ZD (AVR g0 w) avs us/\XD (fun k=>k<hi) avs:=⟨hA.mono fun x c _ h=>(hAV x c h).1,fun x mx=>by
  obtain ⟨i,hi'⟩:=B9.1 mx
  obtain ⟨c,_,hc'⟩:=hA.at hi'
  exact (hAV x c hc').2⟩
 have hpl:∀k,∀x∈g0.O k++g0.D k,k<hi/\x∈O k++D k:=fun k x m=>by
  by_cases hk:k<hi
  .rw [(gT k hk).2.1,(gT k hk).2.2]at m;exact ⟨hk,m⟩
  .rw [(gN k hk).1,(gN k hk).2]at m;simp at m
 have hI0:Inv W (fun k=>k<hi) (ZoI gv args) { tmps:=(v0::vs).toArray++AM (fn.ntmps - (v0::vs).toArray.size) undef,defers:=[] } w:=by
  refine ⟨⟨g0,⟨⟨rfl,rfl,rfl,AL _,fun _ _ _=>rfl⟩,fun k=>?_,fun k=>?_,fun k j hkj x m mj=>?_,fun k x m=>?_,rfl,fun x hx=>⟨(hz x hx).1,(hz x hx).2.1,fun h=>(hz x hx).2.2 h⟩,fun _ _=>AI _,fun k x m=>?_⟩,fun t=>?_⟩,⟨fun t=>?_,fun k=>?_,fun k hk=>?_⟩,rfl,fun v hv=>by simp [W]at hv⟩
  .rw [hob k]
   by_cases hk:k<hi
   .obtain ⟨e,m,ys,cs2,p1,p2,p3,p4,p5,_⟩:=hB.at_ k (AI _) hk
    obtain ⟨e1,e2,e3⟩:=gT k hk
    rw [p1]
    exact ⟨p2,cs2,D k,by rw [e1];exact p3,p4,.inl ⟨rfl,by rw [e1,e2];exact p5,e3⟩⟩
   .rw [hB.out k yE];exact gN k hk
  .by_cases hk:k<hi
   .rw [(gT k hk).2.1,(gT k hk).2.2];exact hnd.1 k (AI _) yE
   .rw [(gN k hk).1,(gN k hk).2];simp
  .obtain ⟨h1,h2⟩:=hpl k x m
   obtain ⟨h3,h4⟩:=hpl j x mj
   exact hnd.2 k j (AI _) yE (AI _) yE hkj x h2 h4
  .rw [hob k]
   obtain ⟨h1,h2⟩:=hpl k x m
   obtain ⟨e,m,ys,cs2,p1,_⟩:=hB.at_ k (AI _) h1
   rw [p1]
   exact ⟨.inr (.inr (hmemF k ⟨AI _,h1⟩ x h2)),hown.plain x (hmemF k ⟨AI _,h1⟩ x h2)⟩
  .by_cases hk:k<hi
   .rw [(gT k hk).2.1]at m;exact .inr (hOq k hk x m)
   .rw [(gN k hk).1]at m;simp at m
  .cases t with
   |zero=>
    show SVR g0 w (.p gv.1 (ZA 0 gv.2).1) (((v0::vs).toArray++AM (fn.ntmps - (v0::vs).toArray.size) undef).getD 0 undef)
    rw [ZcO (args:=args) (o:=0) hlen2 v0 rfl,ha1]
    rcases hv0 with ⟨h1,rfl⟩|⟨h1,rfl⟩
    .rw [h1];exact ⟨us,rfl,hcells.1⟩
    .rw [h1]
     have hd:=hcells.1
     generalize avs=dd at hd
     cases dd with
     |nil=>exact hd.elim
     |cons y yr=>
      cases yr with
      |nil=>exact ⟨y,rfl,hd.1⟩
      |cons _ _=>exact hd.2.elim
   |succ t=>
    show SVR g0 w (match args[t]? with|some x=>.p x.1 (x.2.map .c)|none=>.und) _
    cases ht:args[t]? with
    |none=>exact Zl3 (by have:args.length<=t:=(by simpa using ht);simp;omega)
    |some x=>
     obtain ⟨v,hv,hr⟩:=hargs.at ht
     show SVR g0 w (.p x.1 (x.2.map .c)) (((v0::vs).toArray++AM (fn.ntmps - (v0::vs).toArray.size) undef).getD (t+1) undef)
     rw [ZcO (args:=args) (o:=0) hlen2 v (by simpa using hv)]
     exact Zty hg0 hr
  .cases t with
   |zero=>
    show svU _ (.p gv.1 (ZA 0 gv.2).1)
    rw [ha1]
    exact hcells.2
   |succ t=>
    show svU _ (match args[t]? with|some x=>.p x.1 (x.2.map .c)|none=>.und)
    split
    .exact Zj9 true _
    .trivial
  .rw [hob k]
   by_cases hk:k<hi
   .obtain ⟨e,m,ys,cs2,p1,_⟩:=hB.at_ k (AI _) hk
    rw [p1];trivial
   .rw [hB.out k yE];trivial
  .rw [hob k,hB.out k yE]
 have hM:MOk P J JF W tt:=⟨htt,fun w' hb=>hJ.below q w w' hj (fun x hx=>(hqJ x hx).1) hb.os hb.tape hb.output hb.size (fun k hk hx=>hb.block k hk hx),fun b hb=>hJ.new w b hj hb,fun x hx=>(hqJ x hx).1⟩
 refine ZaG (W:=W) hM hmix (.inl rfl) c hok (Zp2 tt fn.results.toList fun st r ks=>wkR r res) _ ?_ _ (ZoI gv args) _ w hI0 (fun k hk h0=>by
  have:(ZoI gv args).n=hi:=ha3
  omega) (by simp;omega) hh
 intro ex U' st' a' w' hI' _ _ hK
 have fin:(match Zb5 tt st' fn.results.toList with|some x=>x.2.Nodup/\wkR x.1 res|none=>False)->a'.defers=[]/\∃v,(results fn a'.tmps).run P w'=.ok v w'/\∃u n rvs F',Ending.returned v=.returned u/\OPs w' 0 n res rvs F'/\Own w' 0 F'/\u=(if h:rvs.toArray.size=1 then rvs.toArray[0] else .tuple rvs.toArray)/\(∀x,z x->n x)/\(∀x,n x->z x\/q x\/w.heap.size<=x)/\(∀x∈F',x∈F\/w.heap.size<=x)/\Zyv q w w':=fun hK=>by
  split at hK
  .rename_i x hx
   obtain ⟨r,ks⟩:=x
   obtain ⟨hnd',hw⟩:=hK
   obtain ⟨g,hH,hS⟩:=hI'.ex
   obtain ⟨v,m,rvs,F',e0,e5,⟨e6,e6a,e6b⟩,e7,_,e8⟩:=Zuj (B:=0) htt hI' hH hS hx hnd' hw (fun _ _ _ _=>AI _) (fun _=>False) (fun _ h=>h.elim)
   have hbel:=hH.below
   refine ⟨hI'.defers,v,e5,v,m,rvs,F',rfl,e6,e6a,e6b,fun x hx=>e8 x (fun mb=>?_) (.inl (by rw [hH.gz];exact hx)),fun x hx=>?_,fun x mx=>?_,⟨hbel.os,hbel.tape,hbel.output,hbel.size,fun i hi hq=>hbel.block i hi hq⟩⟩
   .obtain ⟨j,_,mj⟩:=Zfj mb
    exact hH.nz mj (by rw [hH.gz];exact hx)
   .rcases e7 x hx with ⟨j,mj⟩|hZ
    .rcases hH.oy j x mj with h|h
     .exact .inr (.inr h)
     .exact .inr (.inl h)
    .exact .inl (by rw [hH.gz]at hZ;exact hZ)
   .obtain ⟨j,_,mj⟩:=Zfj (e0.subset mx)
    rcases (hH.plain j x mj).1 with h|h|h
    .exact .inr h
    .exact .inl (hqJ x h).2
    .exact .inl h
  .exact hK.elim
 cases ex with
 |normal=>exact fin hK
 |exit id=>exact hK.elim
 |ret=>exact fin hK
end
instance nwD:NW:=nw0
end
section
open Go.RowKit
def ZkN {α β:Type}(f:α->β->Bool):List α->List β->Bool
 | [],[]=>true
 |a::l,b::r=>f a b&&ZkN f l r
 |_,_=>false
theorem ZjA {α β:Type}{f:α->β->Bool}{R:α->β->Prop}(h:∀a b,f a b=true->R a b):∀{l:List α}{r:List β},ZkN f l r=true->ZD R l r
 | [],[],_=>trivial
 |a::l,b::r,hh=>by
  simp only[ZkN,AC]at hh
  exact ⟨h a b hh.1,ZjA h hh.2⟩
 | [],_::_,hh=>by simp [ZkN]at hh
 |_::_,[],hh=>by simp [ZkN]at hh
def ZxB (P:Program) (fi:FI) (f:Field):Bool:=
 f.offset==fi.off&&!(fi.size==0)&&match P.info? f.type,P.underlying f.type with
  |some j,some d=>j.size==fi.size&&(Zr8 d==fi.agg)
  |_,_=>false
def Zzu:Value->Bool
 |.slice none 0 0=>true
 |_=>false
def Zve (P:Program):List PK->List Field->Nat->Bool
 | [],[],_=>true
 | k :: ks, f :: fs, n => (f.name != "_") && (f.offset == n) && (match P.underlying f.type with | some d => ZdW k d | none => false) && Zve P ks fs (n + 1)
 |_,_,_=>false
theorem Zuh {P:Program}:∀{ks:List PK}{fs:List Field}{n:Nat},Zve P ks fs n=true->EqF P ks fs n
 | [],[],_,_=>trivial
 |k::ks,f::fs,n,h=>by
  simp only[Zve,AC,bne_iff_ne,beq_iff_eq]at h
  obtain ⟨⟨⟨h1,h2⟩,h3⟩,h4⟩:=h
  split at h3
  .rename_i d hd;exact ⟨h1,h2,⟨d,hd,h3⟩,Zuh h4⟩
  .simp at h3
 | [],_::_,_,h=>by simp [Zve]at h
 |_::_,[],_,h=>by simp [Zve]at h
def ZoL:Option TypeDesc->Bool
 |some (.struct _)=>true
 |_=>false
def ZzD (P:Program) (t:TypeId) (ks:List PK):Bool:=
 Nat.ble 4000 t&&ZoL (P.underlying (t - 4000))&&!(P.stoodInHeld (t - 4000))&&!(P.eqGuardType P.depth (t - 4000))&&Zve P ks (P.fieldsOf (t - 4000)).toList 0
theorem ZyE {P:Program}{t:TypeId}{ks:List PK}(h:ZzD P t ks=true):TOk P t (.eqs ks):=by
 simp only[ZzD,AC,Ac]at h
 obtain ⟨⟨⟨⟨h1,h2⟩,h3⟩,h4⟩,h5⟩:=h
 refine ⟨t - 4000,?_,?_,h3,h4,Zuh h5⟩
 .have:4000<=t:=AH h1
  exact (Nat.sub_add_cancel this).symm
 .unfold ZoL at h2
  split at h2
  .rename_i fs e
   unfold Program.fieldsOf
   rw [e]
  .simp at h2
def tOk (P:Program) (t:TypeId) (ti:TI):Bool:=
 match ti with
 |.eqs ks=>ZzD P t ks
 |_=>
 match P.underlying t,P.info? t with
 |some d,some i=>match ti with
  |.atom z=>ZhL d z&&i.size==1&&match i.zero with|some zv=>ZaV z zv|none=>false
  |.strct fs n z=>match d with
   |.struct fields=>i.size==n&&(match i.zero with|some (.agg zvs)=>ZkN ZaV z zvs.toList|_=>false)&&ZkN (ZxB P) fs fields.toList
   |_=>false
  |.slice e m bytes z=>match d with
   |.slice e'=>e==e'&&Nat.blt 0 m&&Nat.ble bytes 131072&&(match P.info? e with
     |some ie=>ie.size==m&&ie.bytes==bytes&&(match ie.zero with|some zv=>ZkN ZaV z zv.cells.toList|none=>false)
     |none=>false)&&z.length==m&&i.size==1&&(match i.zero with|some zv=>Zzu zv|none=>false)
   |_=>false
  |.map kk vk=>match d with
   |.map kt et=>(match P.underlying kt with|some dk=>ZdW kk dk|none=>false)&&(match P.underlying et with|some dv=>ZdW vk dv|none=>false)&&(match P.info? et with|some ie=>(match ie.zero with|some zv=>ZaV (Ze3 vk) zv|none=>false)|none=>false)
   |_=>false
  |.ifc=>match d with
   |.interface _=>true
   |_=>false
  |.eqs _=>false
 |_,_=>false
theorem Zyz {v:Value}(h:Zzu v=true):v=.slice none 0 0:=by
 unfold Zzu at h
 split at h
 .rfl
 .simp at h
theorem ZBG {P:Program}{t:TypeId}{ti:TI}(h:tOk P t ti=true):TOk P t ti:=by
 unfold tOk at h
 split at h
 .exact ZyE h
 split at h
 .rename_i d i hd hi
  cases ti with
  |eqs ks=>simp at h
  |ifc=>
   simp only at h
   split at h
   .exact ⟨_,hd⟩
   .simp at h
  |map kk vk=>
   simp only at h
   split at h
   .rename_i kt et
    simp only[AC]at h
    obtain ⟨⟨h1,h2⟩,h3⟩:=h
    split at h1
    .rename_i dk c
     split at h2
     .rename_i dv g
      split at h3
      .rename_i ie b
       split at h3
       .rename_i zv hz
        exact ⟨kt,et,dk,dv,ie,zv,hd,c,h1,g,h2,b,hz,h3⟩
       .simp at h3
      .simp at h3
     .simp at h2
    .simp at h1
   .simp at h
  |atom z=>
   simp only[AC,beq_iff_eq]at h
   obtain ⟨⟨h1,h2⟩,h3⟩:=h
   split at h3
   .rename_i zv hz;exact ⟨d,zv,i,hd,h1,hi,hz,h2,h3⟩
   .simp at h3
  |strct fs n z=>
   simp only at h
   split at h
   .rename_i a
    simp only[AC,beq_iff_eq]at h
    obtain ⟨⟨h1,h2⟩,h3⟩:=h
    split at h2
    .rename_i zvs hz
     refine ⟨a,i,zvs,hd,hi,h1,hz,ZjA (fun _ _ h=>h) h2,ZjA (fun fi f hf=>?_) h3⟩
     unfold ZxB at hf
     simp only[AC,beq_iff_eq,Ac,beq_eq_false_iff_ne]at hf
     obtain ⟨⟨f1,f2⟩,f3⟩:=hf
     split at f3
     .rename_i j d' hj k
      simp only[AC,beq_iff_eq]at f3
      exact ⟨f1,f2,j,d',hj,f3.1,k,f3.2⟩
     .simp at f3
    .simp at h2
   .simp at h
  |slice e m bytes z=>
   simp only at h
   split at h
   .rename_i e'
    simp only[AC,beq_iff_eq]at h
    obtain ⟨⟨⟨⟨⟨⟨h1,h2⟩,h3⟩,h4⟩,h5⟩,h6⟩,h7⟩:=h
    subst h1
    split at h4
    .rename_i ie b
     simp only[AC,beq_iff_eq]at h4
     obtain ⟨⟨k1,k2⟩,k3⟩:=h4
     split at k3
     .rename_i zv hz
      split at h7
      .rename_i zv' l
       exact ⟨hd,AH h2,AH h3,⟨ie,zv,b,k1,k2,hz,ZjA (fun _ _ h=>h) k3,h5⟩,i,hi,h6,by rw [l,Zyz h7]⟩
      .simp at h7
     .simp at k3
    .simp at h4
   .simp at h
 .simp at h
def ZwJ:List (Nat×TI)->Nat->Option TI
 | [],_=>none
 |p::r,t=>if p.1=t then some p.2 else ZwJ r t
theorem Zxy {P:Program}:∀(l:List (Nat×TI)),(l.all fun p=>tOk P p.1 p.2)=true->∀t i,ZwJ l t=some i->TOk P t i
 | [],_,t,i,h=>by simp [ZwJ]at h
 |p::r,ha,t,i,h=>by
  simp only[List.all_cons,AC]at ha
  simp only[ZwJ]at h
  split at h
  .rename_i e
   simp only[AA]at h
   subst h e
   exact ZBG ha.1
  .exact Zxy r ha.2 t i h
end
section
open Go.RowKit
def Zza (P:Program) (L:List (String×(Array Value->Prop))) (w:World):Prop:=∀x∈L,∃cs,w.var? P x.1=some cs/\x.2 cs
def Zy3 (P:Program) (L:List (String×(Array Value->Prop))) (b:Nat):Prop:=∀x∈L,¬P.globalNamed x.1=some b
theorem ZyU (P:Program) (L:List (String×(Array Value->Prop))):JOk (Zza P L) (Zy3 P L) where
 below:=fun x w w' hj hx _ _ _ hs hb y my=>by
  obtain ⟨cs,h1,h2⟩:=hj y my
  refine ⟨cs,?_,h2⟩
  unfold World.var? at h1 ⊢
  obtain ⟨g,hg,h1⟩:=AG.1 h1
  rw [hg,AU]
  have a:g<w.heap.size:=by
   rcases Ae g w.heap.size with h|h
   .exact h
   .rw [Ag h]at h1;simp at h1
  rw [hb g a (fun h=>hx g h y my hg)]
  exact h1
 new:=fun w b hj hb y my hg=>by
  obtain ⟨cs,h1,_⟩:=hj y my
  unfold World.var? at h1
  rw [hg,AU,Ag hb]at h1
  simp at h1
theorem Zce {J:World->Prop}{JF:Nat->Prop}(h:JOk J JF) {w w':World}(hj:J w) (hb:Below w.heap.size w w'):J w':=
 h.below (fun _=>False) w w' hj (fun _ h=>h.elim) hb.os hb.tape hb.output hb.size fun k hk _=>hb.block k hk
theorem Zqc {w:World}{B:Nat}{n:Nat->Prop}{ct:CT}{v:Value}(h:OC w B n (false,ct) v []):ZiY w B n [(false,[(false,ct)])] v:=
 ⟨[v],[],⟨v,[],[],[],rfl,rfl,.inr ⟨rfl,_,rfl,h⟩,rfl,rfl⟩,Own.nil _ _,yG⟩
theorem ZpW {w:World}{B:Nat}{n:Nat->Prop}{c1 c2:CT}{v1 v2:Value}(h1:OC w B n (false,c1) v1 []) (h2:OC w B n (false,c2) v2 []):ZiY w B n [(false,[(false,c1)]),(false,[(false,c2)])] (.tuple #[v1,v2]):=
 ⟨[v1,v2],[],⟨v1,[v2],[],[],rfl,rfl,.inr ⟨rfl,_,rfl,h1⟩,v2,[],[],[],rfl,rfl,.inr ⟨rfl,_,rfl,h2⟩,rfl,rfl⟩,Own.nil _ _,yG⟩
theorem Zt2 {w:World}{z:Nat->Prop}{c:CT}{v:Value}(h:ZhI w z (false,[c]) v):∃L,RC w c v L:=by
 rcases h with ⟨h,_⟩|⟨_,ct,L,h,hr,_⟩
 .simp at h
 .simp only[Aa,and_true]at h
  subst h
  exact ⟨L,hr⟩
theorem ZmJ {w:World}{z:Nat->Prop}{c:CT}{vs:List Value}(h:ZD (ZhI w z) [(false,[c])] vs):∃v L,vs=[v]/\RC w c v L:=by
 cases vs with
 |nil=>exact h.elim
 |cons v r=>
  cases r with
  |nil=>obtain ⟨L,hr⟩:=Zt2 h.1;exact ⟨v,L,rfl,hr⟩
  |cons _ _=>exact h.2.elim
theorem ZwM {w:World}{z:Nat->Prop}{c d:CT}{vs:List Value}(h:ZD (ZhI w z) [(false,[c]),(false,[d])] vs):∃v u L M,vs=[v,u]/\RC w c v L/\RC w d u M:=by
 cases vs with
 |nil=>exact h.elim
 |cons v r=>
  obtain ⟨u,M,rfl,hu⟩:=ZmJ h.2
  obtain ⟨L,hr⟩:=Zt2 h.1
  exact ⟨v,u,L,M,rfl,hr,hu⟩
end
section
open Go.RowKit
def ttL:List (Nat×TI):=[
 (2,.atom (.c (.int .i64 0))),
 (3,.atom (.c (.int .i64 0))),
 (4,.atom (.c (.bool false))),
 (5,.atom (.c (.int .u8 0))),
 (9,.atom (.c (.str ⟨#[]⟩))),
 (12,.atom (.c (.int .u64 0))),
 (14,.strct [⟨0,1,false⟩,⟨1,1,false⟩] 2 [.c (.str ⟨#[]⟩),.c (.int .u64 0)]),
 (20,.ifc),
 (21,.atom (.c (.int .i32 0))),
 (22,.slice 139 4 72 [.c (.str ⟨#[]⟩),.c (.int .i64 0),.nil 155 5,.nil 235 3]),
 (23,.slice 143 3 48 [.c (.str ⟨#[]⟩),.nil 9 1,.c (.int .i64 0)]),
 (24,.slice 145 2 40 [.c (.str ⟨#[]⟩),.nil 3 1]),
 (25,.slice 148 4 64 [.c (.int .i64 0),.c (.str ⟨#[]⟩),.c (.str ⟨#[]⟩),.nil 9 1]),
 (27,.strct [⟨0,1,false⟩,⟨1,1,false⟩,⟨2,1,false⟩,⟨3,1,false⟩,⟨4,1,false⟩,⟨5,1,false⟩] 6 [.nil 139 4,.nil 143 3,.c (.int .i64 0),.nil 145 2,.c (.bool false),.nil 148 4]),
 (28,.slice 3 1 8 [.c (.int .i64 0)]),
 (29,.slice 152 3 64 [.c (.str ⟨#[]⟩),.nil 9 1,.nil 141 2]),
 (30,.slice 158 8 120 [.c (.int .i64 0),.c (.int .i64 0),.c (.str ⟨#[]⟩),.nil 9 1,.c (.str ⟨#[]⟩),.c (.str ⟨#[]⟩),.c (.int .i64 0),.nil 239 2]),
 (31,.slice 141 2 40 [.c (.str ⟨#[]⟩),.nil 9 1]),
 (33,.strct [⟨0,1,false⟩,⟨1,1,false⟩,⟨2,1,false⟩,⟨3,1,false⟩,⟨4,1,false⟩,⟨5,1,false⟩] 6 [.nil 139 4,.nil 3 1,.nil 152 3,.nil 158 8,.nil 141 2,.c (.int .i64 0)]),
 (35,.strct [⟨0,6,true⟩,⟨6,6,true⟩] 12 [.nil 139 4,.nil 143 3,.c (.int .i64 0),.nil 145 2,.c (.bool false),.nil 148 4,.nil 139 4,.nil 3 1,.nil 152 3,.nil 158 8,.nil 141 2,.c (.int .i64 0)]),
 (38,.slice 64 4 72 [.c (.str ⟨#[]⟩),.c (.int .i64 0),.nil 107 5,.nil 117 3]),
 (39,.slice 85 3 48 [.c (.str ⟨#[]⟩),.nil 9 1,.c (.int .i64 0)]),
 (40,.slice 88 2 40 [.c (.str ⟨#[]⟩),.nil 3 1]),
 (41,.slice 97 4 64 [.c (.int .i64 0),.c (.str ⟨#[]⟩),.c (.str ⟨#[]⟩),.nil 9 1]),
 (43,.strct [⟨0,1,false⟩,⟨1,1,false⟩,⟨2,1,false⟩,⟨3,1,false⟩,⟨4,1,false⟩,⟨5,1,false⟩] 6 [.nil 64 4,.nil 85 3,.c (.int .i64 0),.nil 88 2,.c (.bool false),.nil 97 4]),
 (44,.slice 103 3 64 [.c (.str ⟨#[]⟩),.nil 9 1,.nil 83 2]),
 (45,.slice 110 8 120 [.c (.int .i64 0),.c (.int .i64 0),.c (.str ⟨#[]⟩),.nil 9 1,.c (.str ⟨#[]⟩),.c (.str ⟨#[]⟩),.c (.int .i64 0),.nil 167 2]),
 (46,.slice 83 2 40 [.c (.str ⟨#[]⟩),.nil 9 1]),
 (48,.strct [⟨0,1,false⟩,⟨1,1,false⟩,⟨2,1,false⟩,⟨3,1,false⟩,⟨4,1,false⟩,⟨5,1,false⟩] 6 [.nil 64 4,.nil 3 1,.nil 103 3,.nil 110 8,.nil 83 2,.c (.int .i64 0)]),
 (50,.strct [⟨0,6,true⟩,⟨6,6,true⟩] 12 [.nil 64 4,.nil 85 3,.c (.int .i64 0),.nil 88 2,.c (.bool false),.nil 97 4,.nil 64 4,.nil 3 1,.nil 103 3,.nil 110 8,.nil 83 2,.c (.int .i64 0)]),
 (61,.slice 107 5 80 [.c (.int .i64 0),.c (.str ⟨#[]⟩),.nil 9 1,.c (.str ⟨#[]⟩),.c (.str ⟨#[]⟩)]),
 (62,.slice 117 3 48 [.c (.int .i64 0),.c (.str ⟨#[]⟩),.nil 9 1]),
 (64,.strct [⟨0,1,false⟩,⟨1,1,false⟩,⟨2,1,false⟩,⟨3,1,false⟩] 4 [.c (.str ⟨#[]⟩),.c (.int .i64 0),.nil 107 5,.nil 117 3]),
 (81,.slice 9 1 16 [.c (.str ⟨#[]⟩)]),
 (83,.strct [⟨0,1,false⟩,⟨1,1,false⟩] 2 [.c (.str ⟨#[]⟩),.nil 9 1]),
 (85,.strct [⟨0,2,true⟩,⟨2,1,false⟩] 3 [.c (.str ⟨#[]⟩),.nil 9 1,.c (.int .i64 0)]),
 (88,.strct [⟨0,1,false⟩,⟨1,1,false⟩] 2 [.c (.str ⟨#[]⟩),.nil 3 1]),
 (90,.slice 218 2 32 [.c (.str ⟨#[]⟩),.c (.str ⟨#[]⟩)]),
 (92,.strct [⟨0,1,false⟩,⟨1,1,false⟩,⟨2,1,false⟩] 3 [.c (.str ⟨#[]⟩),.nil 83 2,.nil 218 2]),
 (94,.strct [⟨0,3,true⟩,⟨3,1,false⟩,⟨4,1,false⟩,⟨5,1,false⟩,⟨6,1,false⟩] 7 [.c (.str ⟨#[]⟩),.nil 83 2,.nil 218 2,.c (.int .i64 0),.nil 3 1,.c (.int .i64 0),.c (.int .i64 0)]),
 (97,.strct [⟨0,1,false⟩,⟨1,1,false⟩,⟨2,2,true⟩] 4 [.c (.int .i64 0),.c (.str ⟨#[]⟩),.c (.str ⟨#[]⟩),.nil 9 1]),
 (101,.strct [⟨0,1,false⟩,⟨1,1,false⟩] 2 [.c (.str ⟨#[]⟩),.nil 9 1]),
 (103,.strct [⟨0,2,true⟩,⟨2,1,false⟩] 3 [.c (.str ⟨#[]⟩),.nil 9 1,.nil 83 2]),
 (107,.strct [⟨0,1,false⟩,⟨1,2,true⟩,⟨3,1,false⟩,⟨4,1,false⟩] 5 [.c (.int .i64 0),.c (.str ⟨#[]⟩),.nil 9 1,.c (.str ⟨#[]⟩),.c (.str ⟨#[]⟩)]),
 (108,.slice 167 2 48 [.nil 83 2,.nil 218 2]),
 (110,.strct [⟨0,1,false⟩,⟨1,5,true⟩,⟨6,1,false⟩,⟨7,1,false⟩] 8 [.c (.int .i64 0),.c (.int .i64 0),.c (.str ⟨#[]⟩),.nil 9 1,.c (.str ⟨#[]⟩),.c (.str ⟨#[]⟩),.c (.int .i64 0),.nil 167 2]),
 (117,.strct [⟨0,1,false⟩,⟨1,2,true⟩] 3 [.c (.int .i64 0),.c (.str ⟨#[]⟩),.nil 9 1]),
 (136,.slice 155 5 80 [.c (.int .i64 0),.c (.str ⟨#[]⟩),.nil 9 1,.c (.str ⟨#[]⟩),.c (.str ⟨#[]⟩)]),
 (137,.slice 235 3 48 [.c (.int .i64 0),.c (.str ⟨#[]⟩),.nil 9 1]),
 (139,.strct [⟨0,1,false⟩,⟨1,1,false⟩,⟨2,1,false⟩,⟨3,1,false⟩] 4 [.c (.str ⟨#[]⟩),.c (.int .i64 0),.nil 155 5,.nil 235 3]),
 (141,.strct [⟨0,1,false⟩,⟨1,1,false⟩] 2 [.c (.str ⟨#[]⟩),.nil 9 1]),
 (143,.strct [⟨0,2,true⟩,⟨2,1,false⟩] 3 [.c (.str ⟨#[]⟩),.nil 9 1,.c (.int .i64 0)]),
 (145,.strct [⟨0,1,false⟩,⟨1,1,false⟩] 2 [.c (.str ⟨#[]⟩),.nil 3 1]),
 (148,.strct [⟨0,1,false⟩,⟨1,1,false⟩,⟨2,2,true⟩] 4 [.c (.int .i64 0),.c (.str ⟨#[]⟩),.c (.str ⟨#[]⟩),.nil 9 1]),
 (150,.strct [⟨0,1,false⟩,⟨1,1,false⟩] 2 [.c (.str ⟨#[]⟩),.nil 9 1]),
 (152,.strct [⟨0,2,true⟩,⟨2,1,false⟩] 3 [.c (.str ⟨#[]⟩),.nil 9 1,.nil 141 2]),
 (155,.strct [⟨0,1,false⟩,⟨1,2,true⟩,⟨3,1,false⟩,⟨4,1,false⟩] 5 [.c (.int .i64 0),.c (.str ⟨#[]⟩),.nil 9 1,.c (.str ⟨#[]⟩),.c (.str ⟨#[]⟩)]),
 (156,.slice 239 2 48 [.nil 141 2,.nil 265 2]),
 (158,.strct [⟨0,1,false⟩,⟨1,5,true⟩,⟨6,1,false⟩,⟨7,1,false⟩] 8 [.c (.int .i64 0),.c (.int .i64 0),.c (.str ⟨#[]⟩),.nil 9 1,.c (.str ⟨#[]⟩),.c (.str ⟨#[]⟩),.c (.int .i64 0),.nil 239 2]),
 (167,.strct [⟨0,1,false⟩,⟨1,1,false⟩] 2 [.nil 83 2,.nil 218 2]),
 (186,.map (.int .i64) .bool),
 (218,.strct [⟨0,1,false⟩,⟨1,1,false⟩] 2 [.c (.str ⟨#[]⟩),.c (.str ⟨#[]⟩)]),
 (235,.strct [⟨0,1,false⟩,⟨1,2,true⟩] 3 [.c (.int .i64 0),.c (.str ⟨#[]⟩),.nil 9 1]),
 (237,.slice 265 2 32 [.c (.str ⟨#[]⟩),.c (.str ⟨#[]⟩)]),
 (239,.strct [⟨0,1,false⟩,⟨1,1,false⟩] 2 [.nil 141 2,.nil 265 2]),
 (258,.ifc),
 (259,.ifc),
 (265,.strct [⟨0,1,false⟩,⟨1,1,false⟩] 2 [.c (.str ⟨#[]⟩),.c (.str ⟨#[]⟩)]),
 (266,.slice 5 1 1 [.c (.int .u8 0)]),
 (270,.atom (.c (.int .u64 0))),
 (272,.map .str .bool),
 (283,.atom (.c (.int .u32 0))),
 (285,.atom (.c (.int .u64 0))),
 (312,.strct [⟨0,1,false⟩] 1 [.c (.str ⟨#[]⟩)]),
 (4218,.eqs [.str,.str])]
def tt (t:Nat):Option TI:=ZwJ ttL t
theorem htt:∀t i,tt t=some i->TOk prog t i:=Zxy ttL yO
theorem hmix:prog.follows .mixedOrders=true:=yO
def Zyn : List (String × (Array Value → Prop)) := [("internal/strconv.uint64pow10", fun cs => cs = (Lib.pow10Tab.map fun z => Value.int .u64 z).toArray), ("strconv.ErrSyntax", fun cs => ∃ tp p, cs = #[.iface tp p])]
def J0:World->Prop:=Zza prog Zyn
def JF0:Nat->Prop:=Zy3 prog Zyn
theorem hJ0:JOk J0 JF0:=ZyU _ _
theorem ZB4 (w : World) (h : J0 w) : Lib.TabIs prog w "internal/strconv.uint64pow10" .u64 Lib.pow10Tab := by
 obtain ⟨cs,h1,h2⟩:=h _ (List.mem_cons_self ..)
 rw [h2]at h1
 exact h1
theorem ZA2 (w : World) (h : J0 w) : ∃ tp p, w.var? prog "strconv.ErrSyntax" = some #[.iface tp p] := by
 obtain ⟨cs, h1, tp, p, h2⟩ := h ("strconv.ErrSyntax", fun cs => ∃ tp p, cs = #[.iface tp p]) (by simp [Zyn])
 rw [h2]at h1
 exact ⟨tp,p,h1⟩
def hdL:List (Nat×Nat):=[(92,5),(117,5),(146,6),(178,5),(195,7),(209,1),(215,6)]
def Zy6:List (Nat×Nat)->Nat->Nat
 | [],_=>0
 |p::r,f=>match Nat.beq p.1 f with|true=>p.2|false=>Zy6 r f
def hds (f:FuncId):Nat:=Zy6 hdL f
abbrev yQ(f:FuncId)(n:Nat):Prop:=(SC prog J0 JF0 hds).hd f=n
theorem yT{f:FuncId}{n:Nat}(h:(SC prog J0 JF0 hds).hd f=n:=by kernel_rfl):yQ f n:=h
theorem ZEs:yQ 5 0:=yT
theorem ZEf:yQ 7 0:=yT
theorem ZDF:yQ 11 0:=yT
theorem ZDj:yQ 12 0:=yT
theorem ZCf:yQ 13 0:=yT
theorem ZD5:yQ 14 0:=yT
theorem ZDV:yQ 15 0:=yT
theorem ZCE:yQ 18 0:=yT
theorem ZCA:yQ 19 0:=yT
theorem ZDc:yQ 20 0:=yT
theorem ZDq:yQ 21 0:=yT
theorem ZCv:yQ 22 0:=yT
theorem ZC1:yQ 33 0:=yT
theorem ZCZ:yQ 34 0:=yT
theorem ZDz:yQ 35 0:=yT
theorem ZCn:yQ 36 0:=yT
theorem ZDb:yQ 37 0:=yT
theorem ZCc:yQ 38 0:=yT
theorem ZDC:yQ 39 0:=yT
theorem ZCw:yQ 40 0:=yT
theorem ZCH:yQ 41 0:=yT
theorem ZCJ:yQ 42 0:=yT
theorem ZDP:yQ 43 0:=yT
theorem ZDL:yQ 44 0:=yT
theorem ZCe:yQ 45 0:=yT
theorem ZDU:yQ 46 0:=yT
theorem ZDY:yQ 47 0:=yT
theorem ZCG:yQ 48 0:=yT
theorem ZDw:yQ 49 0:=yT
theorem ZCT:yQ 58 0:=yT
theorem ZCq:yQ 59 0:=yT
theorem ZCa:yQ 60 0:=yT
theorem ZB8:yQ 61 0:=yT
theorem ZDT:yQ 62 0:=yT
theorem ZCy:yQ 63 0:=yT
theorem ZDd:yQ 64 0:=yT
theorem ZC5:yQ 65 0:=yT
theorem ZCF:yQ 66 0:=yT
theorem ZDe:yQ 67 0:=yT
theorem ZDk:yQ 68 0:=yT
theorem ZCi:yQ 84 0:=yT
theorem ZDA:yQ 85 0:=yT
theorem ZCd:yQ 86 0:=yT
theorem ZDJ:yQ 87 0:=yT
theorem ZDD:yQ 88 0:=yT
theorem ZDa:yQ 89 0:=yT
theorem ZC6:yQ 90 0:=yT
theorem ZD1:yQ 91 0:=yT
theorem ZCo:yQ 92 5:=yT
theorem ZCs:yQ 93 0:=yT
theorem ZDl:yQ 94 0:=yT
theorem ZDr:yQ 95 0:=yT
theorem ZCP:yQ 96 0:=yT
theorem ZDN:yQ 97 0:=yT
theorem ZDx:yQ 98 0:=yT
theorem ZCz:yQ 99 0:=yT
theorem ZAU:yQ 107 0:=yT
theorem ZzV:yQ 108 0:=yT
theorem ZBs:yQ 109 0:=yT
theorem ZBK:yQ 110 0:=yT
theorem ZBy:yQ 111 0:=yT
theorem Zz9:yQ 112 0:=yT
theorem ZzO:yQ 113 0:=yT
theorem ZAu:yQ 114 0:=yT
theorem ZzX:yQ 115 0:=yT
theorem ZBl:yQ 116 0:=yT
theorem ZzG:yQ 117 5:=yT
theorem ZAS:yQ 118 0:=yT
theorem ZzN:yQ 119 0:=yT
theorem ZB5:yQ 133 0:=yT
theorem ZBP:yQ 134 0:=yT
theorem Zze:yQ 135 0:=yT
theorem ZzH:yQ 136 0:=yT
theorem ZB6:yQ 137 0:=yT
theorem ZBt:yQ 138 0:=yT
theorem ZBz:yQ 139 0:=yT
theorem ZAG:yQ 140 0:=yT
theorem ZAI:yQ 141 0:=yT
theorem Zz7:yQ 142 0:=yT
theorem ZzC:yQ 143 0:=yT
theorem ZBd:yQ 144 0:=yT
theorem ZAy:yQ 145 0:=yT
theorem ZBE:yQ 146 6:=yT
theorem ZBo:yQ 147 0:=yT
theorem ZBV:yQ 148 0:=yT
theorem Zzx:yQ 149 0:=yT
theorem ZBC:yQ 150 0:=yT
theorem Zzr:yQ 151 0:=yT
theorem ZBI:yQ 152 0:=yT
theorem ZAM:yQ 153 0:=yT
theorem ZAB:yQ 154 0:=yT
theorem Zzj:yQ 155 0:=yT
theorem ZBx:yQ 156 0:=yT
theorem Zzi:yQ 163 0:=yT
theorem ZBw:yQ 164 0:=yT
theorem Zz4:yQ 165 0:=yT
theorem ZBN:yQ 166 0:=yT
theorem ZAQ:yQ 167 0:=yT
theorem ZAX:yQ 168 0:=yT
theorem ZAT:yQ 169 0:=yT
theorem Zz8:yQ 170 0:=yT
theorem ZBb:yQ 171 0:=yT
theorem ZBg:yQ 172 0:=yT
theorem ZAW:yQ 173 0:=yT
theorem ZzW:yQ 174 0:=yT
theorem ZAV:yQ 175 0:=yT
theorem ZzA:yQ 176 0:=yT
theorem ZAz:yQ 177 0:=yT
theorem ZzT:yQ 178 5:=yT
theorem ZBR:yQ 179 0:=yT
theorem Zzs:yQ 180 0:=yT
theorem ZzJ:yQ 181 0:=yT
theorem ZzL:yQ 182 0:=yT
theorem ZBf:yQ 191 0:=yT
theorem ZAe:yQ 192 0:=yT
theorem ZBS:yQ 193 0:=yT
theorem ZAh:yQ 194 0:=yT
theorem ZzP:yQ 195 7:=yT
theorem ZAO:yQ 196 0:=yT
theorem ZA5:yQ 197 0:=yT
theorem ZBU:yQ 198 0:=yT
theorem ZA3:yQ 199 0:=yT
theorem ZAg:yQ 200 0:=yT
theorem Zzp:yQ 203 0:=yT
theorem ZBe:yQ 204 0:=yT
theorem Zz5:yQ 205 0:=yT
theorem ZAt:yQ 206 0:=yT
theorem ZBq:yQ 207 0:=yT
theorem ZzZ:yQ 208 0:=yT
theorem Zzh:yQ 209 1:=yT
theorem ZzF:yQ 211 0:=yT
theorem ZB7:yQ 212 0:=yT
theorem ZB1:yQ 213 0:=yT
theorem ZBJ:yQ 214 0:=yT
theorem ZA4:yQ 215 6:=yT
theorem ZBn:yQ 216 0:=yT
theorem ZBQ:yQ 217 0:=yT
theorem ZAR:yQ 218 0:=yT
theorem Zzv:yQ 219 0:=yT
theorem ZB2:yQ 223 0:=yT
theorem ZzQ:yQ 224 0:=yT
theorem ZzB:yQ 226 0:=yT
theorem ZBM:yQ 229 0:=yT
theorem ZAd:yQ 230 0:=yT
theorem Zzn:yQ 231 0:=yT
theorem ZBX:yQ 232 0:=yT
theorem Zz2:yQ 233 0:=yT
theorem Zz1:yQ 234 0:=yT
theorem ZAs:yQ 235 0:=yT
theorem ZzM:yQ 236 0:=yT
theorem ZAD:yQ 237 0:=yT
theorem ZBB:yQ 238 0:=yT
theorem Zzf:yQ 246 0:=yT
theorem ZBD:yQ 247 0:=yT
theorem ZAx:yQ 248 0:=yT
theorem tt2:tt 2=some (.atom (.c (.int .i64 0))):=yi rfl
theorem tt3:tt 3=some (.atom (.c (.int .i64 0))):=yi rfl
theorem tt4:tt 4=some (.atom (.c (.bool false))):=yi rfl
theorem tt5:tt 5=some (.atom (.c (.int .u8 0))):=yi rfl
theorem tt9:tt 9=some (.atom (.c (.str ⟨#[]⟩))):=yi rfl
theorem ZET:tt 12=some (.atom (.c (.int .u64 0))):=yi rfl
theorem ZD8:tt 14=some (.strct [⟨0,1,false⟩,⟨1,1,false⟩] 2 [.c (.str ⟨#[]⟩),.c (.int .u64 0)]):=yi rfl
theorem ZEw:tt 20=some (.ifc):=yi rfl
theorem ZES:tt 21=some (.atom (.c (.int .i32 0))):=yi rfl
theorem ZEi:tt 22=some (.slice 139 4 72 [.c (.str ⟨#[]⟩),.c (.int .i64 0),.nil 155 5,.nil 235 3]):=yi rfl
theorem ZE8:tt 23=some (.slice 143 3 48 [.c (.str ⟨#[]⟩),.nil 9 1,.c (.int .i64 0)]):=yi rfl
theorem ZEJ:tt 24=some (.slice 145 2 40 [.c (.str ⟨#[]⟩),.nil 3 1]):=yi rfl
theorem ZEE:tt 25=some (.slice 148 4 64 [.c (.int .i64 0),.c (.str ⟨#[]⟩),.c (.str ⟨#[]⟩),.nil 9 1]):=yi rfl
theorem ZEH:tt 27=some (.strct [⟨0,1,false⟩,⟨1,1,false⟩,⟨2,1,false⟩,⟨3,1,false⟩,⟨4,1,false⟩,⟨5,1,false⟩] 6 [.nil 139 4,.nil 143 3,.c (.int .i64 0),.nil 145 2,.c (.bool false),.nil 148 4]):=yi rfl
theorem ZEg:tt 28=some (.slice 3 1 8 [.c (.int .i64 0)]):=yi rfl
theorem ZEx:tt 29=some (.slice 152 3 64 [.c (.str ⟨#[]⟩),.nil 9 1,.nil 141 2]):=yi rfl
theorem ZE5:tt 30=some (.slice 158 8 120 [.c (.int .i64 0),.c (.int .i64 0),.c (.str ⟨#[]⟩),.nil 9 1,.c (.str ⟨#[]⟩),.c (.str ⟨#[]⟩),.c (.int .i64 0),.nil 239 2]):=yi rfl
theorem ZEY:tt 31=some (.slice 141 2 40 [.c (.str ⟨#[]⟩),.nil 9 1]):=yi rfl
theorem ZEN:tt 33=some (.strct [⟨0,1,false⟩,⟨1,1,false⟩,⟨2,1,false⟩,⟨3,1,false⟩,⟨4,1,false⟩,⟨5,1,false⟩] 6 [.nil 139 4,.nil 3 1,.nil 152 3,.nil 158 8,.nil 141 2,.c (.int .i64 0)]):=yi rfl
theorem ZEz:tt 35=some (.strct [⟨0,6,true⟩,⟨6,6,true⟩] 12 [.nil 139 4,.nil 143 3,.c (.int .i64 0),.nil 145 2,.c (.bool false),.nil 148 4,.nil 139 4,.nil 3 1,.nil 152 3,.nil 158 8,.nil 141 2,.c (.int .i64 0)]):=yi rfl
theorem ZEy:tt 38=some (.slice 64 4 72 [.c (.str ⟨#[]⟩),.c (.int .i64 0),.nil 107 5,.nil 117 3]):=yi rfl
theorem ZEt:tt 39=some (.slice 85 3 48 [.c (.str ⟨#[]⟩),.nil 9 1,.c (.int .i64 0)]):=yi rfl
theorem ZEF:tt 40=some (.slice 88 2 40 [.c (.str ⟨#[]⟩),.nil 3 1]):=yi rfl
theorem ZEB:tt 41=some (.slice 97 4 64 [.c (.int .i64 0),.c (.str ⟨#[]⟩),.c (.str ⟨#[]⟩),.nil 9 1]):=yi rfl
theorem ZE0:tt 43=some (.strct [⟨0,1,false⟩,⟨1,1,false⟩,⟨2,1,false⟩,⟨3,1,false⟩,⟨4,1,false⟩,⟨5,1,false⟩] 6 [.nil 64 4,.nil 85 3,.c (.int .i64 0),.nil 88 2,.c (.bool false),.nil 97 4]):=yi rfl
theorem ZEb:tt 44=some (.slice 103 3 64 [.c (.str ⟨#[]⟩),.nil 9 1,.nil 83 2]):=yi rfl
theorem ZEW:tt 45=some (.slice 110 8 120 [.c (.int .i64 0),.c (.int .i64 0),.c (.str ⟨#[]⟩),.nil 9 1,.c (.str ⟨#[]⟩),.c (.str ⟨#[]⟩),.c (.int .i64 0),.nil 167 2]):=yi rfl
theorem ZEZ:tt 46=some (.slice 83 2 40 [.c (.str ⟨#[]⟩),.nil 9 1]):=yi rfl
theorem ZEe:tt 48=some (.strct [⟨0,1,false⟩,⟨1,1,false⟩,⟨2,1,false⟩,⟨3,1,false⟩,⟨4,1,false⟩,⟨5,1,false⟩] 6 [.nil 64 4,.nil 3 1,.nil 103 3,.nil 110 8,.nil 83 2,.c (.int .i64 0)]):=yi rfl
theorem ZEQ:tt 50=some (.strct [⟨0,6,true⟩,⟨6,6,true⟩] 12 [.nil 64 4,.nil 85 3,.c (.int .i64 0),.nil 88 2,.c (.bool false),.nil 97 4,.nil 64 4,.nil 3 1,.nil 103 3,.nil 110 8,.nil 83 2,.c (.int .i64 0)]):=yi rfl
theorem ZE3:tt 61=some (.slice 107 5 80 [.c (.int .i64 0),.c (.str ⟨#[]⟩),.nil 9 1,.c (.str ⟨#[]⟩),.c (.str ⟨#[]⟩)]):=yi rfl
theorem ZEK:tt 62=some (.slice 117 3 48 [.c (.int .i64 0),.c (.str ⟨#[]⟩),.nil 9 1]):=yi rfl
theorem ZEP:tt 64=some (.strct [⟨0,1,false⟩,⟨1,1,false⟩,⟨2,1,false⟩,⟨3,1,false⟩] 4 [.c (.str ⟨#[]⟩),.c (.int .i64 0),.nil 107 5,.nil 117 3]):=yi rfl
theorem ZEv:tt 81=some (.slice 9 1 16 [.c (.str ⟨#[]⟩)]):=yi rfl
theorem ZEp:tt 83=some (.strct [⟨0,1,false⟩,⟨1,1,false⟩] 2 [.c (.str ⟨#[]⟩),.nil 9 1]):=yi rfl
theorem ZEX:tt 85=some (.strct [⟨0,2,true⟩,⟨2,1,false⟩] 3 [.c (.str ⟨#[]⟩),.nil 9 1,.c (.int .i64 0)]):=yi rfl
theorem ZD6:tt 88=some (.strct [⟨0,1,false⟩,⟨1,1,false⟩] 2 [.c (.str ⟨#[]⟩),.nil 3 1]):=yi rfl
theorem ZEa:tt 90=some (.slice 218 2 32 [.c (.str ⟨#[]⟩),.c (.str ⟨#[]⟩)]):=yi rfl
theorem ZEc:tt 92=some (.strct [⟨0,1,false⟩,⟨1,1,false⟩,⟨2,1,false⟩] 3 [.c (.str ⟨#[]⟩),.nil 83 2,.nil 218 2]):=yi rfl
theorem ZEV:tt 94=some (.strct [⟨0,3,true⟩,⟨3,1,false⟩,⟨4,1,false⟩,⟨5,1,false⟩,⟨6,1,false⟩] 7 [.c (.str ⟨#[]⟩),.nil 83 2,.nil 218 2,.c (.int .i64 0),.nil 3 1,.c (.int .i64 0),.c (.int .i64 0)]):=yi rfl
theorem ZEr:tt 97=some (.strct [⟨0,1,false⟩,⟨1,1,false⟩,⟨2,2,true⟩] 4 [.c (.int .i64 0),.c (.str ⟨#[]⟩),.c (.str ⟨#[]⟩),.nil 9 1]):=yi rfl
theorem ZDs:tt 101=some (.strct [⟨0,1,false⟩,⟨1,1,false⟩] 2 [.c (.str ⟨#[]⟩),.nil 9 1]):=yi rfl
theorem ZCL:tt 103=some (.strct [⟨0,2,true⟩,⟨2,1,false⟩] 3 [.c (.str ⟨#[]⟩),.nil 9 1,.nil 83 2]):=yi rfl
theorem ZDy:tt 107=some (.strct [⟨0,1,false⟩,⟨1,2,true⟩,⟨3,1,false⟩,⟨4,1,false⟩] 5 [.c (.int .i64 0),.c (.str ⟨#[]⟩),.nil 9 1,.c (.str ⟨#[]⟩),.c (.str ⟨#[]⟩)]):=yi rfl
theorem ZDf:tt 108=some (.slice 167 2 48 [.nil 83 2,.nil 218 2]):=yi rfl
theorem ZC8:tt 110=some (.strct [⟨0,1,false⟩,⟨1,5,true⟩,⟨6,1,false⟩,⟨7,1,false⟩] 8 [.c (.int .i64 0),.c (.int .i64 0),.c (.str ⟨#[]⟩),.nil 9 1,.c (.str ⟨#[]⟩),.c (.str ⟨#[]⟩),.c (.int .i64 0),.nil 167 2]):=yi rfl
theorem ZDO:tt 117=some (.strct [⟨0,1,false⟩,⟨1,2,true⟩] 3 [.c (.int .i64 0),.c (.str ⟨#[]⟩),.nil 9 1]):=yi rfl
theorem ZC7:tt 136=some (.slice 155 5 80 [.c (.int .i64 0),.c (.str ⟨#[]⟩),.nil 9 1,.c (.str ⟨#[]⟩),.c (.str ⟨#[]⟩)]):=yi rfl
theorem ZDm:tt 137=some (.slice 235 3 48 [.c (.int .i64 0),.c (.str ⟨#[]⟩),.nil 9 1]):=yi rfl
theorem ZCO:tt 139=some (.strct [⟨0,1,false⟩,⟨1,1,false⟩,⟨2,1,false⟩,⟨3,1,false⟩] 4 [.c (.str ⟨#[]⟩),.c (.int .i64 0),.nil 155 5,.nil 235 3]):=yi rfl
theorem ZCD:tt 141=some (.strct [⟨0,1,false⟩,⟨1,1,false⟩] 2 [.c (.str ⟨#[]⟩),.nil 9 1]):=yi rfl
theorem ZC2:tt 143=some (.strct [⟨0,2,true⟩,⟨2,1,false⟩] 3 [.c (.str ⟨#[]⟩),.nil 9 1,.c (.int .i64 0)]):=yi rfl
theorem ZDX:tt 145=some (.strct [⟨0,1,false⟩,⟨1,1,false⟩] 2 [.c (.str ⟨#[]⟩),.nil 3 1]):=yi rfl
theorem ZCI:tt 148=some (.strct [⟨0,1,false⟩,⟨1,1,false⟩,⟨2,2,true⟩] 4 [.c (.int .i64 0),.c (.str ⟨#[]⟩),.c (.str ⟨#[]⟩),.nil 9 1]):=yi rfl
theorem ZDG:tt 150=some (.strct [⟨0,1,false⟩,⟨1,1,false⟩] 2 [.c (.str ⟨#[]⟩),.nil 9 1]):=yi rfl
theorem ZDE:tt 152=some (.strct [⟨0,2,true⟩,⟨2,1,false⟩] 3 [.c (.str ⟨#[]⟩),.nil 9 1,.nil 141 2]):=yi rfl
theorem ZB9:tt 155=some (.strct [⟨0,1,false⟩,⟨1,2,true⟩,⟨3,1,false⟩,⟨4,1,false⟩] 5 [.c (.int .i64 0),.c (.str ⟨#[]⟩),.nil 9 1,.c (.str ⟨#[]⟩),.c (.str ⟨#[]⟩)]):=yi rfl
theorem ZCm:tt 156=some (.slice 239 2 48 [.nil 141 2,.nil 265 2]):=yi rfl
theorem ZC3:tt 158=some (.strct [⟨0,1,false⟩,⟨1,5,true⟩,⟨6,1,false⟩,⟨7,1,false⟩] 8 [.c (.int .i64 0),.c (.int .i64 0),.c (.str ⟨#[]⟩),.nil 9 1,.c (.str ⟨#[]⟩),.c (.str ⟨#[]⟩),.c (.int .i64 0),.nil 239 2]):=yi rfl
theorem ZCV:tt 167=some (.strct [⟨0,1,false⟩,⟨1,1,false⟩] 2 [.nil 83 2,.nil 218 2]):=yi rfl
theorem ZDi:tt 186=some (.map (.int .i64) .bool):=yi rfl
theorem ZC0:tt 218=some (.strct [⟨0,1,false⟩,⟨1,1,false⟩] 2 [.c (.str ⟨#[]⟩),.c (.str ⟨#[]⟩)]):=yi rfl
theorem ZD3:tt 235=some (.strct [⟨0,1,false⟩,⟨1,2,true⟩] 3 [.c (.int .i64 0),.c (.str ⟨#[]⟩),.nil 9 1]):=yi rfl
theorem ZCl:tt 237=some (.slice 265 2 32 [.c (.str ⟨#[]⟩),.c (.str ⟨#[]⟩)]):=yi rfl
theorem ZDH:tt 239=some (.strct [⟨0,1,false⟩,⟨1,1,false⟩] 2 [.nil 141 2,.nil 265 2]):=yi rfl
theorem ZD0:tt 258=some (.ifc):=yi rfl
theorem ZCt:tt 259=some (.ifc):=yi rfl
theorem ZC4:tt 265=some (.strct [⟨0,1,false⟩,⟨1,1,false⟩] 2 [.c (.str ⟨#[]⟩),.c (.str ⟨#[]⟩)]):=yi rfl
theorem ZD4:tt 266=some (.slice 5 1 1 [.c (.int .u8 0)]):=yi rfl
theorem ZCp:tt 270=some (.atom (.c (.int .u64 0))):=yi rfl
theorem ZDS:tt 272=some (.map .str .bool):=yi rfl
theorem ZCK:tt 283=some (.atom (.c (.int .u32 0))):=yi rfl
theorem ZDR:tt 285=some (.atom (.c (.int .u64 0))):=yi rfl
theorem ZDn:tt 312=some (.strct [⟨0,1,false⟩] 1 [.c (.str ⟨#[]⟩)]):=yi rfl
theorem ZAp:tt 4218=some (.eqs [.str,.str]):=yi rfl
theorem fnk {f : FuncId} {fn : Func} {c : Code} {args : List (Bool × List CT)} {res : List RT} (hf : prog.funcs[f]? = some fn) (hb : fn.body = some c) (h : fnS (fun _ => none) tt (SC prog J0 JF0 hds) fn.results.toList c args res) (hname : (fn.name == "runtime.NumGoroutine") = false := by kernel_rfl) (hok : XH (fun _ => none) tt hds false fn.ntmps c = true := by kernel_rfl) (hlen : Nat.ble args.length fn.ntmps = true := by kernel_rfl) : Zm prog J0 f args res := Zrh htt hJ0 hmix hf hname hb hok hlen h
theorem fno {f : FuncId} {fn : Func} {c : Code} {t : Nat} {cs cs' : List (Bool × CT)} {gv : Option (Bool × List (Bool × CT))} {args : List (Bool × List CT)} {res : List RT} (hf : prog.funcs[f]? = some fn) (hb : fn.body = some c) (hh : fnO (fun _ => none) tt (SC prog J0 JF0 hds) fn.results.toList c t cs gv args res cs') (hname : (fn.name == "runtime.NumGoroutine") = false := by kernel_rfl) (hok : XH (fun _ => none) tt hds true fn.ntmps c = true := by kernel_rfl) (hlen : Nat.blt (args.length + gvN gv) fn.ntmps = true := by kernel_rfl) : Zf4 prog J0 JF0 f t cs gv args res cs' := ZuD htt hJ0 hmix hf hname hb hok hlen hh
theorem fng {f : FuncId} {fn : Func} {c : Code} {gv : Bool × List (Bool × CT)} {args : List (Bool × List CT)} {res : List RT} (hf : prog.funcs[f]? = some fn) (hb : fn.body = some c) (hh : fnG (fun _ => none) tt (SC prog J0 JF0 hds) fn.results.toList c gv args res) (hname : (fn.name == "runtime.NumGoroutine") = false := by kernel_rfl) (hok : XH (fun _ => none) tt hds false fn.ntmps c = true := by kernel_rfl) (hlen : Nat.blt args.length fn.ntmps = true := by kernel_rfl) : Zo2 prog J0 JF0 f gv args res := Zva htt hJ0 hmix hf hname hb hok hlen hh
theorem ZEL (m : List (Nat × List Nat × Bool)) {f : FuncId} {fn : Func} {c : Code} {args : List (Bool × List CT)} {res : List RT} (hf : prog.funcs[f]? = some fn) (hb : fn.body = some c) (h : fnS (ZrS m) tt (SC prog J0 JF0 hds) fn.results.toList c args res) (hname : (fn.name == "runtime.NumGoroutine") = false := by kernel_rfl) (hok : XH (ZrS m) tt hds false fn.ntmps c = true := by kernel_rfl) (hlen : Nat.ble args.length fn.ntmps = true := by kernel_rfl) : Zm prog J0 f args res := Zrh htt hJ0 hmix hf hname hb hok hlen h
def YD (x:Zj):List CT:=[.str x.rel,.sl 9 1 (A0 ZH x.args)]
theorem ZrU (x:Zj):YD x=[.str x.rel,.sl 9 1 (A0 ZH x.args)]:=yi rfl
def ZE (x:Zf):List CT:=[.int .i64 x.kind,.str x.pattern.rel,.sl 9 1 (A0 ZH x.pattern.args),.str x.left,.str x.right]
theorem Zv9 (x:Zf):ZE x=[.int .i64 x.kind,.str x.pattern.rel,.sl 9 1 (A0 ZH x.pattern.args),.str x.left,.str x.right]:=yi rfl
def ZQ (x:ZY):List CT:=[.int .i64 x.kind,.str x.pattern.rel,.sl 9 1 (A0 ZH x.pattern.args)]
theorem ZsL (x:ZY):ZQ x=[.int .i64 x.kind,.str x.pattern.rel,.sl 9 1 (A0 ZH x.pattern.args)]:=yi rfl
def Zy (x:Zl):List CT:=[.str x.name,.int .i64 x.priority,.sl 107 5 (A0 ZE x.cond),.sl 117 3 (A0 ZQ x.thn)]
theorem ZvP (x:Zl):Zy x=[.str x.name,.int .i64 x.priority,.sl 107 5 (A0 ZE x.cond),.sl 117 3 (A0 ZQ x.thn)]:=yi rfl
def Zw (x:Zk):List CT:=[.str x.rel,.sl 9 1 (A0 ZH x.args)]
theorem Zwi (x:Zk):Zw x=[.str x.rel,.sl 9 1 (A0 ZH x.args)]:=yi rfl
def YF (x:Z2):List CT:=[.str x.fact.rel,.sl 9 1 (A0 ZH x.fact.args),.int .i64 x.time]
theorem Zvt (x:Z2):YF x=[.str x.fact.rel,.sl 9 1 (A0 ZH x.fact.args),.int .i64 x.time]:=yi rfl
def Yu (x:ZX):List CT:=[.str x.rule,.sl 3 1 (A0 Z8 x.times)]
theorem Zs7 (x:ZX):Yu x=[.str x.rule,.sl 3 1 (A0 Z8 x.times)]:=yi rfl
def Qh (x:Y3):List CT:=[.int .i64 x.kind,.str x.rule,.str x.fact.rel,.sl 9 1 (A0 ZH x.fact.args)]
theorem ZuV (x:Y3):Qh x=[.int .i64 x.kind,.str x.rule,.str x.fact.rel,.sl 9 1 (A0 ZH x.fact.args)]:=yi rfl
def ZjL (x:Yq):List CT:=[.sl 64 4 (A0 Zy x.rules),.sl 85 3 (A0 YF x.memory),.int .i64 x.clock,.sl 88 2 (A0 Yu x.fired),.bool x.halted,.sl 97 4 (A0 Qh x.log)]
theorem Ztf (x:Yq):ZjL x=[.sl 64 4 (A0 Zy x.rules),.sl 85 3 (A0 YF x.memory),.int .i64 x.clock,.sl 88 2 (A0 Yu x.fired),.bool x.halted,.sl 97 4 (A0 Qh x.log)]:=yi rfl
def Z0 (x:Z7):List CT:=[.str x.shape.rel,.sl 9 1 (A0 ZH x.shape.args),.sl 83 2 (A0 Zw x.facts)]
theorem Zuu (x:Z7):Z0 x=[.str x.shape.rel,.sl 9 1 (A0 ZH x.shape.args),.sl 83 2 (A0 Zw x.facts)]:=yi rfl
def ZO (x:Zg):List CT:=[.str x.var,.str x.value]
theorem Zwf (x:Zg):ZO x=[.str x.var,.str x.value]:=yi rfl
theorem ZsR (l:List Zg):Zbj (l.map ZO)=true:=Zcq (fun _=>rfl) l
def Xv (x:Zs):List CT:=[.sl 83 2 (A0 Zw x.facts),.sl 218 2 (A0 ZO x.binding)]
theorem ZvG (x:Zs):Xv x=[.sl 83 2 (A0 Zw x.facts),.sl 218 2 (A0 ZO x.binding)]:=yi rfl
def Ym (x:ZL):List CT:=[.int .i64 x.parent,.int .i64 x.cond.kind,.str x.cond.pattern.rel,.sl 9 1 (A0 ZH x.cond.pattern.args),.str x.cond.left,.str x.cond.right,.int .i64 x.alpha,.sl 167 2 (A0 Xv x.tokens)]
theorem Zxz (x:ZL):Ym x=[.int .i64 x.parent,.int .i64 x.cond.kind,.str x.cond.pattern.rel,.sl 9 1 (A0 ZH x.cond.pattern.args),.str x.cond.left,.str x.cond.right,.int .i64 x.alpha,.sl 167 2 (A0 Xv x.tokens)]:=yi rfl
def ZbV (x:Ze):List CT:=[.sl 64 4 (A0 Zy x.rules),.sl 3 1 (A0 Z8 x.ends),.sl 103 3 (A0 Z0 x.alphas),.sl 110 8 (A0 Ym x.nodes),.sl 83 2 (A0 Zw x.facts),.int .i64 x.tries]
theorem Zr2 (x:Ze):ZbV x=[.sl 64 4 (A0 Zy x.rules),.sl 3 1 (A0 Z8 x.ends),.sl 103 3 (A0 Z0 x.alphas),.sl 110 8 (A0 Ym x.nodes),.sl 83 2 (A0 Zw x.facts),.int .i64 x.tries]:=yi rfl
def Zqs (x:ZaQ):List CT:=[.sl 64 4 (A0 Zy x.engine.rules),.sl 85 3 (A0 YF x.engine.memory),.int .i64 x.engine.clock,.sl 88 2 (A0 Yu x.engine.fired),.bool x.engine.halted,.sl 97 4 (A0 Qh x.engine.log),.sl 64 4 (A0 Zy x.network.rules),.sl 3 1 (A0 Z8 x.network.ends),.sl 103 3 (A0 Z0 x.network.alphas),.sl 110 8 (A0 Ym x.network.nodes),.sl 83 2 (A0 Zw x.network.facts),.int .i64 x.network.tries]
theorem ZvJ (x:ZaQ):Zqs x=[.sl 64 4 (A0 Zy x.engine.rules),.sl 85 3 (A0 YF x.engine.memory),.int .i64 x.engine.clock,.sl 88 2 (A0 Yu x.engine.fired),.bool x.engine.halted,.sl 97 4 (A0 Qh x.engine.log),.sl 64 4 (A0 Zy x.network.rules),.sl 3 1 (A0 Z8 x.network.ends),.sl 103 3 (A0 Z0 x.network.alphas),.sl 110 8 (A0 Ym x.network.nodes),.sl 83 2 (A0 Zw x.network.facts),.int .i64 x.network.tries]:=yi rfl
def ZAc (x:Zo6):List CT:=[.str x.rule,.sl 83 2 (A0 Zw x.facts),.sl 218 2 (A0 ZO x.binding)]
theorem Zvc (x:Zo6):ZAc x=[.str x.rule,.sl 83 2 (A0 Zw x.facts),.sl 218 2 (A0 ZO x.binding)]:=yi rfl
def ZtQ (x:Zht):List CT:=[.str x.mtch.rule,.sl 83 2 (A0 Zw x.mtch.facts),.sl 218 2 (A0 ZO x.mtch.binding),.int .i64 x.priority,.sl 3 1 (A0 Z8 x.times),.int .i64 x.specific,.int .i64 x.ordr]
theorem ZsN (x:Zht):ZtQ x=[.str x.mtch.rule,.sl 83 2 (A0 Zw x.mtch.facts),.sl 218 2 (A0 ZO x.mtch.binding),.int .i64 x.priority,.sl 3 1 (A0 Z8 x.times),.int .i64 x.specific,.int .i64 x.ordr]:=yi rfl
attribute [go_sem] tt2 tt3 tt4 tt5 tt9 ZET ZD8 ZEw ZES ZEi ZE8 ZEJ ZEE ZEH ZEg ZEx ZE5 ZEY ZEN ZEz ZEy ZEt ZEF ZEB ZE0 ZEb ZEW ZEZ ZEe ZEQ ZE3 ZEK ZEP ZEv ZEp ZEX ZD6 ZEa ZEc ZEV
attribute [go_sem] ZEr ZDs ZCL ZDy ZDf ZC8 ZDO ZC7 ZDm ZCO ZCD ZC2 ZDX ZCI ZDG ZDE ZB9 ZCm ZC3 ZCV ZDi ZC0 ZD3 ZCl ZDH ZD0 ZCt ZC4 ZD4 ZCp ZDS ZCK ZDR ZDn ZAp ZEs ZEf ZDF ZDj ZCf
attribute [go_sem] ZD5 ZDV ZCE ZCA ZDc ZDq ZCv ZC1 ZCZ ZDz ZCn ZDb ZCc ZDC ZCw ZCH ZCJ ZDP ZDL ZCe ZDU ZDY ZCG ZDw ZCT ZCq ZCa ZB8 ZDT ZCy ZDd ZC5 ZCF ZDe ZDk ZCi ZDA ZCd ZDJ ZDD
attribute [go_sem] ZDa ZC6 ZD1 ZCo ZCs ZDl ZDr ZCP ZDN ZDx ZCz ZAU ZzV ZBs ZBK ZBy Zz9 ZzO ZAu ZzX ZBl ZzG ZAS ZzN ZB5 ZBP Zze ZzH ZB6 ZBt ZBz ZAG ZAI Zz7 ZzC ZBd ZAy ZBE ZBo ZBV
attribute [go_sem] Zzx ZBC Zzr ZBI ZAM ZAB Zzj ZBx Zzi ZBw Zz4 ZBN ZAQ ZAX ZAT Zz8 ZBb ZBg ZAW ZzW ZAV ZzA ZAz ZzT ZBR Zzs ZzJ ZzL ZBf ZAe ZBS ZAh ZzP ZAO ZA5 ZBU ZA3 ZAg Zzp ZBe
attribute [go_sem] Zz5 ZAt ZBq ZzZ Zzh ZzF ZB7 ZB1 ZBJ ZA4 ZBn ZBQ ZAR Zzv ZB2 ZzQ ZzB ZBM ZAd Zzn ZBX Zz2 Zz1 ZAs ZzM ZAD ZBB Zzf ZBD ZAx ZrU Zv9 ZsL ZvP Zwi Zvt Zs7 ZuV Ztf Zuu
attribute [go_sem] ZsR Zwf ZvG Zxz Zr2 ZvJ Zvc ZsN
end
end Go.Proofs.YtcaokdmjlknmmaaGreatDoor
