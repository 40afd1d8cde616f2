/- Texts of this proof, joined: BDraw, BAny, BSound, BFn, BTok, Laid, DT. What each holds is said at its theorems. -/
import Derived.Test.YtfdjdgdipgfmeaaGreatDoorFollowLogQ4
import Derived.Orders
import Derived.Test.YtfdjdgdipgfmeaaGreatDoorFollowLogQ1
import Derived.Test.YtfdjdgdipgfmeaaGreatDoorFollowLogQ3
import GoSem.Claims
import Derived.Test.YtfdjdgdipgfmeaaGreatDoorFollowLogQ2
import Derived.Test.YtfdjdgdipgfmeaaGreatDoorProg
import Derived.Lib.LaidTab
import Derived.Lib.ItoaNum
open Array renaming replicate→AK,getD_eq_getD_getElem?→AL,getElem?_eq_none→Ad,getElem?_eq_some_iff→Ag,getElem?_setIfInBounds→Am,getElem?_setIfInBounds_ne→An,getElem?_append→Au
open Bool renaming and_eq_true→AA,or_eq_true→AI,not_eq_true'→AZ
open List renaming map→A9,mem_append→AC,mem_map→AD,mem_cons→AH,getElem?_eq_some_iff→AM,nodup_cons→AN,all_eq_true→AO,map_congr_left→AR,not_mem_nil→AT,nodup_append→AU,mem_of_getElem?→AW,range→AX,cons_append→Aa,mem_flatMap→Ae,set_getElem_self→Aj,mem_or_eq_of_mem_set→Ak,mem_filterMap→Al,getElem_mem→Aq,range_eq_range'→Ar,mapM_cons→As,toArray→At,size_toArray→Aw,mem_range'_1→Ax,mem_iff_getElem?→Ay,length_eq_one_iff→Az
open List.Sublist renaming append→Ai,refl→Ao
open List.cons renaming injEq→AY
open Nat renaming le_of_ble_eq_true→AF,zero_le→AG,le_refl→AJ,lt_or_ge→Ac
open Option renaming map_eq_some_iff→AB,bind_eq_some_iff→AE,map_none→AP,map_some→AQ,bind_some→AS,getD_some→Ah
open Option.some renaming injEq→A0
open Prod.mk renaming injEq→A6
open Go.Proofs.Tryz
set_option linter.unusedSimpArgs false
set_option linter.unusedVariables false
set_option maxRecDepth 1000000
set_option maxHeartbeats 4000000
namespace Go.Proofs.YtfdjdgdipgfmeaaGreatDoor
open Go.IntKind
noncomputable section
theorem yO{p:Prop}(h:p:=by kernel_rfl):p:=h
theorem yP{α:Type}{a:Option α}{b c:α}(h:a=some b)(e:b=c:=by kernel_rfl):a=some c:=h.trans (congrArg some e)
section
open Go.RowKit
def ZzU:Option TI->Bool
 |some (.slice _ _ _ z)=>z.all Zmm
 |_=>false
def cls (tt:Nat->Option TI) (hs:FuncId->Nat):Op->Nat
 |.move _=>0
 |.assign _=>0
 |.pick _ _ _=>0
 |.build _ _=>0
 |.nilCheck _=>0
 |.binOp _ _ _ _ _=>0
 |.unOp _ _ _=>0
 |.convert _ t _=>if Zd6 (tt t)=true then 1 else 0
 |.slice t _ lo hi _=>if Zd6 (tt t)=true then 0 else if lo.isSome&&hi.isNone then 4 else 3
 |.fieldAddr _ _ _=>0
 |.field _ _ _=>0
 |.index _ _ _=>0
 |.extract _ _=>0
 |.alloc _=>1
 |.box _ _=>1
 |.load _ _=>1
 |.makeMap _ _=>1
 |.lookup _ _ _ _=>1
 |.makeSlice _ _ _=>1
 |.indexAddr _ _ _=>1
 |.buildSlice t _ ps=>if ps.size=0\/ZzU (tt t)=true then 2 else 3
 |.call ⟨.builtin .len,_,_⟩=>1
 |.call ⟨.builtin .max,_,_⟩=>0
 |.call ⟨.builtin .min,_,_⟩=>0
 |.call ⟨.value (.func f),_,_⟩=>if hs f=0\/hs f=4 then 1 else 4
 |_=>4
section
variable {P:Program} {W:ZbW} {U:Nat->Prop} {key:Nat} {st st':St} {w w':World} {a:Act} {tt:Nat->Option TI} {S:Ctx} {Q:Exit->Act->World->Prop}
def Zbv (tt:Nat->Option TI) (S:Ctx) (key:Nat) (o:Oper) (st:St) (v:SV) (u:List (Nat×Ob)):Prop:=
 match XE o.op with
 |some c=>Za3 S c.1 (S.hd c.1) key st (evs tt st c.2.1 c.2.2) v u
 |none=>match Qk o.op with
  |some c=>∃fc,Zrs (st.sl c.1)=some fc/\S.hd fc.1=0/\Za3 S fc.1 0 key st (evs tt st c.2.1 c.2.2++fc.2.map ZmJ) v u
  |none=>opE tt key o st=some (v,u)
def opR (tt:Nat->Option TI) (S:Ctx) (all:List Oper) (key:Nat) (o:Oper) (st:St) (v:SV) (u:List (Nat×Ob)):Prop:=
 match Zb8 all o with
 |none=>Zbv tt S key o st v u
 |some (none,_)=>v=.und/\u=[]
 |some (some t,want)=>gK (st.sl t) want (Zbv tt S key o st v u) (v=.und/\u=[])
theorem Zwq [NW] {o:Oper}{K:St->Prop}:opS tt S key o K st↔∃v u,Zbv tt S key o st v u/\K ((st.put o.dst v).app u):=by
 cases hc:XE o.op with
 |some c=>
  simp only[opS,Zbv,hc];exact ZnL
 |none=>
  simp only[opS,Zbv,hc];cases hd:Qk o.op with
  |some c=>
   simp only;constructor
   .intro h;unfold YM at h;split at h
    .rename_i D a;obtain ⟨C,h⟩:=h;obtain ⟨v,u,B,A⟩:=ZnL.1 h;exact ⟨v,u,⟨D,a,C,B⟩,A⟩
    .exact h.elim
   .rintro ⟨v,u,⟨D,a,C,B⟩,A⟩;rw [a];exact ⟨C,ZnL.2 ⟨v,u,B,A⟩⟩
  |none=>
   simp only;constructor
   .intro h;unfold YM at h;split at h
    .rename_i r E;exact ⟨r.1,r.2,E,h⟩
    .exact h.elim
   .rintro ⟨v,u,B,A⟩;rw [B];exact A
theorem ZjN [NW] {all:List Oper}{o:Oper}{K:St->Prop}:opG tt S all key o K st↔∃v u,opR tt S all key o st v u/\K ((st.put o.dst v).app u):=by
 have a:K (st.put o.dst .und)↔∃v u,(v=SV.und/\u=[])/\K ((st.put o.dst v).app u):=by
  constructor
  .intro h;exact ⟨.und,[],⟨rfl,rfl⟩,h⟩
  .rintro ⟨v,u,⟨rfl,rfl⟩,h⟩;exact h
 cases hg:Zb8 all o with
 |none=>simp only[opG,opR,hg];exact Zwq
 |some q=>
  obtain ⟨q,b⟩:=q;cases q with
  |none=>simp only[opG,opR,hg];exact a
  |some t=>
   simp only[opG,opR,hg,gK];by_cases B:ZbE (st.sl t)=true
   .by_cases A:(Zak (st.sl t)==b)=true
    .simp only[B,A,if_true];exact Zwq
    .simp only[B,A,if_true,if_false];exact a
   .by_cases A:Zux (st.sl t)=true
    .simp only[B,A,if_true,if_false];exact a
    .simp only[B,A,if_false];simp
theorem Zfd [NW] {ts:List TypeId}{xs:List Operand}(h:∀x∈xs,∀t,st.ev tt t x=st'.ev tt t x):evs tt st ts xs=evs tt st' ts xs:=by
 unfold evs;refine AR fun p A=>h p.2 ?_ p.1;rw [<-Zhd ts xs];exact AD.2 ⟨p,A,rfl⟩
def Wk (st st':St) (U:Nat->Prop):Prop:=∀k,U k->st'.ob k=st.ob k\/st'.ob k=Yy (st.ob k)
theorem Wk.of (h:∀k,U k->st.ob k=st'.ob k):Wk st st' U:=fun k A=>.inl (h k A).symm
theorem ZiE (a:Wk st st' U):∀{xs:List AV},QK U xs->XF st xs=XF st' xs
 | [],_=>rfl
 |x::r,h=>by
  have A:Zdr st x=Zdr st' x:=by
   cases x with
   |row k=>
    simp only[Zdr];rcases a k (h (.row k) yG) with e|e
    .rw [e]
    .rw [e];cases st.ob k<;>rfl
   |_=>rfl
  have hr:=ZiE a (xs:=r) (fun y m=>h y (by simp [m]));simp only[XF,A,hr]
theorem Zf3 [NW] (a:Wk st st' U):∀{xs:List SV},(∀x∈xs,svU U x)->Z8 st xs=Z8 st' xs
 | [],_=>rfl
 |x::r,h=>by
  have A:ZeG st x=ZeG st' x:=by
   cases x with
   |p ag cs=>simp only[ZeG,ZiE a (h (.p ag cs) yG)]
   |_=>rfl
  have hr:=Zf3 a (xs:=r) (fun y m=>h y (by simp [m]));simp only[Z8,A,hr]
theorem ZvB (a:Wk st st' U) {t:Option TI}{x:SV}(A:svU U x):Zap st t x=Zap st' t x:=by
 cases x with
 |bp k off=>
  simp only[Zap];rcases a k A with e|e
  .rw [e]
  .rw [e];cases st.ob k<;>rfl
 |rp k m i off=>
  simp only[Zap];rcases a k A with e|e
  .rw [e]
  .rw [e];cases st.ob k<;>rfl
 |p ag cs=>cases ag with
  |true=>rfl
  |false=>cases cs with
   |nil=>rfl
   |cons y r=>cases r<;>cases y<;>first|rfl|(rename_i z;cases z<;>rfl)|(rename_i z _ _;cases z<;>rfl)
 |_=>rfl
theorem ZxA (a:Wk st st' U) {t:Option TI}{x:SV}(A:svU U x):Zqx st t x=Zqx st' t x:=by
 unfold Zqx;split<;>try rfl
 rename_i k;rcases a k (A (.row k) yG) with e|e
 .rw [e]
 .rw [e];cases st.ob k<;>rfl
theorem ZrN (a:Wk st st' U) {m:Nat}{x i:SV}(A:svU U x):Za1 st m x i=Za1 st' m x i:=by
 unfold Za1;split<;>try rfl
 rename_i k _ _;rcases a k (A (.row k) yG) with e|e
 .rw [e]
 .rw [e];cases st.ob k<;>rfl
theorem ZxG (a:st.ob=st'.ob) (x:SV):Zli st x=Zli st' x:=by
 unfold Zli;rw [a]
theorem ZoA [NW] (a:st.ob=st'.ob):∀xs:List SV,Zf9 st xs=Zf9 st' xs
 | []=>rfl
 |x::r=>by simp only[Zf9,ZxG a x,ZoA a r]
theorem Zu4 (a:Wk st st' U) {t:Option TI}{x i:SV}{ok:Bool}(A:svU U x):ZiS st t x i ok=ZiS st' t x i ok:=by
 unfold ZiS;split<;>try rfl
 rename_i k;rcases a k (A (.row k) yG) with e|e
 .rw [e]
 .rw [e];cases st.ob k<;>rfl
theorem Zvd (a:Wk st st' U) {x:SV}(A:svU U x):Zkn st x=Zkn st' x:=by
 unfold Zkn;split<;>try rfl
 rename_i k;rcases a k (A (.row k) yG) with e|e
 .rw [e]
 .rw [e];cases st.ob k<;>rfl
theorem Zvj [NW] (a:Wk st st' U) {s t:Nat}{x:SV}(A:svU U x):ZiN tt st s t x=ZiN tt st' s t x:=by
 unfold ZiN;rw [Zvd a A]
def Mk (st st':St) (U:Nat->Prop):Prop:=∀k,U k->st'.ob k=st.ob k\/st'.ob k=.gone
theorem ZmN (c:Mk st st' U):∀{xs:List AV}{r:List CT},QK U xs->XF st' xs=some r->XF st xs=some r
 | [],_,_,h=>h
 |x::xs,r,hu,h=>by
  simp only[XF]at h ⊢;obtain ⟨a,A,h⟩:=AE.1 h;obtain ⟨b,C,rfl⟩:=AB.1 h;have B:Zdr st x=some a:=by
   cases x with
   |row k=>
    simp only[Zdr]at A ⊢;rcases c k (hu (.row k) yG) with e|e
    .rwa [e]at A
    .rw [e]at A;simp at A
   |_=>exact A
  rw [B,AS,ZmN c (fun y m=>hu y (by simp [m])) C];rfl
theorem Zi0 [NW] (c:Mk st st' U):∀{xs:List SV}{r:List (Bool×List CT)},(∀x∈xs,svU U x)->Z8 st' xs=some r->Z8 st xs=some r
 | [],_,_,h=>h
 |x::xs,r,hu,h=>by
  simp only[Z8]at h ⊢;obtain ⟨a,A,h⟩:=AE.1 h;obtain ⟨b,D,rfl⟩:=AB.1 h;have B:ZeG st x=some a:=by
   cases x with
   |p ag cs=>
    simp only[ZeG]at A ⊢;obtain ⟨l,C,rfl⟩:=AB.1 A;rw [ZmN c (hu (.p ag cs) yG) C];rfl
   |_=>exact A
  rw [B,AS,Zi0 c (fun y m=>hu y (by simp [m])) D];rfl
theorem Zvz (a:Mk st st' U) {t:Option TI}{x r:SV}(A:svU U x) (h:Zap st' t x=some r):Zap st t x=some r:=by
 cases x with
 |bp k off=>
  simp only[Zap]at h ⊢;rcases a k A with e|e
  .rwa [e]at h
  .rw [e]at h;simp at h
 |rp k m i off=>
  simp only[Zap]at h ⊢;rcases a k A with e|e
  .rwa [e]at h
  .rw [e]at h;simp at h
 |p ag cs=>cases ag with
  |true=>exact h
  |false=>cases cs with
   |nil=>exact h
   |cons y r=>cases r<;>cases y<;>first|exact h|(rename_i z;cases z<;>exact h)|(rename_i z _ _;cases z<;>exact h)
 |_=>exact h
theorem ZxV (a:Mk st st' U) {t:Option TI}{x r:SV}(A:svU U x) (h:Zqx st' t x=some r):Zqx st t x=some r:=by
 unfold Zqx at h ⊢;split at h<;>try exact h
 rename_i k;rcases a k (A (.row k) yG) with e|e
 .rwa [e]at h
 .rw [e]at h;simp at h
theorem ZrJ (a:Mk st st' U) {m:Nat}{x i r:SV}(A:svU U x) (h:Za1 st' m x i=some r):Za1 st m x i=some r:=by
 unfold Za1 at h ⊢;split at h<;>try exact h
 rename_i k _ _;rcases a k (A (.row k) yG) with e|e
 .rwa [e]at h
 .rw [e]at h;simp at h
theorem Zvl (a:Mk st st' U) {t:Option TI}{x i r:SV}{A:Bool}(B:svU U x) (h:ZiS st' t x i A=some r):ZiS st t x i A=some r:=by
 unfold ZiS at h ⊢;split at h<;>try exact h
 rename_i k;rcases a k (B (.row k) yG) with e|e
 .rwa [e]at h
 .rw [e]at h;simp at h
theorem ZvH (a:Mk st st' U) {x r:SV}(A:svU U x) (h:Zkn st' x=some r):Zkn st x=some r:=by
 unfold Zkn at h ⊢;split at h<;>try exact h
 rename_i k;rcases a k (A (.row k) yG) with e|e
 .rwa [e]at h
 .rw [e]at h;simp at h
theorem Zwd (h:st.ob=st'.ob):∀xs:List AV,Zd1 st xs=Zd1 st' xs
 | []=>rfl
 |x::r=>by
  have e:avT st x=avT st' x:=by
   cases x with
   |row k=>simp only[avT,h]
   |c y=>cases y<;>rfl
   |_=>rfl
  simp only[Zd1,e,Zwd h r]
theorem Zxz (h:st.ob=st'.ob) (t:Option TI) (x v:SV):Zhh st t x v=Zhh st' t x v:=by
 unfold Zhh;split
 .rw [h]
 .rw [h];split
  .rename_i vs _ _ _ _ _ _;cases Zhp vs with
   |some ys=>rfl
   |none=>simp only[ZnU,Zwd h]
  .rfl
 .rfl
theorem Zq2 [NW] {o:Oper}{B a:Nat->SV}{ob:Nat->Ob}{n n':Nat}(A:∀x∈o.op.operands,∀t,St.ev tt ⟨B,ob,n⟩ t x=St.ev tt ⟨a,ob,n'⟩ t x):opE tt key o ⟨B,ob,n⟩=opE tt key o ⟨a,ob,n'⟩:=by
 obtain ⟨I,op,ty,E,K,J⟩:=o;cases op with
 |build t d=>
  have C:∀D z,d.toList.map (Zh5 tt ⟨B,ob,n⟩ D z)=d.toList.map (Zh5 tt ⟨a,ob,n'⟩ D z):=fun D z=>AR fun p C=>by
   have:=A p.2 (by simp [Op.operands];exact ⟨p.1,by simpa using C⟩) 0;unfold Zh5;split
   .rfl
   .rw [this]
  simp only[opE,C]
 |buildSlice t len d=>
  have C:∀e,(d.toList.map fun p=>St.ev tt ⟨B,ob,n⟩ e p.2)=d.toList.map fun p=>St.ev tt ⟨a,ob,n'⟩ e p.2:=fun e=>AR fun p C=>A p.2 (by simp [Op.operands];exact ⟨p.1,by simpa using C⟩) e;have G:∀m l,Qf ⟨B,ob,n⟩ m l=Qf ⟨a,ob,n'⟩ m l:=fun m l=>by
   have h1:∀x,avT ⟨B,ob,n⟩ x=avT ⟨a,ob,n'⟩ x:=fun x=>by cases x<;>rfl
   have h2:∀xs,Zd1 ⟨B,ob,n⟩ xs=Zd1 ⟨a,ob,n'⟩ xs:=fun xs=>by
    induction xs with
    |nil=>rfl
    |cons x xs ih=>simp only[Zd1,h1,ih]
   induction l with
   |nil=>rfl
   |cons x xs ih=>cases x<;>simp only[Qf,h2,ih]
  have F:∀ks,ZT ⟨B,ob,n⟩ ks=ZT ⟨a,ob,n'⟩ ks:=fun ks=>by
   induction ks with
   |nil=>rfl
   |cons k r ih=>simp only[ZT,ih]
  simp only[opE,C,G,F]
 |slice t x lo hi mx=>
  simp only[Op.operands]at A;cases mx with
  |some _=>rfl
  |none=>
   have hx:=fun t=>A x yG t;cases lo with
   |none=>cases hi with
    |none=>simp only[opE,hx,AP];rfl
    |some h=>have hh:=fun t=>A h yG t;simp only[opE,hx,hh,AP,AQ];rfl
   |some l=>
    have q:=fun t=>A l yG t;cases hi with
    |none=>simp only[opE,hx,q,AP,AQ];rfl
    |some h=>have hh:=fun t=>A h yG t;simp only[opE,hx,q,hh,AQ];rfl
 |call c=>
  obtain ⟨g,args,ts⟩:=c;cases g with
  |builtin b=>
   have:=Zfd (tt:=tt) (st:=⟨B,ob,n⟩) (st':=⟨a,ob,n'⟩) (ts:=ts.toList) (xs:=args.toList) (fun x m t=>A x (by simp [Op.operands,Call.operands];simpa using m) t);simp only[opE,this];unfold Zhv;split<;>rfl
  |value f=>rfl
  |invoke r m=>rfl
 |move x=>have:=fun t=>A x (by simp [Op.operands]) t;simp only[opE,this]
 |assign x=>have:=fun t=>A x (by simp [Op.operands]) t;simp only[opE,this]
 |pick c x y=>have h1:=fun t=>A c (by simp [Op.operands]) t;have h2:=fun t=>A x (by simp [Op.operands]) t;have h3:=fun t=>A y (by simp [Op.operands]) t;simp only[opE,h1,h2,h3]
 |alloc t=>rfl
 |box t x=>have:=fun t=>A x (by simp [Op.operands]) t;simp only[opE,this]
 |load t x=>have:=fun t=>A x (by simp [Op.operands]) t;simp only[opE,this];rfl
 |store t x v=>have h1:=fun t=>A x (by simp [Op.operands]) t;have h2:=fun t=>A v (by simp [Op.operands]) t;simp only[opE,h1,h2];rw [Zxz (st:=⟨B,ob,n⟩) (st':=⟨a,ob,n'⟩) rfl]
 |nilCheck x=>have:=fun t=>A x (by simp [Op.operands]) t;simp only[opE,this]
 |binOp op t x y t'=>have h1:=fun t=>A x (by simp [Op.operands]) t;have h2:=fun t=>A y (by simp [Op.operands]) t;simp only[opE,h1,h2]
 |unOp op t x=>have:=fun t=>A x (by simp [Op.operands]) t;simp only[opE,this]
 |convert s t x=>have:=fun t=>A x (by simp [Op.operands]) t;simp only[opE,this];rfl
 |makeFunc fn first j=>
  cases fn with
  |func f=>
   have H:j.toList.map (St.ev tt ⟨B,ob,n⟩ 0)=j.toList.map (St.ev tt ⟨a,ob,n'⟩ 0):=AR fun x hx=>A x (by simp [Op.operands];exact .inr (by simpa using hx)) 0;simp only[opE,H,ZoA (st:=⟨B,ob,n⟩) (st':=⟨a,ob,n'⟩) rfl]
  |_=>rfl
 |makeMap t r=>cases r<;>rfl
 |lookup t x i ok=>have h1:=fun t=>A x (by simp [Op.operands]) t;have h2:=fun t=>A i (by simp [Op.operands]) t;simp only[opE,h1,h2];rfl
 |mapUpdate t x i v=>have h1:=fun t=>A x (by simp [Op.operands]) t;have h2:=fun t=>A i (by simp [Op.operands]) t;have h3:=fun t=>A v (by simp [Op.operands]) t;simp only[opE,h1,h2,h3];rfl
 |makeSlice t x y=>have h1:=fun t=>A x (by simp [Op.operands]) t;have h2:=fun t=>A y (by simp [Op.operands]) t;simp only[opE,h1,h2]
 |fieldAddr t x f=>have:=fun t=>A x (by simp [Op.operands]) t;simp only[opE,this]
 |field t x f=>have:=fun t=>A x (by simp [Op.operands]) t;simp only[opE,this]
 |indexAddr t x y=>have h1:=fun t=>A x (by simp [Op.operands]) t;have h2:=fun t=>A y (by simp [Op.operands]) t;simp only[opE,h1,h2];rfl
 |index t x y=>have h1:=fun t=>A x (by simp [Op.operands]) t;have h2:=fun t=>A y (by simp [Op.operands]) t;simp only[opE,h1,h2]
 |extract x i=>have:=fun t=>A x (by simp [Op.operands]) t;simp only[opE,this]
 |_=>rfl
theorem ZwA (A:Nat->SV) (ob ob':Nat->Ob) (n n' t:Nat) (x:Operand):St.ev tt ⟨A,ob,n⟩ t x=St.ev tt ⟨A,ob',n'⟩ t x:=by cases x<;>rfl
theorem ZzD {st st':St}(h:∀k,U k->st.ob k=st'.ob k) {x:AV}(A:avU U x):avT st x=avT st' x:=by
 cases x with
 |row k=>simp only[avT];rw [h k A]
 |c x=>cases x<;>rfl
 |nil e m=>rfl
 |n x=>rfl
 |dead=>rfl
theorem Zrp [NW] {st st':St}(h:∀k,U k->st.ob k=st'.ob k):∀{xs:List AV},QK U xs->Zd1 st xs=Zd1 st' xs
 | [],_=>rfl
 |x::r,hx=>by simp only[Zd1];rw [ZzD h (hx x yG),Zrp h fun y m=>hx y (by simp [m])]
theorem ZmR [NW] {st st':St}{m:Nat}(h:∀k,U k->st.ob k=st'.ob k):∀{xs:List SV},(∀v∈xs,svU U v)->Qf st m xs=Qf st' m xs
 | [],_=>rfl
 |.p a cs::r,hx=>by
  simp only[Qf];rw [Zrp h (hx (.p a cs) yG),ZmR h fun v A=>hx v (by simp [A])]
 |.any::r,_=>rfl
 |.und::r,_=>rfl
 |.tup _::r,_=>rfl
 |.bp _ _::r,_=>rfl
 |.rp _ _ _ _::r,_=>rfl
 |.ep _ _::r,_=>rfl
 |.fn _::r,_=>rfl
theorem Zyp {x:AV}{C:CT}{ks:List Nat}{d:Nat}(h:avT st x=some (C,ks,d)) (B:avU U x):∀k∈ks,U k:=by
 intro k A;cases x with
 |c y=>cases y<;>simp only[avT,A0,A6]at h<;>(rw [<-h.2.1]at A;simp at A)
 |nil e m=>
  simp only[avT]at h;split at h<;>simp only[A0,A6,reduceCtorEq]at h
  rw [<-h.2.1]at A;simp at A
 |row j=>
  simp only[avT]at h;split at h
  .split at h<;>simp only[A0,A6]at h
   .rw [<-h.2.1]at A;simp at A
   .rw [<-h.2.1]at A;simp at A;subst A;exact B
  .simp at h
 |n x=>simp [avT]at h
 |dead=>simp [avT]at h
theorem Zov [NW]:∀{xs:List AV}{cts:List CT}{ks:List Nat}{d:Nat},Zd1 st xs=some (cts,ks,d)->QK U xs->∀k∈ks,U k
 | [],_,_,_,h,_,k,A=>by simp only[Zd1,A0,A6]at h;rw [<-h.2.1]at A;simp at A
 |x::r,_,_,_,h,hu,k,A=>by
  simp only[Zd1]at h;obtain ⟨⟨I,F,H⟩,D,h⟩:=AE.1 h;obtain ⟨⟨c2,E,G⟩,C,h⟩:=AB.1 h;simp only[A6]at h;rw [<-h.2.1]at A;rcases AC.1 A with A|A
  .exact Zyp D (hu x yG) k A
  .exact Zov C (fun y B=>hu y (by simp [B])) k A
theorem ZhB [NW] {m:Nat}:∀{xs:List SV}{E:List (List CT)}{ks:List Nat}{d:Nat},Qf st m xs=some (E,ks,d)->(∀v∈xs,svU U v)->∀k∈ks,U k
 | [],_,_,_,h,_,k,A=>by simp only[Qf,A0,A6]at h;rw [<-h.2.1]at A;simp at A
 |x::r,_,_,_,h,hu,k,A=>by
  cases x with
  |p a cs=>
   simp only[Qf]at h;split at h
   .obtain ⟨⟨J,G,I⟩,D,h⟩:=AE.1 h;obtain ⟨⟨c2,F,H⟩,C,h⟩:=AB.1 h;simp only[A6]at h;rw [<-h.2.1]at A;rcases AC.1 A with A|A
    .exact Zov D (hu (.p a cs) yG) k A
    .exact ZhB C (fun v B=>hu v (by simp [B])) k A
   .simp at h
  |_=>simp [Qf]at h
theorem Zt2 {st st':St}{ks:List Nat}(h:∀k∈ks,st.ob k=st'.ob k):ZT st ks=ZT st' ks:=by
 induction ks with
 |nil=>rfl
 |cons k r ih=>simp only[ZT,h k yG,ih fun j A=>h j (by simp [A])]
theorem ZoD {ks:List Nat}{p:Nat×Ob}(h:p∈ZT st ks):p.1∈ks/\p.2=Yy (st.ob p.1):=by
 induction ks with
 |nil=>simp [ZT]at h
 |cons k r ih=>
  simp only[ZT,AH]at h;rcases h with rfl|h
  .exact ⟨yG,rfl⟩
  .exact ⟨by simp [(ih h).1],(ih h).2⟩
theorem ZnJ [NW] {hs:FuncId->Nat}{o:Oper}{D:Nat->SV}{ob ob':Nat->Ob}{n n':Nat}(h:cls tt hs o.op=0\/(cls tt hs o.op<=3/\(∀k,U k->ob k=ob' k)/\∀t x,svU U (St.ev tt ⟨D,ob,n⟩ t x))\/(cls tt hs o.op<=1/\Wk ⟨D,ob,n⟩ ⟨D,ob',n'⟩ U/\∀t x,svU U (St.ev tt ⟨D,ob,n⟩ t x))):opE tt key o ⟨D,ob,n⟩=opE tt key o ⟨D,ob',n'⟩:=by
 have he:=fun t x=>ZwA (tt:=tt) D ob ob' n n' t x;have q:cls tt hs o.op<=3:=by rcases h with h|h|h<;>omega
 have j:cls tt hs o.op=0\/(Wk ⟨D,ob,n⟩ ⟨D,ob',n'⟩ U/\∀t x,svU U (St.ev tt ⟨D,ob',n'⟩ t x)):=by
  rcases h with h|h|h
  .exact .inl h
  .exact .inr ⟨fun k hk=>.inl (h.2.1 k hk).symm,fun t x=>he t x ▸ h.2.2 t x⟩
  .exact .inr ⟨h.2.1,fun t x=>he t x ▸ h.2.2 t x⟩
 obtain ⟨S,op,ty,K,V,T⟩:=o;cases op with
 |build t d=>
  have J:∀I z,d.toList.map (Zh5 tt ⟨D,ob,n⟩ I z)=d.toList.map (Zh5 tt ⟨D,ob',n'⟩ I z):=fun I z=>AR fun p J=>by
   unfold Zh5;split
   .rfl
   .rw [he]
  simp only[opE,J]
 |buildSlice t len d=>
  have R:2<=cls tt hs (.buildSlice t len d):=by simp only[cls];split<;>omega
  have H:(∀k,U k->ob k=ob' k)/\∀t x,svU U (St.ev tt ⟨D,ob,n⟩ t x):=by
   rcases h with h|h|h
   .simp only at h;omega
   .exact h.2
   .simp only at h;omega
  obtain ⟨E,F⟩:=H;simp only[opE,he];split
  .rename_i e m _ z _;have G:∀v∈d.toList.map (fun p=>St.ev tt ⟨D,ob',n'⟩ e p.2),svU U v:=fun v L=>by obtain ⟨p,_,rfl⟩:=AD.1 L;rw [<-he];exact F _ _
   rw [ZmR (U:=U) (st:=⟨D,ob,n⟩) (st':=⟨D,ob',n'⟩) E G];cases hel:Qf ⟨D,ob',n'⟩ m (d.toList.map fun p=>St.ev tt ⟨D,ob',n'⟩ e p.2) with
   |none=>rfl
   |some a=>
    have hk:=ZhB (U:=U) hel G;have:=Zt2 (st:=⟨D,ob,n⟩) (st':=⟨D,ob',n'⟩) (ks:=a.2.1) (fun k M=>E k (hk k M));simp only[AS,this]
  .rfl
 |load t x=>
  obtain ⟨E,F⟩:=j.resolve_left (by simp [cls]);simp only[opE,he];rw [ZvB (U:=U) (st:=⟨D,ob,n⟩) (st':=⟨D,ob',n'⟩) E (F 0 x)]
 |indexAddr t x y=>
  obtain ⟨E,F⟩:=j.resolve_left (by simp [cls]);simp only[opE,he];split
  .rw [ZrN (U:=U) (st:=⟨D,ob,n⟩) (st':=⟨D,ob',n'⟩) E (F 0 x)]
  .rfl
 |call c=>
  obtain ⟨u,args,ts⟩:=c;cases u with
  |builtin b=>
   have A:evs tt ⟨D,ob,n⟩ ts.toList args.toList=evs tt ⟨D,ob',n'⟩ ts.toList args.toList:=Zfd fun x _ t=>he t x;simp only[opE,A];unfold Zhv;split
   .rename_i t _ v P B;obtain ⟨E,F⟩:=j.resolve_left (by simp [cls]);have G:svU U v:=by
     have O:v∈evs tt ⟨D,ob',n'⟩ ts.toList args.toList:=by simp [B]
     obtain ⟨p,_,rfl⟩:=AD.1 O;exact F _ _
    rw [ZxA (U:=U) (st:=⟨D,ob,n⟩) (st':=⟨D,ob',n'⟩) E G]
   .simp [cls]at q
   .rfl
   .rfl
   .rfl
  |value f=>rfl
  |invoke r m=>rfl
 |store t x v=>simp [cls]at q
 |makeFunc fn first caps=>simp [cls]at q
 |mapUpdate t x i v=>simp [cls]at q
 |makeMap t r=>cases r<;>rfl
 |lookup t x i ok=>
  obtain ⟨E,F⟩:=j.resolve_left (by simp [cls]);simp only[opE,he];rw [Zu4 (U:=U) (st:=⟨D,ob,n⟩) (st':=⟨D,ob',n'⟩) E (F 0 x)]
 |convert s t x=>
  simp only[opE,he];by_cases w:Zd6 (tt t)=true
  .obtain ⟨E,F⟩:=j.resolve_left (by simp [cls,w]);rw [Zvj (U:=U) (st:=⟨D,ob,n⟩) (st':=⟨D,ob',n'⟩) E (F 0 x)]
  .have e:∀st:St,ZiN tt st s t (St.ev tt ⟨D,ob',n'⟩ 0 x)=ZtK (tt s) (tt t) (St.ev tt ⟨D,ob',n'⟩ 0 x):=fun st=>by
    unfold ZiN;rw [yn (by simp [w])]
   rw [e,e]
 |slice t x lo hi mx=>
  cases mx with
  |some _=>rfl
  |none=>
   by_cases g:Zd6 (tt t)=true
   .have C:ZcW (tt t)=false:=by
     unfold Zd6 at g;split at g
     .rename_i e;rw [e];rfl
     .simp at g
    have G:∀l h v,Zbf ⟨D,ob,n⟩ key (tt t) l h v=Zbf ⟨D,ob',n'⟩ key (tt t) l h v:=fun l h v=>by
     unfold Zbf;split
     .simp [C]
     .rfl
     .rfl
    cases lo<;>cases hi<;>simp only[opE,he,AP,AQ,G]
   .have R:2<cls tt hs (.slice t x lo hi none):=by simp only[cls];rw [yn g];split<;>omega
    have H:(∀k,U k->ob k=ob' k)/\∀t x,svU U (St.ev tt ⟨D,ob,n⟩ t x):=by
     rcases h with h|h|h
     .simp only at h;omega
     .exact h.2
     .simp only at h;omega
    obtain ⟨E,F⟩:=H;have G:∀l h v,svU U v->Zbf ⟨D,ob,n⟩ key (tt t) l h v=Zbf ⟨D,ob',n'⟩ key (tt t) l h v:=fun l h v N=>by
     unfold Zbf;split
     .rename_i k;have hk:U k:=N (.row k) yG;simp only[E k hk]
     .rfl
     .rfl
    simp only[opE,he];exact G _ _ _ (he 0 x ▸ F 0 x)
 |_=>first|rfl|simp only[opE,he]
theorem ZfM {x y:Option SV}{r:SV×List (Nat×Ob)}(h:∀v,x=some v->y=some v) (A:Zct x=some r):Zct y=some r:=by
 obtain ⟨v,B,rfl⟩:=AB.1 A;rw [h v B];rfl
theorem Zzk [NW] {hs:FuncId->Nat}{o:Oper}{B:Nat->SV}{ob ob':Nat->Ob}{n n':Nat}{r:SV×List (Nat×Ob)}(C:cls tt hs o.op<=1) (a:Mk ⟨B,ob,n⟩ ⟨B,ob',n'⟩ U) (D:∀t x,svU U (St.ev tt ⟨B,ob,n⟩ t x)) (h:opE tt key o ⟨B,ob',n'⟩=some r):opE tt key o ⟨B,ob,n⟩=some r:=by
 have he:=fun t x=>ZwA (tt:=tt) B ob ob' n n' t x;by_cases F:cls tt hs o.op=0
 .rw [ZnJ (U:=U) (n':=n') (ob':=ob') (.inl F)];exact h
 obtain ⟨L,op,ty,G,N,M⟩:=o;cases op with
 |load t x=>
  simp only[opE,he]at h ⊢;exact ZfM (fun v A=>Zvz a (he 0 x ▸ D 0 x) A) h
 |indexAddr t x y=>
  simp only[opE,he]at h ⊢;split at h
  .exact ZfM (fun v A=>ZrJ a (he 0 x ▸ D 0 x) A) h
  .simp at h
 |lookup t x i ok=>
  simp only[opE,he]at h ⊢;exact ZfM (fun v A=>Zvl a (he 0 x ▸ D 0 x) A) h
 |convert s t x=>
  simp only[opE,he]at h ⊢;refine ZfM (fun v A=>?_) h;unfold ZiN at A ⊢;split at A
  .rename_i E;rw [yp E];exact ZvH a (he 0 x ▸ D 0 x) A
  .rename_i E;rw [yn E];exact A
 |call c=>
  obtain ⟨d,args,ts⟩:=c;cases d with
  |builtin b=>
   have e:evs tt ⟨B,ob,n⟩ ts.toList args.toList=evs tt ⟨B,ob',n'⟩ ts.toList args.toList:=Zfd fun x _ t=>he t x;simp only[opE,e]at h ⊢;unfold Zhv at h ⊢;split at h
   .rename_i t _ v K g;have j:svU U v:=by
     have J:v∈evs tt ⟨B,ob',n'⟩ ts.toList args.toList:=by simp [g]
     obtain ⟨p,_,rfl⟩:=AD.1 J;rw [<-he];exact D _ _
    exact ZfM (fun w H=>ZxV a j H) h
   .simp [cls]at C
   .exact h
   .exact h
   .exact h
  |value f=>exact h
  |invoke r m=>exact h
 |slice t x lo hi mx=>simp only[cls]at C F;split at C<;>rename_i I<;>simp [I]at F<;>(split at C<;>omega)
 |buildSlice t len parts=>simp only[cls]at C;split at C<;>omega
 |store t x v=>simp [cls]at C
 |makeFunc fn first caps=>simp [cls]at C
 |mapUpdate t x i v=>simp [cls]at C
 |makeMap t r=>cases r<;>exact h
 |_=>first|exact h|(simp only[opE,he]at h ⊢;exact h)
theorem XC:∀(cts:List (Bool×CT)) (key:Nat),key<=(ZE key cts).2.2/\∀p∈(ZE key cts).2.1,key<=p.1/\p.1<(ZE key cts).2.2
 | [],key=>by simp [ZE]
 |(true,x)::r,key=>XC r key
 |(false,ct)::r,key=>by
  cases ct with
  |sl e m xs=>
   obtain ⟨C,B⟩:=XC r (key+1);refine ⟨by simp only[ZE];omega,fun p A=>?_⟩;simp only[ZE,AH]at A ⊢;rcases A with rfl|A
   .exact ⟨AJ _,by simp only;omega⟩
   .have:=B p A;omega
  |int k n=>exact XC r key
  |bool b=>exact XC r key
  |str s=>exact XC r key
  |ifc s=>exact XC r key
  |any=>exact XC r key
  |nl a b=>exact XC r key
  |pt s=>exact XC r key
  |fn f s=>exact XC r key
  |mp a b s=>exact XC r key
theorem Zix [NW]:∀(a:List RT) (key:Nat),key<=(ZC key a).2.2/\∀p∈(ZC key a).2.1,key<=p.1/\p.1<(ZC key a).2.2
 | [],key=>by simp [ZC]
 |x::r,key=>by
  obtain ⟨E,C⟩:=XC x.2 key;obtain ⟨D,B⟩:=Zix r (ZE key x.2).2.2;refine ⟨by simp only[ZC];omega,fun p A=>?_⟩;simp only[ZC,AC]at A ⊢;rcases A with A|A
  .have:=C p A;omega
  .have:=B p A;omega
theorem XN {v:Option SV}{r:SV×List (Nat×Ob)}(h:Zct v=some r):r.2=[]:=by
 obtain ⟨u,_,rfl⟩:=AB.1 h;rfl
theorem Zzs [NW] {hs:FuncId->Nat}{o:Oper}{r:SV×List (Nat×Ob)}(G:∀t x,svU U (st.ev tt t x)) (h:opE tt key o st=some r):(cls tt hs o.op=0->r.2=[])/\(cls tt hs o.op<=2->∀p∈r.2,key<=p.1/\p.1<key+16)/\(cls tt hs o.op<=3->∀p∈r.2,(key<=p.1/\p.1<key+16)\/(U p.1/\p.2=Yy (st.ob p.1))):=by
 have D:r.2=[]->(cls tt hs o.op=0->r.2=[])/\(cls tt hs o.op<=2->∀p∈r.2,key<=p.1/\p.1<key+16)/\(cls tt hs o.op<=3->∀p∈r.2,(key<=p.1/\p.1<key+16)\/(U p.1/\p.2=Yy (st.ob p.1))):=fun e=>⟨fun _=>e,fun _ p C=>by simp [e]at C,fun _ p C=>by simp [e]at C⟩
 obtain ⟨P,op,ty,H,V,T⟩:=o;cases op with
 |move x=>simp only[opE,A0]at h;exact D (by rw [<-h])
 |assign x=>simp only[opE,A0]at h;exact D (by rw [<-h])
 |pick c x y=>
  simp only[opE]at h;split at h
  .simp only[A0]at h;exact D (by rw [<-h])
  .simp at h
 |alloc t=>
  simp only[opE]at h;obtain ⟨z,_,rfl⟩:=AB.1 h;exact ⟨fun e=>by simp [cls]at e,fun _ p C=>by simp at C;subst C;simp,fun _ p C=>by simp at C;subst C;simp⟩
 |box t x=>
  simp only[opE]at h;split at h
  .simp only[A0]at h;subst h;exact ⟨fun e=>by simp [cls]at e,fun _ p C=>by simp at C;subst C;simp,fun _ p C=>by simp at C;subst C;simp⟩
  .simp at h
 |build t a=>
  simp only[opE]at h;split at h
  .obtain ⟨cs,_,rfl⟩:=AB.1 h;exact D rfl
  .simp at h
 |buildSlice t len a=>
  simp only[opE]at h;split at h
  .obtain ⟨⟨xs,ks,d⟩,F,h⟩:=AE.1 h;split at h
   .simp only[A0]at h;subst h;rename_i O _ _ z q l;have N:∀v∈a.toList.map (fun p=>st.ev tt O p.2),svU U v:=fun v K=>by obtain ⟨p,_,rfl⟩:=AD.1 K;exact G _ _
    have hk:=ZhB (U:=U) F N;refine ⟨fun e=>by simp only[cls]at e;split at e<;>simp at e,fun e p C=>?_,fun e p C=>?_⟩
    .by_cases hs:a.size=0
     .have:a=#[]:=by simpa using hs
      subst this;simp [Qf]at F;obtain ⟨_,rfl,_⟩:=F;simp [ZT]at C;subst C;simp
     .by_cases E:ZzU (tt t)=true
      .have L:z.all Zmm=true:=by rw [q]at E;exact E
       have u:ks=[]:=by
        have h3:=l.2.2.2;rw [L]at h3;simpa using h3
       subst u;simp [ZT]at C;subst C;simp
      .simp [cls,hs,E]at e
    .rcases AC.1 C with C|C
     .obtain ⟨J,I⟩:=ZoD C;exact .inr ⟨hk _ J,I⟩
     .simp at C;subst C;simp
   .simp at h
  .simp at h
 |load t x=>exact D (XN h)
 |store t x v=>exact ⟨fun e=>by simp [cls]at e,fun e=>by simp [cls]at e,fun e=>by simp [cls]at e⟩
 |makeFunc fn first caps=>exact ⟨fun e=>by simp [cls]at e,fun e=>by simp [cls]at e,fun e=>by simp [cls]at e⟩
 |mapUpdate t x i v=>exact ⟨fun e=>by simp [cls]at e,fun e=>by simp [cls]at e,fun e=>by simp [cls]at e⟩
 |lookup t x i ok=>exact D (XN h)
 |makeMap t r=>
  cases r with
  |none=>
   simp only[opE,Zqy]at h;split at h
   .simp only[A0]at h;subst h;exact ⟨fun e=>by simp [cls]at e,fun _ p C=>by simp at C;subst C;simp,fun _ p C=>by simp at C;subst C;simp⟩
   .simp at h
  |some _=>simp [opE]at h
 |nilCheck x=>
  simp only[opE]at h;split at h<;>simp only[A0,reduceCtorEq]at h<;>exact D (by rw [<-h])
 |binOp op t x y t'=>exact D (XN h)
 |unOp op t x=>exact D (XN h)
 |convert s t x=>exact D (XN h)
 |makeSlice t n c=>
  simp only[opE,Zte]at h;split at h
  .split at h
   .obtain ⟨R,_,h⟩:=AE.1 h;split at h
    .simp only[A0]at h;subst h;exact ⟨fun e=>by simp [cls]at e,fun _ p C=>by simp at C;subst C;simp,fun _ p C=>by simp at C;subst C;simp⟩
    .simp at h
   .simp at h
  .simp at h
 |slice t x lo hi mx=>
  cases mx with
  |some _=>simp [opE]at h
  |none=>
   by_cases g:Zd6 (tt t)=true
   .have w:ZcW (tt t)=false:=by
     unfold Zd6 at g;split at g
     .rename_i e;rw [e];rfl
     .simp at g
    refine D ?_;simp only[opE,Zbf]at h;split at h
    .simp [w]at h
    .obtain ⟨v,_,rfl⟩:=AB.1 h;rfl
    .simp at h
   .have S:3<=cls tt hs (.slice t x lo hi none):=by simp only[cls];rw [yn g];split<;>omega
    refine ⟨fun e=>by simp only at e;omega,fun e=>by simp only at e;omega,fun e p C=>?_⟩;have A:∀d,mvS d (lo.map (st.ev tt 0)) (hi.map (st.ev tt 0))=false:=fun d=>by
     cases lo with
     |none=>rfl
     |some _=>cases hi with
      |none=>simp [cls,g]at e
      |some _=>rfl
    simp only[opE,Zbf]at h;split at h
    .rename_i k M;have hk:U k:=by
      have:=G 0 x;rw [M]at this;exact this (.row k) yG
     split at h
     .split at h
      .rename_i B;split at h
       .rw [A,yn yG]at h;obtain ⟨_,_,h⟩:=AE.1 h;obtain ⟨_,_,rfl⟩:=AB.1 h;simp at C;subst C;exact .inr ⟨hk,by rw [B];rfl⟩
       .simp at h
      .simp at h
     .simp at h
    .obtain ⟨v,_,rfl⟩:=AB.1 h;simp at C
    .simp at h
 |fieldAddr t x f=>
  simp only[opE]at h;split at h
  .exact D (XN h)
  .simp at h
 |field t x f=>
  simp only[opE]at h;split at h
  .exact D (XN h)
  .simp at h
 |indexAddr t x i=>
  simp only[opE]at h;split at h
  .exact D (XN h)
  .simp at h
 |index t x i=>exact D (XN h)
 |extract x i=>exact D (XN h)
 |call c=>
  obtain ⟨j,args,ts⟩:=c;cases j with
  |builtin b=>
   simp only[opE,Zhv]at h;split at h
   .exact D (XN h)
   .exact ⟨fun e=>by simp [cls]at e,fun e=>by simp [cls]at e,fun e=>by simp [cls]at e⟩
   .exact D (XN h)
   .exact D (XN h)
   .simp at h
  |value f=>simp [opE]at h
  |invoke r m=>simp [opE]at h
 |_=>simp [opE]at h
theorem Zcl {hs:FuncId->Nat}{o:Op}{c:FuncId×List TypeId×List Operand}(h:XE o=some c):cls tt hs o=if hs c.1=0\/hs c.1=4 then 1 else 4:=by
 unfold XE at h;split at h
 .simp only[A0]at h;rw [<-h];rfl
 .simp at h
theorem Zog {o:Op}{c:Nat×List TypeId×List Operand}(h:Qk o=some c):∃args ts,o=.call ⟨.value (.tmp c.1),args,ts⟩/\c.2.1=ts.toList/\c.2.2=args.toList:=by
 unfold Qk at h;split at h
 .rename_i s args ts;simp only[A0]at h;rw [<-h];exact ⟨args,ts,rfl,rfl,rfl⟩
 .simp at h
theorem ZiY [NW] {hs:FuncId->Nat}{o:Op}{c:Nat×List TypeId×List Operand}(h:Qk o=some c):cls tt hs o=4:=by
 obtain ⟨args,ts,rfl,_⟩:=Zog h;rfl
theorem ZoQ [NW] (F:∀t x,svU U (st.ev tt t x)) {all:List Oper}{o:Oper}{v:SV}{u:List (Nat×Ob)}(h:opR tt S all key o st v u):(cls tt S.hd o.op=0->u=[])/\(cls tt S.hd o.op<=2->∀p∈u,key<=p.1/\p.1<key+16)/\(cls tt S.hd o.op<=3->∀p∈u,(key<=p.1/\p.1<key+16)\/(U p.1/\p.2=Yy (st.ob p.1))):=by
 have C:u=[]->(cls tt S.hd o.op=0->u=[])/\(cls tt S.hd o.op<=2->∀p∈u,key<=p.1/\p.1<key+16)/\(cls tt S.hd o.op<=3->∀p∈u,(key<=p.1/\p.1<key+16)\/(U p.1/\p.2=Yy (st.ob p.1))):=fun e=>⟨fun _=>e,fun _ p B=>by simp [e]at B,fun _ p B=>by simp [e]at B⟩
 have b:Zbv tt S key o st v u->(cls tt S.hd o.op=0->u=[])/\(cls tt S.hd o.op<=2->∀p∈u,key<=p.1/\p.1<key+16)/\(cls tt S.hd o.op<=3->∀p∈u,(key<=p.1/\p.1<key+16)\/(U p.1/\p.2=Yy (st.ob p.1))):=fun h=>by
  unfold Zbv at h;split at h
  .rename_i c D;by_cases A:S.hd c.1=0\/S.hd c.1=4
   .have G:∃a,(ZC key a).2.2<=key+16/\u=(ZC key a).2.1:=by
     rcases A with A|A
     .rw [A]at h;obtain ⟨l,a,_,_,_,E,_,e⟩:=h;exact ⟨a,E,e⟩
     .rw [A]at h;obtain ⟨l,a,_,_,_,E,_,e⟩:=h;exact ⟨a,E,e⟩
    obtain ⟨a,E,rfl⟩:=G;have B:∀p∈(ZC key a).2.1,key<=p.1/\p.1<key+16:=fun p B=>by
     have:=(Zix a key).2 p B;omega
    exact ⟨fun e=>by rw [Zcl D,yp A]at e;simp at e,fun _=>B,fun _ p m=>.inl (B p m)⟩
   .refine ⟨fun e=>by rw [Zcl D,yn A]at e;simp at e,fun e=>by rw [Zcl D,yn A]at e;simp at e,fun e=>by rw [Zcl D,yn A]at e;simp at e⟩
  .split at h
   .rename_i c D;have h4:=ZiY (tt:=tt) (hs:=S.hd) D;exact ⟨fun e=>by rw [h4]at e;simp at e,fun e=>by rw [h4]at e;simp at e,fun e=>by rw [h4]at e;simp at e⟩
   .exact Zzs F h
 unfold opR at h;split at h
 .exact b h
 .exact C h.2
 .unfold gK at h;split at h
  .split at h
   .exact b h
   .exact C h.2
  .split at h
   .exact C h.2
   .exact h.elim
theorem Zdw (h:st.ob=st'.ob):∀ks:List Nat,ZT st ks=ZT st' ks
 | []=>rfl
 |k::r=>by simp only[ZT,Zdw h r,h]
theorem ZGm (s:SV):svU (fun _=>True) s:=by
 cases s<;>first|trivial|(intro y A;cases y<;>trivial)|(intro y A z B;cases z<;>trivial)
theorem ZxB [NW] (h:st.ob=st'.ob) (v:SV):Zhz st v=Zhz st' v:=by
 have A:∀cs,XF st cs=XF st' cs:=fun cs=>ZiE (U:=fun _=>True) (fun k _=>.inl (by rw [h])) (fun x _=>by cases x<;>trivial)
 unfold Zhz;split
 .rw [h];split
  .rw [A]
  .rfl
 .rw [h]
 .rfl
theorem Zmy (h:st.ob=st'.ob):∀xs:List AV,XB st xs=XB st' xs
 | []=>rfl
 |x::r=>by
  have e:ZgW st x=ZgW st' x:=by
   cases x with
   |row k=>simp only[ZgW,h]
   |c y=>cases y<;>rfl
   |_=>rfl
  simp only[XB,e,Zmy h r]
theorem ZqR (h:st.ob=st'.ob) (v:SV):Zez st v=Zez st' v:=by
 unfold Zez;split
 .rw [h];split
  .rw [Zmy h]
  .rfl
 .rfl
theorem Zry (h:st.ob=st'.ob) (vs:List SV):ZkJ st vs=ZkJ st' vs:=by
 unfold ZkJ;split
 .rfl
 .rw [Zmy h]
 .rfl
theorem Zop [NW] (h:st.ob=st'.ob) {f:FuncId}{n:Nat}{vs:List SV}{v:SV}{u:List (Nat×Ob)}:Za3 S f n key st vs v u↔Za3 S f n key st' vs v u:=by
 have hs:∀xs,Z8 st xs=Z8 st' xs:=fun xs=>Zf3 (U:=fun _=>True) (fun k _=>.inl (by rw [h])) (fun x _=>ZGm x);unfold Za3;split
 .simp only[hs]
 .simp only[hs,ZxB h,Zdw h]
 .simp only[hs,Zdw h]
 .simp only[hs]
 .simp only[hs,ZqR h,Zry h,Zdw h]
 .simp only[hs,ZqR h,Zry h,Zdw h]
 .simp only[hs,Zry h,Zdw h]
 .simp only[hs,Zdw h]
theorem Zyf [NW] {o:Oper}{v:SV}{u:List (Nat×Ob)}(E:∀x∈o.op.operands,∀t,st.ev tt t x=st'.ev tt t x)
  (a:cls tt S.hd o.op=0\/st.ob=st'.ob\/(∀t x,svU U (st.ev tt t x))/\((cls tt S.hd o.op<=3/\∀k,U k->st.ob k=st'.ob k)\/(cls tt S.hd o.op<=1/\Wk st st' U))):Zbv tt S key o st v u↔Zbv tt S key o st' v u:=by
 cases A:XE o.op with
 |some c=>
  simp only[Zbv,A];have l:∃args ts,o.op=.call ⟨.value (.func c.1),args,ts⟩/\c.2.1=ts.toList/\c.2.2=args.toList:=by
   unfold XE at A;split at A
   .rename_i f args ts N;simp only[A0]at A;rw [<-A];exact ⟨args,ts,N,rfl,rfl⟩
   .simp at A
  obtain ⟨args,ts,D,O,K⟩:=l;have d:evs tt st c.2.1 c.2.2=evs tt st' c.2.1 c.2.2:=Zfd fun x m t=>E x (by rw [D];rw [K]at m;simp [Op.operands,Call.operands];exact .inr (by simpa using m)) t;rw [<-d];rcases a with e|a|⟨C,a⟩
  .rw [Zcl A]at e;split at e<;>simp at e
  .exact Zop a
  .have g:cls tt S.hd o.op<=3:=by rcases a with h|h<;>omega
   have j:Wk st st' U:=by
    rcases a with h|h
    .exact .of h.2
    .exact h.2
   have B:S.hd c.1=0\/S.hd c.1=4:=by
    rw [Zcl A]at g;split at g
    .assumption
    .simp at g
   have b:∀x∈evs tt st c.2.1 c.2.2,svU U x:=fun x F=>by
    obtain ⟨p,_,rfl⟩:=AD.1 F;exact C _ _
   rcases B with B|B
   .have i:Z8 st (evs tt st c.2.1 c.2.2)=Z8 st' (evs tt st c.2.1 c.2.2):=Zf3 (U:=U) j b;rw [B];simp only[Za3,i]
   .have i:Z8 st ((evs tt st c.2.1 c.2.2).map nlS)=Z8 st' ((evs tt st c.2.1 c.2.2).map nlS):=Zf3 (U:=U) j (fun x F=>by
     obtain ⟨y,M,rfl⟩:=AD.1 F;exact ZzO (b y M))
    rw [B];simp only[Za3,i]
 |none=>
  simp only[Zbv,A];have:opE tt key o st=opE tt key o st':=by
   obtain ⟨sl,ob,n⟩:=st;obtain ⟨q,ob',n'⟩:=st';have L:opE tt key o ⟨q,ob',n'⟩=opE tt key o ⟨sl,ob',n⟩:=Zq2 fun x m t=>by
    rw [<-E x m t];exact ZwA _ _ _ _ _ _ _
   rw [L];rcases a with A|a|⟨C,⟨A,a⟩|⟨A,a⟩⟩
   .exact ZnJ (U:=U) (.inl A)
   .simp only at a;subst a;rfl
   .exact ZnJ (U:=U) (.inr (.inl ⟨A,a,C⟩))
   .exact ZnJ (U:=U) (.inr (.inr ⟨A,a,C⟩))
  cases hd:Qk o.op with
  |none=>simp only[this]
  |some c=>
   simp only;obtain ⟨args,ts,D,O,K⟩:=Zog hd;have d:evs tt st c.2.1 c.2.2=evs tt st' c.2.1 c.2.2:=Zfd fun x m t=>E x (by rw [D];rw [K]at m;simp [Op.operands,Call.operands];exact .inr (by simpa using m)) t;have w:st.sl c.1=st'.sl c.1:=E (.tmp c.1) (by rw [D];simp [Op.operands,Call.operands]) 0;have h4:=ZiY (tt:=tt) (hs:=S.hd) hd;rcases a with B|B|⟨_,⟨B,_⟩|⟨B,_⟩⟩
   .omega
   .rw [d,w];constructor
    .rintro ⟨G,J,I,H⟩;exact ⟨G,J,I,(Zop B).1 H⟩
    .rintro ⟨G,J,I,H⟩;exact ⟨G,J,I,(Zop B).2 H⟩
   .omega
   .omega
theorem ZaQ [NW] {a:Array Oper}{o:Oper}{v:SV}{u:List (Nat×Ob)}(B:∀s∈o.looksAt a,st.sl s=st'.sl s)
  (b:cls tt S.hd o.op=0\/st.ob=st'.ob\/(∀t x,svU U (st.ev tt t x))/\((cls tt S.hd o.op<=3/\∀k,U k->st.ob k=st'.ob k)\/(cls tt S.hd o.op<=1/\Wk st st' U))):opR tt S a.toList key o st v u↔opR tt S a.toList key o st' v u:=by
 have c:∀x∈o.op.operands,∀t,st.ev tt t x=st'.ev tt t x:=fun x m t=>by
  cases x with
  |tmp s=>exact B s (by
    unfold Oper.looksAt;refine AC.2 (.inl (Al.2 ⟨.tmp s,by simpa using m,rfl⟩)))
  |_=>rfl
 have h1:=Zyf (S:=S) (key:=key) (v:=v) (u:=u) c b;unfold opR;cases hg:Zb8 a.toList o with
 |none=>exact h1
 |some q=>
  obtain ⟨q,A⟩:=q;cases q with
  |none=>rfl
  |some t=>
   have C:st.sl t=st'.sl t:=B t (by
    unfold Zb8 at hg;split at hg
    .simp at hg
    .rename_i g d;simp only[A0,A6]at hg;unfold Oper.looksAt;refine AC.2 (.inr ?_);rw [d];have:(a[g.1]?).bind (·.dst)=some t:=by simpa using hg.1
     simp [this])
   simp only[gK,C,h1]
theorem ZGs [NW] (A:StU U st) (t:Nat) (x:Operand):svU U (st.ev tt t x):=by
 cases x with
 |tmp s=>exact A.sl s
 |const v=>
  show svU U (cvT (tt t) v)
  unfold cvT;split
  .exact QN _
  .exact QN _
  .split
   .exact QN _
   .trivial
  .split
   .intro y m;simp at m;subst m;trivial
   .trivial
  .trivial
 |global _=>trivial
 |func _=>trivial
theorem Zae [NW]:∀{u:List (Nat×Ob)}{ob:Nat->Ob}{k:Nat},(∀p∈u,p.1≠k)->Zl ob u k=ob k
 | [],_,_,_=>rfl
 |p::r,ob,k,h=>by
  rw [Zl,Zae fun q m=>h q (by simp [m])];exact Z2 _ _ fun e=>h p yG e.symm
theorem Zmi [NW]:∀{u:List (Nat×Ob)}{ob ob':Nat->Ob}{k:Nat},(∃p∈u,p.1=k)->Zl ob u k=Zl ob' u k
 | [],_,_,_,h=>by simp at h
 |p::r,ob,ob',k,h=>by
  rw [Zl,Zl];by_cases C:∃q∈r,q.1=k
  .exact Zmi C
  .have B:∀q∈r,q.1≠k:=fun q m e=>C ⟨q,m,e⟩;rw [Zae B,Zae B];obtain ⟨q,A,e⟩:=h;rcases AH.1 A with rfl|A
   .rw [<-e,ZI,ZI]
   .exact absurd e (B q A)
theorem Zth [NW] {u1 A:List (Nat×Ob)}{ob:Nat->Ob}(h:∀p∈u1,∀q∈A,p.1≠q.1):Zl (Zl ob u1) A=Zl (Zl ob A) u1:=by
 funext k
 by_cases E:∃p∈u1,p.1=k
 .obtain ⟨p,B,rfl⟩:=E;rw [Zae fun q F e=>h p B q F e.symm];exact Zmi ⟨p,B,rfl⟩
 .have C:∀q∈u1,q.1≠k:=fun q m e=>E ⟨q,m,e⟩;rw [Zae (ob:=Zl ob A) C];by_cases D:∃p∈A,p.1=k
  .exact Zmi D
  .have a:∀q∈A,q.1≠k:=fun q m e=>D ⟨q,m,e⟩;rw [Zae a,Zae a,Zae C]
theorem Zep [NW] (st:St) (d:Option Nat) (v:SV) (s:Nat) (h:∀t,d=some t->s≠t):(st.put d v).sl s=st.sl s:=by
 cases d with
 |none=>rfl
 |some t=>exact Z2 _ _ (h t rfl)
theorem QH (st:St) (d:Option Nat) (v:SV):(st.put d v).ob=st.ob:=by cases d<;>rfl
theorem ZpC (st:St) (d:Option Nat) (v:SV):(st.put d v).n=st.n:=by cases d<;>rfl
theorem Zq7 (st:St) (d e:Option Nat) (v u:SV) (h:∀t,d=some t->e≠some t):((st.put d v).put e u).sl=((st.put e u).put d v).sl:=by
 cases d with
 |none=>rfl
 |some t=>cases e with
  |none=>rfl
  |some s=>
   have a:t≠s:=fun e=>h t rfl (e ▸ rfl);funext k
   show upd (upd st.sl t v) s u k=upd (upd st.sl s u) t v k
   unfold upd;by_cases A:k=s
   .by_cases B:k=t
    .exact absurd (B.symm.trans A) a
    .have b:¬s=t:=fun e=>a e.symm;simp [A,b]
   .simp [A]
def Zx6 (tt:Nat->Option TI):Op->Bool
 |.slice t _ (some _) none none=>!Zd6 (tt t)
 |.call ⟨.builtin .append,_,_⟩=>true
 |_=>false
theorem Zj1 [NW] {a:Array Oper}{o:Oper}{v:SV}{u:List (Nat×Ob)}(E:∀s∈o.looksAt a,st.sl s=st'.sl s) (C:Zbv tt S key o st' v u->Zbv tt S key o st v u) (h:opR tt S a.toList key o st' v u):opR tt S a.toList key o st v u:=by
 unfold opR at h ⊢;cases hg:Zb8 a.toList o with
 |none=>rw [hg]at h;exact C h
 |some q=>
  obtain ⟨q,B⟩:=q;rw [hg]at h;cases q with
  |none=>exact h
  |some t=>
   have D:st.sl t=st'.sl t:=E t (by
    unfold Zb8 at hg;split at hg
    .simp at hg
    .rename_i g c;simp only[A0,A6]at hg;unfold Oper.looksAt;refine AC.2 (.inr ?_);rw [c];have:(a[g.1]?).bind (·.dst)=some t:=by simpa using hg.1
     simp [this])
   simp only[gK,D]at h ⊢;split at h
   .rename_i A;rw [yp A];split at h
    .rename_i b;rw [yp b];exact C h
    .rename_i b;rw [yn b];exact h
   .rename_i A;rw [yn A];exact h
theorem Zb6 {a:Array Oper}{o:Oper}(A:∀s∈o.looksAt a,st.sl s=st'.sl s):∀x∈o.op.operands,∀t,st.ev tt t x=st'.ev tt t x:=fun x m t=>by
 cases x with
 |tmp s=>exact A s (by
   unfold Oper.looksAt;refine AC.2 (.inl (Al.2 ⟨.tmp s,by simpa using m,rfl⟩)))
 |_=>rfl
theorem Zx7 [NW] {o:Oper}{v:SV}{u:List (Nat×Ob)}(G:∀x∈o.op.operands,∀t,st.ev tt t x=st'.ev tt t x) (a:cls tt S.hd o.op<=1) (F:∀t x,svU U (st.ev tt t x)) (d:Mk st st' U) (h:Zbv tt S key o st' v u):Zbv tt S key o st v u:=by
 cases hc:XE o.op with
 |some c=>
  simp only[Zbv,hc]at h ⊢;have g:∃args ts,o.op=.call ⟨.value (.func c.1),args,ts⟩/\c.2.1=ts.toList/\c.2.2=args.toList:=by
   unfold XE at hc;split at hc
   .rename_i f args ts L;simp only[A0]at hc;rw [<-hc];exact ⟨args,ts,L,rfl,rfl⟩
   .simp at hc
  obtain ⟨args,ts,K,N,M⟩:=g;have i:evs tt st c.2.1 c.2.2=evs tt st' c.2.1 c.2.2:=Zfd fun x m t=>G x (by rw [K];rw [M]at m;simp [Op.operands,Call.operands];exact .inr (by simpa using m)) t;rw [<-i]at h;have A:S.hd c.1=0\/S.hd c.1=4:=by
   rw [Zcl hc]at a;split at a
   .assumption
   .simp at a
  have b:∀x∈evs tt st c.2.1 c.2.2,svU U x:=fun x B=>by
   obtain ⟨p,_,rfl⟩:=AD.1 B;exact F _ _
  rcases A with A|A
  .rw [A]at h ⊢;simp only[Za3]at h ⊢;obtain ⟨E,e,D,C⟩:=h;exact ⟨E,e,Zi0 d b D,C⟩
  .rw [A]at h ⊢;simp only[Za3]at h ⊢;obtain ⟨E,e,D,C⟩:=h;exact ⟨E,e,Zi0 d (fun x B=>by
    obtain ⟨y,J,rfl⟩:=AD.1 B;exact ZzO (b y J)) D,C⟩
 |none=>
  simp only[Zbv,hc]at h ⊢;cases hd:Qk o.op with
  |some c=>have h4:=ZiY (tt:=tt) (hs:=S.hd) hd;omega
  |none=>
   rw [hd]at h;simp only at h ⊢;obtain ⟨H,ob,n⟩:=st;obtain ⟨j,ob',n'⟩:=st';have I:opE tt key o ⟨j,ob',n'⟩=opE tt key o ⟨H,ob',n⟩:=Zq2 fun x m t=>by
    rw [<-G x m t];exact ZwA _ _ _ _ _ _ _
   rw [I]at h;exact Zzk a d F h
theorem ZBY {o:Op}(h:Zx6 tt o=true):(∃t x A,o=.slice t x (some A) none none/\Zd6 (tt t)=false)\/∃args ts,o=.call ⟨.builtin .append,args,ts⟩:=by
 unfold Zx6 at h;split at h
 .exact .inl ⟨_,_,_,rfl,by simpa using h⟩
 .exact .inr ⟨_,_,rfl⟩
 .simp at h
theorem ZAm [NW] {s:SV}{a:List (List CT)×List Nat×Nat}(hs:svU U s) (h:ZhJ st s=some a):∀k∈a.2.1,U k:=by
 unfold ZhJ at h;split at h
 .simp only[A0]at h;rw [<-h];simp
 .split at h
  .split at h
   .simp at h
   .simp only[A0]at h;rw [<-h];intro k A;simp only[AH,AT,or_false]at A;subst A;exact hs (.row _) yG
  .simp at h
 .simp at h
theorem Zz9 [NW] {B:Bool}{s:SV}{a:List (List CT)×List Nat×Nat}(hs:svU U s) (h:ZhD st B s=some a):∀k∈a.2.1,U k:=by
 unfold ZhD at h;split at h
 .simp only[A0]at h;rw [<-h];simp
 .simp only[A0]at h;rw [<-h];simp
 .split at h
  .split at h
   .simp only[A0]at h;rw [<-h];simp
   .simp only[A0]at h;rw [<-h];intro k A;simp only[AH,AT,or_false]at A;subst A;exact hs (.row _) yG
  .simp at h
 .simp at h
theorem Zyk [NW] {t:Option TI}{s x:SV}(hs:svU U s) (B:svU U x) (a:∀k,U k->st.ob k=st'.ob k):ZpZ st key t s x=ZpZ st' key t s x:=by
 have F:ZhJ st s=ZhJ st' s:=by
  unfold ZhJ;split
  .rfl
  .rename_i k;rw [a k (hs (.row k) yG)]
  .rfl
 have E:∀A,ZhD st A x=ZhD st' A x:=fun A=>by
  unfold ZhD;split
  .rfl
  .rfl
  .rename_i k;rw [a k (B (.row k) yG)]
  .rfl
 have D:∀e m,Zpz st e m s=Zpz st' e m s:=fun e m=>by
  unfold Zpz;split
  .rename_i k;rw [a k (hs (.row k) yG)]
  .rfl
  .rfl
 have C:∀m,ZmT st m x=ZmT st' m x:=fun m=>by
  unfold ZmT;split
  .rename_i k;rw [a k (B (.row k) yG)]
  .rfl
  .rfl
  .rfl
 unfold ZpZ;split
 .simp only[F,E,D,C]
 .rfl
theorem Zwn {ts:List TypeId}{vs:List SV}{r:SV×List (Nat×Ob)}(h:Zhv tt st key .append ts vs=some r):∃t s x,ts=[t,t]/\vs=[s,x]/\ZpZ st key (tt t) s x=some r:=by
 match ts,vs,h with
 | [t,u],[s,x],h=>
  simp only[Zhv]at h;split at h
  .rename_i e;subst e;exact ⟨t,s,x,rfl,rfl,h⟩
  .simp at h
 | [],_,h=>simp [Zhv]at h
 | [_],_,h=>simp [Zhv]at h
 |_::_::_::_,_,h=>simp [Zhv]at h
 | [_,_],[],h=>simp [Zhv]at h
 | [_,_],[_],h=>simp [Zhv]at h
 | [_,_],_::_::_::_,h=>simp [Zhv]at h
theorem ZBw [NW] {o:Oper}{v:SV}{u:List (Nat×Ob)}(K:Zx6 tt o.op=true) (G:∀t x,svU U (st.ev tt t x)) (h:Zbv tt S key o st v u):(∀p∈u,(key<=p.1/\p.1<key+16)\/(U p.1/\(p.2=st.ob p.1\/p.2=.gone))):=by
 obtain ⟨g,op,ty,i,P,O⟩:=o;obtain ⟨t,x,I,D,hs⟩|⟨args,ts,D⟩:=ZBY K
 rotate_left
 .simp only at D;subst D;have A:Zhv tt st key .append ts.toList (evs tt st ts.toList args.toList)=some (v,u):=h;obtain ⟨t,s,x,_,F,A⟩:=Zwn A;have c:svU U s/\svU U x:=by
   have d:∀y∈evs tt st ts.toList args.toList,svU U y:=fun y H=>by
    obtain ⟨p,_,rfl⟩:=AD.1 H;exact G _ _
   exact ⟨d s (by rw [F];simp),d x (by rw [F];simp)⟩
  unfold ZpZ at A;split at A
  .obtain ⟨a,N,A⟩:=AE.1 A;obtain ⟨b,M,A⟩:=AE.1 A;split at A
   .simp only[A0,A6]at A;rw [<-A.2];intro p B;rcases AC.1 B with B|B
    .obtain ⟨k,C,rfl⟩:=AD.1 B;refine .inr ⟨?_,.inr rfl⟩;rcases AC.1 C with C|C
     .exact ZAm c.1 N k C
     .exact Zz9 c.2 M k C
    .simp only[AH,AT,or_false]at B;subst B;exact .inl ⟨AJ _,by simp only;omega⟩
   .simp at A
  .simp at A
 simp only at D;subst D;have A:opE tt key ⟨g,.slice t x (some I) none none,ty,i,P,O⟩ st=some (v,u):=h;simp only[opE,Zbf,AQ,AP]at A;intro p B;split at A
 .rename_i k J;have E:U k:=by
   have:=G 0 x;rw [J]at this;exact this (.row k) yG
  split at A
  .split at A
   .rename_i j;split at A
    .split at A
     .obtain ⟨l,_,e⟩:=AB.1 A;simp only[A6]at e;rw [<-e.2]at B;simp only[AH,AT,or_false]at B;rcases B with rfl|rfl
      .exact .inr ⟨E,.inr rfl⟩
      .exact .inl ⟨AJ _,by simp only;omega⟩
     .rename_i f;obtain ⟨_,_,A⟩:=AE.1 A;obtain ⟨_,_,e⟩:=AB.1 A;simp only[A6]at e;rw [<-e.2]at B;simp only[AH,AT,or_false]at B;subst B;refine .inr ⟨E,.inl ?_⟩;simp only[mvS]at f;split at f
      .rename_i L;rw [j,L]
      .simp at f
    .simp at A
   .simp at A
  .simp at A
 .obtain ⟨_,_,e⟩:=AB.1 A;simp only[A6]at e;rw [<-e.2]at B;simp at B
 .simp at A
theorem ZBo [NW] {o:Oper}{v:SV}{u:List (Nat×Ob)}(K:Zx6 tt o.op=true) (D:∀x∈o.op.operands,∀t,st.ev tt t x=st'.ev tt t x) (F:∀t x,svU U (st'.ev tt t x)) (b:∀k,U k->st.ob k=st'.ob k) (h:Zbv tt S key o st' v u):Zbv tt S key o st v u:=by
 obtain ⟨c,op,ty,d,H,G⟩:=o;obtain ⟨t,x,C,B,hs⟩|⟨args,ts,B⟩:=ZBY K
 rotate_left
 .simp only at B;subst B;have A:Zhv tt st' key .append ts.toList (evs tt st' ts.toList args.toList)=some (v,u):=h;show Zhv tt st key .append ts.toList (evs tt st ts.toList args.toList)=some (v,u)
  have e:evs tt st ts.toList args.toList=evs tt st' ts.toList args.toList:=Zfd fun x m t=>D x (by simpa [Op.operands,Call.operands]using m) t;have a:∀y∈evs tt st' ts.toList args.toList,svU U y:=fun y I=>by
   obtain ⟨p,_,rfl⟩:=AD.1 I;exact F _ _
  obtain ⟨t,s,x,M,E,A⟩:=Zwn A;rw [e,E,M];rw [E]at a;show (if t=t then ZpZ st key (tt t) s x else none)=_
  rw [yp rfl,Zyk (a s yG) (a x yG) b,A]
 simp only at B;subst B;have A:opE tt key ⟨c,.slice t x (some C) none none,ty,d,H,G⟩ st'=some (v,u):=h;show opE tt key ⟨c,.slice t x (some C) none none,ty,d,H,G⟩ st=some (v,u)
 have e1:=D x (by simp [Op.operands]) 0;have e2:=D C (by simp [Op.operands]) 0;simp only[opE,AQ,AP,e1,e2]at A ⊢;rw [<-A];have hx:=F 0 x;unfold Zbf;split
 .rename_i k J;rw [J]at hx;have L:U k:=hx (.row k) yG;simp only[b k L]
 .rfl
 .rfl
theorem ZbR [NW] {a:List Oper}{o:Oper}{v:SV}{u:List (Nat×Ob)}{C:Prop}(h:opR tt S a key o st v u) (B:Zbv tt S key o st v u->C) (A:u=[]->C):C:=by
 unfold opR at h;split at h
 .exact B h
 .exact A h.2
 .unfold gK at h;split at h
  .split at h
   .exact B h
   .exact A h.2
  .split at h
   .exact A h.2
   .exact h.elim
def ZwN (tt:Nat->Option TI) (hs:FuncId->Nat) (x y:Op):Bool:=cls tt hs x==0||cls tt hs y==0||(Nat.ble (cls tt hs x) 2&&Nat.ble (cls tt hs y) 2)||(Nat.ble (cls tt hs x) 1&&Nat.ble (cls tt hs y) 3)||(Nat.ble (cls tt hs x) 3&&Nat.ble (cls tt hs y) 1)||(Zx6 tt x&&Nat.ble (cls tt hs y) 1)
theorem comm [NW] {c:Array Oper}{oi oj:Oper}{O R:Nat}{vi vj:SV}{ui uj:List (Nat×Ob)}(G:oi.apart c oj=true) (K:ZwN tt S.hd oi.op oj.op=true) (hU:StU U st) (m:∀k,O<=k->k<O+16->¬U k) (j:∀k,R<=k->k<R+16->¬U k) (aa:O+16<=R\/R+16<=O)
  (h:opR tt S c.toList O oi st vi ui) (h':opR tt S c.toList R oj ((st.put oi.dst vi).app ui) vj uj):
  opR tt S c.toList R oj st vj uj/\opR tt S c.toList O oi ((st.put oj.dst vj).app uj) vi ui/\((((st.put oi.dst vi).app ui).put oj.dst vj).app uj)=((((st.put oj.dst vj).app uj).put oi.dst vi).app ui):=by
 obtain ⟨a1,a2,a3⟩:=Oper.apart_spec G;have b:∀t x,svU U (st.ev tt t x):=fun t x=>ZGs hU t x;obtain ⟨i1,i2,i3⟩:=ZoQ (U:=U) b h;have l:(∀p∈ui,∀q∈uj,p.1≠q.1)->((((st.put oi.dst vi).app ui).put oj.dst vj).app uj)=((((st.put oj.dst vj).app uj).put oi.dst vi).app ui):=fun H=>by
  have o:((((st.put oi.dst vi).app ui).put oj.dst vj).app uj).sl=((((st.put oj.dst vj).app uj).put oi.dst vi).app ui).sl:=by
   have e1:∀(s:St) (u:List (Nat×Ob)) (d:Option Nat) (v:SV),((s.app u).put d v).sl=(s.put d v).sl:=fun s u d v=>by cases d<;>rfl
   show (((st.put oi.dst vi).app ui).put oj.dst vj).sl=(((st.put oj.dst vj).app uj).put oi.dst vi).sl
   rw [e1,e1];exact Zq7 st _ _ _ _ fun t P=>a2 t P
  have i:((((st.put oi.dst vi).app ui).put oj.dst vj).app uj).ob=((((st.put oj.dst vj).app uj).put oi.dst vi).app ui).ob:=by
   show Zl (((st.put oi.dst vi).app ui).put oj.dst vj).ob uj=Zl (((st.put oj.dst vj).app uj).put oi.dst vi).ob ui
   rw [QH,QH];show Zl (Zl (st.put oi.dst vi).ob ui) uj=Zl (Zl (st.put oj.dst vj).ob uj) ui
   rw [QH,QH];exact Zth H
  have hn:((((st.put oi.dst vi).app ui).put oj.dst vj).app uj).n=((((st.put oj.dst vj).app uj).put oi.dst vi).app ui).n:=by
   show (((st.put oi.dst vi).app ui).put oj.dst vj).n=(((st.put oj.dst vj).app uj).put oi.dst vi).n
   rw [ZpC,ZpC];show (st.put oi.dst vi).n=(st.put oj.dst vj).n
   rw [ZpC,ZpC]
  generalize ((((st.put oi.dst vi).app ui).put oj.dst vj).app uj)=s1 at o i hn ⊢
  generalize ((((st.put oj.dst vj).app uj).put oi.dst vi).app ui)=s2 at o i hn ⊢
  cases s1;cases s2;simp only at o i hn;subst o i hn;rfl
 by_cases A:Zx6 tt oi.op=true/\cls tt S.hd oj.op<=1
 .obtain ⟨hm,hj⟩:=A;have B:∀p∈ui,(O<=p.1/\p.1<O+16)\/(U p.1/\(p.2=st.ob p.1\/p.2=.gone)):=ZbR h (fun h=>ZBw hm b h) fun e p T=>by rw [e]at T;simp at T
  have I:Mk st ((st.put oi.dst vi).app ui) U:=fun k W=>by
   show Zl (st.put oi.dst vi).ob ui k=st.ob k\/Zl (st.put oi.dst vi).ob ui k=.gone
   rw [QH];have z:∀(u:List (Nat×Ob)) (ob:Nat->Ob),(∀p∈u,(O<=p.1/\p.1<O+16)\/(U p.1/\(p.2=st.ob p.1\/p.2=.gone)))->(ob k=st.ob k\/ob k=.gone)->(Zl ob u k=st.ob k\/Zl ob u k=.gone):=by
    intro u;induction u with
    |nil=>intro ob _ h;exact h
    |cons p u ih=>
     intro ob T h;refine ih _ (fun x mx=>T x (by simp [mx])) ?_;by_cases g:k=p.1
     .rcases T p yG with h1|h1
      .exact absurd (g ▸ W) (m p.1 h1.1 h1.2)
      .rw [g,ZI];exact h1.2
     .rw [Z2 _ _ g];exact h
   exact z ui st.ob B (.inl rfl)
  have C:∀s∈oj.looksAt c,st.sl s=((st.put oi.dst vi).app ui).sl s:=fun s V=>(Zep st oi.dst vi s fun t P e=>a1 t P (e ▸ V)).symm;have hA:opR tt S c.toList R oj st vj uj:=Zj1 C (Zx7 (Zb6 C) hj b I) h';obtain ⟨_,j2,_⟩:=ZoQ (U:=U) b hA;have D:∀s∈oi.looksAt c,((st.put oj.dst vj).app uj).sl s=st.sl s:=fun s V=>Zep st oj.dst vj s fun t P e=>a3 t P (e ▸ V);have J:∀k,U k->((st.put oj.dst vj).app uj).ob k=st.ob k:=fun k W=>by
   show Zl (st.put oj.dst vj).ob uj k=st.ob k
   rw [QH];exact Zae fun p L e=>j p.1 (j2 yE p L).1 (j2 yE p L).2 (e ▸ W)
  refine ⟨hA,Zj1 D (ZBo hm (Zb6 D) b J) h,l fun p L q N e=>?_⟩;have h2:=j2 yE q N;rcases B p L with h1|h1
  .omega
  .exact j q.1 h2.1 h2.2 (e ▸ h1.1)
 have a:cls tt S.hd oi.op=0\/cls tt S.hd oj.op=0\/(cls tt S.hd oi.op<=2/\cls tt S.hd oj.op<=2)\/(cls tt S.hd oi.op<=1/\cls tt S.hd oj.op<=3)\/(cls tt S.hd oi.op<=3/\cls tt S.hd oj.op<=1):=by
  unfold ZwN at K;simp only[AI,beq_iff_eq,AA]at K;rcases K with ((((K|K)|K)|K)|K)|K
  .exact .inl K
  .exact .inr (.inl K)
  .exact .inr (.inr (.inl ⟨AF K.1,AF K.2⟩))
  .exact .inr (.inr (.inr (.inl ⟨AF K.1,AF K.2⟩)))
  .exact .inr (.inr (.inr (.inr ⟨AF K.1,AF K.2⟩)))
  .exact absurd ⟨K.1,AF K.2⟩ A
 have f:∀{u:List (Nat×Ob)} {q:Nat},(∀p∈u,q<=p.1/\p.1<q+16)->(∀k,q<=k->k<q+16->¬U k)->∀k,U k->st.ob k=Zl st.ob u k:=fun hu hq k W=>(Zae fun p L e=>hq p.1 (hu p L).1 (hu p L).2 (e ▸ W)).symm;have y:∀{u:List (Nat×Ob)} {q:Nat},(∀p∈u,(q<=p.1/\p.1<q+16)\/(U p.1/\p.2=Yy (st.ob p.1)))->(∀k,q<=k->k<q+16->¬U k)->∀k,U k->Zl st.ob u k=st.ob k\/Zl st.ob u k=Yy (st.ob k):=fun {u q} hu hq k W=>by
  have z:∀(u:List (Nat×Ob)) (ob:Nat->Ob),(∀p∈u,(q<=p.1/\p.1<q+16)\/(U p.1/\p.2=Yy (st.ob p.1)))->(ob k=st.ob k\/ob k=Yy (st.ob k))->(Zl ob u k=st.ob k\/Zl ob u k=Yy (st.ob k)):=by
   intro u;induction u with
   |nil=>intro ob _ h;exact h
   |cons p u ih=>
    intro ob T h;refine ih _ (fun x mx=>T x (by simp [mx])) ?_;by_cases g:k=p.1
    .rcases T p yG with h1|h1
     .exact absurd (g ▸ W) (hq p.1 h1.1 h1.2)
     .right;rw [g,ZI];exact h1.2
    .rw [Z2 _ _ g];exact h
  exact z u st.ob hu (.inl rfl)
 have hA:opR tt S c.toList R oj st vj uj:=by
  refine (ZaQ (U:=U) (st:=st) (st':=(st.put oi.dst vi).app ui) (fun s V=>(Zep st oi.dst vi s fun t P e=>a1 t P (e ▸ V)).symm) ?_).2 h';show cls tt S.hd oj.op=0\/st.ob=Zl (st.put oi.dst vi).ob ui\/_/\((cls tt S.hd oj.op<=3/\∀k,U k->st.ob k=Zl (st.put oi.dst vi).ob ui k)\/(cls tt S.hd oj.op<=1/\∀k,U k->Zl (st.put oi.dst vi).ob ui k=st.ob k\/Zl (st.put oi.dst vi).ob ui k=Yy (st.ob k)))
  rw [QH];rcases a with a|a|⟨M,c2⟩|⟨M,c2⟩|⟨M,c2⟩
  .right;left;rw [i1 a];rfl
  .left;exact a
  .right;right;exact ⟨b,.inl ⟨yE,f (i2 M) m⟩⟩
  .right;right;exact ⟨b,.inl ⟨c2,f (i2 yE) m⟩⟩
  .right;right;exact ⟨b,.inr ⟨c2,y (i3 M) m⟩⟩
 obtain ⟨E,w,F⟩:=ZoQ (U:=U) b hA;refine ⟨hA,?_,?_⟩
 .refine (ZaQ (U:=U) (st:=st) (st':=(st.put oj.dst vj).app uj) (fun s V=>(Zep st oj.dst vj s fun t P e=>a3 t P (e ▸ V)).symm) ?_).1 h;show cls tt S.hd oi.op=0\/st.ob=Zl (st.put oj.dst vj).ob uj\/_/\((cls tt S.hd oi.op<=3/\∀k,U k->st.ob k=Zl (st.put oj.dst vj).ob uj k)\/(cls tt S.hd oi.op<=1/\∀k,U k->Zl (st.put oj.dst vj).ob uj k=st.ob k\/Zl (st.put oj.dst vj).ob uj k=Yy (st.ob k)))
  rw [QH];rcases a with a|a|⟨M,c2⟩|⟨M,c2⟩|⟨M,c2⟩
  .left;exact a
  .right;left;rw [E a];rfl
  .right;right;exact ⟨b,.inl ⟨yE,f (w c2) j⟩⟩
  .right;right;exact ⟨b,.inr ⟨M,y (F c2) j⟩⟩
  .right;right;exact ⟨b,.inl ⟨M,f (w yE) j⟩⟩
 .rcases a with a|a|⟨M,c2⟩|⟨M,c2⟩|⟨M,c2⟩
  .exact l fun p L=>by rw [i1 a]at L;simp at L
  .exact l fun p L q N=>by rw [E a]at N;simp at N
  .refine l fun p L q N e=>?_;have:=i2 M p L;have:=w c2 q N;omega
  .refine l fun p L q N e=>?_;have h1:=i2 yE p L;rcases F c2 q N with h2|h2
   .omega
   .exact m p.1 h1.1 h1.2 (e ▸ h2.1)
  .refine l fun p L q N e=>?_;have h1:=w yE q N;rcases i3 M p L with h2|h2
   .omega
   .exact j q.1 h1.1 h1.2 (e ▸ h2.1)
/- a load and a call into which something is handed: what is handed in stands at the key 0, the load looks elsewhere -/
def Zj6:Op->Bool
 |.load _ _=>true
 |_=>false
def Zyh (hs:FuncId->Nat) (o:Op):Bool:=match XE o with
 |some c=>hs c.1==1
 |none=>false
def Zre:Op->Bool
 |.slice _ _ _ _ none=>true
 |_=>false
def Zr0:Op->Bool
 |.indexAddr _ _ _=>true
 |_=>false
def Zyc (tt:Nat->Option TI) (hs:FuncId->Nat) (b:Bool) (all:List Oper) (x y:Op):Bool:=ZwN tt hs x y||(b&&((!Zon all all&&((Zj6 x&&Zyh hs y)||(Zyh hs x&&Zj6 y)))||Zre x||Zre y||((Zj6 x||Zr0 x)&&Xo all y)||(Xo all x&&(Zj6 y||Zr0 y))))
theorem Zue {o:Op}{c:FuncId×List TypeId×List Operand}(h:XE o=some c):∃args ts,o=.call ⟨.value (.func c.1),args,ts⟩/\c.2.2=args.toList:=by
 unfold XE at h;split at h
 .rename_i f args ts;simp only[A0]at h;rw [<-h];exact ⟨args,ts,rfl,rfl⟩
 .simp at h
theorem ZtT {all:List Oper}{o:Op}(A:st.n=st'.n) (h:∀x∈o.operands,∀t,st.ev tt t x=st'.ev tt t x):stk tt S all o st=stk tt S all o st':=by
 unfold stk;split
 .rename_i t x;rw [h x (by simp [Op.operands]),A]
 .rename_i t x w;rw [h x (by simp [Op.operands]),A]
 .rename_i t x _ _ _;rw [h x (by simp [Op.operands])]
 .split
  .rename_i c D;obtain ⟨args,ts,C,e⟩:=Zue D;unfold hdC;split
   .cases hh:c.2.2.head? with
    |none=>rfl
    |some x=>
     have B:x∈args.toList:=by rw [<-e];exact List.mem_of_mem_head? hh
     simp only;rw [h x (by rw [C];simp [Op.operands,Call.operands];exact .inr (by simpa using B))]
   .rfl
  .rfl
theorem ZfL [NW] {a:Array Oper}{oi oj:Oper}{vi vj:SV}{ui uj:List (Nat×Ob)}(b:oi.apart a oj=true):stk tt S a.toList oj.op st=stk tt S a.toList oj.op ((st.put oi.dst vi).app ui)/\stk tt S a.toList oi.op ((st.put oj.dst vj).app uj)=stk tt S a.toList oi.op st:=by
 obtain ⟨D,E,C⟩:=Oper.apart_spec b;exact ⟨ZtT (ZpC st oi.dst vi).symm (Zb6 fun s A=>(Zep st oi.dst vi s fun t B e=>D t B (e ▸ A)).symm),ZtT (ZpC st oj.dst vj) (Zb6 fun s A=>Zep st oj.dst vj s fun t B e=>C t B (e ▸ A))⟩
theorem Zq0 [NW] {all:List Oper}{o:Oper}{v:SV}{u:List (Nat×Ob)}(H:Zyh S.hd o.op=true) (hs:stk tt S all o.op st=true) (h:Zbv tt S key o st v u):∀p∈u,p.1=0\/(key<=p.1/\p.1<key+16)\/p.2=Yy (st.ob p.1):=by
 unfold Zyh at H;split at H
 rotate_left
 .simp at H
 rename_i c B;have K:S.hd c.1=1:=by simpa using H
 unfold Zbv at h;rw [B]at h;simp only[K,Za3]at h;obtain ⟨L,r,k,U,l,b,V,G,A,T,O,P,R,rfl,rfl⟩:=h;have E:hdC tt 1 c.2.2.head? st=true:=by
  have e:stk tt S all o.op st=hdC tt (S.hd c.1) c.2.2.head? st:=by
   unfold stk;split
   .rename_i F;rw [F]at B;simp [XE]at B
   .rename_i F;rw [F]at B;simp [XE]at B
   .rename_i F;rw [F]at B;simp [XE]at B
   .rw [B]
  rw [<-K,<-e];exact hs
 have d:∃off,L=.bp 0 off:=by
  unfold hdC at E;simp only at E;cases hx:c.2.2 with
  |nil=>rw [hx]at E;simp at E
  |cons x xs=>
   rw [hx]at E G;simp only[List.head?_cons]at E;have J:∀ts:List TypeId,∃t q,evs tt st ts (x::xs)=st.ev tt t x::q:=fun ts=>by cases ts<;>exact ⟨_,_,rfl⟩
   obtain ⟨t,q,J⟩:=J c.2.1;rw [J]at G;simp only[AY]at G;have D:hdB (st.ev tt 0 x)=true:=E;have N:∀I,hdB (st.ev tt I x)=true->∃off,st.ev tt t x=.bp 0 off:=fun I D=>by
    cases x with
    |tmp s=>
     have a:hdB (st.sl s)=true:=D;unfold hdB at a;split at a
     .rename_i M off e;exact ⟨off,by show st.sl s=_;rw [e,of_decide_eq_true a]⟩
     .simp at a
    |const u=>
     exfalso;have a:hdB (cvT (tt I) u)=true:=D;unfold cvT at a;split at a<;>first|(simp [hdB]at a;done)|(split at a<;>simp [hdB]at a)
    |func f=>simp [St.ev,hdB]at D
    |global g=>simp [St.ev,hdB]at D
   obtain ⟨off,e⟩:=N 0 D;exact ⟨off,by rw [<-G.1,e]⟩
 obtain ⟨off,rfl⟩:=d;have i:k=0:=by
  unfold Zhz at A;split at A
  .rename_i M e;simp only[SV.bp.injEq]at e;obtain ⟨rfl,rfl⟩:=e;split at A
   .rename_i t cs D;split at A
    .obtain ⟨_,_,e⟩:=AB.1 A;simp only[A6]at e;exact e.1.symm
    .simp at A
   .simp at A
  .rename_i e;simp at e
  .simp at A
 subst i;intro p C;rcases AC.1 C with C|C
 .exact .inr (.inr (ZoD C).2)
 .rcases AH.1 C with rfl|C
  .exact .inl rfl
  .have:=(Zix b key).2 p C;exact .inr (.inl yE)
theorem ZqG [NW] {all:List Oper}(E:Zon all all=false) {o:Oper}{v:SV}{u:List (Nat×Ob)}(A:Zj6 o.op=true) (F:∀x∈o.op.operands,∀t,st.ev tt t x=st'.ev tt t x) (hs:stk tt S all o.op st=true) (G:∀t x,svU U (st.ev tt t x)) (c:∀k,U k->k≠0->st'.ob k=st.ob k\/st'.ob k=Yy (st.ob k)):Zbv tt S key o st v u↔Zbv tt S key o st' v u:=by
 obtain ⟨H,op,ty,D,J,I⟩:=o;unfold Zj6 at A;simp only at A;split at A
 rotate_left
 .simp at A
 rename_i t x;have e1:=F x (by simp [Op.operands]) 0;have hx:=G 0 x;have a:ldB (st.ev tt 0 x)=true:=by
  have C:ldX (Zon all all) st.n (st.ev tt 0 x)=true:=hs;rw [E]at C;exact C
 have key:Zap st (tt t) (st.ev tt 0 x)=Zap st' (tt t) (st'.ev tt 0 x):=by
  rw [<-e1];unfold Zap;split
  .rename_i k off B;rw [B]at hx a;have b:k≠0:=fun e=>by subst e;simp [ldB]at a
   rcases c k hx b with h|h
   .rw [h]
   .rw [h];cases st.ob k<;>rfl
  .rename_i k m i off B;rw [B]at hx a;have b:k≠0:=fun e=>by subst e;simp [ldB]at a
   rcases c k hx b with h|h
   .rw [h]
   .rw [h];cases st.ob k<;>rfl
  .rfl
  .rfl
  .rfl
 show opE tt _ _ st=some (v,u)↔opE tt _ _ st'=some (v,u)
 simp only[opE,key]
theorem ZvZ [NW] {a:List Oper}{o:Oper}{v:SV}{u:List (Nat×Ob)}(A:Zj6 o.op=true) (h:opR tt S a key o st v u):u=[]:=by
 refine ZbR h (fun h=>?_) id;obtain ⟨b,op,ty,c,D,C⟩:=o;unfold Zj6 at A;simp only at A;split at A
 .have B:opE tt key ⟨b,.load _ _,ty,c,D,C⟩ st=some (v,u):=h;exact XN B
 .simp at A
theorem ZnI {a:Array Oper}{o:Oper}{v:SV}{u:List (Nat×Ob)}(A:∀s∈o.looksAt a,st.sl s=st'.sl s) (B:Zbv tt S key o st v u↔Zbv tt S key o st' v u) [NW]:opR tt S a.toList key o st v u↔opR tt S a.toList key o st' v u:=⟨Zj1 (fun s C=>(A s C).symm) B.1,Zj1 A B.2⟩
theorem ZnG [NW] {all:List Oper}{o:Oper}{v:SV}{u:List (Nat×Ob)}(C:Zre o.op=true) (hs:stk tt S all o.op st=true) (h:Zbv tt S key o st v u):u=[]/\∀{st':St},(∀x∈o.op.operands,∀t,st.ev tt t x=st'.ev tt t x)->Zbv tt S key o st' v u:=by
 obtain ⟨b,op,ty,c,G,F⟩:=o;unfold Zre at C;simp only at C;split at C
 rotate_left
 .simp at C
 rename_i t x A hi;have a:slB (st.ev tt 0 x)=true:=hs;have B:opE tt key ⟨b,.slice t x A hi none,ty,c,G,F⟩ st=some (v,u):=h;unfold slB at a;split at a
 rotate_left
 .simp at a
 rename_i y E;constructor
 .simp only[opE]at B;rw [E]at B;simp only[Zbf]at B;obtain ⟨_,_,e⟩:=AB.1 B;simp only[A6]at e;exact e.2.symm
 .intro st' D;show opE tt key ⟨b,.slice t x A hi none,ty,c,G,F⟩ st'=some (v,u)
  have e1:=D x (by simp [Op.operands]) 0;have I:A.map (st.ev tt 0)=A.map (st'.ev tt 0):=by
   cases A with
   |none=>rfl
   |some l=>exact congrArg some (D l (by simp [Op.operands]) 0)
  have H:hi.map (st.ev tt 0)=hi.map (st'.ev tt 0):=by
   cases hi with
   |none=>rfl
   |some l=>exact congrArg some (D l (by simp [Op.operands]) 0)
  rw [<-B];simp only[opE,<-e1,<-I,<-H,E,Zbf]
theorem Zsk {all:List Oper}{o:Oper}:∀{l:List Oper},o∈l->Xo all o.op=true->Zon all l=true
 | [],m,_=>by simp at m
 |x::l,m,h=>by
  unfold Zon;rcases AH.1 m with rfl|m
  .rw [h];rfl
  .rw [Zsk m h];cases Xo all x.op<;>rfl
theorem ZzQ [NW] {a:List Oper}{o:Oper}{v:SV}{u:List (Nat×Ob)}(A:(Zj6 o.op||Zr0 o.op)=true) (h:opR tt S a key o st v u):u=[]:=by
 rw [AI]at A;rcases A with A|A
 .exact ZvZ A h
 refine ZbR h (fun h=>?_) id;obtain ⟨b,op,ty,c,D,C⟩:=o;unfold Zr0 at A;simp only at A;split at A
 .have B:opE tt key ⟨b,.indexAddr _ _ _,ty,c,D,C⟩ st=some (v,u):=h;simp only[opE]at B;split at B
  .exact XN B
  .simp at B
 .simp at A
theorem Zyw [NW] {all:List Oper}(H:Zon all all=true) {o:Oper}{v:SV}{u:List (Nat×Ob)}{kb F t2:Nat}{J c2:List AV}(A:(Zj6 o.op||Zr0 o.op)=true) (B:∀x∈o.op.operands,∀t,st.ev tt t x=st'.ev tt t x) (hs:stk tt S all o.op st=true)
  (K:st.n<=kb) (E:st.ob kb=.box F J) (b:st'.ob kb=.box t2 c2) (a:∀k,k≠kb->st'.ob k=st.ob k):Zbv tt S key o st v u↔Zbv tt S key o st' v u:=by
 obtain ⟨I,op,ty,G,M,L⟩:=o;rw [AI]at A;rcases A with A|A
 .unfold Zj6 at A;simp only at A;split at A
  rotate_left
  .simp at A
  rename_i t x;have e1:=B x (by simp [Op.operands]) 0;have c:ldN st.n (st.ev tt 0 x)=true:=by
   have C:ldX (Zon all all) st.n (st.ev tt 0 x)=true:=hs;rw [H]at C;exact C
  have key:Zap st (tt t) (st.ev tt 0 x)=Zap st' (tt t) (st'.ev tt 0 x):=by
   rw [<-e1];unfold Zap;split
   .rename_i k off D;rw [D]at c;have C:k<st.n:=by simpa [ldN]using c
    rw [a k yE]
   .rename_i k m i off D;by_cases e:k=kb
    .subst e;rw [E,b]
    .rw [a k e]
   .rfl
   .rfl
   .rfl
  show opE tt _ _ st=some (v,u)↔opE tt _ _ st'=some (v,u)
  simp only[opE,key]
 .unfold Zr0 at A;simp only at A;split at A
  rotate_left
  .simp at A
  rename_i t x i;have e1:=B x (by simp [Op.operands]) 0;have e2:=B i (by simp [Op.operands]) 0;have key:∀m,Za1 st m (st.ev tt 0 x) (st.ev tt 0 i)=Za1 st' m (st'.ev tt 0 x) (st'.ev tt 0 i):=fun m=>by
   rw [<-e1,<-e2];unfold Za1;split
   .rfl
   .rename_i k _ j _ _;by_cases e:k=kb
    .subst e;rw [E,b]
    .rw [a k e]
   .rfl
  show opE tt _ _ st=some (v,u)↔opE tt _ _ st'=some (v,u)
  simp only[opE,key]
theorem ZAq [NW] {all:List Oper}{o:Oper}{v:SV}{u:List (Nat×Ob)}(B:Xo all o.op=true) (hs:stk tt S all o.op st=true) (h:Zbv tt S key o st v u):∃(kb t:Nat) (N c2:List AV),st.n<=kb/\st.ob kb=.box t N/\u=[(kb,.box t c2)]:=by
 obtain ⟨a,op,ty,c,O,M⟩:=o;unfold Xo at B;simp only at B;split at B
 rotate_left
 .simp at B
 rename_i t x w;have G:stY (stX all x) st.n (st.ev tt 0 x)=true:=hs;rw [B]at G;have C:stB st.n (st.ev tt 0 x)=true:=G;have H:opE tt key ⟨a,.store t x w,ty,c,O,M⟩ st=some (v,u):=h;simp only[opE]at H;obtain ⟨P,A,F⟩:=AB.1 H;simp only[A6]at F;obtain ⟨_,rfl⟩:=F;unfold stB at C;split at C
 rotate_left
 .simp at C
 rename_i k off J;rw [J]at A;have K:st.n<=k:=by simpa using C
 unfold Zhh at A;split at A
 .rename_i R E b vs D T;simp only[SV.bp.injEq]at D;obtain ⟨rfl,rfl⟩:=D;split at A
  .rename_i I cs L;split at A
   .simp only[A0]at A;exact ⟨k,I,cs,_,K,L,A.symm⟩
   .simp at A
  .simp at A
 .rename_i D _;simp at D
 .simp at A
theorem ZFU [NW] {b:Bool}{c:Array Oper}{oi oj:Oper}{ki kj:Nat}{vi vj:SV}{ui uj:List (Nat×Ob)}(j:oi.apart c oj=true) (hc:Zyc tt S.hd b c.toList oi.op oj.op=true) (N:oi∈c.toList) (O:oj∈c.toList) (hU:StU U st) (I:∀k,ki<=k->k<ki+16->¬U k) (J:∀k,kj<=k->k<kj+16->¬U k) (K:ki+16<=kj\/kj+16<=ki)
  (w:b=true->stk tt S c.toList oi.op st=true) (l:b=true->stk tt S c.toList oj.op ((st.put oi.dst vi).app ui)=true) (h:opR tt S c.toList ki oi st vi ui) (T:opR tt S c.toList kj oj ((st.put oi.dst vi).app ui) vj uj):
  opR tt S c.toList kj oj st vj uj/\opR tt S c.toList ki oi ((st.put oj.dst vj).app uj) vi ui/\((((st.put oi.dst vi).app ui).put oj.dst vj).app uj)=((((st.put oj.dst vj).app uj).put oi.dst vi).app ui):=by
 by_cases L:ZwN tt S.hd oi.op oj.op=true
 .exact comm j L hU I J K h T
 have R:b=true/\((Zon c.toList c.toList=false/\((Zj6 oi.op=true/\Zyh S.hd oj.op=true)\/(Zyh S.hd oi.op=true/\Zj6 oj.op=true)))\/Zre oi.op=true\/Zre oj.op=true\/((Zj6 oi.op||Zr0 oi.op)=true/\Xo c.toList oj.op=true)\/(Xo c.toList oi.op=true/\(Zj6 oj.op||Zr0 oj.op)=true)):=by
  unfold Zyc at hc
  rw [AI]at hc
  have:=hc.resolve_left L
  rw [AA]at this
  obtain ⟨q1,q2⟩:=this
  refine ⟨q1,?_⟩
  rw [AI,AI,AI,AI,AA,AA (Zj6 oi.op||Zr0 oi.op),AA (Xo c.toList oi.op),AI,AA,AA,AZ]at q2
  rcases q2 with (((q|q)|q)|q)|q
  .exact .inl q
  .exact .inr (.inl q)
  .exact .inr (.inr (.inl q))
  .exact .inr (.inr (.inr (.inl q)))
  .exact .inr (.inr (.inr (.inr q)))
 obtain ⟨R,hc⟩:=R
 obtain ⟨a1,a2,a3⟩:=Oper.apart_spec j
 have M:∀t x,svU U (st.ev tt t x):=fun t x=>ZGs hU t x
 have g:∀s∈oj.looksAt c,st.sl s=((st.put oi.dst vi).app ui).sl s:=fun s ms=>(Zep st oi.dst vi s fun t ht e=>a1 t ht (e ▸ ms)).symm
 have i:∀s∈oi.looksAt c,st.sl s=((st.put oj.dst vj).app uj).sl s:=fun s ms=>(Zep st oj.dst vj s fun t ht e=>a3 t ht (e ▸ ms)).symm
 have f:(((st.put oi.dst vi).put oj.dst vj)).sl=(((st.put oj.dst vj).put oi.dst vi)).sl:=Zq7 st _ _ _ _ fun t ht=>a2 t ht
 have e1:∀(s:St) (u:List (Nat×Ob)) (d:Option Nat) (v:SV),((s.app u).put d v)=((s.put d v).app u):=fun s u d v=>by cases d<;>rfl
 have o:ui=[]\/uj=[]->((((st.put oi.dst vi).app ui).put oj.dst vj).app uj)=((((st.put oj.dst vj).app uj).put oi.dst vi).app ui):=fun hn=>by
  rw [e1,e1]
  have hs:((st.put oi.dst vi).put oj.dst vj)=((st.put oj.dst vj).put oi.dst vi):=by
   have h2:((st.put oi.dst vi).put oj.dst vj).ob=((st.put oj.dst vj).put oi.dst vi).ob:=by simp only[QH]
   have h3:((st.put oi.dst vi).put oj.dst vj).n=((st.put oj.dst vj).put oi.dst vi).n:=by simp only[ZpC]
   generalize ((st.put oi.dst vi).put oj.dst vj)=s1 at f h2 h3
   generalize ((st.put oj.dst vj).put oi.dst vi)=s2 at f h2 h3
   cases s1;cases s2
   simp only at f h2 h3
   subst f h2 h3
   rfl
  rw [hs]
  rcases hn with rfl|rfl<;>rfl
 rcases hc with ⟨hm,hc⟩|y|y|⟨W,V⟩|⟨W,V⟩
 rotate_left
 ·-- the first is a slice that is only read
  have hs:=w R
  have hn:ui=[]:=ZbR h (fun h=>(ZnG y hs h).1) id
  subst hn
  have hA:opR tt S c.toList kj oj st vj uj:=(ZaQ (U:=U) g (.inr (.inl (by show st.ob=(st.put oi.dst vi).ob;rw [QH])))).2 T
  refine ⟨hA,Zj1 (fun s ms=>(i s ms).symm) (fun h=>(ZnG y hs h).2 (Zb6 i)) h,o (.inl rfl)⟩
 ·-- the second is one
  have hs:=(ZfL (tt:=tt) (S:=S) (st:=st) (vi:=vi) (ui:=ui) (vj:=vj) (uj:=uj) j).1.trans (l R)
  have hn:uj=[]:=ZbR T (fun h=>(ZnG y (l R) h).1) id
  subst hn
  have hA:opR tt S c.toList kj oj st vj []:=Zj1 g (fun h=>(ZnG y (l R) h).2 (fun x m t=>(Zb6 g x m t).symm)) T
  refine ⟨hA,?_,o (.inr rfl)⟩
  exact (ZaQ (U:=U) i (.inr (.inl (by show st.ob=(st.put oj.dst vj).ob;rw [QH])))).1 h
 ·-- what is read beside a store into a new box
  have F:=Zsk O V
  have z:=ZzQ W h
  have A:st.ob=((st.put oi.dst vi).app ui).ob:=by
   subst z
   show st.ob=(st.put oi.dst vi).ob
   rw [QH]
  have hA:=(ZaQ (U:=U) g (.inr (.inl A))).2 T
  have hs:=(ZfL (tt:=tt) (S:=S) (st:=st) (vi:=vi) (ui:=ui) (vj:=vj) (uj:=uj) j).1.trans (l R)
  refine ⟨hA,?_,o (.inl z)⟩
  refine ZbR hA (fun hx=>?_) (fun e=>?_)
  .obtain ⟨kb,t,c1,c2,hk,G,hu⟩:=ZAq V hs hx
   subst hu
   refine (ZnI i (Zyw (kb:=kb) F W (Zb6 i) (w R) hk G (t2:=t) (c2:=c2) ?_ fun k H=>?_)).1 h
   .exact ZI _ _ _
   .show upd (st.put oj.dst vj).ob kb _ k=_
    rw [Z2 _ _ H,QH]
  .refine (ZaQ (U:=U) i (.inr (.inl ?_))).1 h
   subst e
   show st.ob=(st.put oj.dst vj).ob
   rw [QH]
 .have F:=Zsk N W
  have B:=ZzQ V T
  have hs:=(ZfL (tt:=tt) (S:=S) (st:=st) (vi:=vi) (ui:=ui) (vj:=vj) (uj:=uj) j).1.trans (l R)
  have hA:opR tt S c.toList kj oj st vj uj:=by
   refine ZbR h (fun hx=>?_) (fun e=>?_)
   .obtain ⟨kb,t,c1,c2,hk,G,hu⟩:=ZAq W (w R) hx
    subst hu
    refine (ZnI g (Zyw (kb:=kb) F V (Zb6 g) hs hk G (t2:=t) (c2:=c2) ?_ fun k H=>?_)).2 T
    .exact ZI _ _ _
    .show upd (st.put oi.dst vi).ob kb _ k=_
     rw [Z2 _ _ H,QH]
   .refine (ZaQ (U:=U) g (.inr (.inl ?_))).2 T
    subst e
    show st.ob=(st.put oi.dst vi).ob
    rw [QH]
  refine ⟨hA,(ZaQ (U:=U) i (.inr (.inl ?_))).1 h,o (.inr B)⟩
  subst B
  show st.ob=(st.put oj.dst vj).ob
  rw [QH]
 have E:∀{u:List (Nat×Ob)} {q:Nat},(∀p∈u,p.1=0\/(q<=p.1/\p.1<q+16)\/p.2=Yy (st.ob p.1))->(∀k,q<=k->k<q+16->¬U k)->∀k,U k->k≠0->Zl st.ob u k=st.ob k\/Zl st.ob u k=Yy (st.ob k):=fun {u q} hu hq k hk C=>by
  have P:∀(u:List (Nat×Ob)) (ob:Nat->Ob),(∀p∈u,p.1=0\/(q<=p.1/\p.1<q+16)\/p.2=Yy (st.ob p.1))->(ob k=st.ob k\/ob k=Yy (st.ob k))->(Zl ob u k=st.ob k\/Zl ob u k=Yy (st.ob k)):=by
   intro u
   induction u with
   |nil=>intro ob _ h;exact h
   |cons p u ih=>
    intro ob hp h
    refine ih _ (fun x mx=>hp x (by simp [mx])) ?_
    by_cases D:k=p.1
    .rcases hp p yG with h1|h1|h1
     .exact absurd (D.trans h1) C
     .exact absurd (D ▸ hk) (hq p.1 h1.1 h1.2)
     .right;rw [D,ZI];exact h1
    .rw [Z2 _ _ D];exact h
  exact P u st.ob hu (.inl rfl)
 rcases hc with ⟨W,V⟩|⟨W,V⟩
 .have z:=ZvZ W h
  have A:st.ob=((st.put oi.dst vi).app ui).ob:=by
   subst z
   show st.ob=(st.put oi.dst vi).ob
   rw [QH]
  have hA:=(ZaQ (U:=U) g (.inr (.inl A))).2 T
  have hs:=(ZfL (tt:=tt) (S:=S) (st:=st) (vi:=vi) (ui:=ui) (vj:=vj) (uj:=uj) j).1.trans (l R)
  refine ⟨hA,?_,o (.inl z)⟩
  refine ZbR hA (fun hx=>?_) (fun e=>?_)
  .refine (ZnI i (ZqG (U:=U) hm W (Zb6 i) (w R) M fun k hk C=>?_)).1 h
   show Zl (st.put oj.dst vj).ob uj k=_\/Zl (st.put oj.dst vj).ob uj k=_
   rw [QH]
   exact E (Zq0 V hs hx) J k hk C
  .refine (ZaQ (U:=U) i (.inr (.inl ?_))).1 h
   subst e
   show st.ob=(st.put oj.dst vj).ob
   rw [QH]
 .have B:=ZvZ V T
  have hs:=(ZfL (tt:=tt) (S:=S) (st:=st) (vi:=vi) (ui:=ui) (vj:=vj) (uj:=uj) j).1.trans (l R)
  have hA:opR tt S c.toList kj oj st vj uj:=by
   refine ZbR h (fun hx=>?_) (fun e=>?_)
   .refine (ZnI g (ZqG (U:=U) hm V (Zb6 g) hs M fun k hk C=>?_)).2 T
    show Zl (st.put oi.dst vi).ob ui k=_\/Zl (st.put oi.dst vi).ob ui k=_
    rw [QH]
    exact E (Zq0 W (w R) hx) I k hk C
   .refine (ZaQ (U:=U) g (.inr (.inl ?_))).2 T
    subst e
    show st.ob=(st.put oi.dst vi).ob
    rw [QH]
  refine ⟨hA,(ZaQ (U:=U) i (.inr (.inl ?_))).1 h,o (.inr B)⟩
  subst B
  show st.ob=(st.put oj.dst vj).ob
  rw [QH]
end
end
section
open Go.RowKit
section
variable {P:Program} {J:World->Prop} {JF:Nat->Prop} {W:ZbW} {U:Nat->Prop} {key:Nat} {st st':St} {w w':World} {a:Act} {tt:Nat->Option TI} {hds:FuncId->Nat} {Q:Exit->Act->World->Prop}
def ZAb [NW] (W:ZbW) (N:Nat) (U:Nat->Prop) (st:St):Prop:=∃a w,Inv W U st a w/\a.tmps.size=N
theorem ZyW [NW] (B:MOk P J JF W tt) {N:Nat}{all:List Oper}{o:Oper}{v:SV}{u:List (Nat×Ob)}(h:opR tt (SC P J JF hds) all key o st v u) (hR:ZAb W N U st) (d:∀k,key<=k->k<key+16->¬U k) (hd:∀t,o.dst=some t->t<N/\(W.hv=none\/t≠0)):
  ZAb W N (Uk U key) ((st.put o.dst v).app u):=by
 obtain ⟨a,w,R,K⟩:=hR;have i:∀t,o.dst=some t->t<a.tmps.size/\(W.hv=none\/t≠0):=fun t V=>K ▸ hd t V;have j:v=.und/\u=[]->ZAb W N (Uk U key) ((st.put o.dst v).app u):=fun ⟨e1,e2⟩=>by
  subst e1 e2;exact ⟨_,w,ZwC R _ i,by rw [Zd2];exact K⟩
 have l:Zbv tt (SC P J JF hds) key o st v u->ZAb W N (Uk U key) ((st.put o.dst v).app u):=fun h=>by
  obtain ⟨⟨g,O,D⟩,C,f,M⟩:=R;have A:∀(ts:List TypeId) (args:List Operand),ZN (SVR g w) (evs tt st ts args) (args.map a.eval)/\∀x∈evs tt st ts args,svU U x:=fun ts args=>by
   have he:args.map a.eval=(ZlK ts args).map fun p=>a.eval p.2:=by
    have:=congrArg (A9 a.eval) (Zhd ts args);rw [<-this,List.map_map];rfl
   refine ⟨?_,fun x L=>?_⟩
   .rw [he];exact ZN.of_map _ _ fun p _=>(ZmW B.tt D C p.1 p.2).1
   .obtain ⟨p,_,rfl⟩:=AD.1 L;exact (ZmW B.tt D C p.1 p.2).2
  cases hc:XE o.op with
  |some c=>
   simp only[Zbv,hc]at h;obtain ⟨_,b⟩:=ZiZ B h O C d (A c.2.1 c.2.2).1 (A c.2.1 c.2.2).2;obtain ⟨e,w',fr,⟨T,_,S,I,t2,H,G,F,E⟩,_⟩:=b [];exact ⟨_,_,Zhf D C f M i I t2 H G F E,by rw [Zd2];exact K⟩
  |none=>
   simp only[Zbv,hc]at h;cases hd2:Qk o.op with
   |some c=>
    rw [hd2]at h;simp only at h;obtain ⟨fc,h1,_,h⟩:=h;obtain ⟨cs,_,q⟩:=Zuq h1 (D c.1);obtain ⟨_,b⟩:=ZiZ B h O C d ((A c.2.1 c.2.2).1.append q) (fun x L=>by
     rcases AC.1 L with m|m
     .exact (A c.2.1 c.2.2).2 x m
     .obtain ⟨c,_,rfl⟩:=AD.1 m;exact QN _)
    obtain ⟨e,w',fr,⟨T,_,S,I,t2,H,G,F,E⟩,_⟩:=b [];exact ⟨_,_,Zhf D C f M i I t2 H G F E,by rw [Zd2];exact K⟩
   |none=>
    rw [hd2]at h;simp only at h;obtain ⟨S,cv,w',_,I,t2,H,G,F,E⟩:=Zrc (P:=P) (W:=W) (a:=a) B.tt o h O D C (d key (AJ _) yE);exact ⟨_,_,Zhf D C f M i I t2 H G F E,by rw [Zd2];exact K⟩
 unfold opR at h;split at h
 .exact l h
 .exact j h
 .unfold gK at h;split at h
  .split at h
   .exact l h
   .exact j h
  .split at h
   .exact j h
   .exact h.elim
theorem ZjP {S:Ctx}{b:Bool}{all:List Oper}{base i:Nat}{r:List Nat}{K:St->Prop}{o:Oper}(A:all[i]?=some o):ZhO tt S b all base (i::r) K st=ifB b (stk tt S all o.op st) (opG tt S all (base+16*i) o (ZhO tt S b all base r K) st):=by simp only[ZhO,A]
theorem Zwx [NW] {S:Ctx}{all:List Oper}{base:Nat}{K:St->Prop}:∀(r:List Oper) (i:Nat) (st:St),all.drop i=r->Yu tt S all (base+16*i) r K st->ZhO tt S false all base (List.range' i r.length) K st
 | [],_,_,_,h=>h
 |o::r,i,st,hr,h=>by
  have hi:all[i]?=some o:=by
   have:=congrArg (fun l=>l[0]?) hr;simpa using this
  have a:all.drop (i+1)=r:=by
   have:=congrArg List.tail hr;simpa using this
  rw [List.length_cons,List.range'_succ,ZjP hi];obtain ⟨v,u,B,A⟩:=ZjN.1 h;refine ZjN.2 ⟨v,u,B,Zwx r (i+1) _ a ?_⟩;rw [show base+16*(i+1)=base+16*i+16 by omega];exact A
theorem ZsH {b c:Bool}{P:Prop}:ifB b c P↔(b=true->c=true)/\P:=by
 cases b<;>simp [ifB]
theorem ZGg [NW] (C:MOk P J JF W tt) {b:Bool}{f:Array Oper}{N base i:Nat}{o:Oper}(I:f.toList[i]?=some o) (R:∀o∈f.toList,∀t,o.dst=some t->t<N/\(W.hv=none\/t≠0)) {K:St->Prop}{R2:List Nat}:∀(R1:List Nat) (U:Nat->Prop) (st:St),(R1++i::R2).Nodup->
  (∀j∈R1,∃oj,f.toList[j]?=some oj/\oj.apart f o=true/\Zyc tt hds b f.toList oj.op o.op=true)->(∀j∈R1++i::R2,∀k,base+16*j<=k->k<base+16*j+16->¬U k)->ZAb W N U st->
  ZhO tt (SC P J JF hds) b f.toList base (R1++i::R2) K st->(b=true->stk tt (SC P J JF hds) f.toList o.op st=true)/\opG tt (SC P J JF hds) f.toList (base+16*i) o (ZhO tt (SC P J JF hds) b f.toList base (R1++R2) K) st:=by
 intro R1;induction R1 with
 |nil=>
  intro U st _ _ _ _ h;rw [List.nil_append,ZjP I]at h;exact ZsH.1 h
 |cons j R1 ih=>
  intro U st l g D L h;obtain ⟨oj,B,m,u⟩:=g j yG;rw [Aa,ZjP B]at h;obtain ⟨G,h⟩:=ZsH.1 h;obtain ⟨vj,uj,M,h2⟩:=ZjN.1 h;have p:=D j yG;have v:=D i yG;rw [Aa,AN]at l;have O:i≠j:=fun e=>l.1 (by simp [e]);have w:=ZyW C M L p (R oj (AW B));obtain ⟨H,h3⟩:=ih (Uk U (base+16*j)) _ l.2 (fun q A=>g q (by simp [A])) (fun q A k a b F=>by
   rcases F with F|⟨c,d⟩
   .exact D q (by simp;simp at A;exact .inr A) k a b F
   .have:q=j:=by omega
    subst this;exact l.1 A) w h2
  obtain ⟨vi,ui,V,T⟩:=ZjN.1 h3;obtain ⟨_,_,x,_⟩:=L;obtain ⟨c1,c2,c3⟩:=ZFU (tt:=tt) (S:=SC P J JF hds) (b:=b) m u (AW B) (AW I) x.wf p v yE G H M V;have e1:=(ZfL (tt:=tt) (S:=SC P J JF hds) (st:=st) (vi:=vj) (ui:=uj) (vj:=vi) (uj:=ui) m).1;have e2:=(ZfL (tt:=tt) (S:=SC P J JF hds) (st:=st) (vi:=vj) (ui:=uj) (vj:=vi) (uj:=ui) m).2;refine ⟨fun E=>e1.trans (H E),ZjN.2 ⟨vi,ui,c1,?_⟩⟩;rw [Aa,ZjP B];exact ZsH.2 ⟨fun E=>e2.trans (G E),ZjN.2 ⟨vj,uj,c2,c3 ▸ T⟩⟩
def anc (ops:Array Oper):Nat->Nat->List Nat
 |0,_=>[]
 |n+1,j=>match ops[j]? with
  |some o=>(o.after.toList.filter (Region.binds .any)).flatMap fun e=>e.on::anc ops n e.on
  |none=>[]
def ZqA (tt:Nat->Option TI) (hds:FuncId->Nat) (b:Bool) (ops:Array Oper) (i j:Nat):Bool:=!Nat.beq i j&&match ops[i]?,ops[j]? with
 |some oi,some oj=>(oi.after.toList.all fun e=>!Region.binds .any e||!Nat.beq e.on j)&&((anc ops ops.size j).contains i||(oi.apart ops oj&&Zyc tt hds b ops.toList oi.op oj.op))
 |_,_=>true
def ZmF (tt:Nat->Option TI) (hds:FuncId->Nat) (b:Bool) (ops:Array Oper):List Nat->Bool
 | []=>true
 |i::r=>r.all (ZqA tt hds b ops i)&&ZmF tt hds b ops r
def elB (ops:Array Oper) (j:Nat):Bool:=match ops[j]? with
 |some oj=>oj.after.toList.all fun e=>!Region.binds .any e||(Nat.blt e.on ops.size&&!Nat.beq e.on j)
 |none=>true
def ZDb (ops:Array Oper):Bool:=(AX ops.size).all (elB ops)
def Zve (tt:Nat->Option TI) (hds:FuncId->Nat) (ops:Array Oper):Bool:=ZmF tt hds false ops (AX ops.size)&&ZDb ops
def Zwc (tt:Nat->Option TI) (hds:FuncId->Nat) (b:Bool) (ops:Array Oper) (l:List Nat):Bool:=ZmF tt hds b ops l&&ZDb ops&&Nat.ble l.length ops.size&&l.all (Nat.blt · ops.size)&&(AX ops.size).all l.contains
theorem Zt1 {a:Array Oper}(h:ZDb a=true) (j:Nat):elB a j=true:=by
 rcases Ac j a.size with A|A
 .exact AO.1 h j (by simpa using A)
 .unfold elB;rw [Ad A]
theorem Zrq {b:Bool}{a:Array Oper}:∀{l:List Nat},ZmF tt hds b a l=true->l.Pairwise fun i j=>ZqA tt hds b a i j=true
 | [],_=>List.Pairwise.nil
 |i::r,h=>by
  simp only[ZmF,AA,AO]at h;exact List.Pairwise.cons h.1 (Zrq h.2)
theorem ZvG {i j:Nat}(h:(!Nat.beq i j)=true):i≠j:=fun e=>by subst e;simp at h
theorem ZoF {b:Bool}{a:Array Oper}{i j:Nat}{oi oj:Oper}(h:ZqA tt hds b a i j=true) (hi:a[i]?=some oi) (B:a[j]?=some oj):(∀e∈oi.after,Region.binds .any e=true->e.on≠j)/\(i∈anc a a.size j\/(oi.apart a oj=true/\Zyc tt hds b a.toList oi.op oj.op=true)):=by
 simp only[ZqA,hi,B,AA,AO,AI]at h;refine ⟨fun e A C=>?_,h.2.2.imp (fun h=>by simpa using h) fun h=>h⟩;have h1:=h.2.1 e (by simpa using A);rw [C]at h1;exact ZvG (h1.resolve_left yG)
theorem ZoN {b:Array Oper}{a:Array Bool}(c:∀i o,b[i]?=some o->a.getD i false=true->∀e∈o.after,Region.binds .any e=true->a.getD e.on false=true):
  ∀(n j:Nat) (o:Oper),b[j]?=some o->(∀e∈o.after,Region.binds .any e=true->a.getD e.on false=true)->∀i∈anc b n j,a.getD i false=true
 |0,j,o,_,_,i,A=>by simp [anc]at A
 |n+1,j,o,ho,he,i,A=>by
  simp only[anc,ho,Ae,List.mem_filter]at A;obtain ⟨e,⟨B,C⟩,A⟩:=A;have hl:=he e (by simpa using B) C;rcases AH.1 A with rfl|A
  .exact hl
  .cases ho':b[e.on]? with
   |none=>cases n<;>simp [anc,ho']at A
   |some o'=>exact ZoN c n e.on o' ho' (fun D d f=>c e.on o' ho' hl D d f) i A
theorem ZxJ [NW] (aa:MOk P J JF W tt) {b:Bool}{g:Array Oper}{N base:Nat}(hN:∀o∈g.toList,∀t,o.dst=some t->t<N/\(W.hv=none\/t≠0)) (hE:∀j,elB g j=true) {K:St->Prop}
  (hQ:∀U' st' a' w',Inv W U' st' a' w'->(∀k,base+16*g.size<=k->¬U' k)->a'.tmps.size=N->K st'->Q .normal a' w'):
  ∀(p:Nat) (R:List Nat) (f:Array Bool) (U:Nat->Prop) (st:St) (a:Act) (w:World),R.length<=p->R.Pairwise (fun i j=>ZqA tt hds b g i j=true)->f.size=g.size->(∀i,i∈R↔(i<g.size/\f.getD i true=false))->
   (∀i o,g[i]?=some o->f.getD i false=true->∀e∈o.after,Region.binds .any e=true->f.getD e.on false=true)->
   ZhO tt (SC P J JF hds) b g.toList base R K st->Inv W U st a w->(∀j∈R,∀k,base+16*j<=k->k<base+16*j+16->¬U k)->(∀k,base+16*g.size<=k->¬U k)->a.tmps.size=N->wpAny P .any g Q p f a w:=by
 have L:∀j oj,g[j]?=some oj->∀e∈oj.after,Region.binds .any e=true->e.on<g.size/\e.on≠j:=fun j oj hj e me hb=>by
  have h1:=hE j;simp only[elB,hj,AO,AI,AA]at h1;have h2:=h1 e (by simpa using me);rw [hb]at h2;have h3:=h2.resolve_left yG;exact ⟨AF h3.1,ZvG h3.2⟩
 intro p;induction p with
 |zero=>
  intro R f U st a w B _ y l _ h hI _ hU hs;have hR:R=[]:=List.eq_nil_of_length_eq_zero yE;subst hR;refine ⟨?_,hQ U st a w hI hU hs h⟩;rw [List.eq_nil_iff_forall_not_mem];intro i mi;obtain ⟨h1,o,h2,_⟩:=mem_ready.1 mi;exact absurd ((l i).2 ⟨(Ag.1 h2).1,h1⟩) yG
 |succ p ih=>
  intro R f U st a w B z y l F h hI hk hU hs;refine ⟨fun hr=>?_,fun i mi=>?_⟩
  .cases R with
   |nil=>exact hQ U st a w hI hU hs h
   |cons r0 R=>
    exfalso;obtain ⟨m1,m2⟩:=(l r0).1 yG;have:r0∈Region.ready .any g f:=mem_ready.2 ⟨m2,g[r0],by simp [m1],fun e me hb=>by
     have x:=L r0 g[r0] (by simp [m1]) e me hb;by_cases hl:f.getD e.on true=false
     .have mR:=(l e.on).2 ⟨x.1,hl⟩;rcases AH.1 mR with e1|mR
      .exact absurd e1 x.2
      .exact absurd rfl ((ZoF ((List.pairwise_cons.1 z).1 _ mR) (oi:=g[r0]) (oj:=g[e.on]'x.1) (by simp [m1]) (by simp [x.1])).1 e me hb)
     .have G:e.on<f.size:=by omega
      simp only[AL,G,getElem?_pos,Ah,Bool.not_eq_false]at hl ⊢;exact hl⟩
    rw [hr]at this;simp at this
  .obtain ⟨i1,o,i2,i3⟩:=mem_ready.1 mi;have C:i<g.size:=(Ag.1 i2).1;have M:i∈R:=(l i).2 ⟨C,i1⟩;obtain ⟨R1,R2,rfl⟩:=List.append_of_mem M;have A:(R1++i::R2).Nodup:=z.imp fun h=>by
    simp only[ZqA,AA]at h;exact ZvG h.1
   have ho:g.toList[i]?=some o:=by simpa using i2
   have H:=ZoN F g.size i o i2 i3;have D:∀j∈R1,∃oj,g.toList[j]?=some oj/\oj.apart g o=true/\Zyc tt hds b g.toList oj.op o.op=true:=fun j mj=>by
    obtain ⟨j1,j2⟩:=(l j).1 (by simp [mj]);have O:=(List.pairwise_append.1 z).2.2 j mj i yG;have hj:g[j]?=some g[j]:=by simp [j1]
    refine ⟨g[j],by simp [j1],(ZoF O hj i2).2.resolve_left fun ma=>?_⟩;have:=H j ma;have x:j<f.size:=by omega
    simp only[AL,x,getElem?_pos,Ah]at this j2;rw [this]at j2;simp at j2
   have S:=(ZGg aa ho hN R1 U st A D hk ⟨a,w,hI,hs⟩ h).2;refine wpOp_mono ?_ (ZqZ aa i2 S hI (hk i yG) (fun t ht=>by rw [hs];exact hN o (AW ho) t ht));rintro a' w' ⟨st',T,ab,V⟩;have I:∀q,(f.setIfInBounds i true).getD q true=if q=i then true else f.getD q true:=fun q=>by
    by_cases e:q=i
    .subst e;simp [AL,Am,y,C]
    .simp [AL,An (fun e':i=q=>e e'.symm),e]
   have E:∀q,(f.setIfInBounds i true).getD q false=if q=i then true else f.getD q false:=fun q=>by
    by_cases e:q=i
    .subst e;simp [AL,Am,y,C]
    .simp [AL,An (fun e':i=q=>e e'.symm),e]
   have v:i∉R1++R2:=by
    rw [AU]at A;intro m;rcases AC.1 m with m|m
    .exact A.2.2 i m i yG rfl
    .exact (AN.1 A.2.1).1 m
   refine ih (R1++R2) _ (Uk U (base+16*i)) st' a' w' (by simp at B ⊢;omega) (z.sublist (Ai (Ao _) (List.sublist_cons_self i R2))) (by simp [y]) (fun q=>?_) (fun q oq hq hl e me hb=>?_) V T (fun q mq k c d u=>?_) (fun k X u=>?_) yE
   .rw [I q];by_cases e:q=i
    .subst e;simp only[if_true,Bool.true_eq_false,and_false,iff_false];exact v
    .rw [yn e,<-l q];simp [e]
   .rw [E]at hl ⊢;by_cases e1:e.on=i
    .simp [e1]
    .rw [yn e1];by_cases e2:q=i
     .subst e2;rw [i2]at hq;simp only[A0]at hq;subst hq;exact i3 e me hb
     .rw [yn e2]at hl;exact F q oq hq hl e me hb
   .have Y:q∈R1++i::R2:=by simp at mq ⊢;rcases mq with mq|mq<;>simp [mq]
    rcases u with u|⟨c',d'⟩
    .exact hk q Y k c d u
    .have:q=i:=by omega
     subst this;exact v mq
   .rcases u with u|⟨c',d'⟩
    .exact hU k X u
    .omega
end
end
section
open Go.RowKit
theorem Zwo:∀{ρ:List Nat}{k i j:Nat},ZrE ρ k i=some j->i<=j/\ρ[j - i]?=some k
 | [],_,_,_,h=>by simp [ZrE]at h
 |x::r,k,i,j,h=>by
  simp only[ZrE]at h;split at h
  .rename_i e;simp only[A0]at h;subst h e;exact ⟨AJ _,yG⟩
  .obtain ⟨B,A⟩:=Zwo h;refine ⟨yE,?_⟩;rw [show j - i=(j - (i+1))+1 by omega];simpa using A
theorem Ze5 [NW] {ρ:List Nat}{k j:Nat}(h:ZrE ρ k 0=some j):ρ[j]?=some k:=by simpa using (Zwo h).2
theorem ZqX {α:Type}:∀{l:List α},l.Nodup->∀{i j:Nat}(hi:i<l.length) (A:j<l.length),l[i]=l[j]->i=j
 | [],_,_,_,hi,_,_=>by simp at hi
 |x::l,h,0,0,_,_,_=>rfl
 |x::l,h,0,j+1,_,A,e=>by
  rw [AN]at h;exact absurd (by simp at e;rw [e];exact Aq _) h.1
 |x::l,h,i+1,0,hi,_,e=>by
  rw [AN]at h;exact absurd (by simp at e;rw [<-e];exact Aq _) h.1
 |x::l,h,i+1,j+1,hi,A,e=>by
  rw [AN]at h;have:=ZqX h.2 (i:=i) (j:=j) (by simpa using hi) (by simpa using A) (by simpa using e);omega
section
variable {P:Program} {J:World->Prop} {JF:Nat->Prop} {W:ZbW} {U:Nat->Prop} {st st':St} {w w':World} {a:Act} {tt:Nat->Option TI} {S:Ctx}
theorem ZEY [NW] {g A:Gh}{ρ:List Nat}(C:∀j k,ρ[j]?=some k->A.val j=g.val k) (B:QM A g) {x:AV}{v:Value}(h:AVR g w x v):AVR A w (rAV ρ x) v:=by
 cases x with
 |c x=>obtain ⟨L,F,E⟩:=h;exact ⟨L,F,fun b m o=>E b m (B.own b o)⟩
 |n x=>exact NR.move h (fun _ _ _=>rfl) (B.grow _)
 |row k=>
  simp only[rAV];split
  .rename_i j D;exact ⟨by rw [C j k (Ze5 D)];exact h.1,h.2⟩
  .exact h.2
 |nil e m=>exact h
 |dead=>exact h
theorem ZN.map_left {α β γ:Type}{R:α->γ->Prop}{R':β->γ->Prop}(f:α->β) (h:∀a c,R a c->R' (f a) c):∀{l:List α}{r:List γ},ZN R l r->ZN R' (l.map f) r
 | [],[],_=>trivial
 |_::_,_::_,hh=>⟨h _ _ hh.1,hh.2.map_left f h⟩
 | [],_::_,h=>h.elim
 |_::_,[],h=>h.elim
theorem ZzX [NW] (ρ:List Nat) (x:AV):avU (fun j=>j<ρ.length) (rAV ρ x):=by
 cases x with
 |row k=>
  simp only[rAV];split
  .rename_i j A;exact (AM.1 (Ze5 A)).1
  .trivial
 |_=>trivial
theorem Zwg [NW] (hI:Inv W U st a w) {ρ:List Nat}(hρ:ρ.Nodup):Inv W (fun j=>j<ρ.length) (st.ren ρ) a w:=by
 obtain ⟨⟨g,R,hS⟩,hU,B,hh⟩:=hI;let J:Gh:=⟨fun j=>match ρ[j]? with|some k=>g.val k|none=>undef,fun j=>match ρ[j]? with|some k=>g.O k|none=>[],fun j=>match ρ[j]? with|some k=>g.D k|none=>[],g.Z⟩
 have M:∀j k,ρ[j]?=some k->J.val j=g.val k/\J.O j=g.O k/\J.D j=g.D k:=fun j k h=>by simp [J,h]
 have P:∀j,ρ[j]?=none->J.O j=[]/\J.D j=[]:=fun j h=>by simp [J,h]
 have ho:∀b,J.own b->g.own b:=fun b hb=>by
  rcases hb with ⟨j,mj⟩|hz
  .cases h:ρ[j]? with
   |none=>rw [(P j h).1]at mj;simp at mj
   |some k=>rw [(M j k h).2.1]at mj;exact .inl ⟨k,mj⟩
  .exact .inr hz
 have A:QM J g:=.of ho fun j b H=>by
  cases h:ρ[j]? with
  |none=>rw [(P j h).2]at H;simp at H
  |some k=>rw [(M j k h).2.2]at H;exact ⟨k,H⟩
 have C:∀x v,AVR g w x v->AVR J w (rAV ρ x) v:=fun x v h=>ZEY (fun j k F=>(M j k F).1) A h;have u:∀xs vs,ZN (AVR g w) xs vs->ZN (AVR J w) (xs.map (rAV ρ)) vs:=fun xs vs h=>h.map_left _ C;have E:∀ag cs v,PVR g w ag cs v->PVR J w ag (cs.map (rAV ρ)) v:=fun ag cs v h=>by
  cases ag with
  |true=>obtain ⟨vs,K,I⟩:=h;exact ⟨vs,K,u _ _ I⟩
  |false=>obtain ⟨x,rfl,I⟩:=h;exact ⟨_,rfl,C _ _ I⟩
 refine ⟨⟨J,⟨R.below,fun j=>?_,fun j=>?_,fun j i G b H=>?_,fun j b H=>?_,R.gz,R.zx,R.nw,fun j b H=>by
  cases h:ρ[j]? with
  |none=>rw [(P j h).1]at H;simp at H
  |some k=>rw [(M j k h).2.1]at H;exact R.oy k b H⟩,fun t=>?_⟩,⟨fun t=>?_,fun j=>?_,fun j T=>?_⟩,B,hh⟩
 .show ObR J w j (match ρ[j]? with|some k=>rOb ρ (st.ob k)|none=>.gone)
  cases h:ρ[j]? with
  |none=>exact P j h
  |some k=>
   obtain ⟨e1,e2,e3⟩:=M j k h;have l:=R.obs k;show ObR J w j (rOb ρ (st.ob k))
   cases hok:st.ob k with
   |gone=>rw [hok]at l;exact ⟨e2.trans l.1,e3.trans l.2⟩
   |box t cs=>
    rw [hok]at l;obtain ⟨b,vs,K,I,S,N,V⟩:=l;exact ⟨b,vs,e1.trans K,e2.trans I,e3.trans S,N,u _ _ V⟩
   |map kk vk kv=>
    rw [hok]at l;obtain ⟨b,es,c,K,I,S,N⟩:=l;exact ⟨b,es,c,e1.trans K,e2.trans I,e3.trans S,N⟩
   |row e m xs d=>
    rw [hok]at l;obtain ⟨hm,cs,L,K,I,N⟩:=l;refine ⟨hm,cs,L,by rw [e1];exact K,I,?_⟩;rw [e1,e2,e3];rcases N with N|⟨hd,S,N,V⟩|⟨hd,S,N,V⟩
    .exact .inl N
    .exact .inr (.inl ⟨hd,S,N,fun b H o=>V b H (ho b o)⟩)
    .exact .inr (.inr ⟨hd,S,N,fun b H o=>V b H (ho b o)⟩)
 .cases h:ρ[j]? with
  |none=>rw [(P j h).1,(P j h).2];simp
  |some k=>rw [(M j k h).2.1,(M j k h).2.2];exact R.nodup k
 .cases h:ρ[j]? with
  |none=>rw [(P j h).1,(P j h).2]at H;simp at H
  |some k=>
   rw [(M j k h).2.1,(M j k h).2.2]at H;cases h':ρ[i]? with
   |none=>rw [(P i h').1,(P i h').2];simp
   |some q=>
    rw [(M i q h').2.1,(M i q h').2.2];refine R.apart k q (fun e=>G ?_) b H;subst e;obtain ⟨l1,e1⟩:=AM.1 h;obtain ⟨l2,e2⟩:=AM.1 h';exact ZqX hρ l1 l2 (e1.trans e2.symm)
 .cases h:ρ[j]? with
  |none=>rw [(P j h).1,(P j h).2]at H;simp at H
  |some k=>
   rw [(M j k h).2.1,(M j k h).2.2]at H;refine ⟨(R.plain k b H).1,(R.plain k b H).2.of ?_⟩;show Zlb (match ρ[j]? with|some k=>rOb ρ (st.ob k)|none=>.gone)=_
   rw [h];show Zlb (rOb ρ (st.ob k))=_
   cases st.ob k<;>rfl
 .have hs:=hS t;show SVR J w (rSV ρ (st.sl t)) _
  cases hsl:st.sl t with
  |any=>trivial
  |und=>rw [hsl]at hs;exact hs
  |p ag cs=>rw [hsl]at hs;exact E _ _ _ hs
  |tup xs=>
   rw [hsl]at hs;obtain ⟨vs,K,I⟩:=hs;exact ⟨vs,K,I.map_left (fun x:Bool×List AV=>(x.1,x.2.map (rAV ρ))) fun x v h=>E x.1 x.2 v h⟩
  |bp k off=>
   rw [hsl]at hs;simp only[rSV];split
   .rename_i j T;obtain ⟨b,K,I⟩:=hs;exact ⟨b,((M j k (Ze5 T)).1).trans K,I⟩
   .trivial
  |rp k m i off=>
   rw [hsl]at hs;simp only[rSV];split
   .rename_i j T;obtain ⟨b,o,n,c,K,I⟩:=hs;exact ⟨b,o,n,c,((M j k (Ze5 T)).1).trans K,I⟩
   .trivial
  |ep e off=>
   rw [hsl]at hs;obtain ⟨b,lo,cs,L,K,I,S,N,V⟩:=hs;exact ⟨b,lo,cs,L,K,I,S,fun x m o=>N x m (ho x o),V⟩
  |fn f=>rw [hsl]at hs;exact hs
 .show svU _ (rSV ρ (st.sl t))
  cases st.sl t with
  |p ag cs=>intro y my;obtain ⟨x,_,rfl⟩:=AD.1 my;exact ZzX ρ x
  |tup xs=>
   intro y my;obtain ⟨x,_,rfl⟩:=AD.1 my;intro z mz;obtain ⟨q,_,rfl⟩:=AD.1 mz;exact ZzX ρ q
  |bp k off=>
   simp only[rSV];split
   .rename_i j T;exact (AM.1 (Ze5 T)).1
   .trivial
  |rp k m i off=>
   simp only[rSV];split
   .rename_i j T;exact (AM.1 (Ze5 T)).1
   .trivial
  |_=>trivial
 .show obU _ (match ρ[j]? with|some k=>rOb ρ (st.ob k)|none=>.gone)
  split
  .rename_i k _;cases st.ob k with
   |box t cs=>intro y my;obtain ⟨x,_,rfl⟩:=AD.1 my;exact ZzX ρ x
   |_=>trivial
  .trivial
 .show (match ρ[j]? with|some k=>rOb ρ (st.ob k)|none=>.gone)=.gone
  have:ρ[j]?=none:=List.getElem?_eq_none yE;rw [this]
theorem ZBR [NW] {g:Gh}{ob:Nat->Ob}(C:HI W g ob w) {k e m d I:Nat}{xs:List (List CT)}(M:ob k=.row e m xs d) (hd:I<d):∃A:Gh,HI W A (upd ob k (.row e m xs I)) w/\A.val=g.val/\QM A g:=by
 by_cases h0:I=0
 .obtain ⟨A,G,F,H,_⟩:=Zk7 C k;rw [M]at G;exact ⟨A,by rw [h0];exact G,F,H⟩
 .have ho:=C.obs k;rw [M]at ho;obtain ⟨hm,cs,L,o1,o2,J⟩:=ho;have F:d=2/\g.O k=(g.val k).ownBlock.toList/\g.D k=L:=by
   rcases J with J|⟨q,_⟩|⟨q,_⟩
   .exact J
   .omega
   .omega
  obtain ⟨rfl,U,T⟩:=F;obtain rfl:I=1:=by omega
  let A:Gh:=⟨g.val,g.O,upd g.D k [],g.Z⟩
  have S:∀b,A.own b↔g.own b:=fun b=>Iff.rfl;have l:QM A g:=.of (fun b N=>N) fun j b E=>by
   by_cases B:j=k
   .subst B;simp [A,upd]at E
   .exact ⟨j,by simpa [A,upd,B]using E⟩
  have f:∀j b,b∈A.O j++A.D j->b∈g.O j++g.D j:=fun j b E=>by
   by_cases B:j=k
   .subst B;simp [A,upd]at E;simp [E]
   .simpa [A,upd,B]using E
  refine ⟨A,⟨C.below,fun j=>?_,fun j=>?_,fun i j o b E mj=>C.apart i j o b (f i b E) (f j b mj),fun j b E=>⟨(C.plain j b (f j b E)).1,(C.plain j b (f j b E)).2.of (by
   by_cases B:j=k
   .subst B;rw [ZI,M];rfl
   .rw [Z2 _ _ B])⟩,C.gz,C.zx,C.nw,C.oy⟩,rfl,l⟩
  .by_cases B:j=k
   .subst B;rw [ZI];refine ⟨hm,cs,L,o1,o2,.inr (.inl ⟨rfl,U,by simp [A,upd],fun b E N=>?_⟩)⟩;have K:b∈g.D j:=by rw [T];exact E
    rcases N with ⟨i,R⟩|hz
    .by_cases o:i=j
     .subst o;have:=C.nodup i;rw [AU]at this;exact this.2.2 b R b K rfl
     .exact C.apart i j o b (by simp;exact .inl R) (by simp [K])
    .exact C.nz (k:=j) (b:=b) (by simp [K]) hz
   .rw [Z2 _ _ B];have a:=C.obs j;cases hh:ob j with
    |gone=>rw [hh]at a;exact ⟨a.1,by simpa [A,upd,B]using a.2⟩
    |box t ds=>
     rw [hh]at a;obtain ⟨b,vs,G,F,H,P,h5⟩:=a;exact ⟨b,vs,G,F,by simpa [A,upd,B]using H,P,h5.mono fun x u _ hx=>AVR.less hx rfl l⟩
    |map kk vk kv=>
     rw [hh]at a;obtain ⟨b,es,c,G,F,H,P⟩:=a;exact ⟨b,es,c,G,F,by simpa [A,upd,B]using H,P⟩
    |row e' m' xs' d2=>
     rw [hh]at a;obtain ⟨p,v,L',p1,p2,V⟩:=a;refine ⟨p,v,L',p1,p2,?_⟩;have e2:A.D j=g.D j:=by simp [A,upd,B]
     rw [e2];exact V
  .by_cases B:j=k
   .subst B;have:=C.nodup j;rw [AU]at this;simpa [A,upd]using this.1
   .have:=C.nodup j;simpa [A,upd,B]using this
theorem ZBS [NW] (m:Bool×Nat×Nat) (hI:Inv W U st a w) (hk:∀k,st.n<=k->¬U k):∃U',Inv W U' (st.mat m) a w/\∀k,(st.mat m).n<=k->¬U' k:=by
 have A:∃U',Inv W U' st a w/\∀k,st.n<=k->¬U' k:=⟨U,hI,hk⟩
 have S:¬U st.n:=hk st.n (AJ _);have N:∀k,st.n+1<=k->¬(U k\/k=st.n):=fun k l h=>by
  rcases h with h|h
  .exact hk k yE h
  .omega
 have T:∀(e q:Nat),0<q->∀g,HI W g st.ob w->∃g',HI W g' (upd st.ob st.n (.row e q [] 2)) w/\(∀x u,svU U x->SVR g w x u->SVR g' w x u)/\g'.val st.n=.slice none 0 0/\(∀x u,avU U x->AVR g w x u->AVR g' w x u):=fun e q hq g hH=>by
  obtain ⟨t1,t2⟩:=hH.turn (key:=st.n) (U:=U) (w':=w) (v:=.slice none 0 0) (O:=[]) (D:=[]) (o:=.row e q [] 2) hI.wf.ob S [] yG hH.below (AJ _) (fun _ _ _=>rfl) yG yG yG yG
   (fun _=>⟨hq,[],[],by simpa [Gh.turn,upd]using ZgR _ _ _ _,⟨rfl,rfl⟩,.inl ⟨rfl,by simp [Gh.turn,upd,Value.ownBlock],by simp [Gh.turn]⟩⟩)
  refine ⟨_,t1,t2,by simp [Gh.turn,upd],fun x u hx hu=>hu.move hx (fun k l=>Z2 _ _ fun e=>S (e ▸ l)) (fun _ _ _=>rfl) (ZqL yG yG)⟩
 have up:∀k,U k->(U k\/k=st.n):=fun _ h=>.inl h;obtain ⟨⟨g,hH,hS⟩,hU,B,hh⟩:=hI;have P:∀k e q xs d,st.ob k=.row e q xs d->∃g1:Gh,HI W g1 (upd st.ob k (.row e q xs 0)) w/\g1.val=g.val/\QM g1 g/\U k/\∀v,AVR g w (.row k) v->AVR g1 w (.c (.sl e q xs)) v:=fun k e q xs d f=>by
  obtain ⟨g1,i1,i2,i3,_⟩:=Zk7 hH k;rw [f]at i1;obtain ⟨L,t1,t2⟩:=Ztv i1 (ZI st.ob k (.row e q xs 0));exact ⟨g1,i1,i2,i3,Classical.byContradiction fun hn=>by have:=hU.gone _ hn;rw [f]at this;simp at this,fun v hv=>⟨L,by rw [hv.1,<-i2];exact t1,t2⟩⟩
 have Q:∀{gg:Gh} {cs:List AV} {vs:List Value} {j:Nat} {y:AV} {v:Value},ZN (AVR gg w) cs vs->vs[j]?=some v->AVR gg w y v->ZN (AVR gg w) (cs.set j y) vs:=fun {gg cs vs j y v} h1 h2 h3=>by
  have:=h1.set (i:=j) h3;obtain ⟨hl,he⟩:=AM.1 h2;rw [<-he,Aj hl]at this;exact this
 have R:∀{gg:Gh} {ag:Bool} {cs:List AV} {v:Value} {j:Nat} {x y:AV},PVR gg w ag cs v->cs[j]?=some x->(∀u,AVR gg w x u->AVR gg w y u)->PVR gg w ag (cs.set j y) v:=fun {gg ag cs v j x y} h1 h2 h3=>by
  cases ag with
  |true=>
   obtain ⟨vs,rfl,h4⟩:=h1;obtain ⟨u,u1,u2⟩:=h4.at h2;exact ⟨vs,rfl,Q h4 u1 (h3 u u2)⟩
  |false=>
   obtain ⟨z,rfl,h4⟩:=h1;cases j with
   |zero=>simp at h2;subst h2;exact ⟨y,rfl,h3 v h4⟩
   |succ j=>simp at h2
 have K:∀{V:Nat->Prop} {cs:List AV} {j:Nat} {y:AV},QK V cs->avU V y->QK V (cs.set j y):=fun {V cs j y} h1 h2 z mz=>by
  rcases Ak mz with mz|mz
  .exact h1 z mz
  .subst mz;exact h2
 unfold St.mat;split
 .split
  .rename_i ag cs X;have G:QK U cs:=by have:=hU.sl m.2.1;rw [X]at this;exact this
   have hs:=hS m.2.1;rw [X]at hs;split
   .rename_i e q H;split
    .rename_i hq;obtain ⟨g',t1,t2,t3,t4⟩:=T e q hq g hH;refine ⟨fun k=>U k\/k=st.n,⟨⟨g',t1,fun t=>?_⟩,⟨fun t=>?_,fun k=>?_,fun k l=>?_⟩,B,hh⟩,N⟩
     .show SVR g' w (upd st.sl m.2.1 (.p ag (cs.set m.2.2 (.row st.n))) t) _
      by_cases ht:t=m.2.1
      .subst ht;rw [ZI];have h1:PVR g' w ag cs (a.tmps.getD m.2.1 undef):=t2 (.p ag cs) _ G hs;refine R h1 H fun u hu=>?_;have Z:u=.slice none 0 0:=hu;rw [Z];exact ⟨t3.symm,rfl⟩
      .rw [Z2 _ _ ht];exact t2 _ _ (hU.sl t) (hS t)
     .show svU _ (upd st.sl m.2.1 (.p ag (cs.set m.2.2 (.row st.n))) t)
      by_cases ht:t=m.2.1
      .subst ht;rw [ZI];exact K (G.mono up) (.inr rfl)
      .rw [Z2 _ _ ht];exact (hU.sl t).mono up
     .show obU _ (upd st.ob st.n _ k)
      by_cases l:k=st.n
      .subst l;rw [ZI];trivial
      .rw [Z2 _ _ l];exact (hU.ob k).mono up
     .show upd st.ob st.n _ k=_
      rw [Z2 _ _ fun e=>l (.inr e)];exact hU.gone k fun h=>l (.inl h)
    .exact A
   .rename_i k H;split
    .rename_i e q xs d f;obtain ⟨g1,i1,i2,i3,C,i4⟩:=P k e q xs d f;refine ⟨U,⟨⟨g1,i1,fun t=>?_⟩,⟨fun t=>?_,fun j=>?_,fun j hj=>?_⟩,B,hh⟩,hk⟩
     .show SVR g1 w (upd st.sl m.2.1 (.p ag (cs.set m.2.2 (.c (.sl e q xs)))) t) _
      by_cases ht:t=m.2.1
      .subst ht;rw [ZI];have h1:PVR g1 w ag cs (a.tmps.getD m.2.1 undef):=(show SVR g w (.p ag cs) _ from hs).less i2 i3;exact R h1 H fun u hu=>i4 u ⟨hu.1.trans (by rw [i2]),hu.2⟩
      .rw [Z2 _ _ ht];exact (hS t).less i2 i3
     .show svU _ (upd st.sl m.2.1 (.p ag (cs.set m.2.2 (.c (.sl e q xs)))) t)
      by_cases ht:t=m.2.1
      .subst ht;rw [ZI];exact K G trivial
      .rw [Z2 _ _ ht];exact hU.sl t
     .show obU U (upd st.ob k (.row e q xs 0) j)
      by_cases h1:j=k
      .subst h1;rw [ZI];trivial
      .rw [Z2 _ _ h1];exact hU.ob j
     .show upd st.ob k (.row e q xs 0) j=_
      rw [Z2 _ _ (show j≠k from fun e'=>hj (e' ▸ C))];exact hU.gone j hj
    .exact A
   .exact A
  .exact A
 .split
  .rename_i ty cs f;split
   .rename_i e q H;split
    .rename_i hq;obtain ⟨g',t1,t2,t3,t4⟩:=T e q hq g hH;have C:U m.2.1:=Classical.byContradiction fun hn=>by have:=hU.gone _ hn;rw [f]at this;simp at this
     have E:m.2.1≠st.n:=fun e=>S (e ▸ C);have G:QK U cs:=by have:=hU.ob m.2.1;rw [f]at this;exact this
     have F:=t1.obs m.2.1;rw [Z2 _ _ E,f]at F;obtain ⟨b,vs,b1,b2,b3,b4,b5⟩:=F;obtain ⟨u,u1,u2⟩:=b5.at H;have Y:u=.slice none 0 0:=u2;have aa:vs.set m.2.2 u=vs:=by
      obtain ⟨hl,he⟩:=AM.1 u1;rw [<-he];exact Aj hl
     have I:ObR g' w m.2.1 (.box ty (cs.set m.2.2 (.row st.n))):=by
      refine ⟨b,vs,b1,b2,b3,b4,?_⟩;have:=b5.set (i:=m.2.2) (a:=AV.row st.n) (b:=u) ⟨by rw [Y,t3],by rw [Y];rfl⟩;rw [aa]at this;exact this
     have J:∀k,(upd (upd st.ob m.2.1 (.box ty (cs.set m.2.2 (.row st.n)))) st.n (.row e q [] 2)) k=if k=m.2.1 then .box ty (cs.set m.2.2 (.row st.n)) else (upd st.ob st.n (.row e q [] 2)) k:=fun k=>by
      by_cases h1:k=st.n
      .have h2:¬k=m.2.1:=fun e'=>E (e'.symm.trans h1);have h3:¬st.n=m.2.1:=fun e'=>E e'.symm;simp [upd,h1,h3]
      .by_cases h2:k=m.2.1
       .simp [upd,h2,E]
       .simp [upd,h1,h2]
     refine ⟨fun k=>U k\/k=st.n,⟨⟨g',⟨t1.below,fun k=>?_,t1.nodup,t1.apart,fun k b mb=>⟨(t1.plain k b mb).1,(t1.plain k b mb).2.of (by
       show Zlb ((upd (upd st.ob m.2.1 (.box ty (cs.set m.2.2 (.row st.n)))) st.n (.row e q [] 2)) k)=_
       rw [J k];split
       .rename_i h1;subst h1;rw [Z2 _ _ E,f];rfl
       .rfl)⟩,t1.gz,t1.zx,t1.nw,t1.oy⟩,fun t=>t2 _ _ (hU.sl t) (hS t)⟩,⟨fun t=>(hU.sl t).mono up,fun k=>?_,fun k l=>?_⟩,B,hh⟩,N⟩
     .show ObR g' w k ((upd (upd st.ob m.2.1 (.box ty (cs.set m.2.2 (.row st.n)))) st.n (.row e q [] 2)) k)
      rw [J k];split
      .rename_i h1;subst h1;exact I
      .exact t1.obs k
     .show obU _ ((upd (upd st.ob m.2.1 (.box ty (cs.set m.2.2 (.row st.n)))) st.n (.row e q [] 2)) k)
      rw [J k];split
      .intro y my;rcases Ak my with my|my
       .exact (G y my).mono up
       .subst my;exact .inr rfl
      .by_cases h1:k=st.n
       .subst h1;rw [ZI];trivial
       .rw [Z2 _ _ h1];exact (hU.ob k).mono up
     .show (upd (upd st.ob m.2.1 (.box ty (cs.set m.2.2 (.row st.n)))) st.n (.row e q [] 2)) k=_
      rw [J k,yn (show ¬k=m.2.1 from fun e'=>l (.inl (e' ▸ C))),Z2 _ _ (show k≠st.n from fun e'=>l (.inr e'))];exact hU.gone k fun h=>l (.inl h)
    .exact A
   .rename_i k H;split
    .rename_i e q xs d M;obtain ⟨g1,i1,i2,i3,C,i4⟩:=P k e q xs d M;have ab:U m.2.1:=Classical.byContradiction fun hn=>by have:=hU.gone _ hn;rw [f]at this;simp at this
     have E:k≠m.2.1:=fun e'=>by rw [e',f]at M;simp at M
     have G:QK U cs:=by have:=hU.ob m.2.1;rw [f]at this;exact this
     have F:=i1.obs m.2.1;rw [Z2 _ _ (fun e'=>E e'.symm),f]at F;obtain ⟨b,vs,b1,b2,b3,b4,b5⟩:=F;obtain ⟨u,u1,u2⟩:=b5.at H;have I:ObR g1 w m.2.1 (.box ty (cs.set m.2.2 (.c (.sl e q xs)))):=⟨b,vs,b1,b2,b3,b4,Q b5 u1 (i4 u ⟨u2.1.trans (by rw [i2]),u2.2⟩)⟩
     refine ⟨U,⟨⟨g1,⟨i1.below,fun j=>?_,i1.nodup,i1.apart,fun j b mb=>⟨(i1.plain j b mb).1,(i1.plain j b mb).2.of (by
       show Zlb (upd (upd st.ob k (.row e q xs 0)) m.2.1 (.box ty (cs.set m.2.2 (.c (.sl e q xs)))) j)=_
       by_cases h1:j=m.2.1
       .subst h1;rw [ZI,Z2 _ _ (fun e'=>E e'.symm),f];rfl
       .rw [Z2 _ _ h1])⟩,i1.gz,i1.zx,i1.nw,i1.oy⟩,fun t=>(hS t).less i2 i3⟩,⟨hU.sl,fun j=>?_,fun j hj=>?_⟩,B,hh⟩,hk⟩
     .show ObR g1 w j (upd (upd st.ob k (.row e q xs 0)) m.2.1 (.box ty (cs.set m.2.2 (.c (.sl e q xs)))) j)
      by_cases h1:j=m.2.1
      .subst h1;rw [ZI];exact I
      .rw [Z2 _ _ h1];exact i1.obs j
     .show obU U (upd (upd st.ob k (.row e q xs 0)) m.2.1 (.box ty (cs.set m.2.2 (.c (.sl e q xs)))) j)
      by_cases h1:j=m.2.1
      .subst h1;rw [ZI];exact K G trivial
      .rw [Z2 _ _ h1];by_cases h2:j=k
       .subst h2;rw [ZI];trivial
       .rw [Z2 _ _ h2];exact hU.ob j
     .show upd (upd st.ob k (.row e q xs 0)) m.2.1 (.box ty (cs.set m.2.2 (.c (.sl e q xs)))) j=_
      rw [Z2 _ _ (show j≠m.2.1 from fun e'=>hj (e' ▸ ab)),Z2 _ _ (show j≠k from fun e'=>hj (e' ▸ C))];exact hU.gone j hj
    .exact A
   .exact A
  .rename_i e q xs d f;split
   .rename_i ac;have C:U m.2.1:=Classical.byContradiction fun hn=>by have:=hU.gone _ hn;rw [f]at this;simp at this
    obtain ⟨g1,t1,t2,t3⟩:=ZBR hH f ac;refine ⟨U,⟨⟨g1,t1,fun t=>(hS t).less t2 t3⟩,⟨hU.sl,fun k=>?_,fun k l=>?_⟩,B,hh⟩,hk⟩
    .show obU U (upd st.ob m.2.1 (.row e q xs m.2.2) k)
     by_cases h1:k=m.2.1
     .subst h1;rw [ZI];trivial
     .rw [Z2 _ _ h1];exact hU.ob k
    .show upd st.ob m.2.1 (.row e q xs m.2.2) k=_
     rw [Z2 _ _ (show k≠m.2.1 from fun e'=>l (e' ▸ C))];exact hU.gone k l
   .exact A
  .exact A
theorem Zzt [NW] (m:Bool×Nat×Nat) (hI:Inv W U st a w) (hk:∀k,st.n<=k->¬U k):∃U',Inv W U' (st.matN m) a w/\∀k,(st.matN m).n<=k->¬U' k:=by
 have c:∃U',Inv W U' st a w/\∀k,st.n<=k->¬U' k:=⟨U,hI,hk⟩
 obtain ⟨⟨g,K,hS⟩,J,o,hh⟩:=hI;unfold St.matN;split
 .rename_i F cs x;have A:QK U cs:=by have:=J.sl m.2.1;rw [x]at this;exact this
  have hs:=hS m.2.1;rw [x]at hs;split
  .rename_i k f;split
   .rename_i e q xs d l;split
    .rename_i hd;subst hd;obtain ⟨O,i1,i2,V,i5⟩:=Zk7 K k;rw [l]at i1;obtain ⟨hm,B,L,o1,o2,o3,o5⟩:=K.deep l;have T:∀v,AVR g w (.row k) v->AVR O w (.n (.sl e q xs)) v:=fun v R=>by
      rcases o5 with ⟨_,P,q2⟩|⟨P,_⟩|⟨P,_⟩
      .have hN:=K.nodup k;have hP:=K.plain k;have hF:=i5 ⟨_,_,_,_,l⟩;rw [P,q2]at hN hP hF;rw [l]at hP;refine ⟨e,q,xs,B,L,rfl,hm,by rw [R.1];exact o1,o2,by rw [R.1];exact hN,fun b M=>?_⟩;rw [R.1]at M;exact ⟨hF b M,K.nw b (hP b M).1,(hP b M).2⟩
      .omega
      .omega
     have C:U k:=Classical.byContradiction fun hn=>by have:=J.gone _ hn;rw [l]at this;simp at this
     refine ⟨U,⟨⟨O,i1,fun t=>?_⟩,⟨fun t=>?_,fun j=>?_,fun j I=>?_⟩,o,hh⟩,hk⟩
     .show SVR O w (upd st.sl m.2.1 (.p F (cs.set (m.2.2 - 4096) (.n (.sl e q xs)))) t) _
      by_cases H:t=m.2.1
      .subst H;rw [ZI];have h0:PVR g w F cs (a.tmps.getD m.2.1 undef):=hs;have N:PVR O w F cs (a.tmps.getD m.2.1 undef):=(show SVR g w (.p F cs) _ from hs).less i2 V;cases F with
       |true=>
        obtain ⟨vs,e1,S⟩:=h0;obtain ⟨D,y,E⟩:=N;have ev:vs=D:=by rw [e1]at y;simpa using y
        subst ev;obtain ⟨u,u1,u2⟩:=S.at f;refine ⟨vs,e1,?_⟩;have:=E.set (i:=m.2.2 - 4096) (T u u2);obtain ⟨hl,he⟩:=AM.1 u1;rw [<-he,Aj hl]at this;exact this
       |false=>
        obtain ⟨z,rfl,S⟩:=h0;cases I:m.2.2 - 4096 with
        |zero=>rw [I]at f;simp at f;subst f;exact ⟨_,rfl,T _ S⟩
        |succ j=>rw [I]at f;simp at f
      .rw [Z2 _ _ H];exact (hS t).less i2 V
     .show svU U (upd st.sl m.2.1 (.p F (cs.set (m.2.2 - 4096) (.n (.sl e q xs)))) t)
      by_cases H:t=m.2.1
      .subst H;rw [ZI];intro z G;rcases Ak G with G|G
       .exact A z G
       .subst G;trivial
      .rw [Z2 _ _ H];exact J.sl t
     .show obU U (upd st.ob k (.row e q xs 0) j)
      by_cases N:j=k
      .subst N;rw [ZI];trivial
      .rw [Z2 _ _ N];exact J.ob j
     .show upd st.ob k (.row e q xs 0) j=_
      rw [Z2 _ _ (show j≠k from fun e'=>I (e' ▸ C))];exact J.gone j I
    .exact c
   .exact c
  .exact c
 .exact c
theorem Zoz [NW]:∀(C:List (Bool×Nat×Nat)) {U:Nat->Prop}{st:St},Inv W U st a w->(∀k,st.n<=k->¬U k)->∃U',Inv W U' (st.mats C) a w
 | [],U,st,hI,_=>⟨U,hI⟩
 |m::r,U,st,hI,hk=>by
  simp only[St.mats];split
  .obtain ⟨U',B,A⟩:=Zzt m hI hk;exact Zoz r B A
  .obtain ⟨U',B,A⟩:=ZBS m hI hk;exact Zoz r B A
theorem ZB0 {p:Nat->Prop}(h:∃n,p n):∃n,p n/\∀m,m<n->¬p m:=by
 obtain ⟨n,D⟩:=h;induction n using Nat.strongRecOn with
 |_ n ih=>
  by_cases C:∃m,m<n/\p m
  .obtain ⟨m,B,A⟩:=C;exact ih m B A
  .exact ⟨n,D,fun m B A=>C ⟨m,B,A⟩⟩
theorem Zyn [NW] {c:Code}{Q:Exit->Act->World->Prop}(J:Nat->Act->World->Prop) (n:Nat) (h₀:J n a w) (b:∀n a w,J n a w->c.wp P (Exit.then (fun A w'=>∃m,m<n/\J m A w') Q) a w):(Code.loop c).wp P Q a w:=by
 classical
 let μ:Act->World->Nat:=fun a w=>if h:∃n,J n a w then Classical.choose (ZB0 h) else 0
 have hμ:∀a w (h:∃n,J n a w),J (μ a w) a w/\∀m,m<μ a w->¬J m a w:=fun a w h=>by
  simp only[μ,dif_pos h];exact Classical.choose_spec (ZB0 h)
 refine wp_loop (fun a w=>∃n,J n a w) μ ⟨n,h₀⟩ fun a w h=>?_;refine wp_mono (b (μ a w) a w (hμ a w h).1) fun e A w' C=>?_;cases e with
 |normal=>
  obtain ⟨m,E,B⟩:=C;refine ⟨⟨m,B⟩,?_⟩;have h3:=hμ A w' ⟨m,B⟩;rcases Ac m (μ A w') with D|D
  .exact absurd B (h3.2 m D)
  .omega
 |_=>exact C
mutual
theorem RC.deep {w:World}:∀{x:CT}{v:Value}{L:List Nat},RC w x v L->ctD x
 |.int _ _,_,_,_=>trivial
 |.bool _,_,_,_=>trivial
 |.str _,_,_,h=>h.2.2
 |.sl _ _ _,_,_,⟨A,cap,cs,L0,L1,h1,h2,h3,h4,h5,h6,h7⟩=>⟨by unfold maxLen at h3;omega,h7.deep⟩
 |.pt _,_,_,⟨_,_,_,_,_,_,_,h⟩=>h.deep
 |.fn _ _,_,_,⟨_,_,h⟩=>h.deep
 |.mp _ _ _,_,_,_=>trivial
 |.ifc _,_,_,_=>trivial
 |.any,_,_,_=>trivial
 |.nl _ _,_,_,_=>trivial
theorem RCs.deep {w:World}:∀{x:List CT}{v:List Value}{L:List Nat},RCs w x v L->ctsD x
 | [],_,_,_=>trivial
 |_::_,_,_,⟨v,cs,L1,L2,h1,h2,h3,h4⟩=>⟨h3.deep,h4.deep⟩
theorem REs.deep {w:World}{m:Nat}:∀{x:List (List CT)}{v:List Value}{L:List Nat},REs w m x v L->essD x
 | [],_,_,_=>trivial
 |_::_,_,_,⟨c1,c2,L1,L2,h1,h2,h3,h4⟩=>⟨h3.1.deep,h4.deep⟩
end
theorem AVR.deep [NW] {g:Gh}{w:World}:∀{x:AV}{v:Value},AVR g w x v->avD x
 |.c _,_,⟨_,h,_⟩=>h.deep
 |.n _,_,h=>by obtain ⟨_,A,_⟩:=NR.toC h;exact A.deep
 |.row _,_,_=>trivial
 |.nil _ _,_,_=>trivial
 |.dead,_,_=>trivial
theorem AVRs.deep [NW] {g:Gh}{w:World}:∀{x:List AV}{v:List Value},ZN (AVR g w) x v->ZzG x
 | [],[],_=>trivial
 |_::_,_::_,h=>⟨h.1.deep,AVRs.deep h.2⟩
 | [],_::_,h=>h.elim
 |_::_,[],h=>h.elim
theorem Inv.deep [NW] (G:Inv W U st a w):WF st:=by
 obtain ⟨⟨g,D,F⟩,M,C,K⟩:=G;refine ⟨fun t b cs E=>?_,fun k t cs B=>?_,fun k e m xs d B=>?_⟩
 .have h:=F t;rw [E]at h;cases b with
  |true=>obtain ⟨vs,_,A⟩:=h;exact AVRs.deep A
  |false=>obtain ⟨x,rfl,A⟩:=h;exact ⟨A.deep,trivial⟩
 .have h:=D.obs k;rw [B]at h;obtain ⟨b,vs,_,_,_,_,A⟩:=h;exact AVRs.deep A
 .have h:=D.obs k;rw [B]at h;obtain ⟨_,cs,L,J,A,_⟩:=h;refine ⟨?_,A.deep⟩;rcases J.2 with ⟨_,I⟩|⟨_,_,cap,_,_,_,_,I,H,_⟩
  .omega
  .unfold maxLen at H;omega
def ZFb:Ex->Exit
 |.normal=>.normal
 |.exit id=>.exit id
 |.ret=>.ret
def QO (od:OD) (tt:Nat->Option TI) (hs:FuncId->Nat) (a:Bool) (N:Nat):Code->Bool
 |.skip=>true
 |.region id ops d=>(ops.toList.all fun o=>match o.dst with|some t=>Nat.blt t N&&(!a||Nat.blt 0 t)|none=>true)&&(match od id with|none=>!d||Zve tt hs ops|some l=>d&&Zwc tt hs l.2 ops l.1)
 |.seq x y=>QO od tt hs a N x&&QO od tt hs a N y
 |.cond _ x y=>QO od tt hs a N x&&QO od tt hs a N y
 |.block _ x=>QO od tt hs a N x
 |.loop x=>QO od tt hs a N x
 |.exit _=>true
 |.ret=>true
 |_=>false
theorem ZbN [NW] {od:OD}(aa:MOk P J JF W tt) (I:P.follows .mixedOrders=true) {M:FuncId->Nat}{k0:Bool}(v:W.hv=none\/k0=true) {N:Nat}:∀(c:Code),QO od tt M k0 N c=true->∀(Qs:Ex->St->Prop) (Q:Exit->Act->World->Prop),
  (∀ex U' st' H w',Inv W U' st' H w'->(∀k,st'.n<=k->¬U' k)->H.tmps.size=N->Qs ex st'->Q (ZFb ex) H w')->
  ∀U st a w,Inv W U st a w->(∀k,st.n<=k->¬U k)->a.tmps.size=N->swp tt (SC P J JF M) od c Qs st->c.wp P Q a w
 |.skip,_,Qs,Q,hQ,U,st,a,w,O,V,hs,h=>wp_skip (hQ .normal U st a w O V hs h)
 |.exit id,_,Qs,Q,hQ,U,st,a,w,O,V,hs,h=>wp_exit (hQ (.exit id) U st a w O V hs h)
 |.ret,_,Qs,Q,hQ,U,st,a,w,O,V,hs,h=>wp_ret (hQ .ret U st a w O V hs h)
 |.region id m d,f,Qs,Q,hQ,U,st,a,w,O,V,hs,h=>by
  simp only[QO,AA,AO]at f;have hN:∀o∈m.toList,∀t,o.dst=some t->t<N/\(W.hv=none\/t≠0):=fun o mo t ht=>by
   have:=f.1 o mo;rw [ht]at this;simp only[AA,AI]at this;refine ⟨AF this.1,v.imp (fun h=>h) fun h=>?_⟩;rcases this.2 with h2|h2
   .rw [h]at h2;simp at h2
   .have h3:0<t:=AF h2;exact Nat.ne_of_gt h3
  have A:∀U' st' H w',Inv W U' st' H w'->(∀k,st.n+16*m.toList.length<=k->¬U' k)->H.tmps.size=N->ZsG (st.n+16*m.toList.length) (Qs .normal) st'->Q .normal H w':=fun U' st' H w' L h2 h3 T=>
   hQ .normal U' { st' with n:=st.n+16*m.toList.length } H w' ⟨L.ex,⟨L.wf.sl,L.wf.ob,L.wf.gone⟩,L.defers,L.hand⟩ h2 h3 T
  have B:Inv W U st a { w with drawn:=w.drawn+1 }:=by
   obtain ⟨⟨g,hH,hS⟩,hU,E,hh⟩:=O;have hw:∀b,b<w.heap.size->¬g.own b->({ w with drawn:=w.drawn+1 }:World).heap[b]?=w.heap[b]?:=fun _ _ _=>rfl;refine ⟨⟨g,hH.step (U:=U) (fun _=>False) ⟨hH.below.os,hH.below.tape,hH.below.output,hH.below.size,hH.below.block⟩ rfl (fun _ _ _=>rfl) (fun _ _=>⟨rfl,rfl,rfl,rfl⟩) hU.ob (fun _ _=>rfl) (Zai.refl _ _) (fun _ h=>h.elim),fun t=>?_⟩,hU,E,hh⟩;exact (hS t).move (hU.sl t) (fun _ _=>rfl) hw (Zai.refl _ _) (AJ _)
  have z:∀(b:Bool) (R:List Nat),ZmF tt M b m R=true->(∀j,elB m j=true)->R.length<=m.size->(∀i,i∈R↔i<m.size)->ZhO tt (SC P J JF M) b m.toList st.n R (ZsG (st.n+16*m.toList.length) (Qs .normal)) st->(Code.region id m true).wp P Q a w:=fun b R L h2 h3 T h5=>by
   refine wp_region_any I ?_;refine ZxJ (base:=st.n) aa hN h2 (fun U' st' H w' L h2 h3 T=>A U' st' H w' L (by simpa using h2) h3 T) m.size R (AK m.size false) U st a _ h3 (Zrq L) yG (fun i=>?_) (fun i o ho hl=>?_) h5 B (fun j _ k C _=>V k yE) (fun k C=>V k yE) hs
   .rw [T];constructor
    .intro hi;exact ⟨hi,by simp [AL,hi]⟩
    .exact fun hi=>hi.1
   .exfalso;have hi:i<m.size:=(Ag.1 ho).1;simp [AL,hi]at hl
  cases ho:od id with
  |none=>
   have u:=f.2;simp only[ho]at u;simp only[swp,ho,ZvR]at h;have h':Yu tt (SC P J JF M) m.toList st.n m.toList (ZsG (st.n+16*m.toList.length) (Qs .normal)) st:=h;cases d with
   |false=>
    refine wp_region ?_;have:=Zq5 (Q:=Q) aa hN m.toList 0 st.n U st a w yG h' O V hs A;rw [Ar];simpa using this
   |true=>
    have q:Zve tt M m=true:=by simpa using u
    simp only[Zve,AA]at q;have h2:=Zwx (tt:=tt) (S:=SC P J JF M) (all:=m.toList) (base:=st.n) (K:=ZsG (st.n+16*m.toList.length) (Qs .normal)) m.toList 0 st yG (by simpa using h');rw [<-Ar]at h2;exact z false (AX m.size) q.1 (Zt1 q.2) yG yG (by simpa using h2)
  |some l=>
   have u:=f.2;simp only[ho,AA]at u;simp only[swp,ho,ZvR]at h;obtain ⟨rfl,q⟩:=u;simp only[Zwc,AA]at q;exact z l.2 l.1 q.1.1.1.1 (Zt1 q.1.1.1.2) (AF q.1.1.2) (fun i=>⟨fun mi=>AF (AO.1 q.1.2 i mi),fun hi=>by simpa using AO.1 q.2 i (by simpa using hi)⟩) h
 |.seq x y,f,Qs,Q,hQ,U,st,a,w,O,V,hs,h=>by
  simp only[QO,AA]at f;refine wp_seq (ZbN aa I v x f.1 (Zjy (swp tt (SC P J JF M) od y Qs) Qs) _ ?_ U st a w O V hs h);intro ex U' st' H w' L h2 h3 T;cases ex with
  |normal=>exact ZbN aa I v y f.2 Qs Q hQ U' st' H w' L h2 h3 T
  |exit id=>exact hQ (.exit id) U' st' H w' L h2 h3 T
  |ret=>exact hQ .ret U' st' H w' L h2 h3 T
 |.cond c x y,f,Qs,Q,hQ,U,st,a,w,O,V,hs,h=>by
  simp only[QO,AA]at f;simp only[swp,ZqN]at h;split at h
  .rename_i hb;obtain ⟨b,D⟩:∃b,st.ev tt 0 c=.p false [.c (.bool b)]:=by
    unfold ZbE at hb;split at hb
    .rename_i b he;exact ⟨b,he⟩
    .simp at hb
   obtain ⟨g,hH,hS⟩:=O.ex;have hv:=(ZmW (P:=P) aa.tt hS O.wf 0 c).1;rw [D]at hv;have G:=ZhT hv;refine wp_cond G ?_;cases b with
   |true=>rw [yp (by rw [D];rfl)]at h;exact ZbN aa I v x f.1 Qs Q hQ U st a w O V hs h
   |false=>rw [yn (by rw [D];simp [Zak])]at h;exact ZbN aa I v y f.2 Qs Q hQ U st a w O V hs h
  .exact h.elim
 |.block id x,f,Qs,Q,hQ,U,st,a,w,O,V,hs,h=>by
  refine wp_block (ZbN aa I v x f (ZiQ id Qs) _ ?_ U st a w O V hs h);intro ex U' st' H w' L h2 h3 T;cases ex with
  |normal=>exact hQ .normal U' st' H w' L h2 h3 T
  |exit j=>
   show Exit.inBlock id Q (.exit j) H w'
   simp only[ZiQ]at T;simp only[Exit.inBlock];split
   .rename_i e;rw [yp e]at T;exact hQ .normal U' st' H w' L h2 h3 T
   .rename_i e;rw [yn e]at T;exact hQ (.exit j) U' st' H w' L h2 h3 T
  |ret=>exact hQ .ret U' st' H w' L h2 h3 T
 |.loop x,f,Qs,Q,hQ,U,st,a,w,O,V,hs,h=>by
  obtain ⟨n,hn⟩:=h;refine Zyn (fun n a w=>∃U st,Inv W U st a w/\(∀k,st.n<=k->¬U k)/\a.tmps.size=N/\Zm3 (swp tt (SC P J JF M) od x) Qs n st) n ⟨U,st,O,V,hs,hn⟩ ?_;rintro n a w ⟨U,st,O,V,hs,hn⟩;cases n with
  |zero=>exact hn.elim
  |succ n=>
   obtain ⟨ms,ρ,hρ,hb⟩:=hn;obtain ⟨U2,F⟩:=Zoz ms O V;refine ZbN aa I v x f (Zjy (Zm3 (swp tt (SC P J JF M) od x) Qs n) Qs) _ ?_ _ ((st.mats ms).ren ρ) a w (Zwg F hρ) (fun k C hU=>by simp only[St.ren]at C;omega) hs (hb (Zwg F hρ).deep);intro ex U' st' H w' L h2 h3 T;cases ex with
   |normal=>exact ⟨n,yE,U',st',L,h2,h3,T⟩
   |exit id=>exact hQ (.exit id) U' st' H w' L h2 h3 T
   |ret=>exact hQ .ret U' st' H w' L h2 h3 T
 |.rangeFunc _ _ _ _,f,_,_,_,_,_,_,_,_,_,_,_=>by simp [QO]at f
 |.scope _,f,_,_,_,_,_,_,_,_,_,_,_=>by simp [QO]at f
 |.label _,f,_,_,_,_,_,_,_,_,_,_,_=>by simp [QO]at f
 |.goto _,f,_,_,_,_,_,_,_,_,_,_,_=>by simp [QO]at f
 |.refuse _,f,_,_,_,_,_,_,_,_,_,_,_=>by simp [QO]at f
end
end
section
open Go.RowKit
section
variable {P:Program} {J:World->Prop} {JF:Nat->Prop} {W:ZbW} {U:Nat->Prop} {st:St} {w w':World} {a:Act} {tt:Nat->Option TI} {g:Gh}
def nK (g:Gh) (K:Nat->Prop) (b:Nat):Prop:=g.Z b\/∃k,K k/\b∈g.O k
theorem Zy0 {k e m n B:Nat}{cs:List Value}(h:w.ownsV 0 e m (g.val k) n cs) (C:∀b∈(g.val k).ownBlock.toList,B<=b):w.ownsV B e m (g.val k) n cs:=by
 refine ⟨h.1,?_⟩;rcases h.2 with D|⟨q,o,cap,a,A,E,r⟩
 .exact .inl D
 .exact .inr ⟨q,o,cap,a,A,C q (by simp [A,Value.ownBlock]),r⟩
variable {K:Nat->Prop}
theorem ZuG [NW] {B:Nat}(N:HI W g st.ob w) (hK:∀k,K k->Zlb (st.ob k)=false/\∀e m xs d,st.ob k=.row e m xs d->d=2) {x:AV}{ct:Bool×CT}{ks:List Nat}{v:Value}(h:ZgS st x=some (ct,ks)) (l:∀k∈ks,K k/\∀b∈g.O k++g.D k,B<=b) (H:AVR g w x v):OC w B (nK g K) ct v (g.F ks):=by
 have a:∀b,nK g K b->g.own b:=fun b C=>by
  rcases C with P|⟨k,_,M⟩
  .exact .inr P
  .exact .inl ⟨k,M⟩
 cases x with
 |c y=>
  obtain ⟨L,G,I⟩:=H;cases y<;>simp only[ZgS,A0,A6]at h<;>obtain ⟨rfl,rfl⟩:=h
  .exact ⟨⟨G.1,rfl⟩,by simp [Gh.F]⟩
  .exact ⟨⟨G.1,rfl⟩,by simp [Gh.F]⟩
  .exact ⟨⟨G.1,rfl,G.2.2⟩,by simp [Gh.F]⟩
  .exact ⟨by simp [Gh.F],L,G,fun b E C=>I b E (a b C)⟩
  .exact ⟨by simp [Gh.F],L,G,fun b E C=>I b E (a b C)⟩
  .exact ⟨by simp [Gh.F],L,G,fun b E C=>I b E (a b C)⟩
  .exact ⟨by simp [Gh.F],L,G,fun b E C=>I b E (a b C)⟩
  .exact ⟨⟨rfl,G.2⟩,by simp [Gh.F]⟩
  .exact ⟨by simp [Gh.F],L,G,fun b E C=>I b E (a b C)⟩
  .exact ⟨by simp [Gh.F],L,G,fun b E C=>I b E (a b C)⟩
 |row k=>
  simp only[ZgS]at h;split at h
  .rename_i e m xs d R;obtain ⟨T,cs,L,o1,o2,o3,o5⟩:=N.deep R;split at h
   .rename_i hd;simp only[A0,A6]at h;obtain ⟨rfl,rfl⟩:=h;have i:=l k yG;rcases o5 with ⟨_,J,S⟩|⟨q,_⟩|⟨q,_⟩
    .refine ⟨T,cs,L,by rw [H.1];exact Zy0 o1 fun b E=>i.2 b (by simp [J,E]),o2,by simp [Gh.F,J,S,H.1],fun b E=>.inr ⟨k,i.1,by rw [J];rw [H.1]at E;exact E⟩⟩
    .omega
    .omega
   .rename_i hd;simp only[A0,A6]at h;obtain ⟨rfl,rfl⟩:=h;have f:¬K k:=fun h=>hd ((hK k h).2 e m xs d R);obtain ⟨A,cap,L0,s1,s2,s3,s4,s5⟩:=Sl.row o1;refine ⟨by simp [Gh.F],L0++L,⟨A,cap,cs,L0,L,by rw [H.1,s1],s2,s3,rfl,T,s4,o2⟩,fun b E C=>?_⟩;rcases AC.1 E with V|V
    .have m2:=s5.subset V;rcases o5 with ⟨q,_⟩|⟨_,J,S⟩|⟨_,_,_,q⟩
     .exact hd q
     .have M:b∈g.O k++g.D k:=by simp [J,m2]
      rcases C with P|⟨j,hj,U⟩
      .exact N.nz M P
      .exact N.apart k j (fun e=>f (e ▸ hj)) b M (by simp [U])
     .exact q b m2 (a b C)
    .exact o3 b V (a b C)
  .rename_i kk vk kv R;simp only[A0,A6]at h;obtain ⟨rfl,rfl⟩:=h;have ho:=N.obs k;rw [R]at ho;obtain ⟨b,es,c,J,S,q3,q4,q5,q6⟩:=ho;have f:¬K k:=fun h=>by have:=(hK k h).1;rw [R]at this;simp [Zlb]at this
   refine ⟨by simp [Gh.F],[b],⟨b,es,c,by rw [H.1,J],q4,q5,q6,rfl⟩,fun x mx C=>?_⟩;simp at mx;subst mx;have M:x∈g.O k++g.D k:=by simp [S]
   rcases C with P|⟨j,hj,U⟩
   .exact N.nz M P
   .exact N.apart k j (fun e=>f (e ▸ hj)) x M (by simp [U])
  .simp at h
 |nil e m=>
  simp only[ZgS]at h;split at h
  .rename_i T;simp only[A0,A6]at h;obtain ⟨rfl,rfl⟩:=h;have o:v=.slice none 0 0:=H;subst o;exact ⟨T,[],[],ZgR _ _ _ _,⟨rfl,rfl⟩,by simp [Gh.F,Value.ownBlock],by simp [Value.ownBlock]⟩
  .simp at h
 |n y=>
  obtain ⟨L,G,I⟩:=NR.toC H;simp only[ZgS,A0,A6]at h;obtain ⟨rfl,rfl⟩:=h;exact ⟨by simp [Gh.F],L,G,fun b E C=>I b E (a b C)⟩
 |dead=>
  simp only[ZgS,A0,A6]at h;obtain ⟨rfl,rfl⟩:=h;exact ⟨by simp [Gh.F],[],⟨rfl,H⟩,yG⟩
theorem Zra [NW] {B:Nat}(E:HI W g st.ob w) (C:∀k,K k->Zlb (st.ob k)=false/\∀e m xs d,st.ob k=.row e m xs d->d=2):∀{xs:List AV}{cts:List (Bool×CT)}{ks:List Nat}{vs:List Value},ZeA st xs=some (cts,ks)->(∀k∈ks,K k/\∀b∈g.O k++g.D k,B<=b)->ZN (AVR g w) xs vs->OCs w B (nK g K) cts vs (g.F ks)
 | [],_,_,[],h,_,_=>by
  simp only[ZeA,A0,A6]at h;obtain ⟨rfl,rfl⟩:=h;exact ⟨rfl,by simp [Gh.F]⟩
 | [],_,_,_::_,_,_,h=>h.elim
 |_::_,_,_,[],_,_,h=>h.elim
 |x::r,cts,ks,v::vs,h,hks,hr=>by
  simp only[ZeA]at h;obtain ⟨⟨L,H⟩,J,h⟩:=AE.1 h;obtain ⟨⟨c2,G⟩,I,h⟩:=AB.1 h;simp only[A6]at h;obtain ⟨rfl,rfl⟩:=h;exact ⟨v,vs,g.F H,g.F G,rfl,by simp [Gh.F],ZuG E C J (fun k A=>hks k (by simp [A])) hr.1,Zra E C I (fun k A=>hks k (by simp [A])) hr.2⟩
theorem ZuR [NW] {B:Nat}(H:HI W g st.ob w) (G:∀k,K k->Zlb (st.ob k)=false/\∀e m xs d,st.ob k=.row e m xs d->d=2) {C:Bool}{cs:List AV}{cts:List (Bool×CT)}{ks:List Nat}{v:Value}(h:ZeA st cs=some (cts,ks)) (a:∀k∈ks,K k/\∀b∈g.O k++g.D k,B<=b) (E:PVR g w C cs v):OP w B (nK g K) (C,cts) v (g.F ks):=by
 cases C with
 |true=>obtain ⟨vs,rfl,A⟩:=E;exact .inl ⟨rfl,vs,rfl,Zra H G h a A⟩
 |false=>
  obtain ⟨x,rfl,A⟩:=E;simp only[ZeA]at h;obtain ⟨⟨J,L⟩,I,h⟩:=AE.1 h;simp at h;obtain ⟨rfl,rfl⟩:=h;exact .inr ⟨rfl,J,rfl,ZuG H G I a A⟩
theorem OC.one {B:Nat}{n:Nat->Prop}{x:Bool×CT}{v:Value}{F:List Nat}(h:OC w B n x v F):v.oneCell'=true:=by
 obtain ⟨b,x⟩:=x;cases b with
 |true=>obtain ⟨_,L,E,_⟩:=h;exact E.one
 |false=>
  cases x with
  |sl e q xs=>
   obtain ⟨_,cs,L,C,_⟩:=h;obtain ⟨A,cap,D⟩:=Zgl C;rw [D];rfl
  |int k i=>exact h.1.one
  |bool b=>exact h.1.one
  |str s=>exact h.1.one
  |ifc s=>exact h.1.one
  |any=>exact h.1.one
  |_=>exact h.elim
/- what is given is said to be lent -/
theorem Zru [NW] {B:Nat}{n:Nat->Prop}:∀{r d:List (Bool×CT)}{vs:List Value}{F:List Nat},OCs w B n r vs F->wkC r d->F.Nodup->∃F',F'.Sublist F/\∀m:Nat->Prop,(∀b∈F',n b->m b)->(∀b,m b->n b)->(∀b∈F,m b->b∈F')->OCs w B m d vs F'
 | [],[],vs,F,h,_,_=>⟨[],yG,fun m _ _ _=>⟨h.1,rfl⟩⟩
 | [],_::_,_,_,_,h,_=>h.elim
 |_::_,[],_,_,_,h,_=>h.elim
 |x::r,y::d,_,_,⟨v,vs,F1,F2,rfl,rfl,h1,h2⟩,a,hnd=>by
  rw [AU]at hnd;have a:wk1 x y (wkC r d):=a;unfold wk1 at a;by_cases c:Zv6 y.2=true
  .rw [yp c]at a;obtain ⟨F2',G,g⟩:=Zru h2 a hnd.2.1;refine ⟨F2',G.trans (List.sublist_append_right _ _),fun m D I H=>⟨v,vs,[],F2',rfl,rfl,?_,g m D I fun b C E=>H b (by simp [C]) E⟩⟩;have f:=h1.one;obtain ⟨M,y⟩:=y;cases y<;>simp [Zv6]at c
   cases M with
   |true=>exact ⟨rfl,[],⟨rfl,f⟩,yG⟩
   |false=>exact ⟨⟨rfl,f⟩,rfl⟩
  rw [yn c]at a;obtain ⟨T,S,hw⟩:=a;obtain ⟨F2',G,g⟩:=Zru h2 hw hnd.2.1;have key:∃F1',F1'.Sublist F1/\∀m:Nat->Prop,(∀b∈F1',n b->m b)->(∀b,m b->n b)->(∀b∈F1,m b->b∈F1')->OC w B m y v F1':=by
   obtain ⟨b1,x⟩:=x;obtain ⟨M,y⟩:=y;simp only at T S;subst T;cases b1 with
   |true=>
    have:M=true:=by rcases S with e|e<;>simp_all
    subst this;obtain ⟨rfl,L,q1,q2⟩:=h1;exact ⟨[],yG,fun m _ I _=>⟨rfl,L,q1,fun b C E=>q2 b C (I b E)⟩⟩
   |false=>
    cases M with
    |false=>
     refine ⟨F1,Ao _,fun m D _ _=>?_⟩;cases x with
     |sl e q xs=>
      obtain ⟨P,cs,L,O,N,K,R⟩:=h1;exact ⟨P,cs,L,O,N,K,fun b C=>D b (by simp [K,C]) (R b C)⟩
     |int k i=>exact h1
     |bool b=>exact h1
     |str s=>exact h1
     |ifc s=>exact h1
     |any=>exact h1
     |_=>exact h1.elim
    |true=>
     refine ⟨[],yG,fun m _ _ H=>⟨rfl,?_⟩⟩;cases x with
     |sl e q xs=>
      obtain ⟨P,cs,L,O,N,K,R⟩:=h1;obtain ⟨A,cap,L0,J,G,W,V,U⟩:=Sl.row O;refine ⟨L0++L,⟨A,cap,cs,L0,L,J,G,W,rfl,P,V,N⟩,fun b C E=>?_⟩;have:b∈F1:=by
       rw [K];rcases AC.1 C with D|D
       .exact AC.2 (.inl (U.subset D))
       .exact AC.2 (.inr D)
      have:=H b this E;simp at this
     |int k i=>exact ⟨[],h1.1,yG⟩
     |bool b=>exact ⟨[],h1.1,yG⟩
     |str s=>exact ⟨[],h1.1,yG⟩
     |ifc s=>exact ⟨[],h1.1,yG⟩
     |any=>exact ⟨[],h1.1,yG⟩
     |_=>exact h1.elim
  obtain ⟨F1',J,f⟩:=key;refine ⟨F1'++F2',Ai J G,fun m D I H=>⟨v,vs,F1',F2',rfl,rfl,f m (fun b C=>D b (by simp [C])) I (fun b C E=>?_),g m (fun b C=>D b (by simp [C])) I (fun b C E=>?_)⟩⟩
  .rcases AC.1 (H b (by simp [C]) E) with h|h
   .exact h
   .exact absurd rfl (hnd.2.2 b C b (G.subset h))
  .rcases AC.1 (H b (by simp [C]) E) with h|h
   .exact absurd rfl (hnd.2.2 b (J.subset h) b C)
   .exact h
theorem ZEx [NW] {B:Nat}{n:Nat->Prop}{x y:RT}{v:Value}{F:List Nat}(h:OP w B n x v F) (G:x.1=y.1) (A:wkC x.2 y.2) (d:F.Nodup):∃F',F'.Sublist F/\∀m:Nat->Prop,(∀b∈F',n b->m b)->(∀b,m b->n b)->(∀b∈F,m b->b∈F')->OP w B m y v F':=by
 rcases h with ⟨D,vs,rfl,C⟩|⟨D,P,C,N⟩
 .obtain ⟨F',s,h⟩:=Zru C A d;exact ⟨F',s,fun m a b c=>.inl ⟨G ▸ D,vs,rfl,h m a b c⟩⟩
 .obtain ⟨F',s,h⟩:=Zru (r:=x.2) (vs:=[v]) (F:=F) (by rw [C];exact ⟨v,[],F,[],rfl,yG,N,rfl,rfl⟩) A d;refine ⟨F',s,fun m M L K=>.inr ⟨G ▸ D,?_⟩⟩;have h4:=h m M L K;generalize y.2=l at h4 A
  cases l with
  |nil=>rw [C]at A;exact A.elim
  |cons c l=>
   cases l with
   |nil=>
    obtain ⟨O,H,F1,F2,E,rfl,J,I⟩:=h4;simp only[AY]at E;obtain ⟨rfl,rfl⟩:=E;obtain ⟨_,rfl⟩:=I;exact ⟨c,rfl,by simpa using J⟩
   |cons _ _=>
    rw [C]at A;have A:wk1 _ _ False:=A;unfold wk1 at A;split at A
    .exact A.elim
    .exact A.2.2.elim
theorem ZzT [NW] {B:Nat}{n:Nat->Prop}:∀{r a:List RT}{vs:List Value}{F:List Nat},OPs w B n r vs F->wkR r a->F.Nodup->∃F',F'.Sublist F/\∀m:Nat->Prop,(∀b∈F',n b->m b)->(∀b,m b->n b)->(∀b∈F,m b->b∈F')->OPs w B m a vs F'
 | [],[],vs,F,h,_,_=>⟨[],yG,fun m _ _ _=>⟨h.1,rfl⟩⟩
 | [],_::_,_,_,_,h,_=>h.elim
 |_::_,[],_,_,_,h,_=>h.elim
 |x::r,y::a,_,_,⟨v,vs,F1,F2,rfl,rfl,h1,h2⟩,⟨e1,e2,hw⟩,hnd=>by
  rw [AU]at hnd;obtain ⟨F2',D,c⟩:=ZzT h2 hw hnd.2.1;obtain ⟨F1',E,d⟩:=ZEx h1 e1 e2 hnd.1;refine ⟨F1'++F2',Ai E D,fun m I H G=>⟨v,vs,F1',F2',rfl,rfl,d m (fun b A=>I b (by simp [A])) H (fun b A C=>?_),c m (fun b A=>I b (by simp [A])) H (fun b A C=>?_)⟩⟩
  .rcases AC.1 (G b (by simp [A]) C) with h|h
   .exact h
   .exact absurd rfl (hnd.2.2 b A b (D.subset h))
  .rcases AC.1 (G b (by simp [A]) C) with h|h
   .exact absurd rfl (hnd.2.2 b (E.subset h) b A)
   .exact h
def ZkU (tmps:Array Value):ResultVar->Sem Value
 |.tmp t=>pure (tmps.getD t undef)
 |.cell b t=>do loadVar t (<-asAddr (tmps.getD b undef))
theorem Zvh (A:Func) (a:Array Value):results A a=(do let vs <-A.results.mapM (ZkU a);pure (if h:vs.size=1 then vs[0] else .tuple vs)):=by
 unfold results;congr 1
theorem Zo5 [NW] {B:Nat}(E:∀t i,tt t=some i->TOk P t i) (H:HI W g st.ob w) (G:∀t,SVR g w (st.sl t) (a.tmps.getD t undef)) (R:StU U st) (I:∀k,K k->Zlb (st.ob k)=false/\∀e m xs d,st.ob k=.row e m xs d->d=2):∀{V:List ResultVar}{j:List RT}{ks:List Nat},Zdf tt st V=some (j,ks)->(∀k∈ks,K k/\∀b∈g.O k++g.D k,B<=b)->
  ∃vs:List Value,(V.mapM (ZkU a.tmps)).run P w=.ok vs w/\OPs w B (nK g K) j vs (g.F ks)
 | [],j,ks,h,_=>by
  simp only[Zdf,A0,A6]at h;obtain ⟨rfl,rfl⟩:=h;exact ⟨[],yG,rfl,by simp [Gh.F]⟩
 |.tmp t::r,j,ks,h,hks=>by
  simp only[Zdf]at h;split at h
  .rename_i ag cs f;obtain ⟨⟨c1,L⟩,T,h⟩:=AE.1 h;obtain ⟨⟨c2,J⟩,S,h⟩:=AB.1 h;simp only[A6]at h;obtain ⟨rfl,rfl⟩:=h;obtain ⟨vs,N,M⟩:=Zo5 E H G R I S (fun k A=>hks k (by simp [A]));have hs:=G t;rw [f]at hs;refine ⟨a.tmps.getD t undef::vs,?_,_,vs,g.F L,g.F J,rfl,by simp [Gh.F],ZuR H I T (fun k A=>hks k (by simp [A])) hs,M⟩;simp only[As,ZkU,Sem.run_bind,Sem.run_pure,Result.andThen_ok,N]
  .simp at h
 |.cell t ty::r,j,ks,h,hks=>by
  simp only[Zdf]at h;split at h
  .rename_i ag cs f;obtain ⟨⟨c1,L⟩,T,h⟩:=AE.1 h;obtain ⟨⟨c2,J⟩,S,h⟩:=AB.1 h;simp only[A6]at h;obtain ⟨rfl,rfl⟩:=h;obtain ⟨vs,N,M⟩:=Zo5 E H G R I S (fun k A=>hks k (by simp [A]));obtain ⟨cv,l1,l2,_⟩:=Zwy (P:=P) (U:=U) E H R f (G t);have hl:(do loadVar ty (<-asAddr (a.tmps.getD t undef)):Sem Value).run P w=.ok cv w:=by
    have:∃b,a.tmps.getD t undef=.pointer (some b):=by
     have hs:=G t;cases hsl':st.sl t with
     |bp k off=>rw [hsl']at hs;obtain ⟨b,_,C⟩:=hs;exact ⟨_,C⟩
     |rp k m i off=>rw [hsl']at hs;obtain ⟨b,_,_,_,_,C⟩:=hs;exact ⟨_,C⟩
     |ep e off=>rw [hsl']at hs;obtain ⟨b,_,_,_,C,_⟩:=hs;exact ⟨_,C⟩
     |p l o=>
      rw [hsl']at hs f;cases l with
      |true=>simp [Zap]at f
      |false=>
       cases o with
       |nil=>simp [Zap]at f
       |cons y q=>
        cases q with
        |cons _ _=>cases y<;>first|(simp [Zap]at f;done)|(rename_i z;cases z<;>simp [Zap]at f)
        |nil=>cases y with
         |c z=>cases z with
          |pt e=>obtain ⟨b,_,_,C,_⟩:=Zwi hs;exact ⟨_,C⟩
          |_=>simp [Zap]at f
         |_=>simp [Zap]at f
     |_=>rw [hsl']at f;simp [Zap]at f
    obtain ⟨b,hb⟩:=this;rw [hb]at l1 ⊢;simpa [Instr.loadAt,Instr.sureAddr,asAddr]using l1
   refine ⟨cv::vs,?_,_,vs,g.F L,g.F J,rfl,by simp [Gh.F],ZuR H I T (fun k A=>hks k (by simp [A])) l2,M⟩;have u:(ZkU a.tmps (.cell t ty)).run P w=.ok cv w:=hl;simp only[As,Sem.run_bind,u,N,Sem.run_pure,Result.andThen_ok]
  .simp at h
theorem Zvn:∀{xs:List AV}{cts:List (Bool×CT)}{ks:List Nat},ZeA st xs=some (cts,ks)->∀k∈ks,∃e m xs,st.ob k=.row e m xs 2
 | [],_,_,h,k,A=>by
  simp only[ZeA,A0,A6]at h;rw [<-h.2]at A;simp at A
 |x::r,cts,ks,h,k,A=>by
  simp only[ZeA]at h;obtain ⟨⟨H,G⟩,B,h⟩:=AE.1 h;obtain ⟨⟨c2,F⟩,E,h⟩:=AB.1 h;simp only[A6]at h;obtain ⟨rfl,rfl⟩:=h;rcases AC.1 A with A|A
  .cases x with
   |c y=>cases y<;>simp only[ZgS,A0,A6]at B<;>(rw [<-B.2]at A;simp at A)
   |row j=>
    simp only[ZgS]at B;split at B
    .rename_i e m xs d C;split at B
     .rename_i D;simp only[A0,A6]at B;rw [<-B.2]at A;simp at A;subst A;exact ⟨e,m,xs,by rw [C,D]⟩
     .simp only[A0,A6]at B;rw [<-B.2]at A;simp at A
    .simp only[A0,A6]at B;rw [<-B.2]at A;simp at A
    .simp at B
   |nil e m=>
    simp only[ZgS]at B;split at B
    .simp only[A0,A6]at B;rw [<-B.2]at A;simp at A
    .simp at B
   |n y=>
    simp only[ZgS,A0,A6]at B;rw [<-B.2]at A;simp at A
   |dead=>
    simp only[ZgS,A0,A6]at B;rw [<-B.2]at A;simp at A
  .exact Zvn E k A
theorem ZnH [NW]:∀{D:List ResultVar}{a:List RT}{ks:List Nat},Zdf tt st D=some (a,ks)->∀k∈ks,∃e m xs,st.ob k=.row e m xs 2
 | [],_,_,h,k,A=>by
  simp only[Zdf,A0,A6]at h;rw [<-h.2]at A;simp at A
 |.tmp t::r,a,ks,h,k,A=>by
  simp only[Zdf]at h;split at h
  .obtain ⟨⟨G,F⟩,C,h⟩:=AE.1 h;obtain ⟨⟨c2,E⟩,B,h⟩:=AB.1 h;simp only[A6]at h;obtain ⟨rfl,rfl⟩:=h;rcases AC.1 A with A|A
   .exact Zvn C k A
   .exact ZnH B k A
  .simp at h
 |.cell t ty::r,a,ks,h,k,A=>by
  simp only[Zdf]at h;split at h
  .obtain ⟨⟨G,F⟩,C,h⟩:=AE.1 h;obtain ⟨⟨c2,E⟩,B,h⟩:=AB.1 h;simp only[A6]at h;obtain ⟨rfl,rfl⟩:=h;rcases AC.1 A with A|A
   .exact Zvn C k A
   .exact ZnH B k A
  .simp at h
theorem Zww [NW] {z:Nat->Prop}{x:Bool×List CT}{v:Value}(F:∀b,g.own b->z b) (h:Zj4 w z x v):SVR g w (.p x.1 (x.2.map .c)) v:=by
 rcases h with ⟨E,vs,L,rfl,D,C⟩|⟨E,H,L,D,G,C⟩
 .rw [E];exact ⟨vs,rfl,D.avr fun b A B=>C b A (F b B)⟩
 .rw [E,D];exact ⟨_,rfl,L,G,fun b A B=>C b A (F b B)⟩
theorem ZwZ [NW] {x:CT}{v:Value}{L:List Nat}(h:RC w x v L) (A:∀b∈L,¬g.own b):AVR g w (Zr5 x) v:=by
 cases x with
 |nl e m=>exact h.1
 |_=>exact ⟨L,h,A⟩
theorem Zuz [NW]:∀{e:List CT}{cs:List Value}{L:List Nat},RCs w e cs L->(∀b∈L,¬g.own b)->ZN (AVR g w) (e.map Zr5) cs
 | [],_,_,⟨h1,h2⟩,_=>by subst h1;trivial
 |x::r,_,_,⟨v,cs,L1,L2,h1,h2,h3,h4⟩,hL=>by
  subst h1 h2;exact ⟨ZwZ h3 fun b m=>hL b (by simp [m]),Zuz h4 fun b m=>hL b (by simp [m])⟩
theorem Zzl [NW] {z:Nat->Prop}{x:Bool×List CT}{v:Value}(F:∀b,g.own b->z b) (h:Zj4 w z x v):SVR g w (.p x.1 (x.2.map Zr5)) v:=by
 rcases h with ⟨E,vs,L,rfl,D,C⟩|⟨E,H,L,D,G,C⟩
 .rw [E];exact ⟨vs,rfl,Zuz D fun b A B=>C b A (F b B)⟩
 .rw [E,D];exact ⟨_,rfl,ZwZ G fun b A B=>C b A (F b B)⟩
theorem ZyH (e:List CT):QK U (e.map Zr5):=fun y m=>by
 obtain ⟨x,_,rfl⟩:=AD.1 m;cases x<;>trivial
theorem ZwP [NW] {B:Nat}(N:∀t i,tt t=some i->TOk P t i) {J:Func}{f:List RT}(hI:Inv W U st a w) (R:HI W g st.ob w) (hS:∀t,SVR g w (st.sl t) (a.tmps.getD t undef)) {r:List RT}{ks:List Nat}(M:Zdf tt st J.results.toList=some (r,ks)) (j:ks.Nodup) (hw:wkR r f)
  (S:∀k∈ks,∀b∈g.O k++g.D k,B<=b) (K0:Nat->Prop) (l:∀k,K0 k->Zlb (st.ob k)=false/\∀e m xs d,st.ob k=.row e m xs d->d=2):
  ∃v m G F',F'.Sublist (g.F ks)/\(results J a.tmps).run P w=.ok v w/\(OPs w B m f G F'/\Own w B F'/\v=(if h:G.toArray.size=1 then G.toArray[0] else .tuple G.toArray))/\(∀b,m b->g.own b)/\(∀b,m b->g.Z b\/(∃k,(k∈ks\/K0 k)/\b∈g.O k))/\∀b,b∉g.F ks->(g.Z b\/∃k,K0 k/\b∈g.O k)->m b:=by
 obtain ⟨G,V,T⟩:=Zo5 (K:=fun k=>k∈ks\/K0 k) N R hS hI.wf (fun k C=>by
  rcases C with C|C
  .obtain ⟨e',m',o,I⟩:=ZnH M k C;refine ⟨by rw [I];rfl,fun e m xs d he=>?_⟩;rw [he]at I;simp only[Ob.row.injEq]at I;exact I.2.2.2
  .exact l k C) M (fun k H=>⟨.inl H,S k H⟩)
 have c:=R.nodupF j;obtain ⟨F',s,hF⟩:=ZzT T hw c;have p:∀b∈g.F ks,B<=b:=fun b A=>by
  obtain ⟨k,C,H⟩:=ZgO A;exact S k C b H
 refine ⟨(if h:G.toArray.size=1 then G.toArray[0] else .tuple G.toArray),fun b=>nK g (fun k=>k∈ks\/K0 k) b/\(b∈g.F ks->b∈F'),G,F',s,?_,⟨hF _ (fun b A E=>⟨E,fun _=>A⟩) (fun b E=>E.1) (fun b A E=>E.2 A),⟨c.sublist s,fun b A=>p b (s.subset A),fun b A=>?_⟩,rfl⟩,fun b E=>?_,fun b E=>E.1,fun b E hn=>⟨?_,fun A=>absurd A E⟩⟩
 .rw [Zvh];have e:J.results.mapM (ZkU a.tmps)=At <$> J.results.toList.mapM (ZkU a.tmps):=by
   rw [<-List.mapM_toArray]
  have e2:(At <$> J.results.toList.mapM (ZkU a.tmps)).run P w=.ok G.toArray w:=by
   rw [map_eq_pure_bind];simp only[Sem.run_bind,V,Result.andThen_ok,Sem.run_pure]
  rw [e];simp only[Sem.run_bind,e2,Result.andThen_ok,Sem.run_pure]
 .obtain ⟨k,C,H⟩:=ZgO (s.subset A);obtain ⟨e',m',o,I⟩:=ZnH M k C;have:=(R.plain k b H).2;rw [I]at this;exact this
 .rcases E.1 with L|⟨k,_,H⟩
  .exact .inr L
  .exact .inl ⟨k,H⟩
 .rcases hn with L|⟨k,C,H⟩
  .exact .inl L
  .exact .inr ⟨k,.inr C,H⟩
theorem Zz5 [NW] {B:Nat}(A:∀t i,tt t=some i->TOk P t i) {C:Func}{c:List RT}(J:Inv W U st a w) (K:HI W g st.ob w) (I:∀t,SVR g w (st.sl t) (a.tmps.getD t undef)) {r:List RT}{ks:List Nat}(G:Zdf tt st C.results.toList=some (r,ks)) (f:ks.Nodup) (H:wkR r c)
  (L:∀k∈ks,∀b∈g.O k++g.D k,B<=b) (K0:Nat->Prop) (j:∀k,K0 k->Zlb (st.ob k)=false/\∀e m xs d,st.ob k=.row e m xs d->d=2):
  ∃v m,(results C a.tmps).run P w=.ok v w/\ZlC w B m c v/\(∀b,m b->g.own b)/\(∀b,m b->g.Z b\/(∃k,(k∈ks\/K0 k)/\b∈g.O k))/\∀b,b∉g.F ks->(g.Z b\/∃k,K0 k/\b∈g.O k)->m b:=by
 obtain ⟨v,m,E,F',_,T,⟨S,R,N⟩,M⟩:=ZwP A J K I G f H L K0 j;exact ⟨v,m,T,⟨E,F',S,R,N⟩,M⟩
end
abbrev nw0:NW:=⟨0⟩
section
variable {P:Program} {J:World->Prop} {JF:Nat->Prop} {W:ZbW} {U:Nat->Prop} {st:St} {w w':World} {a:Act} {tt:Nat->Option TI} {od:OD} {g:Gh}
structure JOk (J:World->Prop) (JF:Nat->Prop):Prop where
 below:∀(x:Nat->Prop) (w w':World),J w->(∀b,x b->JF b)->w'.os=w.os->w'.tape=w.tape->w'.output=w.output->w.heap.size<=w'.heap.size->(∀k,k<w.heap.size->¬x k->w'.heap[k]?=w.heap[k]?)->J w'
 new:∀(w:World) b,J w->w.heap.size<=b->JF b
theorem Zeq {args:List (Bool×List CT)}{vs:List Value}{N t o:Nat}(h:vs.length<=N) (v:Value) (A:vs[t]?=some v):(vs.toArray++AK (N - vs.toArray.size) undef).getD t undef=v:=by
 have B:t<vs.length:=(AM.1 A).1;simp only[AL,Au,Aw,B,if_true,List.getElem?_toArray,A,Ah]
theorem Zo4 {vs:List Value}{N t:Nat}(A:vs.length<=t):(vs.toArray++AK (N - vs.toArray.size) undef).getD t undef=undef:=by
 simp only[AL,Au,Aw,show ¬t<vs.length by omega,if_false,Array.getElem?_replicate];split<;>rfl
theorem ZtX (htt : ∀ t i, tt t = some i → TOk P t i) (hJ : JOk J JF) (hmix : P.follows .mixedOrders = true) {hds : FuncId → Nat} {f : FuncId} {fn : Func} {c : Code} {args : List (Bool × List CT)} {res : List RT} (hf : P.funcs[f]? = some fn) (hname : (fn.name == "runtime.NumGoroutine") = false) (hb : fn.body = some c)
  (hok:QO od tt hds false fn.ntmps c=true) (hlen:Nat.ble args.length fn.ntmps=true) (h:fnS od tt (SC P J JF hds) fn.results.toList c args res):Zp P J f args res:=by
 letI:NW:=nw0
 refine ⟨⟨fn,hf,hname,by rw [hb];rfl⟩,fun w z vs hj hz hargs=>?_⟩
 have hlen':args.length<=fn.ntmps:=AF hlen
 have hvl:=hargs.len
 refine calls_of_wp hf hb ?_
 let W:ZbW:={ w with z:=z,x:=fun _=>False,hv:=none }
 let g0:Gh:=⟨fun _=>undef,fun _=>[],fun _=>[],z⟩
 have hg0:∀b,g0.own b->z b:=fun b hb=>by
  rcases hb with ⟨k,m⟩|h
  .simp [g0]at m
  .exact h
 have hI0:Inv W (fun _=>False) (Zu args) { tmps:=vs.toArray++AK (fn.ntmps - vs.toArray.size) undef,defers:=[] } w:=by
  refine ⟨⟨g0,⟨⟨rfl,rfl,rfl,AJ _,fun _ _ _=>rfl⟩,fun k=>⟨rfl,rfl⟩,fun k=>by simp [g0],fun k j _ b m=>by simp [g0]at m,fun k b m=>by simp [g0]at m,rfl,fun b hb=>⟨hz b hb,fun h=>h,fun h=>h⟩,fun _ _=>AG _,fun k b m=>by simp [g0]at m⟩,fun t=>?_⟩,⟨fun t=>?_,fun k=>trivial,fun k _=>rfl⟩,rfl,fun v hv=>by simp [W]at hv⟩
  .show SVR g0 w (match args[t]? with|some x=>.p x.1 (x.2.map Zr5)|none=>.und) _
   cases ht:args[t]? with
   |none=>exact Zo4 (by have:args.length<=t:=(by simpa using ht);omega)
   |some x=>
    obtain ⟨v,hv,hr⟩:=hargs.at ht
    show SVR g0 w (.p x.1 (x.2.map Zr5)) ((vs.toArray++AK (fn.ntmps - vs.toArray.size) undef).getD t undef)
    rw [Zeq (args:=args) (o:=0) yE v hv]
    exact Zzl hg0 hr
  .show svU _ (match args[t]? with|some x=>.p x.1 (x.2.map Zr5)|none=>.und)
   split
   .exact ZyH _
   .trivial
 have hM:MOk P J JF W tt:=⟨htt,fun w' hb=>hJ.below (fun _=>False) w w' hj (fun _ h=>h.elim) hb.os hb.tape hb.output hb.size (fun k hk hx=>hb.block k hk hx),fun b hb=>hJ.new w b hj hb,fun b h=>h.elim⟩
 refine ZbN (W:=W) hM hmix (.inl rfl) c hok (ZuJ tt fn.results.toList fun _ r _=>wkR r res) _ ?_ _ (Zu args) _ w hI0 (fun _ _ h=>h) (by simp;omega) h
 intro ex U' st' a' w' hI' _ _ hK
 have fin:(match Zdf tt st' fn.results.toList with|some x=>x.2.Nodup/\wkR x.1 res|none=>False)->a'.defers=[]/\∃v,(results fn a'.tmps).run P w'=.ok v w'/\∃u n,Ending.returned v=.returned u/\ZlC w' w.heap.size n res u/\(∀b,z b->n b)/\Below w.heap.size w w':=fun hK=>by
  split at hK
  .rename_i x hx
   obtain ⟨r,ks⟩:=x
   obtain ⟨hnd,hw⟩:=hK
   obtain ⟨g,hH,hS⟩:=hI'.ex
   have hBg:∀k∈ks,∀b∈g.O k++g.D k,W.heap.size<=b:=fun k _ b mb=>(hH.plain k b mb).1.resolve_right fun h=>h.elim (fun h=>h) fun h=>h
   obtain ⟨v,m,e1,e2,_,_,e4⟩:=Zz5 htt hI' hH hS hx hnd hw hBg (fun _=>False) (fun _ h=>h.elim)
   have hbel:=hH.below
   exact ⟨hI'.defers,v,e1,v,m,rfl,e2,fun b hb=>e4 b (fun mb=>by obtain ⟨k,hk,mk⟩:=ZgO mb;have:=hBg k hk b mk;have:=hz b hb;have e:W.heap.size=w.heap.size:=rfl;omega) (.inl (by rw [hH.gz];exact hb)),hbel.os,hbel.tape,hbel.output,hbel.size,fun k hk=>hbel.block k hk fun h=>h⟩
  .exact hK.elim
 cases ex with
 |normal=>exact fin hK
 |exit id=>exact hK.elim
 |ret=>exact fin hK
def gvN:Option (Bool×List (Bool×CT))->Nat
 |none=>0
 |some _=>1
theorem Zye (htt : ∀ t i, tt t = some i → TOk P t i) (hJ : JOk J JF) (hmix : P.follows .mixedOrders = true) {hds : FuncId → Nat} {f : FuncId} {fn : Func} {c : Code} {t0 : Nat} {cs cs' : List (Bool × CT)} {gv : Option (Bool × List (Bool × CT))} {args : List (Bool × List CT)} {res : List RT} (hf : P.funcs[f]? = some fn) (hname : (fn.name == "runtime.NumGoroutine") = false) (hb : fn.body = some c)
  (hok:QO od tt hds true fn.ntmps c=true) (hlen:Nat.blt (args.length+gvN gv) fn.ntmps=true) (hh:fnO od tt (SC P J JF hds) fn.results.toList c t0 cs gv args res cs'):ZhN P J JF f t0 cs gv args res cs':=by
 letI:NW:=nw0
 refine ⟨⟨fn,hf,hname,by rw [hb];rfl⟩,fun w z q v0 gs vs b us us2 F hj hqb hqJ hz hul hgr hO hargs=>?_⟩
 have hlen':args.length+gvN gv<fn.ntmps:=AF hlen
 have hvl:=hargs.len
 have hgl:gs.length=gvN gv:=by
  cases gv with
  |none=>rw [hgr.1];rfl
  |some g=>obtain ⟨ag,gc⟩:=g;cases ag with
   |true=>rw [hgr.1];rfl
   |false=>rw [hgr.1,hgr.2.1];rfl
 refine calls_of_wp hf hb ?_
 let W:ZbW:={ w with z:=z,x:=q,hv:=some v0,y:=fun x=>x∈F }
 obtain ⟨val,O,D,hB,hA⟩:=QS (l:=true) 1 hO.ocs (fun _=>rfl)
 have hlen2:(v0::(gs++vs)).length<=fn.ntmps:=by simp;omega
 have hbd:∃avs up hi,(ZE 1 (cs++gvC gv)).1=avs/\(ZE 1 (cs++gvC gv)).2.1=up/\(ZE 1 (cs++gvC gv)).2.2=hi:=⟨_,_,_,rfl,rfl,rfl⟩
 obtain ⟨avs,up,hi,ha1,ha2,ha3⟩:=hbd
 rw [ha1]at hA
 rw [ha2,ha3]at hB
 rw [ha3]at hA
 have hle:=hB.le
 have hndF:=AN.1 hO.own.nodup
 have hnd:=ZfA (hB.foot ▸ hndF.2)
 have hmemF:∀j,(1<=j/\j<hi)->∀x∈O j++D j,x∈F:=fun j hj x mx=>by
  rw [hB.foot]
  exact Ae.2 ⟨j,Ax.2 ⟨hj.1,yE⟩,mx⟩
 let g0:Gh:=⟨fun k=>if k=0 then v0 else val k,fun k=>if k=0 then [b] else if 1<=k/\k<hi then O k else [],fun k=>if k=0 then [] else if 1<=k/\k<hi then D k else [],z⟩
 have g00:g0.val 0=v0/\g0.O 0=[b]/\g0.D 0=[]:=⟨rfl,rfl,rfl⟩
 have gT:∀k,1<=k/\k<hi->g0.val k=val k/\g0.O k=O k/\g0.D k=D k:=fun k hk=>by
  have h0:¬k=0:=by omega
  exact ⟨by simp only[g0,yn h0],by simp only[g0,yn h0,yp hk],by simp only[g0,yn h0,yp hk]⟩
 have gN:∀k,¬k=0->¬(1<=k/\k<hi)->g0.O k=[]/\g0.D k=[]:=fun k h0 hk=>⟨by simp only[g0,yn h0,yn hk],by simp only[g0,yn h0,yn hk]⟩
 have hOq:∀k,1<=k/\k<hi->∀x∈O k,q x:=fun k hk x mx=>by
  obtain ⟨_,_,_,_,_,_,_,_,_,p6⟩:=hB.at_ k hk.1 hk.2
  rcases p6 x mx with h|h
  .exact absurd (by simp [hmemF k hk x (by simp [mx])]) (hz x h).2.2
  .exact h
 have hg0:∀x,g0.own x->z x\/q x:=fun x hx=>by
  rcases hx with ⟨k,m⟩|h
  .by_cases h0:k=0
   .subst h0;rw [g00.2.1]at m;simp at m;subst m;exact .inr hqb
   .by_cases hk:1<=k/\k<hi
    .rw [(gT k hk).2.1]at m;exact .inr (hOq k hk x m)
    .rw [(gN k h0 hk).1]at m;simp at m
  .exact .inl h
 have hob:∀k,(ZgG t0 cs gv args).ob k=if k=0 then .box t0 (avs.take cs.length) else Zl (fun _=>.gone) up k:=fun k=>by
  show (if k=0 then Ob.box t0 ((ZE 1 (cs++gvC gv)).1.take cs.length) else Zl (fun _=>.gone) (ZE 1 (cs++gvC gv)).2.1 k)=_
  rw [ha1,ha2]
 have hAV:∀x u,CR val w (fun x=>z x\/q x) true 1 hi x u->AVR g0 w x u/\avU (fun k=>k<hi) x:=fun x u h=>by
  cases x with
  |row k=>
   obtain ⟨c1,c2,c3,c4⟩:=h
   exact ⟨⟨by rw [(gT k ⟨c1,c2⟩).1];exact c3,c4⟩,c2⟩
  |c x=>
   obtain ⟨L,h1,h2⟩:=h
   exact ⟨⟨L,h1,fun b mb o=>(h2 b mb).2 (hg0 b o)⟩,trivial⟩
  |n _=>exact h.elim
  |nil _ _=>exact h.elim
  |dead=>exact h.elim
 have hcellsA:ZN (AVR g0 w) avs (us++us2)/\QK (fun k=>k<hi) avs:=⟨hA.mono fun x c _ h=>(hAV x c h).1,fun x mx=>by
  obtain ⟨i,hi'⟩:=Ay.1 mx
  obtain ⟨c,_,hc'⟩:=hA.at hi'
  exact (hAV x c hc').2⟩
 have hcells:ZN (AVR g0 w) (avs.take cs.length) us/\QK (fun k=>k<hi) (avs.take cs.length):=⟨by
  have:=hcellsA.1.take cs.length
  rwa [<-hul,List.take_left' rfl,hul]at this,fun x mx=>hcellsA.2 x (List.mem_of_mem_take mx)⟩
 have hcellsG:ZN (AVR g0 w) (avs.drop cs.length) us2/\QK (fun k=>k<hi) (avs.drop cs.length):=⟨by
  have:=hcellsA.1.drop cs.length
  rwa [<-hul,List.drop_left' rfl,hul]at this,fun x mx=>hcellsA.2 x (List.mem_of_mem_drop mx)⟩
 have hpl:∀k,∀x∈g0.O k++g0.D k,x=b/\k=0\/(1<=k/\k<hi)/\x∈O k++D k:=fun k x m=>by
  by_cases h0:k=0
  .subst h0;rw [g00.2.1,g00.2.2]at m;simp at m;exact .inl ⟨m,rfl⟩
  .by_cases hk:1<=k/\k<hi
   .rw [(gT k hk).2.1,(gT k hk).2.2]at m;exact .inr ⟨hk,m⟩
   .rw [(gN k h0 hk).1,(gN k h0 hk).2]at m;simp at m
 have hI0:Inv W (fun k=>k<hi) (ZgG t0 cs gv args) { tmps:=(v0::(gs++vs)).toArray++AK (fn.ntmps - (v0::(gs++vs)).toArray.size) undef,defers:=[] } w:=by
  refine ⟨⟨g0,⟨⟨rfl,rfl,rfl,AJ _,fun _ _ _=>rfl⟩,fun k=>?_,fun k=>?_,fun k j hkj x m mj=>?_,fun k x m=>?_,rfl,fun x hx=>⟨(hz x hx).1,(hz x hx).2.1,fun h=>(hz x hx).2.2 (by simp [show x∈F from h])⟩,fun _ _=>AG _,fun k x m=>?_⟩,fun t=>?_⟩,⟨fun t=>?_,fun k=>?_,fun k hk=>?_⟩,rfl,fun v hv=>?_⟩
  .rw [hob k]
   by_cases h0:k=0
   .subst h0;rw [yp rfl]
    exact ⟨b,us,hO.val,rfl,rfl,hO.cell,hcells.1⟩
   .rw [yn h0]
    by_cases hk:1<=k/\k<hi
    .obtain ⟨e,m,ys,cs2,p1,p2,p3,p4,p5,_⟩:=hB.at_ k hk.1 hk.2
     obtain ⟨e1,e2,e3⟩:=gT k hk
     rw [p1]
     exact ⟨p2,cs2,D k,by rw [e1];exact p3,p4,.inl ⟨rfl,by rw [e1,e2];exact p5,e3⟩⟩
    .rw [hB.out k hk];exact gN k h0 hk
  .by_cases h0:k=0
   .subst h0;simp [g00]
   .by_cases hk:1<=k/\k<hi
    .rw [(gT k hk).2.1,(gT k hk).2.2];exact hnd.1 k hk.1 yE
    .rw [(gN k h0 hk).1,(gN k h0 hk).2];simp
  .rcases hpl k x m with ⟨rfl,rfl⟩|⟨h1,h2⟩
   .rcases hpl j x mj with ⟨_,rfl⟩|⟨h3,h4⟩
    .exact hkj rfl
    .exact hndF.1 (hmemF j h3 x h4)
   .rcases hpl j x mj with ⟨rfl,rfl⟩|⟨h3,h4⟩
    .exact hndF.1 (hmemF k h1 x h2)
    .exact hnd.2 k j h1.1 yE h3.1 yE hkj x h2 h4
  .rw [hob k]
   rcases hpl k x m with ⟨rfl,rfl⟩|⟨h1,h2⟩
   .rw [yp rfl]
    exact ⟨.inr (.inl hqb),_,_,hO.cell⟩
   .obtain ⟨e,m,ys,cs2,p1,_⟩:=hB.at_ k h1.1 h1.2
    rw [yn (by omega:¬k=0),p1]
    exact ⟨.inr (.inr (hmemF k h1 x h2)),hO.own.plain x (by simp [hmemF k h1 x h2])⟩
  .by_cases h0:k=0
   .subst h0;rw [g00.2.1]at m;simp at m;subst m;exact .inr hqb
   .by_cases hk:1<=k/\k<hi
    .rw [(gT k hk).2.1]at m;exact .inr (hOq k hk x m)
    .rw [(gN k h0 hk).1]at m;simp at m
  .have harg:∀(t o:Nat),o=gvN gv->SVR g0 w (match args[t]? with|some x=>.p x.1 (x.2.map .c)|none=>.und) (((v0::(gs++vs)).toArray++AK (fn.ntmps - (v0::(gs++vs)).toArray.size) undef).getD (t+o+1) undef):=fun t o ho=>by
    cases ht:args[t]? with
    |none=>exact Zo4 (by have:args.length<=t:=(by simpa using ht);simp;omega)
    |some x=>
     obtain ⟨v,hv,hr⟩:=hargs.at ht
     show SVR g0 w (.p x.1 (x.2.map .c)) _
     rw [Zeq (args:=args) (o:=0) hlen2 v (by
      rw [List.getElem?_cons_succ,List.getElem?_append_right yE,show t+o - gs.length=t by omega]
      exact hv)]
     exact Zww hg0 hr
   cases t with
   |zero=>
    show SVR g0 w (.bp 0 0) (((v0::(gs++vs)).toArray++AK (fn.ntmps - (v0::(gs++vs)).toArray.size) undef).getD 0 undef)
    rw [Zeq (args:=args) (o:=0) hlen2 v0 rfl]
    exact ⟨b,hO.val,hO.val⟩
   |succ t=>
    cases gv with
    |none=>exact harg t 0 rfl
    |some g=>
     cases t with
     |succ t=>exact harg t 1 rfl
     |zero=>
      show SVR g0 w (.p g.1 ((ZE 1 (cs++g.2)).1.drop cs.length)) _
      rw [show (ZE 1 (cs++g.2)).1=avs from ha1]
      obtain ⟨ag,gc⟩:=g
      cases ag with
      |true=>
       obtain ⟨rfl,_⟩:=hgr
       rw [Zeq (args:=args) (o:=0) hlen2 (.agg us2.toArray) rfl]
       exact ⟨us2,rfl,hcellsG.1⟩
      |false=>
       obtain ⟨rfl,h1,_⟩:=hgr
       obtain ⟨u,hu⟩:=Az.1 h1
       subst hu
       rw [Zeq (args:=args) (o:=0) hlen2 u rfl]
       have hd:=hcellsG.1
       generalize avs.drop cs.length=dd at hd
       cases dd with
       |nil=>exact hd.elim
       |cons y yr=>
        cases yr with
        |nil=>exact ⟨y,rfl,hd.1⟩
        |cons _ _=>exact hd.2.elim
  .cases t with
   |zero=>show 0<hi;omega
   |succ t=>
    cases gv with
    |none=>
     show svU _ (match args[t]? with|some x=>.p x.1 (x.2.map .c)|none=>.und)
     split
     .exact Zmf true _
     .trivial
    |some g=>
     cases t with
     |zero=>
      show svU _ (.p g.1 ((ZE 1 (cs++g.2)).1.drop cs.length))
      rw [show (ZE 1 (cs++g.2)).1=avs from ha1]
      exact hcellsG.2
     |succ t=>
      show svU _ (match args[t]? with|some x=>.p x.1 (x.2.map .c)|none=>.und)
      split
      .exact Zmf true _
      .trivial
  .rw [hob k]
   by_cases h0:k=0
   .rw [yp h0];exact hcells.2
   .rw [yn h0]
    by_cases hk:1<=k/\k<hi
    .obtain ⟨e,m,ys,cs2,p1,_⟩:=hB.at_ k hk.1 hk.2
     rw [p1];trivial
    .rw [hB.out k hk];trivial
  .rw [hob k,yn (by omega:¬k=0),hB.out k yE]
  .have:v0=v:=by simpa [W]using hv
   subst this
   exact Zeq (args:=args) (o:=0) hlen2 v0 rfl
 have hM:MOk P J JF W tt:=⟨htt,fun w' hb=>hJ.below q w w' hj (fun x hx=>(hqJ x hx).1) hb.os hb.tape hb.output hb.size (fun k hk hx=>hb.block k hk hx),fun b hb=>hJ.new w b hj hb,fun x hx=>(hqJ x hx).1⟩
 refine ZbN (W:=W) hM hmix (.inr rfl) c hok (ZuJ tt fn.results.toList fun st r ks=>wkR r res/\ks=[]/\opB st t0 cs' (st.sl 0)) _ ?_ _ (ZgG t0 cs gv args) _ w hI0 (fun k hk h0=>by
  have:(ZgG t0 cs gv args).n=hi:=ha3
  omega) (by simp;omega) hh
 intro ex U' st' a' w' hI' _ _ hK
 have fin:(match Zdf tt st' fn.results.toList with|some x=>x.2.Nodup/\wkR x.1 res/\x.2=[]/\opB st' t0 cs' (st'.sl 0)|none=>False)->a'.defers=[]/\∃v,(results fn a'.tmps).run P w'=.ok v w'/\∃u n us' F',Ending.returned v=.returned u/\ZlC w' w.heap.size n res u/\(∀x,z x->n x)/\n b/\(∀x,n x->z x\/q x\/w.heap.size<=x)/\ZwH w' n t0 cs' v0 b us' [] F'/\(∀x∈F',x∈F\/w.heap.size<=x)/\ZBG q w w':=fun hK=>by
  split at hK
  .rename_i x hx
   obtain ⟨r,ks⟩:=x
   obtain ⟨hnd',hw,hk0,hbk⟩:=hK
   simp only at hk0
   subst hk0
   obtain ⟨g,hH,hS⟩:=hI'.ex
   have hv0:a'.tmps.getD 0 undef=v0:=hI'.hand v0 rfl
   have hS0:=hS 0
   rw [hv0]at hS0
   obtain ⟨k,ds,ks',e1,e2,e3,e4⟩:=ZA7 hbk
   rw [e1]at hS0
   obtain ⟨b2,hb1,hb2⟩:=hS0
   have hbb:b2=b:=by have:=hO.val;rw [hb2]at this;simpa using this
   subst hbb
   have hob':=hH.obs k
   rw [e2]at hob'
   obtain ⟨b',us',o1,o2,o3,o4,o5⟩:=hob'
   have hbb:b'=b2:=by rw [hb1]at o1;simpa using o1.symm
   subst hbb
   obtain ⟨q1,q2⟩:=ZjM hH e3 o5
   have hkks:k∉ks':=fun m=>by
    obtain ⟨e,m',xs,hr⟩:=q2 k m
    rw [e2]at hr;simp at hr
   have hFk:∀x∈g.F ks',∃j∈ks',x∈g.O j++g.D j:=fun x mx=>ZgO mx
   obtain ⟨v,m,e5,e6,e7,_,e8⟩:=Zz5 htt hI' hH hS hx hnd' hw (fun k hk=>by simp at hk) (fun j=>j=k\/j∈ks') (fun j hj=>by
    rcases hj with rfl|hj
    .exact ⟨by rw [e2];rfl,fun e m xs d h=>by rw [e2]at h;simp at h⟩
    .obtain ⟨e,m',xs,hr⟩:=q2 j hj
     exact ⟨by rw [hr];rfl,fun e m xs d h=>by rw [hr]at h;simp only[Ob.row.injEq]at h;exact h.2.2.2.symm⟩)
   have hmm:∀x,(g.Z x\/∃j,(j=k\/j∈ks')/\x∈g.O j)->m x:=fun x hx=>e8 x (fun mb=>by simp [Gh.F]at mb) hx
   have hbel:=hH.below
   have q1l:OCs w' 0 m cs' us' (g.F ks'):=q1.low (fun x hx=>e7 x hx) fun x mx hox=>by
    obtain ⟨j,hj,mj⟩:=hFk x mx
    rcases hox with ⟨i,mi⟩|hZ
    .by_cases hij:i=j
     .subst hij;exact hmm x (.inr ⟨i,.inr hj,mi⟩)
     .exact absurd (by simp [mi]:x∈g.O i++g.D i) (hH.apart j i (fun h=>hij h.symm) x mj)
    .exact hmm x (.inl hZ)
   refine ⟨hI'.defers,v,e5,v,m,us',g.F ks',rfl,e6,fun x hx=>hmm x (.inl (by rw [hH.gz];exact hx)),hmm _ (.inr ⟨k,.inl rfl,by simp [o2]⟩),fun x hx=>?_,⟨hO.val,o4,by rw [List.append_nil];exact q1l,⟨AN.2 ⟨fun mb=>?_,hH.nodupF e4⟩,fun _ _=>AG _,fun x mx=>?_⟩⟩,fun x mx=>?_,⟨hbel.os,hbel.tape,hbel.output,hbel.size,fun i hi hq=>hbel.block i hi hq⟩⟩
   .rcases e7 x hx with ⟨j,mj⟩|hZ
    .rcases hH.oy j x mj with h|h
     .exact .inr (.inr h)
     .exact .inr (.inl h)
    .exact .inl (by rw [hH.gz]at hZ;exact hZ)
   .obtain ⟨j,hj,mj⟩:=hFk _ mb
    exact hH.apart k j (fun e=>hkks (e ▸ hj)) _ (by simp [o2]) mj
   .rcases AH.1 mx with rfl|mx
    .exact ⟨_,_,o4⟩
    .obtain ⟨j,hj,mj⟩:=hFk x mx
     obtain ⟨e,m',xs,hr⟩:=q2 j hj
     have:=(hH.plain j x mj).2
     rw [hr]at this
     exact this
   .obtain ⟨j,hj,mj⟩:=hFk x mx
    rcases (hH.plain j x mj).1 with h|h|h
    .exact .inr h
    .rcases AH.1 (hqJ x h).2 with rfl|h'
     .exact absurd mj (hH.apart k j (fun e=>hkks (e ▸ hj)) _ (by simp [o2]))
     .exact .inl h'
    .exact .inl h
  .exact hK.elim
 cases ex with
 |normal=>exact fin hK
 |exit id=>exact hK.elim
 |ret=>exact fin hK
theorem Zxe (htt : ∀ t i, tt t = some i → TOk P t i) (hJ : JOk J JF) (hmix : P.follows .mixedOrders = true) {hds : FuncId → Nat} {f : FuncId} {fn : Func} {c : Code} {gv : Bool × List (Bool × CT)} {args : List (Bool × List CT)} {res : List RT} (hf : P.funcs[f]? = some fn) (hname : (fn.name == "runtime.NumGoroutine") = false) (hb : fn.body = some c)
  (hok:QO od tt hds false fn.ntmps c=true) (hlen:Nat.blt args.length fn.ntmps=true) (hh:fnG od tt (SC P J JF hds) fn.results.toList c gv args res):ZsC P J JF f gv args res:=by
 letI:NW:=nw0
 refine ⟨⟨fn,hf,hname,by rw [hb];rfl⟩,fun w z q gs vs us F hj hqJ hz hgr hocs hown hargs=>?_⟩
 have hlen':args.length<fn.ntmps:=AF hlen
 have hvl:=hargs.len
 have hg1:∃v0,gs=[v0]/\((gv.1=true/\v0=.agg us.toArray)\/(gv.1=false/\us=[v0])):=by
  obtain ⟨ag,gc⟩:=gv
  cases ag with
  |true=>exact ⟨_,hgr.1,.inl ⟨rfl,rfl⟩⟩
  |false=>
   obtain ⟨h1,h2,_⟩:=hgr
   obtain ⟨u,hu⟩:=Az.1 h2
   exact ⟨u,by rw [h1,hu],.inr ⟨rfl,hu⟩⟩
 obtain ⟨v0,rfl,hv0⟩:=hg1
 refine calls_of_wp hf hb ?_
 let W:ZbW:={ w with z:=z,x:=q,hv:=none,y:=fun x=>x∈F }
 obtain ⟨val,O,D,hB,hA⟩:=QS (l:=true) 0 hocs (fun _=>rfl)
 have hbd:∃avs up hi,(ZE 0 gv.2).1=avs/\(ZE 0 gv.2).2.1=up/\(ZE 0 gv.2).2.2=hi:=⟨_,_,_,rfl,rfl,rfl⟩
 obtain ⟨avs,up,hi,ha1,ha2,ha3⟩:=hbd
 rw [ha1]at hA
 rw [ha2,ha3]at hB
 rw [ha3]at hA
 have hlen2:(v0::vs).length<=fn.ntmps:=by simp;omega
 have hnd:=ZfA (hB.foot ▸ hown.nodup)
 have hmemF:∀j,(0<=j/\j<hi)->∀x∈O j++D j,x∈F:=fun j hj x mx=>by
  rw [hB.foot]
  exact Ae.2 ⟨j,Ax.2 ⟨hj.1,yE⟩,mx⟩
 let g0:Gh:=⟨val,fun k=>if k<hi then O k else [],fun k=>if k<hi then D k else [],z⟩
 have gT:∀k,k<hi->g0.val k=val k/\g0.O k=O k/\g0.D k=D k:=fun k hk=>⟨rfl,yp hk,yp hk⟩
 have gN:∀k,¬k<hi->g0.O k=[]/\g0.D k=[]:=fun k hk=>⟨yn hk,yn hk⟩
 have hOq:∀k,k<hi->∀x∈O k,q x:=fun k hk x mx=>by
  obtain ⟨_,_,_,_,_,_,_,_,_,p6⟩:=hB.at_ k (AG _) hk
  rcases p6 x mx with h|h
  .exact absurd (hmemF k ⟨AG _,hk⟩ x (by simp [mx])) (hz x h).2.2
  .exact h
 have hg0:∀x,g0.own x->z x\/q x:=fun x hx=>by
  rcases hx with ⟨k,m⟩|h
  .by_cases hk:k<hi
   .rw [(gT k hk).2.1]at m;exact .inr (hOq k hk x m)
   .rw [(gN k hk).1]at m;simp at m
  .exact .inl h
 have hob:∀k,(Zrh gv args).ob k=Zl (fun _=>.gone) up k:=fun k=>by
  show Zl (fun _=>.gone) (ZE 0 gv.2).2.1 k=_
  rw [ha2]
 have hAV:∀x u,CR val w (fun x=>z x\/q x) true 0 hi x u->AVR g0 w x u/\avU (fun k=>k<hi) x:=fun x u h=>by
  cases x with
  |row k=>
   obtain ⟨c1,c2,c3,c4⟩:=h
   exact ⟨⟨c3,c4⟩,c2⟩
  |c x=>
   obtain ⟨L,h1,h2⟩:=h
   exact ⟨⟨L,h1,fun b mb o=>(h2 b mb).2 (hg0 b o)⟩,trivial⟩
  |n _=>exact h.elim
  |nil _ _=>exact h.elim
  |dead=>exact h.elim
 have hcells:ZN (AVR g0 w) avs us/\QK (fun k=>k<hi) avs:=⟨hA.mono fun x c _ h=>(hAV x c h).1,fun x mx=>by
  obtain ⟨i,hi'⟩:=Ay.1 mx
  obtain ⟨c,_,hc'⟩:=hA.at hi'
  exact (hAV x c hc').2⟩
 have hpl:∀k,∀x∈g0.O k++g0.D k,k<hi/\x∈O k++D k:=fun k x m=>by
  by_cases hk:k<hi
  .rw [(gT k hk).2.1,(gT k hk).2.2]at m;exact ⟨hk,m⟩
  .rw [(gN k hk).1,(gN k hk).2]at m;simp at m
 have hI0:Inv W (fun k=>k<hi) (Zrh gv args) { tmps:=(v0::vs).toArray++AK (fn.ntmps - (v0::vs).toArray.size) undef,defers:=[] } w:=by
  refine ⟨⟨g0,⟨⟨rfl,rfl,rfl,AJ _,fun _ _ _=>rfl⟩,fun k=>?_,fun k=>?_,fun k j hkj x m mj=>?_,fun k x m=>?_,rfl,fun x hx=>⟨(hz x hx).1,(hz x hx).2.1,fun h=>(hz x hx).2.2 h⟩,fun _ _=>AG _,fun k x m=>?_⟩,fun t=>?_⟩,⟨fun t=>?_,fun k=>?_,fun k hk=>?_⟩,rfl,fun v hv=>by simp [W]at hv⟩
  .rw [hob k]
   by_cases hk:k<hi
   .obtain ⟨e,m,ys,cs2,p1,p2,p3,p4,p5,_⟩:=hB.at_ k (AG _) hk
    obtain ⟨e1,e2,e3⟩:=gT k hk
    rw [p1]
    exact ⟨p2,cs2,D k,by rw [e1];exact p3,p4,.inl ⟨rfl,by rw [e1,e2];exact p5,e3⟩⟩
   .rw [hB.out k yE];exact gN k hk
  .by_cases hk:k<hi
   .rw [(gT k hk).2.1,(gT k hk).2.2];exact hnd.1 k (AG _) yE
   .rw [(gN k hk).1,(gN k hk).2];simp
  .obtain ⟨h1,h2⟩:=hpl k x m
   obtain ⟨h3,h4⟩:=hpl j x mj
   exact hnd.2 k j (AG _) yE (AG _) yE hkj x h2 h4
  .rw [hob k]
   obtain ⟨h1,h2⟩:=hpl k x m
   obtain ⟨e,m,ys,cs2,p1,_⟩:=hB.at_ k (AG _) h1
   rw [p1]
   exact ⟨.inr (.inr (hmemF k ⟨AG _,h1⟩ x h2)),hown.plain x (hmemF k ⟨AG _,h1⟩ x h2)⟩
  .by_cases hk:k<hi
   .rw [(gT k hk).2.1]at m;exact .inr (hOq k hk x m)
   .rw [(gN k hk).1]at m;simp at m
  .cases t with
   |zero=>
    show SVR g0 w (.p gv.1 (ZE 0 gv.2).1) (((v0::vs).toArray++AK (fn.ntmps - (v0::vs).toArray.size) undef).getD 0 undef)
    rw [Zeq (args:=args) (o:=0) hlen2 v0 rfl,ha1]
    rcases hv0 with ⟨h1,rfl⟩|⟨h1,rfl⟩
    .rw [h1];exact ⟨us,rfl,hcells.1⟩
    .rw [h1]
     have hd:=hcells.1
     generalize avs=dd at hd
     cases dd with
     |nil=>exact hd.elim
     |cons y yr=>
      cases yr with
      |nil=>exact ⟨y,rfl,hd.1⟩
      |cons _ _=>exact hd.2.elim
   |succ t=>
    show SVR g0 w (match args[t]? with|some x=>.p x.1 (x.2.map .c)|none=>.und) _
    cases ht:args[t]? with
    |none=>exact Zo4 (by have:args.length<=t:=(by simpa using ht);simp;omega)
    |some x=>
     obtain ⟨v,hv,hr⟩:=hargs.at ht
     show SVR g0 w (.p x.1 (x.2.map .c)) (((v0::vs).toArray++AK (fn.ntmps - (v0::vs).toArray.size) undef).getD (t+1) undef)
     rw [Zeq (args:=args) (o:=0) hlen2 v (by simpa using hv)]
     exact Zww hg0 hr
  .cases t with
   |zero=>
    show svU _ (.p gv.1 (ZE 0 gv.2).1)
    rw [ha1]
    exact hcells.2
   |succ t=>
    show svU _ (match args[t]? with|some x=>.p x.1 (x.2.map .c)|none=>.und)
    split
    .exact Zmf true _
    .trivial
  .rw [hob k]
   by_cases hk:k<hi
   .obtain ⟨e,m,ys,cs2,p1,_⟩:=hB.at_ k (AG _) hk
    rw [p1];trivial
   .rw [hB.out k yE];trivial
  .rw [hob k,hB.out k yE]
 have hM:MOk P J JF W tt:=⟨htt,fun w' hb=>hJ.below q w w' hj (fun x hx=>(hqJ x hx).1) hb.os hb.tape hb.output hb.size (fun k hk hx=>hb.block k hk hx),fun b hb=>hJ.new w b hj hb,fun x hx=>(hqJ x hx).1⟩
 refine ZbN (W:=W) hM hmix (.inl rfl) c hok (ZuJ tt fn.results.toList fun st r ks=>wkR r res) _ ?_ _ (Zrh gv args) _ w hI0 (fun k hk h0=>by
  have:(Zrh gv args).n=hi:=ha3
  omega) (by simp;omega) hh
 intro ex U' st' a' w' hI' _ _ hK
 have fin:(match Zdf tt st' fn.results.toList with|some x=>x.2.Nodup/\wkR x.1 res|none=>False)->a'.defers=[]/\∃v,(results fn a'.tmps).run P w'=.ok v w'/\∃u n rvs F',Ending.returned v=.returned u/\OPs w' 0 n res rvs F'/\Own w' 0 F'/\u=(if h:rvs.toArray.size=1 then rvs.toArray[0] else .tuple rvs.toArray)/\(∀x,z x->n x)/\(∀x,n x->z x\/q x\/w.heap.size<=x)/\(∀x∈F',x∈F\/w.heap.size<=x)/\ZBG q w w':=fun hK=>by
  split at hK
  .rename_i x hx
   obtain ⟨r,ks⟩:=x
   obtain ⟨hnd',hw⟩:=hK
   obtain ⟨g,hH,hS⟩:=hI'.ex
   obtain ⟨v,m,rvs,F',e0,e5,⟨e6,e6a,e6b⟩,e7,_,e8⟩:=ZwP (B:=0) htt hI' hH hS hx hnd' hw (fun _ _ _ _=>AG _) (fun _=>False) (fun _ h=>h.elim)
   have hbel:=hH.below
   refine ⟨hI'.defers,v,e5,v,m,rvs,F',rfl,e6,e6a,e6b,fun x hx=>e8 x (fun mb=>?_) (.inl (by rw [hH.gz];exact hx)),fun x hx=>?_,fun x mx=>?_,⟨hbel.os,hbel.tape,hbel.output,hbel.size,fun i hi hq=>hbel.block i hi hq⟩⟩
   .obtain ⟨j,_,mj⟩:=ZgO mb
    exact hH.nz mj (by rw [hH.gz];exact hx)
   .rcases e7 x hx with ⟨j,mj⟩|hZ
    .rcases hH.oy j x mj with h|h
     .exact .inr (.inr h)
     .exact .inr (.inl h)
    .exact .inl (by rw [hH.gz]at hZ;exact hZ)
   .obtain ⟨j,_,mj⟩:=ZgO (e0.subset mx)
    rcases (hH.plain j x mj).1 with h|h|h
    .exact .inr h
    .exact .inl (hqJ x h).2
    .exact .inl h
  .exact hK.elim
 cases ex with
 |normal=>exact fin hK
 |exit id=>exact hK.elim
 |ret=>exact fin hK
end
instance nwD:NW:=nw0
end
section
open Go.RowKit
def ZmI {α β:Type}(f:α->β->Bool):List α->List β->Bool
 | [],[]=>true
 |a::l,b::r=>f a b&&ZmI f l r
 |_,_=>false
theorem Zl6 {α β:Type}{f:α->β->Bool}{R:α->β->Prop}(h:∀a b,f a b=true->R a b):∀{l:List α}{r:List β},ZmI f l r=true->ZN R l r
 | [],[],_=>trivial
 |a::l,b::r,hh=>by
  simp only[ZmI,AA]at hh;exact ⟨h a b hh.1,Zl6 h hh.2⟩
 | [],_::_,hh=>by simp [ZmI]at hh
 |_::_,[],hh=>by simp [ZmI]at hh
def ZzA (P:Program) (fi:FI) (f:Field):Bool:=
 f.offset==fi.off&&!(fi.size==0)&&match P.info? f.type,P.underlying f.type with
  |some j,some d=>j.size==fi.size&&(ZsK d==fi.agg)
  |_,_=>false
def ZCB:Value->Bool
 |.slice none 0 0=>true
 |_=>false
def Zym (P:Program):List PK->List Field->Nat->Bool
 | [],[],_=>true
 | k :: ks, f :: fs, n => (f.name != "_") && (f.offset == n) && (match P.underlying f.type with | some d => Ze9 k d | none => false) && Zym P ks fs (n + 1)
 |_,_,_=>false
theorem Zwl {P:Program}:∀{ks:List PK}{B:List Field}{n:Nat},Zym P ks B n=true->EqF P ks B n
 | [],[],_,_=>trivial
 |k::ks,f::B,n,h=>by
  simp only[Zym,AA,bne_iff_ne,beq_iff_eq]at h;obtain ⟨⟨⟨F,E⟩,A⟩,D⟩:=h;split at A
  .rename_i d C;exact ⟨F,E,⟨d,C,A⟩,Zwl D⟩
  .simp at A
 | [],_::_,_,h=>by simp [Zym]at h
 |_::_,[],_,h=>by simp [Zym]at h
def Zrk:Option TypeDesc->Bool
 |some (.struct _)=>true
 |_=>false
def ZEI (P:Program) (t:TypeId) (ks:List PK):Bool:=
 Nat.ble 4000 t&&Zrk (P.underlying (t - 4000))&&!(P.stoodInHeld (t - 4000))&&!(P.eqGuardType P.depth (t - 4000))&&Zym P ks (P.fieldsOf (t - 4000)).toList 0
theorem ZAX {P:Program}{t:TypeId}{ks:List PK}(h:ZEI P t ks=true):TOk P t (.eqs ks):=by
 simp only[ZEI,AA,AZ]at h;obtain ⟨⟨⟨⟨E,A⟩,D⟩,C⟩,B⟩:=h;refine ⟨t - 4000,?_,?_,D,C,Zwl B⟩
 .have:4000<=t:=AF E;exact (Nat.sub_add_cancel this).symm
 .unfold Zrk at A;split at A
  .rename_i F e;unfold Program.fieldsOf;rw [e]
  .simp at A
def tOk (P:Program) (t:TypeId) (ti:TI):Bool:=
 match ti with
 |.eqs ks=>ZEI P t ks
 |_=>
 match P.underlying t,P.info? t with
 |some d,some i=>match ti with
  |.atom z=>Zkl d z&&i.size==1&&match i.zero with|some zv=>Zb3 z zv|none=>false
  |.strct fs n z=>match d with
   |.struct fields=>i.size==n&&(match i.zero with|some (.agg zvs)=>ZmI Zb3 z zvs.toList|_=>false)&&ZmI (ZzA P) fs fields.toList
   |_=>false
  |.slice e m bytes z=>match d with
   |.slice e'=>e==e'&&Nat.blt 0 m&&Nat.ble bytes 131072&&(match P.info? e with
     |some ie=>ie.size==m&&ie.bytes==bytes&&(match ie.zero with|some zv=>ZmI Zb3 z zv.cells.toList|none=>false)
     |none=>false)&&z.length==m&&i.size==1&&(match i.zero with|some zv=>ZCB zv|none=>false)
   |_=>false
  |.map kk vk=>match d with
   |.map kt et=>(match P.underlying kt with|some dk=>Ze9 kk dk|none=>false)&&(match P.underlying et with|some dv=>Ze9 vk dv|none=>false)&&(match P.info? et with|some ie=>(match ie.zero with|some zv=>Zb3 (Zgw vk) zv|none=>false)|none=>false)
   |_=>false
  |.ifc=>match d with
   |.interface _=>true
   |_=>false
  |.eqs _=>false
 |_,_=>false
theorem ZBP {v:Value}(h:ZCB v=true):v=.slice none 0 0:=by
 unfold ZCB at h;split at h
 .rfl
 .simp at h
theorem ZEA {P:Program}{t:TypeId}{ti:TI}(h:tOk P t ti=true):TOk P t ti:=by
 unfold tOk at h;split at h
 .exact ZAX h
 split at h
 .rename_i d i F hi;cases ti with
  |eqs ks=>simp at h
  |ifc=>
   simp only at h;split at h
   .exact ⟨_,F⟩
   .simp at h
  |map kk vk=>
   simp only at h;split at h
   .rename_i N et;simp only[AA]at h;obtain ⟨⟨C,B⟩,A⟩:=h;split at C
    .rename_i dk c;split at B
     .rename_i dv g;split at A
      .rename_i J b;split at A
       .rename_i E D;exact ⟨N,et,dk,dv,J,E,F,c,C,g,B,b,D,A⟩
       .simp at A
      .simp at A
     .simp at B
    .simp at C
   .simp at h
  |atom z=>
   simp only[AA,beq_iff_eq]at h;obtain ⟨⟨C,B⟩,A⟩:=h;split at A
   .rename_i E D;exact ⟨d,E,i,F,C,hi,D,B,A⟩
   .simp at A
  |strct fs n z=>
   simp only at h;split at h
   .rename_i a;simp only[AA,beq_iff_eq]at h;obtain ⟨⟨C,B⟩,A⟩:=h;split at B
    .rename_i zvs D;refine ⟨a,i,zvs,F,hi,C,D,Zl6 (fun _ _ h=>h) B,Zl6 (fun fi f K=>?_) A⟩;unfold ZzA at K;simp only[AA,beq_iff_eq,AZ,beq_eq_false_iff_ne]at K;obtain ⟨⟨W,V⟩,G⟩:=K;split at G
     .rename_i j d' S k;simp only[AA,beq_iff_eq]at G;exact ⟨W,V,j,d',S,G.1,k,G.2⟩
     .simp at G
    .simp at B
   .simp at h
  |slice e m bytes z=>
   simp only at h;split at h
   .rename_i e';simp only[AA,beq_iff_eq]at h;obtain ⟨⟨⟨⟨⟨⟨C,B⟩,A⟩,H⟩,U⟩,T⟩,L⟩:=h;subst C;split at H
    .rename_i J b;simp only[AA,beq_iff_eq]at H;obtain ⟨⟨R,O⟩,I⟩:=H;split at I
     .rename_i E D;split at L
      .rename_i M l;exact ⟨F,AF B,AF A,⟨J,E,b,R,O,D,Zl6 (fun _ _ h=>h) I,U⟩,i,hi,T,by rw [l,ZBP L]⟩
      .simp at L
     .simp at I
    .simp at H
   .simp at h
 .simp at h
def ZAh:List (Nat×TI)->Nat->Option TI
 | [],_=>none
 |p::r,t=>if p.1=t then some p.2 else ZAh r t
theorem Zyz {P:Program}:∀(l:List (Nat×TI)),(l.all fun p=>tOk P p.1 p.2)=true->∀t i,ZAh l t=some i->TOk P t i
 | [],_,t,i,h=>by simp [ZAh]at h
 |p::r,ha,t,i,h=>by
  simp only[List.all_cons,AA]at ha;simp only[ZAh]at h;split at h
  .rename_i e;simp only[A0]at h;subst h e;exact ZEA ha.1
  .exact Zyz r ha.2 t i h
end
section
open Go.RowKit
def ZB3 (P:Program) (L:List (String×(Array Value->Prop))) (w:World):Prop:=∀x∈L,∃cs,w.var? P x.1=some cs/\x.2 cs
def ZB1 (P:Program) (L:List (String×(Array Value->Prop))) (b:Nat):Prop:=∀x∈L,¬P.globalNamed x.1=some b
theorem ZA0 (P:Program) (L:List (String×(Array Value->Prop))):JOk (ZB3 P L) (ZB1 P L) where
 below:=fun x w w' D F _ _ _ hs E y B=>by
  obtain ⟨cs,A,G⟩:=D y B;refine ⟨cs,?_,G⟩;unfold World.var? at A ⊢;obtain ⟨g,C,A⟩:=AE.1 A;rw [C,AS];have a:g<w.heap.size:=by
   rcases Ac g w.heap.size with h|h
   .exact h
   .rw [Ad h]at A;simp at A
  rw [E g a (fun h=>F g h y B C)];exact A
 new:=fun w b D E y B C=>by
  obtain ⟨cs,A,_⟩:=D y B;unfold World.var? at A;rw [C,AS,Ad E]at A;simp at A
theorem ZcD {J:World->Prop}{JF:Nat->Prop}(h:JOk J JF) {w w':World}(C:J w) (A:Below w.heap.size w w'):J w':=
 h.below (fun _=>False) w w' C (fun _ h=>h.elim) A.os A.tape A.output A.size fun k B _=>A.block k B
theorem Ztf {w:World}{B:Nat}{n:Nat->Prop}{A:CT}{v:Value}(h:OC w B n (false,A) v []):ZlC w B n [(false,[(false,A)])] v:=
 ⟨[v],[],⟨v,[],[],[],rfl,rfl,.inr ⟨rfl,_,rfl,h⟩,rfl,rfl⟩,Own.nil _ _,yG⟩
theorem Zty {w:World}{B:Nat}{n:Nat->Prop}{D c2:CT}{C A:Value}(F:OC w B n (false,D) C []) (E:OC w B n (false,c2) A []):ZlC w B n [(false,[(false,D)]),(false,[(false,c2)])] (.tuple #[C,A]):=
 ⟨[C,A],[],⟨C,[A],[],[],rfl,rfl,.inr ⟨rfl,_,rfl,F⟩,A,[],[],[],rfl,rfl,.inr ⟨rfl,_,rfl,E⟩,rfl,rfl⟩,Own.nil _ _,yG⟩
theorem ZwY {w:World}{z:Nat->Prop}{c:CT}{v:Value}(h:Zj4 w z (false,[c]) v):∃L,RC w c v L:=by
 rcases h with ⟨h,_⟩|⟨_,B,L,h,A,_⟩
 .simp at h
 .simp only[AY,and_true]at h;subst h;exact ⟨L,A⟩
theorem Zpk {w:World}{z:Nat->Prop}{c:CT}{vs:List Value}(h:ZN (Zj4 w z) [(false,[c])] vs):∃v L,vs=[v]/\RC w c v L:=by
 cases vs with
 |nil=>exact h.elim
 |cons v r=>
  cases r with
  |nil=>obtain ⟨L,A⟩:=ZwY h.1;exact ⟨v,L,rfl,A⟩
  |cons _ _=>exact h.2.elim
theorem ZyP {w:World}{z:Nat->Prop}{c d:CT}{vs:List Value}(h:ZN (Zj4 w z) [(false,[c]),(false,[d])] vs):∃v u L M,vs=[v,u]/\RC w c v L/\RC w d u M:=by
 cases vs with
 |nil=>exact h.elim
 |cons v r=>
  obtain ⟨u,M,rfl,A⟩:=Zpk h.2;obtain ⟨L,B⟩:=ZwY h.1;exact ⟨v,u,L,M,rfl,B,A⟩
end
section
open Go.RowKit
def ttL:List (Nat×TI):=[
 (2,.atom (.c (.int .i64 0))),
 (3,.atom (.c (.int .i64 0))),
 (4,.atom (.c (.bool false))),
 (5,.atom (.c (.int .u8 0))),
 (9,.atom (.c (.str ⟨#[]⟩))),
 (12,.atom (.c (.int .u64 0))),
 (14,.strct [⟨0,1,false⟩,⟨1,1,false⟩] 2 [.c (.str ⟨#[]⟩),.c (.int .u64 0)]),
 (20,.ifc),
 (21,.atom (.c (.int .i32 0))),
 (22,.slice 86 4 72 [.c (.str ⟨#[]⟩),.c (.int .i64 0),.nil 93 5,.nil 177 3]),
 (23,.slice 3 1 8 [.c (.int .i64 0)]),
 (24,.slice 90 3 64 [.c (.str ⟨#[]⟩),.nil 9 1,.nil 56 2]),
 (25,.slice 96 8 120 [.c (.int .i64 0),.c (.int .i64 0),.c (.str ⟨#[]⟩),.nil 9 1,.c (.str ⟨#[]⟩),.c (.str ⟨#[]⟩),.c (.int .i64 0),.nil 181 2]),
 (26,.slice 56 2 40 [.c (.str ⟨#[]⟩),.nil 9 1]),
 (28,.strct [⟨0,1,false⟩,⟨1,1,false⟩,⟨2,1,false⟩,⟨3,1,false⟩,⟨4,1,false⟩,⟨5,1,false⟩] 6 [.nil 86 4,.nil 3 1,.nil 90 3,.nil 96 8,.nil 56 2,.c (.int .i64 0)]),
 (29,.slice 58 4 64 [.c (.int .i64 0),.c (.str ⟨#[]⟩),.c (.str ⟨#[]⟩),.nil 9 1]),
 (32,.slice 118 4 72 [.c (.str ⟨#[]⟩),.c (.int .i64 0),.nil 105 5,.nil 173 3]),
 (33,.slice 103 3 64 [.c (.str ⟨#[]⟩),.nil 9 1,.nil 60 2]),
 (34,.slice 108 8 120 [.c (.int .i64 0),.c (.int .i64 0),.c (.str ⟨#[]⟩),.nil 9 1,.c (.str ⟨#[]⟩),.c (.str ⟨#[]⟩),.c (.int .i64 0),.nil 142 2]),
 (35,.slice 60 2 40 [.c (.str ⟨#[]⟩),.nil 9 1]),
 (37,.strct [⟨0,1,false⟩,⟨1,1,false⟩,⟨2,1,false⟩,⟨3,1,false⟩,⟨4,1,false⟩,⟨5,1,false⟩] 6 [.nil 118 4,.nil 3 1,.nil 103 3,.nil 108 8,.nil 60 2,.c (.int .i64 0)]),
 (41,.slice 62 4 64 [.c (.int .i64 0),.c (.str ⟨#[]⟩),.c (.str ⟨#[]⟩),.nil 9 1]),
 (54,.slice 9 1 16 [.c (.str ⟨#[]⟩)]),
 (56,.strct [⟨0,1,false⟩,⟨1,1,false⟩] 2 [.c (.str ⟨#[]⟩),.nil 9 1]),
 (58,.strct [⟨0,1,false⟩,⟨1,1,false⟩,⟨2,2,true⟩] 4 [.c (.int .i64 0),.c (.str ⟨#[]⟩),.c (.str ⟨#[]⟩),.nil 9 1]),
 (60,.strct [⟨0,1,false⟩,⟨1,1,false⟩] 2 [.c (.str ⟨#[]⟩),.nil 9 1]),
 (62,.strct [⟨0,1,false⟩,⟨1,1,false⟩,⟨2,2,true⟩] 4 [.c (.int .i64 0),.c (.str ⟨#[]⟩),.c (.str ⟨#[]⟩),.nil 9 1]),
 (83,.slice 93 5 80 [.c (.int .i64 0),.c (.str ⟨#[]⟩),.nil 9 1,.c (.str ⟨#[]⟩),.c (.str ⟨#[]⟩)]),
 (84,.slice 177 3 48 [.c (.int .i64 0),.c (.str ⟨#[]⟩),.nil 9 1]),
 (86,.strct [⟨0,1,false⟩,⟨1,1,false⟩,⟨2,1,false⟩,⟨3,1,false⟩] 4 [.c (.str ⟨#[]⟩),.c (.int .i64 0),.nil 93 5,.nil 177 3]),
 (88,.strct [⟨0,1,false⟩,⟨1,1,false⟩] 2 [.c (.str ⟨#[]⟩),.nil 9 1]),
 (90,.strct [⟨0,2,true⟩,⟨2,1,false⟩] 3 [.c (.str ⟨#[]⟩),.nil 9 1,.nil 56 2]),
 (93,.strct [⟨0,1,false⟩,⟨1,2,true⟩,⟨3,1,false⟩,⟨4,1,false⟩] 5 [.c (.int .i64 0),.c (.str ⟨#[]⟩),.nil 9 1,.c (.str ⟨#[]⟩),.c (.str ⟨#[]⟩)]),
 (94,.slice 181 2 48 [.nil 56 2,.nil 225 2]),
 (96,.strct [⟨0,1,false⟩,⟨1,5,true⟩,⟨6,1,false⟩,⟨7,1,false⟩] 8 [.c (.int .i64 0),.c (.int .i64 0),.c (.str ⟨#[]⟩),.nil 9 1,.c (.str ⟨#[]⟩),.c (.str ⟨#[]⟩),.c (.int .i64 0),.nil 181 2]),
 (100,.strct [⟨0,1,false⟩,⟨1,1,false⟩] 2 [.c (.str ⟨#[]⟩),.nil 9 1]),
 (103,.strct [⟨0,2,true⟩,⟨2,1,false⟩] 3 [.c (.str ⟨#[]⟩),.nil 9 1,.nil 60 2]),
 (105,.strct [⟨0,1,false⟩,⟨1,2,true⟩,⟨3,1,false⟩,⟨4,1,false⟩] 5 [.c (.int .i64 0),.c (.str ⟨#[]⟩),.nil 9 1,.c (.str ⟨#[]⟩),.c (.str ⟨#[]⟩)]),
 (106,.slice 142 2 48 [.nil 60 2,.nil 206 2]),
 (108,.strct [⟨0,1,false⟩,⟨1,5,true⟩,⟨6,1,false⟩,⟨7,1,false⟩] 8 [.c (.int .i64 0),.c (.int .i64 0),.c (.str ⟨#[]⟩),.nil 9 1,.c (.str ⟨#[]⟩),.c (.str ⟨#[]⟩),.c (.int .i64 0),.nil 142 2]),
 (115,.slice 105 5 80 [.c (.int .i64 0),.c (.str ⟨#[]⟩),.nil 9 1,.c (.str ⟨#[]⟩),.c (.str ⟨#[]⟩)]),
 (116,.slice 173 3 48 [.c (.int .i64 0),.c (.str ⟨#[]⟩),.nil 9 1]),
 (118,.strct [⟨0,1,false⟩,⟨1,1,false⟩,⟨2,1,false⟩,⟨3,1,false⟩] 4 [.c (.str ⟨#[]⟩),.c (.int .i64 0),.nil 105 5,.nil 173 3]),
 (130,.slice 5 1 1 [.c (.int .u8 0)]),
 (140,.slice 206 2 32 [.c (.str ⟨#[]⟩),.c (.str ⟨#[]⟩)]),
 (142,.strct [⟨0,1,false⟩,⟨1,1,false⟩] 2 [.nil 60 2,.nil 206 2]),
 (153,.slice 4 1 1 [.c (.bool false)]),
 (173,.strct [⟨0,1,false⟩,⟨1,2,true⟩] 3 [.c (.int .i64 0),.c (.str ⟨#[]⟩),.nil 9 1]),
 (177,.strct [⟨0,1,false⟩,⟨1,2,true⟩] 3 [.c (.int .i64 0),.c (.str ⟨#[]⟩),.nil 9 1]),
 (179,.slice 225 2 32 [.c (.str ⟨#[]⟩),.c (.str ⟨#[]⟩)]),
 (181,.strct [⟨0,1,false⟩,⟨1,1,false⟩] 2 [.nil 56 2,.nil 225 2]),
 (206,.strct [⟨0,1,false⟩,⟨1,1,false⟩] 2 [.c (.str ⟨#[]⟩),.c (.str ⟨#[]⟩)]),
 (225,.strct [⟨0,1,false⟩,⟨1,1,false⟩] 2 [.c (.str ⟨#[]⟩),.c (.str ⟨#[]⟩)]),
 (239,.ifc),
 (240,.ifc),
 (246,.atom (.c (.int .u64 0))),
 (248,.map .str .bool),
 (258,.atom (.c (.int .u32 0))),
 (260,.atom (.c (.int .u64 0))),
 (286,.strct [⟨0,1,false⟩] 1 [.c (.str ⟨#[]⟩)]),
 (4206,.eqs [.str,.str])]
def tt (t:Nat):Option TI:=ZAh ttL t
theorem htt:∀t i,tt t=some i->TOk prog t i:=Zyz ttL yO
theorem hmix:prog.follows .mixedOrders=true:=yO
def ZAC : List (String × (Array Value → Prop)) := [("internal/strconv.uint64pow10", fun cs => cs = (Lib.pow10Tab.map fun z => Value.int .u64 z).toArray), ("strconv.ErrSyntax", fun cs => ∃ tp p, cs = #[.iface tp p])]
def J0:World->Prop:=ZB3 prog ZAC
def JF0:Nat->Prop:=ZB1 prog ZAC
theorem hJ0:JOk J0 JF0:=ZA0 _ _
theorem ZEZ (w : World) (h : J0 w) : Lib.TabIs prog w "internal/strconv.uint64pow10" .u64 Lib.pow10Tab := by
 obtain ⟨cs,h1,h2⟩:=h _ (List.mem_cons_self ..)
 rw [h2]at h1
 exact h1
theorem ZFp (w : World) (h : J0 w) : ∃ tp p, w.var? prog "strconv.ErrSyntax" = some #[.iface tp p] := by
 obtain ⟨cs, h1, tp, p, h2⟩ := h ("strconv.ErrSyntax", fun cs => ∃ tp p, cs = #[.iface tp p]) (by simp [ZAC])
 rw [h2]at h1
 exact ⟨tp,p,h1⟩
def hdL:List (Nat×Nat):=[(150,5),(174,5),(188,6),(215,5),(234,7),(242,1),(247,6)]
def ZBZ:List (Nat×Nat)->Nat->Nat
 | [],_=>0
 |p::r,f=>match Nat.beq p.1 f with|true=>p.2|false=>ZBZ r f
def hds (f:FuncId):Nat:=ZBZ hdL f
abbrev yQ(f:FuncId)(n:Nat):Prop:=(SC prog J0 JF0 hds).hd f=n
theorem yT{f:FuncId}{n:Nat}(h:(SC prog J0 JF0 hds).hd f=n:=by kernel_rfl):yQ f n:=h
theorem ZHJ:yQ 6 0:=yT
theorem ZHi:yQ 9 0:=yT
theorem ZGB:yQ 21 0:=yT
theorem ZGW:yQ 22 0:=yT
theorem ZFV:yQ 23 0:=yT
theorem ZFG:yQ 30 0:=yT
theorem ZG0:yQ 31 0:=yT
theorem ZF4:yQ 32 0:=yT
theorem ZGO:yQ 55 0:=yT
theorem ZFJ:yQ 56 0:=yT
theorem ZGI:yQ 57 0:=yT
theorem ZF6:yQ 58 0:=yT
theorem ZGR:yQ 59 0:=yT
theorem ZGc:yQ 60 0:=yT
theorem ZGb:yQ 61 0:=yT
theorem ZFK:yQ 62 0:=yT
theorem ZGV:yQ 63 0:=yT
theorem ZFQ:yQ 64 0:=yT
theorem ZGt:yQ 69 0:=yT
theorem ZGT:yQ 70 0:=yT
theorem ZGN:yQ 71 0:=yT
theorem ZFH:yQ 72 0:=yT
theorem ZGv:yQ 73 0:=yT
theorem ZGo:yQ 74 0:=yT
theorem ZF9:yQ 75 0:=yT
theorem ZGr:yQ 76 0:=yT
theorem ZGJ:yQ 77 0:=yT
theorem ZGw:yQ 95 0:=yT
theorem ZFR:yQ 96 0:=yT
theorem ZGY:yQ 97 0:=yT
theorem ZG3:yQ 98 0:=yT
theorem ZGi:yQ 99 0:=yT
theorem ZDI:yQ 100 0:=yT
theorem ZDp:yQ 101 0:=yT
theorem ZCa:yQ 102 0:=yT
theorem ZDz:yQ 103 0:=yT
theorem ZDM:yQ 104 0:=yT
theorem ZC7:yQ 105 0:=yT
theorem ZFv:yQ 106 0:=yT
theorem ZD3:yQ 107 0:=yT
theorem ZB8:yQ 108 0:=yT
theorem ZCq:yQ 109 0:=yT
theorem ZCf:yQ 110 0:=yT
theorem ZEl:yQ 111 0:=yT
theorem ZEt:yQ 112 0:=yT
theorem ZE7:yQ 113 0:=yT
theorem ZDe:yQ 114 0:=yT
theorem ZFD:yQ 121 0:=yT
theorem ZD5:yQ 122 0:=yT
theorem ZEQ:yQ 123 0:=yT
theorem ZFB:yQ 124 0:=yT
theorem ZDT:yQ 125 0:=yT
theorem ZET:yQ 126 0:=yT
theorem ZEK:yQ 127 0:=yT
theorem ZEW:yQ 128 0:=yT
theorem ZE5:yQ 129 0:=yT
theorem ZDQ:yQ 130 0:=yT
theorem ZC5:yQ 131 0:=yT
theorem ZDD:yQ 142 0:=yT
theorem ZEB:yQ 143 0:=yT
theorem ZDP:yQ 144 0:=yT
theorem ZCA:yQ 145 0:=yT
theorem ZCt:yQ 146 0:=yT
theorem ZDw:yQ 147 0:=yT
theorem ZDi:yQ 148 0:=yT
theorem ZC9:yQ 149 0:=yT
theorem ZFu:yQ 150 5:=yT
theorem ZFo:yQ 151 0:=yT
theorem ZEM:yQ 152 0:=yT
theorem ZCx:yQ 153 0:=yT
theorem ZDq:yQ 154 0:=yT
theorem ZEi:yQ 155 0:=yT
theorem ZFA:yQ 156 0:=yT
theorem ZFi:yQ 157 0:=yT
theorem ZFe:yQ 158 0:=yT
theorem ZEa:yQ 159 0:=yT
theorem ZFq:yQ 162 0:=yT
theorem ZCg:yQ 163 0:=yT
theorem ZDS:yQ 164 0:=yT
theorem ZEr:yQ 165 0:=yT
theorem ZFd:yQ 166 0:=yT
theorem ZDL:yQ 167 0:=yT
theorem ZCQ:yQ 168 0:=yT
theorem ZDo:yQ 169 0:=yT
theorem ZC1:yQ 170 0:=yT
theorem ZDB:yQ 171 0:=yT
theorem ZCb:yQ 172 0:=yT
theorem ZDm:yQ 173 0:=yT
theorem ZEC:yQ 174 5:=yT
theorem ZDV:yQ 175 0:=yT
theorem ZDa:yQ 176 0:=yT
theorem ZDd:yQ 177 0:=yT
theorem ZEk:yQ 178 0:=yT
theorem ZEz:yQ 182 0:=yT
theorem ZEX:yQ 183 0:=yT
theorem ZCe:yQ 184 0:=yT
theorem ZCp:yQ 185 0:=yT
theorem ZES:yQ 186 0:=yT
theorem ZCj:yQ 187 0:=yT
theorem ZEE:yQ 188 6:=yT
theorem ZCN:yQ 189 0:=yT
theorem ZCZ:yQ 190 0:=yT
theorem ZCI:yQ 191 0:=yT
theorem ZER:yQ 192 0:=yT
theorem ZFa:yQ 193 0:=yT
theorem ZCo:yQ 194 0:=yT
theorem ZDY:yQ 195 0:=yT
theorem ZD1:yQ 197 0:=yT
theorem ZDf:yQ 198 0:=yT
theorem ZDx:yQ 199 0:=yT
theorem ZDO:yQ 200 0:=yT
theorem ZDl:yQ 201 0:=yT
theorem ZEs:yQ 202 0:=yT
theorem ZCd:yQ 203 0:=yT
theorem ZCn:yQ 204 0:=yT
theorem ZC6:yQ 205 0:=yT
theorem ZFc:yQ 206 0:=yT
theorem ZEc:yQ 207 0:=yT
theorem ZEG:yQ 208 0:=yT
theorem ZC3:yQ 209 0:=yT
theorem ZEO:yQ 210 0:=yT
theorem ZCF:yQ 211 0:=yT
theorem ZDu:yQ 212 0:=yT
theorem ZFw:yQ 213 0:=yT
theorem ZDt:yQ 214 0:=yT
theorem ZDy:yQ 215 5:=yT
theorem ZEV:yQ 216 0:=yT
theorem ZD4:yQ 217 0:=yT
theorem ZCE:yQ 218 0:=yT
theorem ZDj:yQ 219 0:=yT
theorem ZCh:yQ 220 0:=yT
theorem ZE4:yQ 221 0:=yT
theorem ZEy:yQ 222 0:=yT
theorem ZCW:yQ 225 0:=yT
theorem ZCL:yQ 226 0:=yT
theorem ZFg:yQ 227 0:=yT
theorem ZCv:yQ 228 0:=yT
theorem ZCR:yQ 229 0:=yT
theorem ZEP:yQ 230 0:=yT
theorem ZEF:yQ 231 0:=yT
theorem ZE6:yQ 232 0:=yT
theorem ZB9:yQ 233 0:=yT
theorem ZCk:yQ 234 7:=yT
theorem ZFx:yQ 235 0:=yT
theorem ZEf:yQ 237 0:=yT
theorem ZCy:yQ 238 0:=yT
theorem ZDh:yQ 239 0:=yT
theorem ZDZ:yQ 240 0:=yT
theorem ZEL:yQ 241 0:=yT
theorem ZEp:yQ 242 1:=yT
theorem ZDr:yQ 244 0:=yT
theorem ZDW:yQ 245 0:=yT
theorem ZCU:yQ 246 0:=yT
theorem ZFn:yQ 247 6:=yT
theorem ZCc:yQ 248 0:=yT
theorem ZCi:yQ 249 0:=yT
theorem ZD7:yQ 250 0:=yT
theorem ZDv:yQ 251 0:=yT
theorem ZEU:yQ 253 0:=yT
theorem ZFC:yQ 254 0:=yT
theorem ZDG:yQ 255 0:=yT
theorem ZCu:yQ 258 0:=yT
theorem ZFr:yQ 259 0:=yT
theorem ZCO:yQ 260 0:=yT
theorem ZC2:yQ 261 0:=yT
theorem ZE8:yQ 262 0:=yT
theorem ZDn:yQ 267 0:=yT
theorem ZDR:yQ 268 0:=yT
theorem tt2:tt 2=some (.atom (.c (.int .i64 0))):=yi rfl
theorem tt3:tt 3=some (.atom (.c (.int .i64 0))):=yi rfl
theorem tt4:tt 4=some (.atom (.c (.bool false))):=yi rfl
theorem tt5:tt 5=some (.atom (.c (.int .u8 0))):=yi rfl
theorem tt9:tt 9=some (.atom (.c (.str ⟨#[]⟩))):=yi rfl
theorem ZH1:tt 12=some (.atom (.c (.int .u64 0))):=yi rfl
theorem ZHb:tt 14=some (.strct [⟨0,1,false⟩,⟨1,1,false⟩] 2 [.c (.str ⟨#[]⟩),.c (.int .u64 0)]):=yi rfl
theorem ZHr:tt 20=some (.ifc):=yi rfl
theorem ZHj:tt 21=some (.atom (.c (.int .i32 0))):=yi rfl
theorem ZHp:tt 22=some (.slice 86 4 72 [.c (.str ⟨#[]⟩),.c (.int .i64 0),.nil 93 5,.nil 177 3]):=yi rfl
theorem ZHf:tt 23=some (.slice 3 1 8 [.c (.int .i64 0)]):=yi rfl
theorem ZHG:tt 24=some (.slice 90 3 64 [.c (.str ⟨#[]⟩),.nil 9 1,.nil 56 2]):=yi rfl
theorem ZHD:tt 25=some (.slice 96 8 120 [.c (.int .i64 0),.c (.int .i64 0),.c (.str ⟨#[]⟩),.nil 9 1,.c (.str ⟨#[]⟩),.c (.str ⟨#[]⟩),.c (.int .i64 0),.nil 181 2]):=yi rfl
theorem ZHZ:tt 26=some (.slice 56 2 40 [.c (.str ⟨#[]⟩),.nil 9 1]):=yi rfl
theorem ZHo:tt 28=some (.strct [⟨0,1,false⟩,⟨1,1,false⟩,⟨2,1,false⟩,⟨3,1,false⟩,⟨4,1,false⟩,⟨5,1,false⟩] 6 [.nil 86 4,.nil 3 1,.nil 90 3,.nil 96 8,.nil 56 2,.c (.int .i64 0)]):=yi rfl
theorem ZHL:tt 29=some (.slice 58 4 64 [.c (.int .i64 0),.c (.str ⟨#[]⟩),.c (.str ⟨#[]⟩),.nil 9 1]):=yi rfl
theorem ZG9:tt 32=some (.slice 118 4 72 [.c (.str ⟨#[]⟩),.c (.int .i64 0),.nil 105 5,.nil 173 3]):=yi rfl
theorem ZHg:tt 33=some (.slice 103 3 64 [.c (.str ⟨#[]⟩),.nil 9 1,.nil 60 2]):=yi rfl
theorem ZHv:tt 34=some (.slice 108 8 120 [.c (.int .i64 0),.c (.int .i64 0),.c (.str ⟨#[]⟩),.nil 9 1,.c (.str ⟨#[]⟩),.c (.str ⟨#[]⟩),.c (.int .i64 0),.nil 142 2]):=yi rfl
theorem ZHw:tt 35=some (.slice 60 2 40 [.c (.str ⟨#[]⟩),.nil 9 1]):=yi rfl
theorem ZHt:tt 37=some (.strct [⟨0,1,false⟩,⟨1,1,false⟩,⟨2,1,false⟩,⟨3,1,false⟩,⟨4,1,false⟩,⟨5,1,false⟩] 6 [.nil 118 4,.nil 3 1,.nil 103 3,.nil 108 8,.nil 60 2,.c (.int .i64 0)]):=yi rfl
theorem ZHH:tt 41=some (.slice 62 4 64 [.c (.int .i64 0),.c (.str ⟨#[]⟩),.c (.str ⟨#[]⟩),.nil 9 1]):=yi rfl
theorem ZHh:tt 54=some (.slice 9 1 16 [.c (.str ⟨#[]⟩)]):=yi rfl
theorem ZHB:tt 56=some (.strct [⟨0,1,false⟩,⟨1,1,false⟩] 2 [.c (.str ⟨#[]⟩),.nil 9 1]):=yi rfl
theorem ZHx:tt 58=some (.strct [⟨0,1,false⟩,⟨1,1,false⟩,⟨2,2,true⟩] 4 [.c (.int .i64 0),.c (.str ⟨#[]⟩),.c (.str ⟨#[]⟩),.nil 9 1]):=yi rfl
theorem ZHl:tt 60=some (.strct [⟨0,1,false⟩,⟨1,1,false⟩] 2 [.c (.str ⟨#[]⟩),.nil 9 1]):=yi rfl
theorem ZHS:tt 62=some (.strct [⟨0,1,false⟩,⟨1,1,false⟩,⟨2,2,true⟩] 4 [.c (.int .i64 0),.c (.str ⟨#[]⟩),.c (.str ⟨#[]⟩),.nil 9 1]):=yi rfl
theorem ZHK:tt 83=some (.slice 93 5 80 [.c (.int .i64 0),.c (.str ⟨#[]⟩),.nil 9 1,.c (.str ⟨#[]⟩),.c (.str ⟨#[]⟩)]):=yi rfl
theorem ZHd:tt 84=some (.slice 177 3 48 [.c (.int .i64 0),.c (.str ⟨#[]⟩),.nil 9 1]):=yi rfl
theorem ZHE:tt 86=some (.strct [⟨0,1,false⟩,⟨1,1,false⟩,⟨2,1,false⟩,⟨3,1,false⟩] 4 [.c (.str ⟨#[]⟩),.c (.int .i64 0),.nil 93 5,.nil 177 3]):=yi rfl
theorem ZHk:tt 88=some (.strct [⟨0,1,false⟩,⟨1,1,false⟩] 2 [.c (.str ⟨#[]⟩),.nil 9 1]):=yi rfl
theorem ZHz:tt 90=some (.strct [⟨0,2,true⟩,⟨2,1,false⟩] 3 [.c (.str ⟨#[]⟩),.nil 9 1,.nil 56 2]):=yi rfl
theorem ZHA:tt 93=some (.strct [⟨0,1,false⟩,⟨1,2,true⟩,⟨3,1,false⟩,⟨4,1,false⟩] 5 [.c (.int .i64 0),.c (.str ⟨#[]⟩),.nil 9 1,.c (.str ⟨#[]⟩),.c (.str ⟨#[]⟩)]):=yi rfl
theorem ZHa:tt 94=some (.slice 181 2 48 [.nil 56 2,.nil 225 2]):=yi rfl
theorem ZHT:tt 96=some (.strct [⟨0,1,false⟩,⟨1,5,true⟩,⟨6,1,false⟩,⟨7,1,false⟩] 8 [.c (.int .i64 0),.c (.int .i64 0),.c (.str ⟨#[]⟩),.nil 9 1,.c (.str ⟨#[]⟩),.c (.str ⟨#[]⟩),.c (.int .i64 0),.nil 181 2]):=yi rfl
theorem ZF5:tt 100=some (.strct [⟨0,1,false⟩,⟨1,1,false⟩] 2 [.c (.str ⟨#[]⟩),.nil 9 1]):=yi rfl
theorem ZGz:tt 103=some (.strct [⟨0,2,true⟩,⟨2,1,false⟩] 3 [.c (.str ⟨#[]⟩),.nil 9 1,.nil 60 2]):=yi rfl
theorem ZGS:tt 105=some (.strct [⟨0,1,false⟩,⟨1,2,true⟩,⟨3,1,false⟩,⟨4,1,false⟩] 5 [.c (.int .i64 0),.c (.str ⟨#[]⟩),.nil 9 1,.c (.str ⟨#[]⟩),.c (.str ⟨#[]⟩)]):=yi rfl
theorem ZFP:tt 106=some (.slice 142 2 48 [.nil 60 2,.nil 206 2]):=yi rfl
theorem ZGn:tt 108=some (.strct [⟨0,1,false⟩,⟨1,5,true⟩,⟨6,1,false⟩,⟨7,1,false⟩] 8 [.c (.int .i64 0),.c (.int .i64 0),.c (.str ⟨#[]⟩),.nil 9 1,.c (.str ⟨#[]⟩),.c (.str ⟨#[]⟩),.c (.int .i64 0),.nil 142 2]):=yi rfl
theorem ZFZ:tt 115=some (.slice 105 5 80 [.c (.int .i64 0),.c (.str ⟨#[]⟩),.nil 9 1,.c (.str ⟨#[]⟩),.c (.str ⟨#[]⟩)]):=yi rfl
theorem ZG5:tt 116=some (.slice 173 3 48 [.c (.int .i64 0),.c (.str ⟨#[]⟩),.nil 9 1]):=yi rfl
theorem ZFO:tt 118=some (.strct [⟨0,1,false⟩,⟨1,1,false⟩,⟨2,1,false⟩,⟨3,1,false⟩] 4 [.c (.str ⟨#[]⟩),.c (.int .i64 0),.nil 105 5,.nil 173 3]):=yi rfl
theorem ZGf:tt 130=some (.slice 5 1 1 [.c (.int .u8 0)]):=yi rfl
theorem ZG1:tt 140=some (.slice 206 2 32 [.c (.str ⟨#[]⟩),.c (.str ⟨#[]⟩)]):=yi rfl
theorem ZG2:tt 142=some (.strct [⟨0,1,false⟩,⟨1,1,false⟩] 2 [.nil 60 2,.nil 206 2]):=yi rfl
theorem ZG6:tt 153=some (.slice 4 1 1 [.c (.bool false)]):=yi rfl
theorem ZFM:tt 173=some (.strct [⟨0,1,false⟩,⟨1,2,true⟩] 3 [.c (.int .i64 0),.c (.str ⟨#[]⟩),.nil 9 1]):=yi rfl
theorem ZGH:tt 177=some (.strct [⟨0,1,false⟩,⟨1,2,true⟩] 3 [.c (.int .i64 0),.c (.str ⟨#[]⟩),.nil 9 1]):=yi rfl
theorem ZFW:tt 179=some (.slice 225 2 32 [.c (.str ⟨#[]⟩),.c (.str ⟨#[]⟩)]):=yi rfl
theorem ZGq:tt 181=some (.strct [⟨0,1,false⟩,⟨1,1,false⟩] 2 [.nil 56 2,.nil 225 2]):=yi rfl
theorem ZFT:tt 206=some (.strct [⟨0,1,false⟩,⟨1,1,false⟩] 2 [.c (.str ⟨#[]⟩),.c (.str ⟨#[]⟩)]):=yi rfl
theorem ZGd:tt 225=some (.strct [⟨0,1,false⟩,⟨1,1,false⟩] 2 [.c (.str ⟨#[]⟩),.c (.str ⟨#[]⟩)]):=yi rfl
theorem ZGy:tt 239=some (.ifc):=yi rfl
theorem ZGF:tt 240=some (.ifc):=yi rfl
theorem ZGZ:tt 246=some (.atom (.c (.int .u64 0))):=yi rfl
theorem ZF7:tt 248=some (.map .str .bool):=yi rfl
theorem ZGx:tt 258=some (.atom (.c (.int .u32 0))):=yi rfl
theorem ZFI:tt 260=some (.atom (.c (.int .u64 0))):=yi rfl
theorem ZGl:tt 286=some (.strct [⟨0,1,false⟩] 1 [.c (.str ⟨#[]⟩)]):=yi rfl
theorem ZEH:tt 4206=some (.eqs [.str,.str]):=yi rfl
theorem fnk {f : FuncId} {fn : Func} {c : Code} {args : List (Bool × List CT)} {res : List RT} (hf : prog.funcs[f]? = some fn) (hb : fn.body = some c) (h : fnS (fun _ => none) tt (SC prog J0 JF0 hds) fn.results.toList c args res) (hname : (fn.name == "runtime.NumGoroutine") = false := by kernel_rfl) (hok : QO (fun _ => none) tt hds false fn.ntmps c = true := by kernel_rfl) (hlen : Nat.ble args.length fn.ntmps = true := by kernel_rfl) : Zp prog J0 f args res := ZtX htt hJ0 hmix hf hname hb hok hlen h
theorem fno {f : FuncId} {fn : Func} {c : Code} {t : Nat} {cs cs' : List (Bool × CT)} {gv : Option (Bool × List (Bool × CT))} {args : List (Bool × List CT)} {res : List RT} (hf : prog.funcs[f]? = some fn) (hb : fn.body = some c) (hh : fnO (fun _ => none) tt (SC prog J0 JF0 hds) fn.results.toList c t cs gv args res cs') (hname : (fn.name == "runtime.NumGoroutine") = false := by kernel_rfl) (hok : QO (fun _ => none) tt hds true fn.ntmps c = true := by kernel_rfl) (hlen : Nat.blt (args.length + gvN gv) fn.ntmps = true := by kernel_rfl) : ZhN prog J0 JF0 f t cs gv args res cs' := Zye htt hJ0 hmix hf hname hb hok hlen hh
theorem fng {f : FuncId} {fn : Func} {c : Code} {gv : Bool × List (Bool × CT)} {args : List (Bool × List CT)} {res : List RT} (hf : prog.funcs[f]? = some fn) (hb : fn.body = some c) (hh : fnG (fun _ => none) tt (SC prog J0 JF0 hds) fn.results.toList c gv args res) (hname : (fn.name == "runtime.NumGoroutine") = false := by kernel_rfl) (hok : QO (fun _ => none) tt hds false fn.ntmps c = true := by kernel_rfl) (hlen : Nat.blt args.length fn.ntmps = true := by kernel_rfl) : ZsC prog J0 JF0 f gv args res := Zxe htt hJ0 hmix hf hname hb hok hlen hh
theorem ZGj (m : List (Nat × List Nat × Bool)) {f : FuncId} {fn : Func} {c : Code} {args : List (Bool × List CT)} {res : List RT} (hf : prog.funcs[f]? = some fn) (hb : fn.body = some c) (h : fnS (Ztz m) tt (SC prog J0 JF0 hds) fn.results.toList c args res) (hname : (fn.name == "runtime.NumGoroutine") = false := by kernel_rfl) (hok : QO (Ztz m) tt hds false fn.ntmps c = true := by kernel_rfl) (hlen : Nat.ble args.length fn.ntmps = true := by kernel_rfl) : Zp prog J0 f args res := ZtX htt hJ0 hmix hf hname hb hok hlen h
def Xu (x:Zm):List CT:=[.str x.rel,.sl 9 1 (A9 ZM x.args)]
theorem ZuS (x:Zm):Xu x=[.str x.rel,.sl 9 1 (A9 ZM x.args)]:=yi rfl
def ZW (x:Zh):List CT:=[.int .i64 x.kind,.str x.pattern.rel,.sl 9 1 (A9 ZM x.pattern.args),.str x.left,.str x.right]
theorem Zza (x:Zh):ZW x=[.int .i64 x.kind,.str x.pattern.rel,.sl 9 1 (A9 ZM x.pattern.args),.str x.left,.str x.right]:=yi rfl
def Yd (x:ZV):List CT:=[.int .i64 x.kind,.str x.pattern.rel,.sl 9 1 (A9 ZM x.pattern.args)]
theorem ZvU (x:ZV):Yd x=[.int .i64 x.kind,.str x.pattern.rel,.sl 9 1 (A9 ZM x.pattern.args)]:=yi rfl
def ZB (x:Zq):List CT:=[.str x.name,.int .i64 x.priority,.sl 105 5 (A9 ZW x.cond),.sl 173 3 (A9 Yd x.thn)]
theorem Zz6 (x:Zq):ZB x=[.str x.name,.int .i64 x.priority,.sl 105 5 (A9 ZW x.cond),.sl 173 3 (A9 Yd x.thn)]:=yi rfl
def Zo (x:Zf):List CT:=[.str x.rel,.sl 9 1 (A9 ZM x.args)]
theorem Zyt (x:Zf):Zo x=[.str x.rel,.sl 9 1 (A9 ZM x.args)]:=yi rfl
def ZG (x:ZO):List CT:=[.str x.shape.rel,.sl 9 1 (A9 ZM x.shape.args),.sl 60 2 (A9 Zo x.facts)]
theorem Zw4 (x:ZO):ZG x=[.str x.shape.rel,.sl 9 1 (A9 ZM x.shape.args),.sl 60 2 (A9 Zo x.facts)]:=yi rfl
def Z5 (x:Zj):List CT:=[.str x.var,.str x.value]
theorem ZzK (x:Zj):Z5 x=[.str x.var,.str x.value]:=yi rfl
theorem ZvC (l:List Zj):Zco (l.map Z5)=true:=Zds (fun _=>rfl) l
def Yj (x:Zi):List CT:=[.sl 60 2 (A9 Zo x.facts),.sl 206 2 (A9 Z5 x.binding)]
theorem ZxE (x:Zi):Yj x=[.sl 60 2 (A9 Zo x.facts),.sl 206 2 (A9 Z5 x.binding)]:=yi rfl
def Z6 (x:ZA):List CT:=[.int .i64 x.parent,.int .i64 x.cond.kind,.str x.cond.pattern.rel,.sl 9 1 (A9 ZM x.cond.pattern.args),.str x.cond.left,.str x.cond.right,.int .i64 x.alpha,.sl 142 2 (A9 Yj x.tokens)]
theorem ZzJ (x:ZA):Z6 x=[.int .i64 x.parent,.int .i64 x.cond.kind,.str x.cond.pattern.rel,.sl 9 1 (A9 ZM x.cond.pattern.args),.str x.cond.left,.str x.cond.right,.int .i64 x.alpha,.sl 142 2 (A9 Yj x.tokens)]:=yi rfl
def YD (x:Zc):List CT:=[.sl 118 4 (A9 ZB x.rules),.sl 3 1 (A9 Ye x.ends),.sl 103 3 (A9 ZG x.alphas),.sl 108 8 (A9 Z6 x.nodes),.sl 60 2 (A9 Zo x.facts),.int .i64 x.tries]
theorem ZuN (x:Zc):YD x=[.sl 118 4 (A9 ZB x.rules),.sl 3 1 (A9 Ye x.ends),.sl 103 3 (A9 ZG x.alphas),.sl 108 8 (A9 Z6 x.nodes),.sl 60 2 (A9 Zo x.facts),.int .i64 x.tries]:=yi rfl
def ZkQ (x:YB):List CT:=[.int .i64 x.kind,.str x.rule,.str x.fact.rel,.sl 9 1 (A9 ZM x.fact.args)]
theorem ZxZ (x:YB):ZkQ x=[.int .i64 x.kind,.str x.rule,.str x.fact.rel,.sl 9 1 (A9 ZM x.fact.args)]:=yi rfl
attribute [go_sem] tt2 tt3 tt4 tt5 tt9 ZH1 ZHb ZHr ZHj ZHp ZHf ZHG ZHD ZHZ ZHo ZHL ZG9 ZHg ZHv ZHw ZHt ZHH ZHh ZHB ZHx ZHl ZHS ZHK ZHd ZHE ZHk ZHz ZHA ZHa ZHT ZF5 ZGz ZGS ZFP ZGn
attribute [go_sem] ZFZ ZG5 ZFO ZGf ZG1 ZG2 ZG6 ZFM ZGH ZFW ZGq ZFT ZGd ZGy ZGF ZGZ ZF7 ZGx ZFI ZGl ZEH ZHJ ZHi ZGB ZGW ZFV ZFG ZG0 ZF4 ZGO ZFJ ZGI ZF6 ZGR ZGc ZGb ZFK ZGV ZFQ ZGt
attribute [go_sem] ZGT ZGN ZFH ZGv ZGo ZF9 ZGr ZGJ ZGw ZFR ZGY ZG3 ZGi ZDI ZDp ZCa ZDz ZDM ZC7 ZFv ZD3 ZB8 ZCq ZCf ZEl ZEt ZE7 ZDe ZFD ZD5 ZEQ ZFB ZDT ZET ZEK ZEW ZE5 ZDQ ZC5 ZDD
attribute [go_sem] ZEB ZDP ZCA ZCt ZDw ZDi ZC9 ZFu ZFo ZEM ZCx ZDq ZEi ZFA ZFi ZFe ZEa ZFq ZCg ZDS ZEr ZFd ZDL ZCQ ZDo ZC1 ZDB ZCb ZDm ZEC ZDV ZDa ZDd ZEk ZEz ZEX ZCe ZCp ZES ZCj
attribute [go_sem] ZEE ZCN ZCZ ZCI ZER ZFa ZCo ZDY ZD1 ZDf ZDx ZDO ZDl ZEs ZCd ZCn ZC6 ZFc ZEc ZEG ZC3 ZEO ZCF ZDu ZFw ZDt ZDy ZEV ZD4 ZCE ZDj ZCh ZE4 ZEy ZCW ZCL ZFg ZCv ZCR ZEP
attribute [go_sem] ZEF ZE6 ZB9 ZCk ZFx ZEf ZCy ZDh ZDZ ZEL ZEp ZDr ZDW ZCU ZFn ZCc ZCi ZD7 ZDv ZEU ZFC ZDG ZCu ZFr ZCO ZC2 ZE8 ZDn ZDR ZuS Zza ZvU Zz6 Zyt Zw4 ZvC ZzK ZxE ZzJ ZuN
attribute [go_sem] ZxZ
end
end
end Go.Proofs.YtfdjdgdipgfmeaaGreatDoor
