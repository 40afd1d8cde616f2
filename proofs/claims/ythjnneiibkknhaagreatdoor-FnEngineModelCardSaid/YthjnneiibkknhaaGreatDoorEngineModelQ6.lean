/- Texts of this proof, joined: BDraw, BAny, BSound, BFn, BTok, Laid. What each holds is said at its theorems. -/
import Derived.Test.YthjnneiibkknhaaGreatDoorEngineModelQ5
import Derived.Orders
import Derived.Test.YthjnneiibkknhaaGreatDoorEngineModelQ1
import Derived.Test.YthjnneiibkknhaaGreatDoorEngineModelQ4
import GoSem.Claims
open Array renaming replicate→AE,getD_eq_getD_getElem?→AH,getElem?_eq_some_iff→AX,getElem?_eq_none→Ab,getElem?_setIfInBounds→Ak,getElem?_setIfInBounds_ne→Al,getElem?_append→Aq
open Bool renaming and_eq_true→A5,or_eq_true→AG,not_eq_true'→AY
open List renaming mem_append→A6,mem_map→AA,mem_cons→AF,all_eq_true→AI,getElem?_eq_some_iff→AJ,nodup_cons→AK,map_congr_left→AO,not_mem_nil→AQ,nodup_append→AS,mem_of_getElem?→AU,range→AW,cons_append→AZ,set_getElem_self→Ae,mem_or_eq_of_mem_set→Ag,toArray→Ah,mem_filterMap→Ai,mem_flatMap→Aj,getElem_mem→An,range_eq_range'→Ao,mapM_cons→Ap,size_toArray→Ar
open List.Sublist renaming append→Ad,refl→Am
open List.cons renaming injEq→AR
open Nat renaming le_of_ble_eq_true→AB,le_refl→AD,zero_le→AT,lt_or_ge→Aa
open Option renaming map_eq_some_iff→A9,bind_eq_some_iff→AC,map_none→AL,map_some→AN,bind_some→AP,getD_some→Ac
open Option.some renaming injEq→A0
open Prod.mk renaming injEq→A4
set_option linter.unusedSimpArgs false
set_option linter.unusedVariables false
set_option maxRecDepth 1000000
set_option maxHeartbeats 4000000
namespace Go.Proofs.YthjnneiibkknhaaGreatDoor
noncomputable section
section
open Go.RowKit
def ZzF:Option TI->Bool
 |some (.slice _ _ _ z)=>z.all Zk7
 |_=>false
def cls (tt:Nat->Option TI) (hs:FuncId->Nat):Op->Nat
 |.move _=>0
 |.assign _=>0
 |.pick _ _ _=>0
 |.build _ _=>0
 |.nilCheck _=>0
 |.binOp _ _ _ _ _=>0
 |.unOp _ _ _=>0
 |.convert _ t _=>if Zde (tt t)=true then 1 else 0
 |.slice t _ lo hi _=>if Zde (tt t)=true then 0 else if lo.isSome&&hi.isNone then 4 else 3
 |.fieldAddr _ _ _=>0
 |.field _ _ _=>0
 |.index _ _ _=>0
 |.extract _ _=>0
 |.alloc _=>1
 |.box _ _=>1
 |.load _ _=>1
 |.makeMap _ _=>1
 |.lookup _ _ _ _=>1
 |.makeSlice _ _ _=>1
 |.indexAddr _ _ _=>1
 |.buildSlice t _ ps=>if ps.size=0\/ZzF (tt t)=true then 2 else 3
 |.call ⟨.builtin .len,_,_⟩=>1
 |.call ⟨.builtin .max,_,_⟩=>0
 |.call ⟨.builtin .min,_,_⟩=>0
 |.call ⟨.value (.func f),_,_⟩=>if hs f=0\/hs f=4 then 1 else 4
 |_=>4
section
variable {P:Program} {W:Qq} {U:Nat->Prop} {key:Nat} {st st':St} {w w':World} {a:Act} {tt:Nat->Option TI} {S:Ctx} {Q:Exit->Act->World->Prop}
def ZaF (tt:Nat->Option TI) (S:Ctx) (key:Nat) (o:Oper) (st:St) (v:SV) (u:List (Nat×Ob)):Prop:=
 match YS o.op with
 |some c=>Zag S c.1 (S.hd c.1) key st (evs tt st c.2.1 c.2.2) v u
 |none=>match Xm o.op with
  |some c=>∃fc,ZpD (st.sl c.1)=some fc/\S.hd fc.1=0/\Zag S fc.1 0 key st (evs tt st c.2.1 c.2.2++fc.2.map ZlN) v u
  |none=>opE tt key o st=some (v,u)
def opR (tt:Nat->Option TI) (S:Ctx) (all:List Oper) (key:Nat) (o:Oper) (st:St) (v:SV) (u:List (Nat×Ob)):Prop:=
 match Za8 all o with
 |none=>ZaF tt S key o st v u
 |some (none,_)=>v=.und/\u=[]
 |some (some t,want)=>gK (st.sl t) want (ZaF tt S key o st v u) (v=.und/\u=[])
theorem Zwf [NW] {o:Oper}{K:St->Prop}:opS tt S key o K st↔∃v u,ZaF tt S key o st v u/\K ((st.put o.dst v).app u):=by
 cases hc:YS o.op with
 |some c=>
  simp only[opS,ZaF,hc];exact Zml
 |none=>
  simp only[opS,ZaF,hc];cases hd:Xm o.op with
  |some c=>
   simp only;constructor
   .intro h;unfold Yi at h;split at h
    .rename_i D a;obtain ⟨C,h⟩:=h;obtain ⟨v,u,B,A⟩:=Zml.1 h;exact ⟨v,u,⟨D,a,C,B⟩,A⟩
    .exact h.elim
   .rintro ⟨v,u,⟨D,a,C,B⟩,A⟩;rw [a];exact ⟨C,Zml.2 ⟨v,u,B,A⟩⟩
  |none=>
   simp only;constructor
   .intro h;unfold Yi at h;split at h
    .rename_i r E;exact ⟨r.1,r.2,E,h⟩
    .exact h.elim
   .rintro ⟨v,u,B,A⟩;rw [B];exact A
theorem Zil [NW] {all:List Oper}{o:Oper}{K:St->Prop}:opG tt S all key o K st↔∃v u,opR tt S all key o st v u/\K ((st.put o.dst v).app u):=by
 have skip:K (st.put o.dst .und)↔∃v u,(v=SV.und/\u=[])/\K ((st.put o.dst v).app u):=by
  constructor
  .intro h;exact ⟨.und,[],⟨rfl,rfl⟩,h⟩
  .rintro ⟨v,u,⟨rfl,rfl⟩,h⟩;exact h
 cases hg:Za8 all o with
 |none=>simp only[opG,opR,hg];exact Zwf
 |some q=>
  obtain ⟨q,a⟩:=q;cases q with
  |none=>simp only[opG,opR,hg];exact skip
  |some t=>
   simp only[opG,opR,hg,gK];by_cases A:Zao (st.sl t)=true
   .by_cases c:(Qo (st.sl t)==a)=true
    .simp only[A,c,if_true];exact Zwf
    .simp only[A,c,if_true,if_false];exact skip
   .by_cases c:ZsG (st.sl t)=true
    .simp only[A,c,if_true,if_false];exact skip
    .simp only[A,c,if_false];simp
theorem Zee [NW] {ts:List TypeId}{xs:List Operand}(h:∀x∈xs,∀t,st.ev tt t x=st'.ev tt t x):evs tt st ts xs=evs tt st' ts xs:=by
 unfold evs;refine AO λp c=>h p.2 ?_ p.1;rw [<-ZfY ts xs];exact AA.2 ⟨p,c,rfl⟩
def Wk (st st':St) (U:Nat->Prop):Prop:=∀k,U k->st'.ob k=st.ob k\/st'.ob k=Ye (st.ob k)
theorem Wk.of (h:∀k,U k->st.ob k=st'.ob k):Wk st st' U:=λk c=>.inl (h k c).symm
theorem ZhM (a:Wk st st' U):∀{xs:List AV},XX U xs->YQ st xs=YQ st' xs
 | [],_=>rfl
 |x::r,h=>by
  have c:Zck st x=Zck st' x:=by
   cases x with
   |row k=>
    simp only[Zck];rcases a k (h (.row k) yG) with e|e
    .rw [e]
    .rw [e];cases st.ob k<;>rfl
   |_=>rfl
  have hr:=ZhM a (xs:=r) (λy m=>h y (by simp [m]));simp only[YQ,c,hr]
theorem Zfb [NW] (a:Wk st st' U):∀{xs:List SV},(∀x∈xs,svU U x)->ZT st xs=ZT st' xs
 | [],_=>rfl
 |x::r,h=>by
  have c:ZdE st x=ZdE st' x:=by
   cases x with
   |p ag cs=>simp only[ZdE,ZhM a (h (.p ag cs) yG)]
   |_=>rfl
  have hr:=Zfb a (xs:=r) (λy m=>h y (by simp [m]));simp only[ZT,c,hr]
theorem Zuu (a:Wk st st' U) {t:Option TI}{x:SV}(c:svU U x):Qy st t x=Qy st' t x:=by
 cases x with
 |bp k off=>
  simp only[Qy];rcases a k c with e|e
  .rw [e]
  .rw [e];cases st.ob k<;>rfl
 |rp k m i off=>
  simp only[Qy];rcases a k c with e|e
  .rw [e]
  .rw [e];cases st.ob k<;>rfl
 |p ag cs=>cases ag with
  |true=>rfl
  |false=>cases cs with
   |nil=>rfl
   |cons y r=>cases r<;>cases y<;>first|rfl|(rename_i z;cases z<;>rfl)|(rename_i z _ _;cases z<;>rfl)
 |_=>rfl
theorem ZxH (a:Wk st st' U) {t:Option TI}{x:SV}(c:svU U x):ZoC st t x=ZoC st' t x:=by
 unfold ZoC;split<;>try rfl
 rename_i k;rcases a k (c (.row k) yG) with e|e
 .rw [e]
 .rw [e];cases st.ob k<;>rfl
theorem Zq9 (a:Wk st st' U) {m:Nat}{x i:SV}(c:svU U x):Zac st m x i=Zac st' m x i:=by
 unfold Zac;split<;>try rfl
 rename_i k _ _;rcases a k (c (.row k) yG) with e|e
 .rw [e]
 .rw [e];cases st.ob k<;>rfl
theorem ZwN (a:st.ob=st'.ob) (x:SV):Zkv st x=Zkv st' x:=by
 unfold Zkv;rw [a]
theorem ZmW [NW] (a:st.ob=st'.ob):∀xs:List SV,Ze3 st xs=Ze3 st' xs
 | []=>rfl
 |x::r=>by simp only[Ze3,ZwN a x,ZmW a r]
theorem Zvk (a:Wk st st' U) {t:Option TI}{x i:SV}{ok:Bool}(c:svU U x):ZhZ st t x i ok=ZhZ st' t x i ok:=by
 unfold ZhZ;split<;>try rfl
 rename_i k;rcases a k (c (.row k) yG) with e|e
 .rw [e]
 .rw [e];cases st.ob k<;>rfl
theorem ZuR (a:Wk st st' U) {x:SV}(c:svU U x):ZiS st x=ZiS st' x:=by
 unfold ZiS;split<;>try rfl
 rename_i k;rcases a k (c (.row k) yG) with e|e
 .rw [e]
 .rw [e];cases st.ob k<;>rfl
theorem Zu9 [NW] (a:Wk st st' U) {s t:Nat}{x:SV}(c:svU U x):Zhi tt st s t x=Zhi tt st' s t x:=by
 unfold Zhi;rw [ZuR a c]
def Mk (st st':St) (U:Nat->Prop):Prop:=∀k,U k->st'.ob k=st.ob k\/st'.ob k=.gone
theorem Zlt (c:Mk st st' U):∀{xs:List AV}{r:List CT},XX U xs->YQ st' xs=some r->YQ st xs=some r
 | [],_,_,h=>h
 |x::xs,r,hu,h=>by
  simp only[YQ]at h ⊢;obtain ⟨a,A,h⟩:=AC.1 h;obtain ⟨b,C,rfl⟩:=A9.1 h;have B:Zck st x=some a:=by
   cases x with
   |row k=>
    simp only[Zck]at A ⊢;rcases c k (hu (.row k) yG) with e|e
    .rwa [e]at A
    .rw [e]at A;simp at A
   |_=>exact A
  rw [B,AP,Zlt c (λy m=>hu y (by simp [m])) C];rfl
theorem Zhj [NW] (c:Mk st st' U):∀{xs:List SV}{r:List (Bool×List CT)},(∀x∈xs,svU U x)->ZT st' xs=some r->ZT st xs=some r
 | [],_,_,h=>h
 |x::xs,r,hu,h=>by
  simp only[ZT]at h ⊢;obtain ⟨a,A,h⟩:=AC.1 h;obtain ⟨b,D,rfl⟩:=A9.1 h;have B:ZdE st x=some a:=by
   cases x with
   |p ag cs=>
    simp only[ZdE]at A ⊢;obtain ⟨l,C,rfl⟩:=A9.1 A;rw [Zlt c (hu (.p ag cs) yG) C];rfl
   |_=>exact A
  rw [B,AP,Zhj c (λy m=>hu y (by simp [m])) D];rfl
theorem Zvc (a:Mk st st' U) {t:Option TI}{x r:SV}(c:svU U x) (h:Qy st' t x=some r):Qy st t x=some r:=by
 cases x with
 |bp k off=>
  simp only[Qy]at h ⊢;rcases a k c with e|e
  .rwa [e]at h
  .rw [e]at h;simp at h
 |rp k m i off=>
  simp only[Qy]at h ⊢;rcases a k c with e|e
  .rwa [e]at h
  .rw [e]at h;simp at h
 |p ag cs=>cases ag with
  |true=>exact h
  |false=>cases cs with
   |nil=>exact h
   |cons y r=>cases r<;>cases y<;>first|exact h|(rename_i z;cases z<;>exact h)|(rename_i z _ _;cases z<;>exact h)
 |_=>exact h
theorem Zw3 (a:Mk st st' U) {t:Option TI}{x r:SV}(c:svU U x) (h:ZoC st' t x=some r):ZoC st t x=some r:=by
 unfold ZoC at h ⊢;split at h<;>try exact h
 rename_i k;rcases a k (c (.row k) yG) with e|e
 .rwa [e]at h
 .rw [e]at h;simp at h
theorem ZrI (a:Mk st st' U) {m:Nat}{x i r:SV}(c:svU U x) (h:Zac st' m x i=some r):Zac st m x i=some r:=by
 unfold Zac at h ⊢;split at h<;>try exact h
 rename_i k _ _;rcases a k (c (.row k) yG) with e|e
 .rwa [e]at h
 .rw [e]at h;simp at h
theorem Zvi (a:Mk st st' U) {t:Option TI}{x i r:SV}{c:Bool}(A:svU U x) (h:ZhZ st' t x i c=some r):ZhZ st t x i c=some r:=by
 unfold ZhZ at h ⊢;split at h<;>try exact h
 rename_i k;rcases a k (A (.row k) yG) with e|e
 .rwa [e]at h
 .rw [e]at h;simp at h
theorem Zvb (a:Mk st st' U) {x r:SV}(c:svU U x) (h:ZiS st' x=some r):ZiS st x=some r:=by
 unfold ZiS at h ⊢;split at h<;>try exact h
 rename_i k;rcases a k (c (.row k) yG) with e|e
 .rwa [e]at h
 .rw [e]at h;simp at h
theorem ZvU (h:st.ob=st'.ob):∀xs:List AV,Zdf st xs=Zdf st' xs
 | []=>rfl
 |x::r=>by
  have e:avT st x=avT st' x:=by
   cases x with
   |row k=>simp only[avT,h]
   |c y=>cases y<;>rfl
   |_=>rfl
  simp only[Zdf,e,ZvU h r]
theorem Zx2 (h:st.ob=st'.ob) (t:Option TI) (x v:SV):Zgv st t x v=Zgv st' t x v:=by
 unfold Zgv;split
 .rw [h]
 .rw [h];split
  .rename_i vs _ _ _ _ _ _;cases Zga vs with
   |some ys=>rfl
   |none=>simp only[ZnI,ZvU h]
  .rfl
 .rfl
theorem Zp7 [NW] {o:Oper}{B a:Nat->SV}{ob:Nat->Ob}{n n':Nat}(A:∀x∈o.op.operands,∀t,St.ev tt ⟨B,ob,n⟩ t x=St.ev tt ⟨a,ob,n'⟩ t x):opE tt key o ⟨B,ob,n⟩=opE tt key o ⟨a,ob,n'⟩:=by
 obtain ⟨I,op,ty,E,K,J⟩:=o;cases op with
 |build t d=>
  have C:∀D z,d.toList.map (ZgO tt ⟨B,ob,n⟩ D z)=d.toList.map (ZgO tt ⟨a,ob,n'⟩ D z):=λD z=>AO λp C=>by
   have:=A p.2 (by simp [Op.operands];exact ⟨p.1,by simpa using C⟩) 0;unfold ZgO;split
   .rfl
   .rw [this]
  simp only[opE,C]
 |buildSlice t len d=>
  have C:∀e,(d.toList.map λp=>St.ev tt ⟨B,ob,n⟩ e p.2)=d.toList.map λp=>St.ev tt ⟨a,ob,n'⟩ e p.2:=λe=>AO λp C=>A p.2 (by simp [Op.operands];exact ⟨p.1,by simpa using C⟩) e;have G:∀m l,Xj ⟨B,ob,n⟩ m l=Xj ⟨a,ob,n'⟩ m l:=λm l=>by
   have h1:∀x,avT ⟨B,ob,n⟩ x=avT ⟨a,ob,n'⟩ x:=λx=>by cases x<;>rfl
   have h2:∀xs,Zdf ⟨B,ob,n⟩ xs=Zdf ⟨a,ob,n'⟩ xs:=λxs=>by
    induction xs with
    |nil=>rfl
    |cons x xs ih=>simp only[Zdf,h1,ih]
   induction l with
   |nil=>rfl
   |cons x xs ih=>cases x<;>simp only[Xj,h2,ih]
  have F:∀ks,ZM ⟨B,ob,n⟩ ks=ZM ⟨a,ob,n'⟩ ks:=λks=>by
   induction ks with
   |nil=>rfl
   |cons k r ih=>simp only[ZM,ih]
  simp only[opE,C,G,F]
 |slice t x lo hi mx=>
  simp only[Op.operands]at A;cases mx with
  |some _=>rfl
  |none=>
   have hx:=λt=>A x yG t;cases lo with
   |none=>cases hi with
    |none=>simp only[opE,hx,AL];rfl
    |some h=>have hh:=λt=>A h yG t;simp only[opE,hx,hh,AL,AN];rfl
   |some l=>
    have q:=λt=>A l yG t;cases hi with
    |none=>simp only[opE,hx,q,AL,AN];rfl
    |some h=>have hh:=λt=>A h yG t;simp only[opE,hx,q,hh,AN];rfl
 |call c=>
  obtain ⟨g,args,ts⟩:=c;cases g with
  |builtin b=>
   have:=Zee (tt:=tt) (st:=⟨B,ob,n⟩) (st':=⟨a,ob,n'⟩) (ts:=ts.toList) (xs:=args.toList) (λx m t=>A x (by simp [Op.operands,Call.operands];simpa using m) t);simp only[opE,this];unfold ZgG;split<;>rfl
  |value f=>rfl
  |invoke r m=>rfl
 |move x=>have:=λt=>A x (by simp [Op.operands]) t;simp only[opE,this]
 |assign x=>have:=λt=>A x (by simp [Op.operands]) t;simp only[opE,this]
 |pick c x y=>have h1:=λt=>A c (by simp [Op.operands]) t;have h2:=λt=>A x (by simp [Op.operands]) t;have h3:=λt=>A y (by simp [Op.operands]) t;simp only[opE,h1,h2,h3]
 |alloc t=>rfl
 |box t x=>have:=λt=>A x (by simp [Op.operands]) t;simp only[opE,this]
 |load t x=>have:=λt=>A x (by simp [Op.operands]) t;simp only[opE,this];rfl
 |store t x v=>have h1:=λt=>A x (by simp [Op.operands]) t;have h2:=λt=>A v (by simp [Op.operands]) t;simp only[opE,h1,h2];rw [Zx2 (st:=⟨B,ob,n⟩) (st':=⟨a,ob,n'⟩) rfl]
 |nilCheck x=>have:=λt=>A x (by simp [Op.operands]) t;simp only[opE,this]
 |binOp op t x y t'=>have h1:=λt=>A x (by simp [Op.operands]) t;have h2:=λt=>A y (by simp [Op.operands]) t;simp only[opE,h1,h2]
 |unOp op t x=>have:=λt=>A x (by simp [Op.operands]) t;simp only[opE,this]
 |convert s t x=>have:=λt=>A x (by simp [Op.operands]) t;simp only[opE,this];rfl
 |makeFunc fn first j=>
  cases fn with
  |func f=>
   have H:j.toList.map (St.ev tt ⟨B,ob,n⟩ 0)=j.toList.map (St.ev tt ⟨a,ob,n'⟩ 0):=AO λx hx=>A x (by simp [Op.operands];exact .inr (by simpa using hx)) 0;simp only[opE,H,ZmW (st:=⟨B,ob,n⟩) (st':=⟨a,ob,n'⟩) rfl]
  |_=>rfl
 |makeMap t r=>cases r<;>rfl
 |lookup t x i ok=>have h1:=λt=>A x (by simp [Op.operands]) t;have h2:=λt=>A i (by simp [Op.operands]) t;simp only[opE,h1,h2];rfl
 |mapUpdate t x i v=>have h1:=λt=>A x (by simp [Op.operands]) t;have h2:=λt=>A i (by simp [Op.operands]) t;have h3:=λt=>A v (by simp [Op.operands]) t;simp only[opE,h1,h2,h3];rfl
 |makeSlice t x y=>have h1:=λt=>A x (by simp [Op.operands]) t;have h2:=λt=>A y (by simp [Op.operands]) t;simp only[opE,h1,h2]
 |fieldAddr t x f=>have:=λt=>A x (by simp [Op.operands]) t;simp only[opE,this]
 |field t x f=>have:=λt=>A x (by simp [Op.operands]) t;simp only[opE,this]
 |indexAddr t x y=>have h1:=λt=>A x (by simp [Op.operands]) t;have h2:=λt=>A y (by simp [Op.operands]) t;simp only[opE,h1,h2];rfl
 |index t x y=>have h1:=λt=>A x (by simp [Op.operands]) t;have h2:=λt=>A y (by simp [Op.operands]) t;simp only[opE,h1,h2]
 |extract x i=>have:=λt=>A x (by simp [Op.operands]) t;simp only[opE,this]
 |_=>rfl
theorem Zwb (c:Nat->SV) (ob ob':Nat->Ob) (n n' t:Nat) (x:Operand):St.ev tt ⟨c,ob,n⟩ t x=St.ev tt ⟨c,ob',n'⟩ t x:=by cases x<;>rfl
theorem ZyS {st st':St}(h:∀k,U k->st.ob k=st'.ob k) {x:AV}(A:avU U x):avT st x=avT st' x:=by
 cases x with
 |row k=>simp only[avT];rw [h k A]
 |c x=>cases x<;>rfl
 |nil e m=>rfl
 |n x=>rfl
 |dead=>rfl
theorem Zp2 [NW] {st st':St}(h:∀k,U k->st.ob k=st'.ob k):∀{xs:List AV},XX U xs->Zdf st xs=Zdf st' xs
 | [],_=>rfl
 |x::r,hx=>by simp only[Zdf];rw [ZyS h (hx x yG),Zp2 h λy m=>hx y (by simp [m])]
theorem Zlu [NW] {st st':St}{m:Nat}(h:∀k,U k->st.ob k=st'.ob k):∀{xs:List SV},(∀v∈xs,svU U v)->Xj st m xs=Xj st' m xs
 | [],_=>rfl
 |.p a cs::r,hx=>by
  simp only[Xj];rw [Zp2 h (hx (.p a cs) yG),Zlu h λv c=>hx v (by simp [c])]
 |.any::r,_=>rfl
 |.und::r,_=>rfl
 |.tup _::r,_=>rfl
 |.bp _ _::r,_=>rfl
 |.rp _ _ _ _::r,_=>rfl
 |.ep _ _::r,_=>rfl
 |.fn _::r,_=>rfl
theorem Zxs {x:AV}{C:CT}{ks:List Nat}{d:Nat}(h:avT st x=some (C,ks,d)) (B:avU U x):∀k∈ks,U k:=by
 intro k A;cases x with
 |c y=>cases y<;>simp only[avT,A0,A4]at h<;>(rw [<-h.2.1]at A;simp at A)
 |nil e m=>
  simp only[avT]at h;split at h<;>simp only[A0,A4,reduceCtorEq]at h
  rw [<-h.2.1]at A;simp at A
 |row j=>
  simp only[avT]at h;split at h
  .split at h<;>simp only[A0,A4]at h
   .rw [<-h.2.1]at A;simp at A
   .rw [<-h.2.1]at A;simp at A;subst A;exact B
  .simp at h
 |n x=>simp [avT]at h
 |dead=>simp [avT]at h
theorem Znx [NW]:∀{xs:List AV}{cts:List CT}{ks:List Nat}{d:Nat},Zdf st xs=some (cts,ks,d)->XX U xs->∀k∈ks,U k
 | [],_,_,_,h,_,k,c=>by simp only[Zdf,A0,A4]at h;rw [<-h.2.1]at c;simp at c
 |x::r,_,_,_,h,hu,k,c=>by
  simp only[Zdf]at h;obtain ⟨⟨H,E,G⟩,C,h⟩:=AC.1 h;obtain ⟨⟨c2,D,F⟩,B,h⟩:=A9.1 h;simp only[A4]at h;rw [<-h.2.1]at c;rcases A6.1 c with c|c
  .exact Zxs C (hu x yG) k c
  .exact Znx B (λy A=>hu y (by simp [A])) k c
theorem Zgz [NW] {m:Nat}:∀{xs:List SV}{D:List (List CT)}{ks:List Nat}{d:Nat},Xj st m xs=some (D,ks,d)->(∀v∈xs,svU U v)->∀k∈ks,U k
 | [],_,_,_,h,_,k,c=>by simp only[Xj,A0,A4]at h;rw [<-h.2.1]at c;simp at c
 |x::r,_,_,_,h,hu,k,c=>by
  cases x with
  |p a cs=>
   simp only[Xj]at h;split at h
   .obtain ⟨⟨I,F,H⟩,C,h⟩:=AC.1 h;obtain ⟨⟨c2,E,G⟩,B,h⟩:=A9.1 h;simp only[A4]at h;rw [<-h.2.1]at c;rcases A6.1 c with c|c
    .exact Znx C (hu (.p a cs) yG) k c
    .exact Zgz B (λv A=>hu v (by simp [A])) k c
   .simp at h
  |_=>simp [Xj]at h
theorem Ztp {st st':St}{ks:List Nat}(h:∀k∈ks,st.ob k=st'.ob k):ZM st ks=ZM st' ks:=by
 induction ks with
 |nil=>rfl
 |cons k r ih=>simp only[ZM,h k yG,ih λj c=>h j (by simp [c])]
theorem Znf {ks:List Nat}{p:Nat×Ob}(h:p∈ZM st ks):p.1∈ks/\p.2=Ye (st.ob p.1):=by
 induction ks with
 |nil=>simp [ZM]at h
 |cons k r ih=>
  simp only[ZM,AF]at h;rcases h with rfl|h
  .exact ⟨yG,rfl⟩
  .exact ⟨by simp [(ih h).1],(ih h).2⟩
theorem Zmp [NW] {hs:FuncId->Nat}{o:Oper}{D:Nat->SV}{ob ob':Nat->Ob}{n n':Nat}(h:cls tt hs o.op=0\/(cls tt hs o.op<=3/\(∀k,U k->ob k=ob' k)/\∀t x,svU U (St.ev tt ⟨D,ob,n⟩ t x))\/(cls tt hs o.op<=1/\Wk ⟨D,ob,n⟩ ⟨D,ob',n'⟩ U/\∀t x,svU U (St.ev tt ⟨D,ob,n⟩ t x))):opE tt key o ⟨D,ob,n⟩=opE tt key o ⟨D,ob',n'⟩:=by
 have he:=λt x=>Zwb (tt:=tt) D ob ob' n n' t x;have q:cls tt hs o.op<=3:=by rcases h with h|h|h<;>omega
 have j:cls tt hs o.op=0\/(Wk ⟨D,ob,n⟩ ⟨D,ob',n'⟩ U/\∀t x,svU U (St.ev tt ⟨D,ob',n'⟩ t x)):=by
  rcases h with h|h|h
  .exact .inl h
  .exact .inr ⟨λk hk=>.inl (h.2.1 k hk).symm,λt x=>he t x ▸ h.2.2 t x⟩
  .exact .inr ⟨h.2.1,λt x=>he t x ▸ h.2.2 t x⟩
 obtain ⟨S,op,ty,K,V,T⟩:=o;cases op with
 |build t d=>
  have J:∀I z,d.toList.map (ZgO tt ⟨D,ob,n⟩ I z)=d.toList.map (ZgO tt ⟨D,ob',n'⟩ I z):=λI z=>AO λp J=>by
   unfold ZgO;split
   .rfl
   .rw [he]
  simp only[opE,J]
 |buildSlice t len d=>
  have R:2<=cls tt hs (.buildSlice t len d):=by simp only[cls];split<;>omega
  have H:(∀k,U k->ob k=ob' k)/\∀t x,svU U (St.ev tt ⟨D,ob,n⟩ t x):=by
   rcases h with h|h|h
   .simp only at h;omega
   .exact h.2
   .simp only at h;omega
  obtain ⟨E,F⟩:=H;simp only[opE,he];split
  .rename_i e m _ z _;have G:∀v∈d.toList.map (λp=>St.ev tt ⟨D,ob',n'⟩ e p.2),svU U v:=λv L=>by obtain ⟨p,_,rfl⟩:=AA.1 L;rw [<-he];exact F _ _
   rw [Zlu (U:=U) (st:=⟨D,ob,n⟩) (st':=⟨D,ob',n'⟩) E G];cases hel:Xj ⟨D,ob',n'⟩ m (d.toList.map λp=>St.ev tt ⟨D,ob',n'⟩ e p.2) with
   |none=>rfl
   |some a=>
    have hk:=Zgz (U:=U) hel G;have:=Ztp (st:=⟨D,ob,n⟩) (st':=⟨D,ob',n'⟩) (ks:=a.2.1) (λk M=>E k (hk k M));simp only[AP,this]
  .rfl
 |load t x=>
  obtain ⟨E,F⟩:=j.resolve_left (by simp [cls]);simp only[opE,he];rw [Zuu (U:=U) (st:=⟨D,ob,n⟩) (st':=⟨D,ob',n'⟩) E (F 0 x)]
 |indexAddr t x y=>
  obtain ⟨E,F⟩:=j.resolve_left (by simp [cls]);simp only[opE,he];split
  .rw [Zq9 (U:=U) (st:=⟨D,ob,n⟩) (st':=⟨D,ob',n'⟩) E (F 0 x)]
  .rfl
 |call c=>
  obtain ⟨u,args,ts⟩:=c;cases u with
  |builtin b=>
   have A:evs tt ⟨D,ob,n⟩ ts.toList args.toList=evs tt ⟨D,ob',n'⟩ ts.toList args.toList:=Zee λx _ t=>he t x;simp only[opE,A];unfold ZgG;split
   .rename_i t _ v P B;obtain ⟨E,F⟩:=j.resolve_left (by simp [cls]);have G:svU U v:=by
     have O:v∈evs tt ⟨D,ob',n'⟩ ts.toList args.toList:=by simp [B]
     obtain ⟨p,_,rfl⟩:=AA.1 O;exact F _ _
    rw [ZxH (U:=U) (st:=⟨D,ob,n⟩) (st':=⟨D,ob',n'⟩) E G]
   .simp [cls]at q
   .rfl
   .rfl
   .rfl
  |value f=>rfl
  |invoke r m=>rfl
 |store t x v=>simp [cls]at q
 |makeFunc fn first caps=>simp [cls]at q
 |mapUpdate t x i v=>simp [cls]at q
 |makeMap t r=>cases r<;>rfl
 |lookup t x i ok=>
  obtain ⟨E,F⟩:=j.resolve_left (by simp [cls]);simp only[opE,he];rw [Zvk (U:=U) (st:=⟨D,ob,n⟩) (st':=⟨D,ob',n'⟩) E (F 0 x)]
 |convert s t x=>
  simp only[opE,he];by_cases w:Zde (tt t)=true
  .obtain ⟨E,F⟩:=j.resolve_left (by simp [cls,w]);rw [Zu9 (U:=U) (st:=⟨D,ob,n⟩) (st':=⟨D,ob',n'⟩) E (F 0 x)]
  .have e:∀st:St,Zhi tt st s t (St.ev tt ⟨D,ob',n'⟩ 0 x)=Zsa (tt s) (tt t) (St.ev tt ⟨D,ob',n'⟩ 0 x):=λst=>by
    unfold Zhi;rw [if_neg (by simp [w])]
   rw [e,e]
 |slice t x lo hi mx=>
  cases mx with
  |some _=>rfl
  |none=>
   by_cases g:Zde (tt t)=true
   .have C:Zce (tt t)=false:=by
     unfold Zde at g;split at g
     .rename_i e;rw [e];rfl
     .simp at g
    have G:∀l h v,Zay ⟨D,ob,n⟩ key (tt t) l h v=Zay ⟨D,ob',n'⟩ key (tt t) l h v:=λl h v=>by
     unfold Zay;split
     .simp [C]
     .rfl
     .rfl
    cases lo<;>cases hi<;>simp only[opE,he,AL,AN,G]
   .have R:2<cls tt hs (.slice t x lo hi none):=by simp only[cls];rw [if_neg g];split<;>omega
    have H:(∀k,U k->ob k=ob' k)/\∀t x,svU U (St.ev tt ⟨D,ob,n⟩ t x):=by
     rcases h with h|h|h
     .simp only at h;omega
     .exact h.2
     .simp only at h;omega
    obtain ⟨E,F⟩:=H;have G:∀l h v,svU U v->Zay ⟨D,ob,n⟩ key (tt t) l h v=Zay ⟨D,ob',n'⟩ key (tt t) l h v:=λl h v N=>by
     unfold Zay;split
     .rename_i k;have hk:U k:=N (.row k) yG;simp only[E k hk]
     .rfl
     .rfl
    simp only[opE,he];exact G _ _ _ (he 0 x ▸ F 0 x)
 |_=>first|rfl|simp only[opE,he]
theorem ZeT {x y:Option SV}{r:SV×List (Nat×Ob)}(h:∀v,x=some v->y=some v) (c:ZbM x=some r):ZbM y=some r:=by
 obtain ⟨v,A,rfl⟩:=A9.1 c;rw [h v A];rfl
theorem Zzp [NW] {hs:FuncId->Nat}{o:Oper}{B:Nat->SV}{ob ob':Nat->Ob}{n n':Nat}{r:SV×List (Nat×Ob)}(C:cls tt hs o.op<=1) (a:Mk ⟨B,ob,n⟩ ⟨B,ob',n'⟩ U) (D:∀t x,svU U (St.ev tt ⟨B,ob,n⟩ t x)) (h:opE tt key o ⟨B,ob',n'⟩=some r):opE tt key o ⟨B,ob,n⟩=some r:=by
 have he:=λt x=>Zwb (tt:=tt) B ob ob' n n' t x;by_cases F:cls tt hs o.op=0
 .rw [Zmp (U:=U) (n':=n') (ob':=ob') (.inl F)];exact h
 obtain ⟨L,op,ty,G,N,M⟩:=o;cases op with
 |load t x=>
  simp only[opE,he]at h ⊢;exact ZeT (λv A=>Zvc a (he 0 x ▸ D 0 x) A) h
 |indexAddr t x y=>
  simp only[opE,he]at h ⊢;split at h
  .exact ZeT (λv A=>ZrI a (he 0 x ▸ D 0 x) A) h
  .simp at h
 |lookup t x i ok=>
  simp only[opE,he]at h ⊢;exact ZeT (λv A=>Zvi a (he 0 x ▸ D 0 x) A) h
 |convert s t x=>
  simp only[opE,he]at h ⊢;refine ZeT (λv A=>?_) h;unfold Zhi at A ⊢;split at A
  .rename_i E;rw [if_pos E];exact Zvb a (he 0 x ▸ D 0 x) A
  .rename_i E;rw [if_neg E];exact A
 |call c=>
  obtain ⟨d,args,ts⟩:=c;cases d with
  |builtin b=>
   have e:evs tt ⟨B,ob,n⟩ ts.toList args.toList=evs tt ⟨B,ob',n'⟩ ts.toList args.toList:=Zee λx _ t=>he t x;simp only[opE,e]at h ⊢;unfold ZgG at h ⊢;split at h
   .rename_i t _ v K g;have j:svU U v:=by
     have J:v∈evs tt ⟨B,ob',n'⟩ ts.toList args.toList:=by simp [g]
     obtain ⟨p,_,rfl⟩:=AA.1 J;rw [<-he];exact D _ _
    exact ZeT (λw H=>Zw3 a j H) h
   .simp [cls]at C
   .exact h
   .exact h
   .exact h
  |value f=>exact h
  |invoke r m=>exact h
 |slice t x lo hi mx=>simp only[cls]at C F;split at C<;>rename_i I<;>simp [I]at F<;>(split at C<;>omega)
 |buildSlice t len parts=>simp only[cls]at C;split at C<;>omega
 |store t x v=>simp [cls]at C
 |makeFunc fn first caps=>simp [cls]at C
 |mapUpdate t x i v=>simp [cls]at C
 |makeMap t r=>cases r<;>exact h
 |_=>first|exact h|(simp only[opE,he]at h ⊢;exact h)
theorem YN:∀(cts:List (Bool×CT)) (key:Nat),key<=(ZI key cts).2.2/\∀p∈(ZI key cts).2.1,key<=p.1/\p.1<(ZI key cts).2.2
 | [],key=>by simp [ZI]
 |(true,x)::r,key=>YN r key
 |(false,ct)::r,key=>by
  cases ct with
  |sl e m xs=>
   obtain ⟨B,A⟩:=YN r (key+1);refine ⟨by simp only[ZI];omega,λp c=>?_⟩;simp only[ZI,AF]at c ⊢;rcases c with rfl|c
   .exact ⟨AD _,by simp only;omega⟩
   .have:=A p c;omega
  |int k n=>exact YN r key
  |bool b=>exact YN r key
  |str s=>exact YN r key
  |ifc s=>exact YN r key
  |any=>exact YN r key
  |nl a b=>exact YN r key
  |pt s=>exact YN r key
  |fn f s=>exact YN r key
  |mp a b s=>exact YN r key
theorem Zh4 [NW]:∀(a:List RT) (key:Nat),key<=(ZD key a).2.2/\∀p∈(ZD key a).2.1,key<=p.1/\p.1<(ZD key a).2.2
 | [],key=>by simp [ZD]
 |x::r,key=>by
  obtain ⟨D,B⟩:=YN x.2 key;obtain ⟨C,A⟩:=Zh4 r (ZI key x.2).2.2;refine ⟨by simp only[ZD];omega,λp c=>?_⟩;simp only[ZD,A6]at c ⊢;rcases c with c|c
  .have:=B p c;omega
  .have:=A p c;omega
theorem YX {v:Option SV}{r:SV×List (Nat×Ob)}(h:ZbM v=some r):r.2=[]:=by
 obtain ⟨u,_,rfl⟩:=A9.1 h;rfl
theorem ZAL [NW] {hs:FuncId->Nat}{o:Oper}{r:SV×List (Nat×Ob)}(G:∀t x,svU U (st.ev tt t x)) (h:opE tt key o st=some r):(cls tt hs o.op=0->r.2=[])/\(cls tt hs o.op<=2->∀p∈r.2,key<=p.1/\p.1<key+16)/\(cls tt hs o.op<=3->∀p∈r.2,(key<=p.1/\p.1<key+16)\/(U p.1/\p.2=Ye (st.ob p.1))):=by
 have D:r.2=[]->(cls tt hs o.op=0->r.2=[])/\(cls tt hs o.op<=2->∀p∈r.2,key<=p.1/\p.1<key+16)/\(cls tt hs o.op<=3->∀p∈r.2,(key<=p.1/\p.1<key+16)\/(U p.1/\p.2=Ye (st.ob p.1))):=λe=>⟨λ_=>e,λ_ p C=>by simp [e]at C,λ_ p C=>by simp [e]at C⟩
 obtain ⟨P,op,ty,H,V,T⟩:=o;cases op with
 |move x=>simp only[opE,A0]at h;exact D (by rw [<-h])
 |assign x=>simp only[opE,A0]at h;exact D (by rw [<-h])
 |pick c x y=>
  simp only[opE]at h;split at h
  .simp only[A0]at h;exact D (by rw [<-h])
  .simp at h
 |alloc t=>
  simp only[opE]at h;obtain ⟨z,_,rfl⟩:=A9.1 h;exact ⟨λe=>by simp [cls]at e,λ_ p C=>by simp at C;subst C;simp,λ_ p C=>by simp at C;subst C;simp⟩
 |box t x=>
  simp only[opE]at h;split at h
  .simp only[A0]at h;subst h;exact ⟨λe=>by simp [cls]at e,λ_ p C=>by simp at C;subst C;simp,λ_ p C=>by simp at C;subst C;simp⟩
  .simp at h
 |build t a=>
  simp only[opE]at h;split at h
  .obtain ⟨cs,_,rfl⟩:=A9.1 h;exact D rfl
  .simp at h
 |buildSlice t len a=>
  simp only[opE]at h;split at h
  .obtain ⟨⟨xs,ks,d⟩,F,h⟩:=AC.1 h;split at h
   .simp only[A0]at h;subst h;rename_i O _ _ z q l;have N:∀v∈a.toList.map (λp=>st.ev tt O p.2),svU U v:=λv K=>by obtain ⟨p,_,rfl⟩:=AA.1 K;exact G _ _
    have hk:=Zgz (U:=U) F N;refine ⟨λe=>by simp only[cls]at e;split at e<;>simp at e,λe p C=>?_,λe p C=>?_⟩
    .by_cases hs:a.size=0
     .have:a=#[]:=by simpa using hs
      subst this;simp [Xj]at F;obtain ⟨_,rfl,_⟩:=F;simp [ZM]at C;subst C;simp
     .by_cases E:ZzF (tt t)=true
      .have L:z.all Zk7=true:=by rw [q]at E;exact E
       have u:ks=[]:=by
        have h3:=l.2.2.2;rw [L]at h3;simpa using h3
       subst u;simp [ZM]at C;subst C;simp
      .simp [cls,hs,E]at e
    .rcases A6.1 C with C|C
     .obtain ⟨J,I⟩:=Znf C;exact .inr ⟨hk _ J,I⟩
     .simp at C;subst C;simp
   .simp at h
  .simp at h
 |load t x=>exact D (YX h)
 |store t x v=>exact ⟨λe=>by simp [cls]at e,λe=>by simp [cls]at e,λe=>by simp [cls]at e⟩
 |makeFunc fn first caps=>exact ⟨λe=>by simp [cls]at e,λe=>by simp [cls]at e,λe=>by simp [cls]at e⟩
 |mapUpdate t x i v=>exact ⟨λe=>by simp [cls]at e,λe=>by simp [cls]at e,λe=>by simp [cls]at e⟩
 |lookup t x i ok=>exact D (YX h)
 |makeMap t r=>
  cases r with
  |none=>
   simp only[opE,Zqh]at h;split at h
   .simp only[A0]at h;subst h;exact ⟨λe=>by simp [cls]at e,λ_ p C=>by simp at C;subst C;simp,λ_ p C=>by simp at C;subst C;simp⟩
   .simp at h
  |some _=>simp [opE]at h
 |nilCheck x=>
  simp only[opE]at h;split at h<;>simp only[A0,reduceCtorEq]at h<;>exact D (by rw [<-h])
 |binOp op t x y t'=>exact D (YX h)
 |unOp op t x=>exact D (YX h)
 |convert s t x=>exact D (YX h)
 |makeSlice t n c=>
  simp only[opE,ZsX]at h;split at h
  .split at h
   .obtain ⟨R,_,h⟩:=AC.1 h;split at h
    .simp only[A0]at h;subst h;exact ⟨λe=>by simp [cls]at e,λ_ p C=>by simp at C;subst C;simp,λ_ p C=>by simp at C;subst C;simp⟩
    .simp at h
   .simp at h
  .simp at h
 |slice t x lo hi mx=>
  cases mx with
  |some _=>simp [opE]at h
  |none=>
   by_cases g:Zde (tt t)=true
   .have w:Zce (tt t)=false:=by
     unfold Zde at g;split at g
     .rename_i e;rw [e];rfl
     .simp at g
    refine D ?_;simp only[opE,Zay]at h;split at h
    .simp [w]at h
    .obtain ⟨v,_,rfl⟩:=A9.1 h;rfl
    .simp at h
   .have S:3<=cls tt hs (.slice t x lo hi none):=by simp only[cls];rw [if_neg g];split<;>omega
    refine ⟨λe=>by simp only at e;omega,λe=>by simp only at e;omega,λe p C=>?_⟩;have A:∀d,mvS d (lo.map (st.ev tt 0)) (hi.map (st.ev tt 0))=false:=λd=>by
     cases lo with
     |none=>rfl
     |some _=>cases hi with
      |none=>simp [cls,g]at e
      |some _=>rfl
    simp only[opE,Zay]at h;split at h
    .rename_i k M;have hk:U k:=by
      have:=G 0 x;rw [M]at this;exact this (.row k) yG
     split at h
     .split at h
      .rename_i B;split at h
       .rw [A,if_neg yG]at h;obtain ⟨_,_,h⟩:=AC.1 h;obtain ⟨_,_,rfl⟩:=A9.1 h;simp at C;subst C;exact .inr ⟨hk,by rw [B];rfl⟩
       .simp at h
      .simp at h
     .simp at h
    .obtain ⟨v,_,rfl⟩:=A9.1 h;simp at C
    .simp at h
 |fieldAddr t x f=>
  simp only[opE]at h;split at h
  .exact D (YX h)
  .simp at h
 |field t x f=>
  simp only[opE]at h;split at h
  .exact D (YX h)
  .simp at h
 |indexAddr t x i=>
  simp only[opE]at h;split at h
  .exact D (YX h)
  .simp at h
 |index t x i=>exact D (YX h)
 |extract x i=>exact D (YX h)
 |call c=>
  obtain ⟨j,args,ts⟩:=c;cases j with
  |builtin b=>
   simp only[opE,ZgG]at h;split at h
   .exact D (YX h)
   .exact ⟨λe=>by simp [cls]at e,λe=>by simp [cls]at e,λe=>by simp [cls]at e⟩
   .exact D (YX h)
   .exact D (YX h)
   .simp at h
  |value f=>simp [opE]at h
  |invoke r m=>simp [opE]at h
 |_=>simp [opE]at h
theorem Zbz {hs:FuncId->Nat}{o:Op}{c:FuncId×List TypeId×List Operand}(h:YS o=some c):cls tt hs o=if hs c.1=0\/hs c.1=4 then 1 else 4:=by
 unfold YS at h;split at h
 .simp only[A0]at h;rw [<-h];rfl
 .simp at h
theorem Znp {o:Op}{c:Nat×List TypeId×List Operand}(h:Xm o=some c):∃args ts,o=.call ⟨.value (.tmp c.1),args,ts⟩/\c.2.1=ts.toList/\c.2.2=args.toList:=by
 unfold Xm at h;split at h
 .rename_i s args ts;simp only[A0]at h;rw [<-h];exact ⟨args,ts,rfl,rfl,rfl⟩
 .simp at h
theorem Zg8 [NW] {hs:FuncId->Nat}{o:Op}{c:Nat×List TypeId×List Operand}(h:Xm o=some c):cls tt hs o=4:=by
 obtain ⟨args,ts,rfl,_⟩:=Znp h;rfl
theorem Zmu [NW] (F:∀t x,svU U (st.ev tt t x)) {all:List Oper}{o:Oper}{v:SV}{u:List (Nat×Ob)}(h:opR tt S all key o st v u):(cls tt S.hd o.op=0->u=[])/\(cls tt S.hd o.op<=2->∀p∈u,key<=p.1/\p.1<key+16)/\(cls tt S.hd o.op<=3->∀p∈u,(key<=p.1/\p.1<key+16)\/(U p.1/\p.2=Ye (st.ob p.1))):=by
 have C:u=[]->(cls tt S.hd o.op=0->u=[])/\(cls tt S.hd o.op<=2->∀p∈u,key<=p.1/\p.1<key+16)/\(cls tt S.hd o.op<=3->∀p∈u,(key<=p.1/\p.1<key+16)\/(U p.1/\p.2=Ye (st.ob p.1))):=λe=>⟨λ_=>e,λ_ p B=>by simp [e]at B,λ_ p B=>by simp [e]at B⟩
 have b:ZaF tt S key o st v u->(cls tt S.hd o.op=0->u=[])/\(cls tt S.hd o.op<=2->∀p∈u,key<=p.1/\p.1<key+16)/\(cls tt S.hd o.op<=3->∀p∈u,(key<=p.1/\p.1<key+16)\/(U p.1/\p.2=Ye (st.ob p.1))):=λh=>by
  unfold ZaF at h;split at h
  .rename_i c D;by_cases A:S.hd c.1=0\/S.hd c.1=4
   .have G:∃a,(ZD key a).2.2<=key+16/\u=(ZD key a).2.1:=by
     rcases A with A|A
     .rw [A]at h;obtain ⟨l,a,_,_,_,E,_,e⟩:=h;exact ⟨a,E,e⟩
     .rw [A]at h;obtain ⟨l,a,_,_,_,E,_,e⟩:=h;exact ⟨a,E,e⟩
    obtain ⟨a,E,rfl⟩:=G;have B:∀p∈(ZD key a).2.1,key<=p.1/\p.1<key+16:=λp B=>by
     have:=(Zh4 a key).2 p B;omega
    exact ⟨λe=>by rw [Zbz D,if_pos A]at e;simp at e,λ_=>B,λ_ p m=>.inl (B p m)⟩
   .refine ⟨λe=>by rw [Zbz D,if_neg A]at e;simp at e,λe=>by rw [Zbz D,if_neg A]at e;simp at e,λe=>by rw [Zbz D,if_neg A]at e;simp at e⟩
  .split at h
   .rename_i c D;have h4:=Zg8 (tt:=tt) (hs:=S.hd) D;exact ⟨λe=>by rw [h4]at e;simp at e,λe=>by rw [h4]at e;simp at e,λe=>by rw [h4]at e;simp at e⟩
   .exact ZAL F h
 unfold opR at h;split at h
 .exact b h
 .exact C h.2
 .unfold gK at h;split at h
  .split at h
   .exact b h
   .exact C h.2
  .split at h
   .exact C h.2
   .exact h.elim
theorem Zco (h:st.ob=st'.ob):∀ks:List Nat,ZM st ks=ZM st' ks
 | []=>rfl
 |k::r=>by simp only[ZM,Zco h r,h]
theorem ZG5 (s:SV):svU (λ_=>True) s:=by
 cases s<;>first|trivial|(intro y c;cases y<;>trivial)|(intro y c z A;cases z<;>trivial)
theorem ZwU [NW] (h:st.ob=st'.ob) (v:SV):Zgy st v=Zgy st' v:=by
 have c:∀cs,YQ st cs=YQ st' cs:=λcs=>ZhM (U:=λ_=>True) (λk _=>.inl (by rw [h])) (λx _=>by cases x<;>trivial)
 unfold Zgy;split
 .rw [h];split
  .rw [c]
  .rfl
 .rw [h]
 .rfl
theorem ZkZ (h:st.ob=st'.ob):∀xs:List AV,YJ st xs=YJ st' xs
 | []=>rfl
 |x::r=>by
  have e:ZfV st x=ZfV st' x:=by
   cases x with
   |row k=>simp only[ZfV,h]
   |c y=>cases y<;>rfl
   |_=>rfl
  simp only[YJ,e,ZkZ h r]
theorem Zpl (h:st.ob=st'.ob) (v:SV):ZdA st v=ZdA st' v:=by
 unfold ZdA;split
 .rw [h];split
  .rw [ZkZ h]
  .rfl
 .rfl
theorem Zri (h:st.ob=st'.ob) (vs:List SV):Zjz st vs=Zjz st' vs:=by
 unfold Zjz;split
 .rfl
 .rw [ZkZ h]
 .rfl
theorem ZnK [NW] (h:st.ob=st'.ob) {f:FuncId}{n:Nat}{vs:List SV}{v:SV}{u:List (Nat×Ob)}:Zag S f n key st vs v u↔Zag S f n key st' vs v u:=by
 have hs:∀xs,ZT st xs=ZT st' xs:=λxs=>Zfb (U:=λ_=>True) (λk _=>.inl (by rw [h])) (λx _=>ZG5 x);unfold Zag;split
 .simp only[hs]
 .simp only[hs,ZwU h,Zco h]
 .simp only[hs,Zco h]
 .simp only[hs]
 .simp only[hs,Zpl h,Zri h,Zco h]
 .simp only[hs,Zco h]
theorem ZwL [NW] {o:Oper}{v:SV}{u:List (Nat×Ob)}(E:∀x∈o.op.operands,∀t,st.ev tt t x=st'.ev tt t x)
  (a:cls tt S.hd o.op=0\/st.ob=st'.ob\/(∀t x,svU U (st.ev tt t x))/\((cls tt S.hd o.op<=3/\∀k,U k->st.ob k=st'.ob k)\/(cls tt S.hd o.op<=1/\Wk st st' U))):ZaF tt S key o st v u↔ZaF tt S key o st' v u:=by
 cases A:YS o.op with
 |some c=>
  simp only[ZaF,A];have l:∃args ts,o.op=.call ⟨.value (.func c.1),args,ts⟩/\c.2.1=ts.toList/\c.2.2=args.toList:=by
   unfold YS at A;split at A
   .rename_i f args ts N;simp only[A0]at A;rw [<-A];exact ⟨args,ts,N,rfl,rfl⟩
   .simp at A
  obtain ⟨args,ts,D,O,K⟩:=l;have d:evs tt st c.2.1 c.2.2=evs tt st' c.2.1 c.2.2:=Zee λx m t=>E x (by rw [D];rw [K]at m;simp [Op.operands,Call.operands];exact .inr (by simpa using m)) t;rw [<-d];rcases a with e|a|⟨C,a⟩
  .rw [Zbz A]at e;split at e<;>simp at e
  .exact ZnK a
  .have g:cls tt S.hd o.op<=3:=by rcases a with h|h<;>omega
   have j:Wk st st' U:=by
    rcases a with h|h
    .exact .of h.2
    .exact h.2
   have B:S.hd c.1=0\/S.hd c.1=4:=by
    rw [Zbz A]at g;split at g
    .assumption
    .simp at g
   have b:∀x∈evs tt st c.2.1 c.2.2,svU U x:=λx F=>by
    obtain ⟨p,_,rfl⟩:=AA.1 F;exact C _ _
   rcases B with B|B
   .have i:ZT st (evs tt st c.2.1 c.2.2)=ZT st' (evs tt st c.2.1 c.2.2):=Zfb (U:=U) j b;rw [B];simp only[Zag,i]
   .have i:ZT st ((evs tt st c.2.1 c.2.2).map nlS)=ZT st' ((evs tt st c.2.1 c.2.2).map nlS):=Zfb (U:=U) j (λx F=>by
     obtain ⟨y,M,rfl⟩:=AA.1 F;exact ZyQ (b y M))
    rw [B];simp only[Zag,i]
 |none=>
  simp only[ZaF,A];have:opE tt key o st=opE tt key o st':=by
   obtain ⟨sl,ob,n⟩:=st;obtain ⟨q,ob',n'⟩:=st';have L:opE tt key o ⟨q,ob',n'⟩=opE tt key o ⟨sl,ob',n⟩:=Zp7 λx m t=>by
    rw [<-E x m t];exact Zwb _ _ _ _ _ _ _
   rw [L];rcases a with A|a|⟨C,⟨A,a⟩|⟨A,a⟩⟩
   .exact Zmp (U:=U) (.inl A)
   .simp only at a;subst a;rfl
   .exact Zmp (U:=U) (.inr (.inl ⟨A,a,C⟩))
   .exact Zmp (U:=U) (.inr (.inr ⟨A,a,C⟩))
  cases hd:Xm o.op with
  |none=>simp only[this]
  |some c=>
   simp only;obtain ⟨args,ts,D,O,K⟩:=Znp hd;have d:evs tt st c.2.1 c.2.2=evs tt st' c.2.1 c.2.2:=Zee λx m t=>E x (by rw [D];rw [K]at m;simp [Op.operands,Call.operands];exact .inr (by simpa using m)) t;have w:st.sl c.1=st'.sl c.1:=E (.tmp c.1) (by rw [D];simp [Op.operands,Call.operands]) 0;have h4:=Zg8 (tt:=tt) (hs:=S.hd) hd;rcases a with B|B|⟨_,⟨B,_⟩|⟨B,_⟩⟩
   .omega
   .rw [d,w];constructor
    .rintro ⟨G,J,I,H⟩;exact ⟨G,J,I,(ZnK B).1 H⟩
    .rintro ⟨G,J,I,H⟩;exact ⟨G,J,I,(ZnK B).2 H⟩
   .omega
   .omega
theorem Q6 [NW] {a:Array Oper}{o:Oper}{v:SV}{u:List (Nat×Ob)}(B:∀s∈o.looksAt a,st.sl s=st'.sl s)
  (b:cls tt S.hd o.op=0\/st.ob=st'.ob\/(∀t x,svU U (st.ev tt t x))/\((cls tt S.hd o.op<=3/\∀k,U k->st.ob k=st'.ob k)\/(cls tt S.hd o.op<=1/\Wk st st' U))):opR tt S a.toList key o st v u↔opR tt S a.toList key o st' v u:=by
 have c:∀x∈o.op.operands,∀t,st.ev tt t x=st'.ev tt t x:=λx m t=>by
  cases x with
  |tmp s=>exact B s (by
    unfold Oper.looksAt;refine A6.2 (.inl (Ai.2 ⟨.tmp s,by simpa using m,rfl⟩)))
  |_=>rfl
 have h1:=ZwL (S:=S) (key:=key) (v:=v) (u:=u) c b;unfold opR;cases hg:Za8 a.toList o with
 |none=>exact h1
 |some q=>
  obtain ⟨q,A⟩:=q;cases q with
  |none=>rfl
  |some t=>
   have C:st.sl t=st'.sl t:=B t (by
    unfold Za8 at hg;split at hg
    .simp at hg
    .rename_i g d;simp only[A0,A4]at hg;unfold Oper.looksAt;refine A6.2 (.inr ?_);rw [d];have:(a[g.1]?).bind (·.dst)=some t:=by simpa using hg.1
     simp [this])
   simp only[gK,C,h1]
theorem ZIa [NW] (c:StU U st) (t:Nat) (x:Operand):svU U (st.ev tt t x):=by
 cases x with
 |tmp s=>exact c.sl s
 |const v=>
  show svU U (cvT (tt t) v)
  unfold cvT;split
  .exact XW _
  .exact XW _
  .split
   .exact XW _
   .trivial
  .split
   .intro y m;simp at m;subst m;trivial
   .trivial
  .trivial
 |global _=>trivial
 |func _=>trivial
theorem Qh [NW]:∀{u:List (Nat×Ob)}{ob:Nat->Ob}{k:Nat},(∀p∈u,p.1≠k)->Zl ob u k=ob k
 | [],_,_,_=>rfl
 |p::r,ob,k,h=>by
  rw [Zl,Qh λq m=>h q (by simp [m])];exact ZR _ _ λe=>h p yG e.symm
theorem Zle [NW]:∀{u:List (Nat×Ob)}{ob ob':Nat->Ob}{k:Nat},(∃p∈u,p.1=k)->Zl ob u k=Zl ob' u k
 | [],_,_,_,h=>by simp at h
 |p::r,ob,ob',k,h=>by
  rw [Zl,Zl];by_cases B:∃q∈r,q.1=k
  .exact Zle B
  .have A:∀q∈r,q.1≠k:=λq m e=>B ⟨q,m,e⟩;rw [Qh A,Qh A];obtain ⟨q,c,e⟩:=h;rcases AF.1 c with rfl|c
   .rw [<-e,ZG,ZG]
   .exact absurd e (A q c)
theorem ZtL [NW] {u1 c:List (Nat×Ob)}{ob:Nat->Ob}(h:∀p∈u1,∀q∈c,p.1≠q.1):Zl (Zl ob u1) c=Zl (Zl ob c) u1:=by
 funext k
 by_cases D:∃p∈u1,p.1=k
 .obtain ⟨p,A,rfl⟩:=D;rw [Qh λq E e=>h p A q E e.symm];exact Zle ⟨p,A,rfl⟩
 .have B:∀q∈u1,q.1≠k:=λq m e=>D ⟨q,m,e⟩;rw [Qh (ob:=Zl ob c) B];by_cases C:∃p∈c,p.1=k
  .exact Zle C
  .have a:∀q∈c,q.1≠k:=λq m e=>C ⟨q,m,e⟩;rw [Qh a,Qh a,Qh B]
theorem Zdd [NW] (st:St) (d:Option Nat) (v:SV) (s:Nat) (h:∀t,d=some t->s≠t):(st.put d v).sl s=st.sl s:=by
 cases d with
 |none=>rfl
 |some t=>exact ZR _ _ (h t rfl)
theorem XL (st:St) (d:Option Nat) (v:SV):(st.put d v).ob=st.ob:=by cases d<;>rfl
theorem ZnV (st:St) (d:Option Nat) (v:SV):(st.put d v).n=st.n:=by cases d<;>rfl
theorem ZpS (st:St) (d e:Option Nat) (v u:SV) (h:∀t,d=some t->e≠some t):((st.put d v).put e u).sl=((st.put e u).put d v).sl:=by
 cases d with
 |none=>rfl
 |some t=>cases e with
  |none=>rfl
  |some s=>
   have a:t≠s:=λe=>h t rfl (e ▸ rfl);funext k
   show upd (upd st.sl t v) s u k=upd (upd st.sl s u) t v k
   unfold upd;by_cases c:k=s
   .by_cases A:k=t
    .exact absurd (A.symm.trans c) a
    .have b:¬s=t:=λe=>a e.symm;simp [c,b]
   .simp [c]
def ZwP (tt:Nat->Option TI):Op->Bool
 |.slice t _ (some _) none none=>!Zde (tt t)
 |.call ⟨.builtin .append,_,_⟩=>true
 |_=>false
theorem Ziu [NW] {a:Array Oper}{o:Oper}{v:SV}{u:List (Nat×Ob)}(E:∀s∈o.looksAt a,st.sl s=st'.sl s) (C:ZaF tt S key o st' v u->ZaF tt S key o st v u) (h:opR tt S a.toList key o st' v u):opR tt S a.toList key o st v u:=by
 unfold opR at h ⊢;cases hg:Za8 a.toList o with
 |none=>rw [hg]at h;exact C h
 |some q=>
  obtain ⟨q,B⟩:=q;rw [hg]at h;cases q with
  |none=>exact h
  |some t=>
   have D:st.sl t=st'.sl t:=E t (by
    unfold Za8 at hg;split at hg
    .simp at hg
    .rename_i g c;simp only[A0,A4]at hg;unfold Oper.looksAt;refine A6.2 (.inr ?_);rw [c];have:(a[g.1]?).bind (·.dst)=some t:=by simpa using hg.1
     simp [this])
   simp only[gK,D]at h ⊢;split at h
   .rename_i A;rw [if_pos A];split at h
    .rename_i b;rw [if_pos b];exact C h
    .rename_i b;rw [if_neg b];exact h
   .rename_i A;rw [if_neg A];exact h
theorem Za6 {a:Array Oper}{o:Oper}(c:∀s∈o.looksAt a,st.sl s=st'.sl s):∀x∈o.op.operands,∀t,st.ev tt t x=st'.ev tt t x:=λx m t=>by
 cases x with
 |tmp s=>exact c s (by
   unfold Oper.looksAt;refine A6.2 (.inl (Ai.2 ⟨.tmp s,by simpa using m,rfl⟩)))
 |_=>rfl
theorem Zw4 [NW] {o:Oper}{v:SV}{u:List (Nat×Ob)}(G:∀x∈o.op.operands,∀t,st.ev tt t x=st'.ev tt t x) (a:cls tt S.hd o.op<=1) (F:∀t x,svU U (st.ev tt t x)) (d:Mk st st' U) (h:ZaF tt S key o st' v u):ZaF tt S key o st v u:=by
 cases hc:YS o.op with
 |some c=>
  simp only[ZaF,hc]at h ⊢;have g:∃args ts,o.op=.call ⟨.value (.func c.1),args,ts⟩/\c.2.1=ts.toList/\c.2.2=args.toList:=by
   unfold YS at hc;split at hc
   .rename_i f args ts L;simp only[A0]at hc;rw [<-hc];exact ⟨args,ts,L,rfl,rfl⟩
   .simp at hc
  obtain ⟨args,ts,K,N,M⟩:=g;have i:evs tt st c.2.1 c.2.2=evs tt st' c.2.1 c.2.2:=Zee λx m t=>G x (by rw [K];rw [M]at m;simp [Op.operands,Call.operands];exact .inr (by simpa using m)) t;rw [<-i]at h;have A:S.hd c.1=0\/S.hd c.1=4:=by
   rw [Zbz hc]at a;split at a
   .assumption
   .simp at a
  have b:∀x∈evs tt st c.2.1 c.2.2,svU U x:=λx B=>by
   obtain ⟨p,_,rfl⟩:=AA.1 B;exact F _ _
  rcases A with A|A
  .rw [A]at h ⊢;simp only[Zag]at h ⊢;obtain ⟨E,e,D,C⟩:=h;exact ⟨E,e,Zhj d b D,C⟩
  .rw [A]at h ⊢;simp only[Zag]at h ⊢;obtain ⟨E,e,D,C⟩:=h;exact ⟨E,e,Zhj d (λx B=>by
    obtain ⟨y,J,rfl⟩:=AA.1 B;exact ZyQ (b y J)) D,C⟩
 |none=>
  simp only[ZaF,hc]at h ⊢;cases hd:Xm o.op with
  |some c=>have h4:=Zg8 (tt:=tt) (hs:=S.hd) hd;omega
  |none=>
   rw [hd]at h;simp only at h ⊢;obtain ⟨H,ob,n⟩:=st;obtain ⟨j,ob',n'⟩:=st';have I:opE tt key o ⟨j,ob',n'⟩=opE tt key o ⟨H,ob',n⟩:=Zp7 λx m t=>by
    rw [<-G x m t];exact Zwb _ _ _ _ _ _ _
   rw [I]at h;exact Zzp a d F h
theorem ZCO {o:Op}(h:ZwP tt o=true):(∃t x c,o=.slice t x (some c) none none/\Zde (tt t)=false)\/∃args ts,o=.call ⟨.builtin .append,args,ts⟩:=by
 unfold ZwP at h;split at h
 .exact .inl ⟨_,_,_,rfl,by simpa using h⟩
 .exact .inr ⟨_,_,rfl⟩
 .simp at h
theorem Zzj [NW] {s:SV}{a:List (List CT)×List Nat×Nat}(hs:svU U s) (h:Zgf st s=some a):∀k∈a.2.1,U k:=by
 unfold Zgf at h;split at h
 .simp only[A0]at h;rw [<-h];simp
 .split at h
  .split at h
   .simp at h
   .simp only[A0]at h;rw [<-h];intro k c;simp only[AF,AQ,or_false]at c;subst c;exact hs (.row _) yG
  .simp at h
 .simp at h
theorem Zz1 [NW] {A:Bool}{s:SV}{a:List (List CT)×List Nat×Nat}(hs:svU U s) (h:Zgk st A s=some a):∀k∈a.2.1,U k:=by
 unfold Zgk at h;split at h
 .simp only[A0]at h;rw [<-h];simp
 .simp only[A0]at h;rw [<-h];simp
 .split at h
  .split at h
   .simp only[A0]at h;rw [<-h];simp
   .simp only[A0]at h;rw [<-h];intro k c;simp only[AF,AQ,or_false]at c;subst c;exact hs (.row _) yG
  .simp at h
 .simp at h
theorem Zxo [NW] {t:Option TI}{s x:SV}(hs:svU U s) (A:svU U x) (a:∀k,U k->st.ob k=st'.ob k):ZoS st key t s x=ZoS st' key t s x:=by
 have E:Zgf st s=Zgf st' s:=by
  unfold Zgf;split
  .rfl
  .rename_i k;rw [a k (hs (.row k) yG)]
  .rfl
 have D:∀c,Zgk st c x=Zgk st' c x:=λc=>by
  unfold Zgk;split
  .rfl
  .rfl
  .rename_i k;rw [a k (A (.row k) yG)]
  .rfl
 have C:∀e m,Zm3 st e m s=Zm3 st' e m s:=λe m=>by
  unfold Zm3;split
  .rename_i k;rw [a k (hs (.row k) yG)]
  .rfl
  .rfl
 have B:∀m,ZlC st m x=ZlC st' m x:=λm=>by
  unfold ZlC;split
  .rename_i k;rw [a k (A (.row k) yG)]
  .rfl
  .rfl
  .rfl
 unfold ZoS;split
 .simp only[E,D,C,B]
 .rfl
theorem Zv4 {ts:List TypeId}{vs:List SV}{r:SV×List (Nat×Ob)}(h:ZgG tt st key .append ts vs=some r):∃t s x,ts=[t,t]/\vs=[s,x]/\ZoS st key (tt t) s x=some r:=by
 match ts,vs,h with
 | [t,u],[s,x],h=>
  simp only[ZgG]at h;split at h
  .rename_i e;subst e;exact ⟨t,s,x,rfl,rfl,h⟩
  .simp at h
 | [],_,h=>simp [ZgG]at h
 | [_],_,h=>simp [ZgG]at h
 |_::_::_::_,_,h=>simp [ZgG]at h
 | [_,_],[],h=>simp [ZgG]at h
 | [_,_],[_],h=>simp [ZgG]at h
 | [_,_],_::_::_::_,h=>simp [ZgG]at h
theorem ZBp [NW] {o:Oper}{v:SV}{u:List (Nat×Ob)}(K:ZwP tt o.op=true) (G:∀t x,svU U (st.ev tt t x)) (h:ZaF tt S key o st v u):(∀p∈u,(key<=p.1/\p.1<key+16)\/(U p.1/\(p.2=st.ob p.1\/p.2=.gone))):=by
 obtain ⟨g,op,ty,i,P,O⟩:=o;obtain ⟨t,x,I,D,hs⟩|⟨args,ts,D⟩:=ZCO K
 rotate_left
 .simp only at D;subst D;have A:ZgG tt st key .append ts.toList (evs tt st ts.toList args.toList)=some (v,u):=h;obtain ⟨t,s,x,_,F,A⟩:=Zv4 A;have c:svU U s/\svU U x:=by
   have d:∀y∈evs tt st ts.toList args.toList,svU U y:=λy H=>by
    obtain ⟨p,_,rfl⟩:=AA.1 H;exact G _ _
   exact ⟨d s (by rw [F];simp),d x (by rw [F];simp)⟩
  unfold ZoS at A;split at A
  .obtain ⟨a,N,A⟩:=AC.1 A;obtain ⟨b,M,A⟩:=AC.1 A;split at A
   .simp only[A0,A4]at A;rw [<-A.2];intro p B;rcases A6.1 B with B|B
    .obtain ⟨k,C,rfl⟩:=AA.1 B;refine .inr ⟨?_,.inr rfl⟩;rcases A6.1 C with C|C
     .exact Zzj c.1 N k C
     .exact Zz1 c.2 M k C
    .simp only[AF,AQ,or_false]at B;subst B;exact .inl ⟨AD _,by simp only;omega⟩
   .simp at A
  .simp at A
 simp only at D;subst D;have A:opE tt key ⟨g,.slice t x (some I) none none,ty,i,P,O⟩ st=some (v,u):=h;simp only[opE,Zay,AN,AL]at A;intro p B;split at A
 .rename_i k J;have E:U k:=by
   have:=G 0 x;rw [J]at this;exact this (.row k) yG
  split at A
  .split at A
   .rename_i j;split at A
    .split at A
     .obtain ⟨l,_,e⟩:=A9.1 A;simp only[A4]at e;rw [<-e.2]at B;simp only[AF,AQ,or_false]at B;rcases B with rfl|rfl
      .exact .inr ⟨E,.inr rfl⟩
      .exact .inl ⟨AD _,by simp only;omega⟩
     .rename_i f;obtain ⟨_,_,A⟩:=AC.1 A;obtain ⟨_,_,e⟩:=A9.1 A;simp only[A4]at e;rw [<-e.2]at B;simp only[AF,AQ,or_false]at B;subst B;refine .inr ⟨E,.inl ?_⟩;simp only[mvS]at f;split at f
      .rename_i L;rw [j,L]
      .simp at f
    .simp at A
   .simp at A
  .simp at A
 .obtain ⟨_,_,e⟩:=A9.1 A;simp only[A4]at e;rw [<-e.2]at B;simp at B
 .simp at A
theorem ZBF [NW] {o:Oper}{v:SV}{u:List (Nat×Ob)}(K:ZwP tt o.op=true) (D:∀x∈o.op.operands,∀t,st.ev tt t x=st'.ev tt t x) (F:∀t x,svU U (st'.ev tt t x)) (b:∀k,U k->st.ob k=st'.ob k) (h:ZaF tt S key o st' v u):ZaF tt S key o st v u:=by
 obtain ⟨c,op,ty,d,H,G⟩:=o;obtain ⟨t,x,C,B,hs⟩|⟨args,ts,B⟩:=ZCO K
 rotate_left
 .simp only at B;subst B;have A:ZgG tt st' key .append ts.toList (evs tt st' ts.toList args.toList)=some (v,u):=h;show ZgG tt st key .append ts.toList (evs tt st ts.toList args.toList)=some (v,u)
  have e:evs tt st ts.toList args.toList=evs tt st' ts.toList args.toList:=Zee λx m t=>D x (by simpa [Op.operands,Call.operands]using m) t;have a:∀y∈evs tt st' ts.toList args.toList,svU U y:=λy I=>by
   obtain ⟨p,_,rfl⟩:=AA.1 I;exact F _ _
  obtain ⟨t,s,x,M,E,A⟩:=Zv4 A;rw [e,E,M];rw [E]at a;show (if t=t then ZoS st key (tt t) s x else none)=_
  rw [if_pos rfl,Zxo (a s yG) (a x yG) b,A]
 simp only at B;subst B;have A:opE tt key ⟨c,.slice t x (some C) none none,ty,d,H,G⟩ st'=some (v,u):=h;show opE tt key ⟨c,.slice t x (some C) none none,ty,d,H,G⟩ st=some (v,u)
 have e1:=D x (by simp [Op.operands]) 0;have e2:=D C (by simp [Op.operands]) 0;simp only[opE,AN,AL,e1,e2]at A ⊢;rw [<-A];have hx:=F 0 x;unfold Zay;split
 .rename_i k J;rw [J]at hx;have L:U k:=hx (.row k) yG;simp only[b k L]
 .rfl
 .rfl
theorem Za1 [NW] {a:List Oper}{o:Oper}{v:SV}{u:List (Nat×Ob)}{C:Prop}(h:opR tt S a key o st v u) (A:ZaF tt S key o st v u->C) (c:u=[]->C):C:=by
 unfold opR at h;split at h
 .exact A h
 .exact c h.2
 .unfold gK at h;split at h
  .split at h
   .exact A h
   .exact c h.2
  .split at h
   .exact c h.2
   .exact h.elim
def Zv3 (tt:Nat->Option TI) (hs:FuncId->Nat) (x y:Op):Bool:=cls tt hs x==0||cls tt hs y==0||(Nat.ble (cls tt hs x) 2&&Nat.ble (cls tt hs y) 2)||(Nat.ble (cls tt hs x) 1&&Nat.ble (cls tt hs y) 3)||(Nat.ble (cls tt hs x) 3&&Nat.ble (cls tt hs y) 1)||(ZwP tt x&&Nat.ble (cls tt hs y) 1)
theorem comm [NW] {c:Array Oper}{oi oj:Oper}{O R:Nat}{vi vj:SV}{ui uj:List (Nat×Ob)}(G:oi.apart c oj=true) (K:Zv3 tt S.hd oi.op oj.op=true) (hU:StU U st) (m:∀k,O<=k->k<O+16->¬U k) (j:∀k,R<=k->k<R+16->¬U k) (aa:O+16<=R\/R+16<=O)
  (h:opR tt S c.toList O oi st vi ui) (h':opR tt S c.toList R oj ((st.put oi.dst vi).app ui) vj uj):
  opR tt S c.toList R oj st vj uj/\opR tt S c.toList O oi ((st.put oj.dst vj).app uj) vi ui/\((((st.put oi.dst vi).app ui).put oj.dst vj).app uj)=((((st.put oj.dst vj).app uj).put oi.dst vi).app ui):=by
 obtain ⟨a1,a2,a3⟩:=Oper.apart_spec G;have b:∀t x,svU U (st.ev tt t x):=λt x=>ZIa hU t x;obtain ⟨i1,i2,i3⟩:=Zmu (U:=U) b h;have l:(∀p∈ui,∀q∈uj,p.1≠q.1)->((((st.put oi.dst vi).app ui).put oj.dst vj).app uj)=((((st.put oj.dst vj).app uj).put oi.dst vi).app ui):=λH=>by
  have o:((((st.put oi.dst vi).app ui).put oj.dst vj).app uj).sl=((((st.put oj.dst vj).app uj).put oi.dst vi).app ui).sl:=by
   have e1:∀(s:St) (u:List (Nat×Ob)) (d:Option Nat) (v:SV),((s.app u).put d v).sl=(s.put d v).sl:=λs u d v=>by cases d<;>rfl
   show (((st.put oi.dst vi).app ui).put oj.dst vj).sl=(((st.put oj.dst vj).app uj).put oi.dst vi).sl
   rw [e1,e1];exact ZpS st _ _ _ _ λt P=>a2 t P
  have i:((((st.put oi.dst vi).app ui).put oj.dst vj).app uj).ob=((((st.put oj.dst vj).app uj).put oi.dst vi).app ui).ob:=by
   show Zl (((st.put oi.dst vi).app ui).put oj.dst vj).ob uj=Zl (((st.put oj.dst vj).app uj).put oi.dst vi).ob ui
   rw [XL,XL];show Zl (Zl (st.put oi.dst vi).ob ui) uj=Zl (Zl (st.put oj.dst vj).ob uj) ui
   rw [XL,XL];exact ZtL H
  have hn:((((st.put oi.dst vi).app ui).put oj.dst vj).app uj).n=((((st.put oj.dst vj).app uj).put oi.dst vi).app ui).n:=by
   show (((st.put oi.dst vi).app ui).put oj.dst vj).n=(((st.put oj.dst vj).app uj).put oi.dst vi).n
   rw [ZnV,ZnV];show (st.put oi.dst vi).n=(st.put oj.dst vj).n
   rw [ZnV,ZnV]
  generalize ((((st.put oi.dst vi).app ui).put oj.dst vj).app uj)=s1 at o i hn ⊢
  generalize ((((st.put oj.dst vj).app uj).put oi.dst vi).app ui)=s2 at o i hn ⊢
  cases s1;cases s2;simp only at o i hn;subst o i hn;rfl
 by_cases A:ZwP tt oi.op=true/\cls tt S.hd oj.op<=1
 .obtain ⟨hm,hj⟩:=A;have B:∀p∈ui,(O<=p.1/\p.1<O+16)\/(U p.1/\(p.2=st.ob p.1\/p.2=.gone)):=Za1 h (λh=>ZBp hm b h) λe p T=>by rw [e]at T;simp at T
  have I:Mk st ((st.put oi.dst vi).app ui) U:=λk W=>by
   show Zl (st.put oi.dst vi).ob ui k=st.ob k\/Zl (st.put oi.dst vi).ob ui k=.gone
   rw [XL];have z:∀(u:List (Nat×Ob)) (ob:Nat->Ob),(∀p∈u,(O<=p.1/\p.1<O+16)\/(U p.1/\(p.2=st.ob p.1\/p.2=.gone)))->(ob k=st.ob k\/ob k=.gone)->(Zl ob u k=st.ob k\/Zl ob u k=.gone):=by
    intro u;induction u with
    |nil=>intro ob _ h;exact h
    |cons p u ih=>
     intro ob T h;refine ih _ (λx mx=>T x (by simp [mx])) ?_;by_cases g:k=p.1
     .rcases T p yG with h1|h1
      .exact absurd (g ▸ W) (m p.1 h1.1 h1.2)
      .rw [g,ZG];exact h1.2
     .rw [ZR _ _ g];exact h
   exact z ui st.ob B (.inl rfl)
  have C:∀s∈oj.looksAt c,st.sl s=((st.put oi.dst vi).app ui).sl s:=λs V=>(Zdd st oi.dst vi s λt P e=>a1 t P (e ▸ V)).symm;have hA:opR tt S c.toList R oj st vj uj:=Ziu C (Zw4 (Za6 C) hj b I) h';obtain ⟨_,j2,_⟩:=Zmu (U:=U) b hA;have D:∀s∈oi.looksAt c,((st.put oj.dst vj).app uj).sl s=st.sl s:=λs V=>Zdd st oj.dst vj s λt P e=>a3 t P (e ▸ V);have J:∀k,U k->((st.put oj.dst vj).app uj).ob k=st.ob k:=λk W=>by
   show Zl (st.put oj.dst vj).ob uj k=st.ob k
   rw [XL];exact Qh λp L e=>j p.1 (j2 yE p L).1 (j2 yE p L).2 (e ▸ W)
  refine ⟨hA,Ziu D (ZBF hm (Za6 D) b J) h,l λp L q N e=>?_⟩;have h2:=j2 yE q N;rcases B p L with h1|h1
  .omega
  .exact j q.1 h2.1 h2.2 (e ▸ h1.1)
 have a:cls tt S.hd oi.op=0\/cls tt S.hd oj.op=0\/(cls tt S.hd oi.op<=2/\cls tt S.hd oj.op<=2)\/(cls tt S.hd oi.op<=1/\cls tt S.hd oj.op<=3)\/(cls tt S.hd oi.op<=3/\cls tt S.hd oj.op<=1):=by
  unfold Zv3 at K;simp only[AG,beq_iff_eq,A5]at K;rcases K with ((((K|K)|K)|K)|K)|K
  .exact .inl K
  .exact .inr (.inl K)
  .exact .inr (.inr (.inl ⟨AB K.1,AB K.2⟩))
  .exact .inr (.inr (.inr (.inl ⟨AB K.1,AB K.2⟩)))
  .exact .inr (.inr (.inr (.inr ⟨AB K.1,AB K.2⟩)))
  .exact absurd ⟨K.1,AB K.2⟩ A
 have f:∀{u:List (Nat×Ob)} {q:Nat},(∀p∈u,q<=p.1/\p.1<q+16)->(∀k,q<=k->k<q+16->¬U k)->∀k,U k->st.ob k=Zl st.ob u k:=λhu hq k W=>(Qh λp L e=>hq p.1 (hu p L).1 (hu p L).2 (e ▸ W)).symm;have y:∀{u:List (Nat×Ob)} {q:Nat},(∀p∈u,(q<=p.1/\p.1<q+16)\/(U p.1/\p.2=Ye (st.ob p.1)))->(∀k,q<=k->k<q+16->¬U k)->∀k,U k->Zl st.ob u k=st.ob k\/Zl st.ob u k=Ye (st.ob k):=λ{u q} hu hq k W=>by
  have z:∀(u:List (Nat×Ob)) (ob:Nat->Ob),(∀p∈u,(q<=p.1/\p.1<q+16)\/(U p.1/\p.2=Ye (st.ob p.1)))->(ob k=st.ob k\/ob k=Ye (st.ob k))->(Zl ob u k=st.ob k\/Zl ob u k=Ye (st.ob k)):=by
   intro u;induction u with
   |nil=>intro ob _ h;exact h
   |cons p u ih=>
    intro ob T h;refine ih _ (λx mx=>T x (by simp [mx])) ?_;by_cases g:k=p.1
    .rcases T p yG with h1|h1
     .exact absurd (g ▸ W) (hq p.1 h1.1 h1.2)
     .right;rw [g,ZG];exact h1.2
    .rw [ZR _ _ g];exact h
  exact z u st.ob hu (.inl rfl)
 have hA:opR tt S c.toList R oj st vj uj:=by
  refine (Q6 (U:=U) (st:=st) (st':=(st.put oi.dst vi).app ui) (λs V=>(Zdd st oi.dst vi s λt P e=>a1 t P (e ▸ V)).symm) ?_).2 h';show cls tt S.hd oj.op=0\/st.ob=Zl (st.put oi.dst vi).ob ui\/_/\((cls tt S.hd oj.op<=3/\∀k,U k->st.ob k=Zl (st.put oi.dst vi).ob ui k)\/(cls tt S.hd oj.op<=1/\∀k,U k->Zl (st.put oi.dst vi).ob ui k=st.ob k\/Zl (st.put oi.dst vi).ob ui k=Ye (st.ob k)))
  rw [XL];rcases a with a|a|⟨M,c2⟩|⟨M,c2⟩|⟨M,c2⟩
  .right;left;rw [i1 a];rfl
  .left;exact a
  .right;right;exact ⟨b,.inl ⟨yE,f (i2 M) m⟩⟩
  .right;right;exact ⟨b,.inl ⟨c2,f (i2 yE) m⟩⟩
  .right;right;exact ⟨b,.inr ⟨c2,y (i3 M) m⟩⟩
 obtain ⟨E,w,F⟩:=Zmu (U:=U) b hA;refine ⟨hA,?_,?_⟩
 .refine (Q6 (U:=U) (st:=st) (st':=(st.put oj.dst vj).app uj) (λs V=>(Zdd st oj.dst vj s λt P e=>a3 t P (e ▸ V)).symm) ?_).1 h;show cls tt S.hd oi.op=0\/st.ob=Zl (st.put oj.dst vj).ob uj\/_/\((cls tt S.hd oi.op<=3/\∀k,U k->st.ob k=Zl (st.put oj.dst vj).ob uj k)\/(cls tt S.hd oi.op<=1/\∀k,U k->Zl (st.put oj.dst vj).ob uj k=st.ob k\/Zl (st.put oj.dst vj).ob uj k=Ye (st.ob k)))
  rw [XL];rcases a with a|a|⟨M,c2⟩|⟨M,c2⟩|⟨M,c2⟩
  .left;exact a
  .right;left;rw [E a];rfl
  .right;right;exact ⟨b,.inl ⟨yE,f (w c2) j⟩⟩
  .right;right;exact ⟨b,.inr ⟨M,y (F c2) j⟩⟩
  .right;right;exact ⟨b,.inl ⟨M,f (w yE) j⟩⟩
 .rcases a with a|a|⟨M,c2⟩|⟨M,c2⟩|⟨M,c2⟩
  .exact l λp L=>by rw [i1 a]at L;simp at L
  .exact l λp L q N=>by rw [E a]at N;simp at N
  .refine l λp L q N e=>?_;have:=i2 M p L;have:=w c2 q N;omega
  .refine l λp L q N e=>?_;have h1:=i2 yE p L;rcases F c2 q N with h2|h2
   .omega
   .exact m p.1 h1.1 h1.2 (e ▸ h2.1)
  .refine l λp L q N e=>?_;have h1:=w yE q N;rcases i3 M p L with h2|h2
   .omega
   .exact j q.1 h1.1 h1.2 (e ▸ h2.1)
/- a load and a call into which something is handed: what is handed in stands at the key 0, the load looks elsewhere -/
def Zix:Op->Bool
 |.load _ _=>true
 |_=>false
def Zyy (hs:FuncId->Nat) (o:Op):Bool:=match YS o with
 |some c=>hs c.1==1
 |none=>false
def Zpv:Op->Bool
 |.slice _ _ _ _ none=>true
 |_=>false
def ZrB:Op->Bool
 |.indexAddr _ _ _=>true
 |_=>false
def Zyw (tt:Nat->Option TI) (hs:FuncId->Nat) (b:Bool) (all:List Oper) (x y:Op):Bool:=Zv3 tt hs x y||(b&&((!Zm5 all all&&((Zix x&&Zyy hs y)||(Zyy hs x&&Zix y)))||Zpv x||Zpv y||((Zix x||ZrB x)&&YB all y)||(YB all x&&(Zix y||ZrB y))))
theorem Zup {o:Op}{c:FuncId×List TypeId×List Operand}(h:YS o=some c):∃args ts,o=.call ⟨.value (.func c.1),args,ts⟩/\c.2.2=args.toList:=by
 unfold YS at h;split at h
 .rename_i f args ts;simp only[A0]at h;rw [<-h];exact ⟨args,ts,rfl,rfl⟩
 .simp at h
theorem ZtC {all:List Oper}{o:Op}(A:st.n=st'.n) (h:∀x∈o.operands,∀t,st.ev tt t x=st'.ev tt t x):stk tt S all o st=stk tt S all o st':=by
 unfold stk;split
 .rename_i t x;rw [h x (by simp [Op.operands]),A]
 .rename_i t x w;rw [h x (by simp [Op.operands]),A]
 .rename_i t x _ _ _;rw [h x (by simp [Op.operands])]
 .split
  .rename_i c D;obtain ⟨args,ts,C,e⟩:=Zup D;unfold hdC;split
   .cases hh:c.2.2.head? with
    |none=>rfl
    |some x=>
     have B:x∈args.toList:=by rw [<-e];exact List.mem_of_mem_head? hh
     simp only;rw [h x (by rw [C];simp [Op.operands,Call.operands];exact .inr (by simpa using B))]
   .rfl
  .rfl
theorem ZeP [NW] {a:Array Oper}{oi oj:Oper}{vi vj:SV}{ui uj:List (Nat×Ob)}(b:oi.apart a oj=true):stk tt S a.toList oj.op st=stk tt S a.toList oj.op ((st.put oi.dst vi).app ui)/\stk tt S a.toList oi.op ((st.put oj.dst vj).app uj)=stk tt S a.toList oi.op st:=by
 obtain ⟨C,D,B⟩:=Oper.apart_spec b;exact ⟨ZtC (ZnV st oi.dst vi).symm (Za6 λs c=>(Zdd st oi.dst vi s λt A e=>C t A (e ▸ c)).symm),ZtC (ZnV st oj.dst vj) (Za6 λs c=>Zdd st oj.dst vj s λt A e=>B t A (e ▸ c))⟩
theorem ZpW [NW] {all:List Oper}{o:Oper}{v:SV}{u:List (Nat×Ob)}(H:Zyy S.hd o.op=true) (hs:stk tt S all o.op st=true) (h:ZaF tt S key o st v u):∀p∈u,p.1=0\/(key<=p.1/\p.1<key+16)\/p.2=Ye (st.ob p.1):=by
 unfold Zyy at H;split at H
 rotate_left
 .simp at H
 rename_i c B;have K:S.hd c.1=1:=by simpa using H
 unfold ZaF at h;rw [B]at h;simp only[K,Zag]at h;obtain ⟨L,r,k,U,l,b,V,G,A,T,O,P,R,rfl,rfl⟩:=h;have E:hdC tt 1 c.2.2.head? st=true:=by
  have e:stk tt S all o.op st=hdC tt (S.hd c.1) c.2.2.head? st:=by
   unfold stk;split
   .rename_i F;rw [F]at B;simp [YS]at B
   .rename_i F;rw [F]at B;simp [YS]at B
   .rename_i F;rw [F]at B;simp [YS]at B
   .rw [B]
  rw [<-K,<-e];exact hs
 have d:∃off,L=.bp 0 off:=by
  unfold hdC at E;simp only at E;cases hx:c.2.2 with
  |nil=>rw [hx]at E;simp at E
  |cons x xs=>
   rw [hx]at E G;simp only[List.head?_cons]at E;have J:∀ts:List TypeId,∃t q,evs tt st ts (x::xs)=st.ev tt t x::q:=λts=>by cases ts<;>exact ⟨_,_,rfl⟩
   obtain ⟨t,q,J⟩:=J c.2.1;rw [J]at G;simp only[AR]at G;have D:hdB (st.ev tt 0 x)=true:=E;have N:∀I,hdB (st.ev tt I x)=true->∃off,st.ev tt t x=.bp 0 off:=λI D=>by
    cases x with
    |tmp s=>
     have a:hdB (st.sl s)=true:=D;unfold hdB at a;split at a
     .rename_i M off e;exact ⟨off,by show st.sl s=_;rw [e,of_decide_eq_true a]⟩
     .simp at a
    |const u=>
     exfalso;have a:hdB (cvT (tt I) u)=true:=D;unfold cvT at a;split at a<;>first|(simp [hdB]at a;done)|(split at a<;>simp [hdB]at a)
    |func f=>simp [St.ev,hdB]at D
    |global g=>simp [St.ev,hdB]at D
   obtain ⟨off,e⟩:=N 0 D;exact ⟨off,by rw [<-G.1,e]⟩
 obtain ⟨off,rfl⟩:=d;have i:k=0:=by
  unfold Zgy at A;split at A
  .rename_i M e;simp only[SV.bp.injEq]at e;obtain ⟨rfl,rfl⟩:=e;split at A
   .rename_i t cs D;split at A
    .obtain ⟨_,_,e⟩:=A9.1 A;simp only[A4]at e;exact e.1.symm
    .simp at A
   .simp at A
  .rename_i e;simp at e
  .simp at A
 subst i;intro p C;rcases A6.1 C with C|C
 .exact .inr (.inr (Znf C).2)
 .rcases AF.1 C with rfl|C
  .exact .inl rfl
  .have:=(Zh4 b key).2 p C;exact .inr (.inl yE)
theorem Zpt [NW] {all:List Oper}(E:Zm5 all all=false) {o:Oper}{v:SV}{u:List (Nat×Ob)}(A:Zix o.op=true) (F:∀x∈o.op.operands,∀t,st.ev tt t x=st'.ev tt t x) (hs:stk tt S all o.op st=true) (G:∀t x,svU U (st.ev tt t x)) (c:∀k,U k->k≠0->st'.ob k=st.ob k\/st'.ob k=Ye (st.ob k)):ZaF tt S key o st v u↔ZaF tt S key o st' v u:=by
 obtain ⟨H,op,ty,D,J,I⟩:=o;unfold Zix at A;simp only at A;split at A
 rotate_left
 .simp at A
 rename_i t x;have e1:=F x (by simp [Op.operands]) 0;have hx:=G 0 x;have a:ldB (st.ev tt 0 x)=true:=by
  have C:ldX (Zm5 all all) st.n (st.ev tt 0 x)=true:=hs;rw [E]at C;exact C
 have key:Qy st (tt t) (st.ev tt 0 x)=Qy st' (tt t) (st'.ev tt 0 x):=by
  rw [<-e1];unfold Qy;split
  .rename_i k off B;rw [B]at hx a;have b:k≠0:=λe=>by subst e;simp [ldB]at a
   rcases c k hx b with h|h
   .rw [h]
   .rw [h];cases st.ob k<;>rfl
  .rename_i k m i off B;rw [B]at hx a;have b:k≠0:=λe=>by subst e;simp [ldB]at a
   rcases c k hx b with h|h
   .rw [h]
   .rw [h];cases st.ob k<;>rfl
  .rfl
  .rfl
  .rfl
 show opE tt _ _ st=some (v,u)↔opE tt _ _ st'=some (v,u)
 simp only[opE,key]
theorem ZvH [NW] {a:List Oper}{o:Oper}{v:SV}{u:List (Nat×Ob)}(A:Zix o.op=true) (h:opR tt S a key o st v u):u=[]:=by
 refine Za1 h (λh=>?_) id;obtain ⟨b,op,ty,c,D,C⟩:=o;unfold Zix at A;simp only at A;split at A
 .have B:opE tt key ⟨b,.load _ _,ty,c,D,C⟩ st=some (v,u):=h;exact YX B
 .simp at A
theorem Zmq {a:Array Oper}{o:Oper}{v:SV}{u:List (Nat×Ob)}(c:∀s∈o.looksAt a,st.sl s=st'.sl s) (A:ZaF tt S key o st v u↔ZaF tt S key o st' v u) [NW]:opR tt S a.toList key o st v u↔opR tt S a.toList key o st' v u:=⟨Ziu (λs B=>(c s B).symm) A.1,Ziu c A.2⟩
theorem Zmi [NW] {all:List Oper}{o:Oper}{v:SV}{u:List (Nat×Ob)}(C:Zpv o.op=true) (hs:stk tt S all o.op st=true) (h:ZaF tt S key o st v u):u=[]/\∀{st':St},(∀x∈o.op.operands,∀t,st.ev tt t x=st'.ev tt t x)->ZaF tt S key o st' v u:=by
 obtain ⟨b,op,ty,c,G,F⟩:=o;unfold Zpv at C;simp only at C;split at C
 rotate_left
 .simp at C
 rename_i t x A hi;have a:slB (st.ev tt 0 x)=true:=hs;have B:opE tt key ⟨b,.slice t x A hi none,ty,c,G,F⟩ st=some (v,u):=h;unfold slB at a;split at a
 rotate_left
 .simp at a
 rename_i y E;constructor
 .simp only[opE]at B;rw [E]at B;simp only[Zay]at B;obtain ⟨_,_,e⟩:=A9.1 B;simp only[A4]at e;exact e.2.symm
 .intro st' D;show opE tt key ⟨b,.slice t x A hi none,ty,c,G,F⟩ st'=some (v,u)
  have e1:=D x (by simp [Op.operands]) 0;have I:A.map (st.ev tt 0)=A.map (st'.ev tt 0):=by
   cases A with
   |none=>rfl
   |some l=>exact congrArg some (D l (by simp [Op.operands]) 0)
  have H:hi.map (st.ev tt 0)=hi.map (st'.ev tt 0):=by
   cases hi with
   |none=>rfl
   |some l=>exact congrArg some (D l (by simp [Op.operands]) 0)
  rw [<-B];simp only[opE,<-e1,<-I,<-H,E,Zay]
theorem Zru {all:List Oper}{o:Oper}:∀{l:List Oper},o∈l->YB all o.op=true->Zm5 all l=true
 | [],m,_=>by simp at m
 |x::l,m,h=>by
  unfold Zm5;rcases AF.1 m with rfl|m
  .rw [h];rfl
  .rw [Zru m h];cases YB all x.op<;>rfl
theorem ZzC [NW] {a:List Oper}{o:Oper}{v:SV}{u:List (Nat×Ob)}(A:(Zix o.op||ZrB o.op)=true) (h:opR tt S a key o st v u):u=[]:=by
 rw [AG]at A;rcases A with A|A
 .exact ZvH A h
 refine Za1 h (λh=>?_) id;obtain ⟨b,op,ty,c,D,C⟩:=o;unfold ZrB at A;simp only at A;split at A
 .have B:opE tt key ⟨b,.indexAddr _ _ _,ty,c,D,C⟩ st=some (v,u):=h;simp only[opE]at B;split at B
  .exact YX B
  .simp at B
 .simp at A
theorem ZzV [NW] {all:List Oper}(H:Zm5 all all=true) {o:Oper}{v:SV}{u:List (Nat×Ob)}{kb F t2:Nat}{J c2:List AV}(A:(Zix o.op||ZrB o.op)=true) (B:∀x∈o.op.operands,∀t,st.ev tt t x=st'.ev tt t x) (hs:stk tt S all o.op st=true)
  (K:st.n<=kb) (E:st.ob kb=.box F J) (b:st'.ob kb=.box t2 c2) (a:∀k,k≠kb->st'.ob k=st.ob k):ZaF tt S key o st v u↔ZaF tt S key o st' v u:=by
 obtain ⟨I,op,ty,G,M,L⟩:=o;rw [AG]at A;rcases A with A|A
 .unfold Zix at A;simp only at A;split at A
  rotate_left
  .simp at A
  rename_i t x;have e1:=B x (by simp [Op.operands]) 0;have c:ldN st.n (st.ev tt 0 x)=true:=by
   have C:ldX (Zm5 all all) st.n (st.ev tt 0 x)=true:=hs;rw [H]at C;exact C
  have key:Qy st (tt t) (st.ev tt 0 x)=Qy st' (tt t) (st'.ev tt 0 x):=by
   rw [<-e1];unfold Qy;split
   .rename_i k off D;rw [D]at c;have C:k<st.n:=by simpa [ldN]using c
    rw [a k yE]
   .rename_i k m i off D;by_cases e:k=kb
    .subst e;rw [E,b]
    .rw [a k e]
   .rfl
   .rfl
   .rfl
  show opE tt _ _ st=some (v,u)↔opE tt _ _ st'=some (v,u)
  simp only[opE,key]
 .unfold ZrB at A;simp only at A;split at A
  rotate_left
  .simp at A
  rename_i t x i;have e1:=B x (by simp [Op.operands]) 0;have e2:=B i (by simp [Op.operands]) 0;have key:∀m,Zac st m (st.ev tt 0 x) (st.ev tt 0 i)=Zac st' m (st'.ev tt 0 x) (st'.ev tt 0 i):=λm=>by
   rw [<-e1,<-e2];unfold Zac;split
   .rfl
   .rename_i k _ j _ _;by_cases e:k=kb
    .subst e;rw [E,b]
    .rw [a k e]
   .rfl
  show opE tt _ _ st=some (v,u)↔opE tt _ _ st'=some (v,u)
  simp only[opE,key]
theorem ZyT [NW] {all:List Oper}{o:Oper}{v:SV}{u:List (Nat×Ob)}(B:YB all o.op=true) (hs:stk tt S all o.op st=true) (h:ZaF tt S key o st v u):∃(kb t:Nat) (M c2:List AV),st.n<=kb/\st.ob kb=.box t M/\u=[(kb,.box t c2)]:=by
 obtain ⟨a,op,ty,c,N,L⟩:=o;unfold YB at B;simp only at B;split at B
 rotate_left
 .simp at B
 rename_i t x w;have G:stY (stX all x) st.n (st.ev tt 0 x)=true:=hs;rw [B]at G;have C:stB st.n (st.ev tt 0 x)=true:=G;have H:opE tt key ⟨a,.store t x w,ty,c,N,L⟩ st=some (v,u):=h;simp only[opE]at H;obtain ⟨O,A,F⟩:=A9.1 H;simp only[A4]at F;obtain ⟨_,rfl⟩:=F;unfold stB at C;split at C
 rotate_left
 .simp at C
 rename_i k off I;rw [I]at A;have J:st.n<=k:=by simpa using C
 unfold Zgv at A;split at A
 .rename_i P E b vs D R;simp only[SV.bp.injEq]at D;obtain ⟨rfl,rfl⟩:=D;split at A
  .rename_i tb cs K;split at A
   .simp only[A0]at A;exact ⟨k,tb,cs,_,J,K,A.symm⟩
   .simp at A
  .simp at A
 .rename_i D _;simp at D
 .simp at A
theorem ZHq [NW] {b:Bool}{c:Array Oper}{oi oj:Oper}{ki kj:Nat}{vi vj:SV}{ui uj:List (Nat×Ob)}(j:oi.apart c oj=true) (hc:Zyw tt S.hd b c.toList oi.op oj.op=true) (N:oi∈c.toList) (O:oj∈c.toList) (hU:StU U st) (I:∀k,ki<=k->k<ki+16->¬U k) (J:∀k,kj<=k->k<kj+16->¬U k) (K:ki+16<=kj\/kj+16<=ki)
  (w:b=true->stk tt S c.toList oi.op st=true) (l:b=true->stk tt S c.toList oj.op ((st.put oi.dst vi).app ui)=true) (h:opR tt S c.toList ki oi st vi ui) (T:opR tt S c.toList kj oj ((st.put oi.dst vi).app ui) vj uj):
  opR tt S c.toList kj oj st vj uj/\opR tt S c.toList ki oi ((st.put oj.dst vj).app uj) vi ui/\((((st.put oi.dst vi).app ui).put oj.dst vj).app uj)=((((st.put oj.dst vj).app uj).put oi.dst vi).app ui):=by
 by_cases L:Zv3 tt S.hd oi.op oj.op=true
 .exact comm j L hU I J K h T
 have R:b=true/\((Zm5 c.toList c.toList=false/\((Zix oi.op=true/\Zyy S.hd oj.op=true)\/(Zyy S.hd oi.op=true/\Zix oj.op=true)))\/Zpv oi.op=true\/Zpv oj.op=true\/((Zix oi.op||ZrB oi.op)=true/\YB c.toList oj.op=true)\/(YB c.toList oi.op=true/\(Zix oj.op||ZrB oj.op)=true)):=by
  unfold Zyw at hc
  rw [AG]at hc
  have:=hc.resolve_left L
  rw [A5]at this
  obtain ⟨q1,q2⟩:=this
  refine ⟨q1,?_⟩
  rw [AG,AG,AG,AG,A5,A5 (Zix oi.op||ZrB oi.op),A5 (YB c.toList oi.op),AG,A5,A5,AY]at q2
  rcases q2 with (((q|q)|q)|q)|q
  .exact .inl q
  .exact .inr (.inl q)
  .exact .inr (.inr (.inl q))
  .exact .inr (.inr (.inr (.inl q)))
  .exact .inr (.inr (.inr (.inr q)))
 obtain ⟨R,hc⟩:=R
 obtain ⟨a1,a2,a3⟩:=Oper.apart_spec j
 have M:∀t x,svU U (st.ev tt t x):=λt x=>ZIa hU t x
 have g:∀s∈oj.looksAt c,st.sl s=((st.put oi.dst vi).app ui).sl s:=λs ms=>(Zdd st oi.dst vi s λt ht e=>a1 t ht (e ▸ ms)).symm
 have i:∀s∈oi.looksAt c,st.sl s=((st.put oj.dst vj).app uj).sl s:=λs ms=>(Zdd st oj.dst vj s λt ht e=>a3 t ht (e ▸ ms)).symm
 have f:(((st.put oi.dst vi).put oj.dst vj)).sl=(((st.put oj.dst vj).put oi.dst vi)).sl:=ZpS st _ _ _ _ λt ht=>a2 t ht
 have e1:∀(s:St) (u:List (Nat×Ob)) (d:Option Nat) (v:SV),((s.app u).put d v)=((s.put d v).app u):=λs u d v=>by cases d<;>rfl
 have o:ui=[]\/uj=[]->((((st.put oi.dst vi).app ui).put oj.dst vj).app uj)=((((st.put oj.dst vj).app uj).put oi.dst vi).app ui):=λhn=>by
  rw [e1,e1]
  have hs:((st.put oi.dst vi).put oj.dst vj)=((st.put oj.dst vj).put oi.dst vi):=by
   have h2:((st.put oi.dst vi).put oj.dst vj).ob=((st.put oj.dst vj).put oi.dst vi).ob:=by simp only[XL]
   have h3:((st.put oi.dst vi).put oj.dst vj).n=((st.put oj.dst vj).put oi.dst vi).n:=by simp only[ZnV]
   generalize ((st.put oi.dst vi).put oj.dst vj)=s1 at f h2 h3
   generalize ((st.put oj.dst vj).put oi.dst vi)=s2 at f h2 h3
   cases s1;cases s2
   simp only at f h2 h3
   subst f h2 h3
   rfl
  rw [hs]
  rcases hn with rfl|rfl<;>rfl
 rcases hc with ⟨hm,hc⟩|y|y|⟨W,V⟩|⟨W,V⟩
 rotate_left
 ·-- the first is a slice that is only read
  have hs:=w R
  have hn:ui=[]:=Za1 h (λh=>(Zmi y hs h).1) id
  subst hn
  have hA:opR tt S c.toList kj oj st vj uj:=(Q6 (U:=U) g (.inr (.inl (by show st.ob=(st.put oi.dst vi).ob;rw [XL])))).2 T
  refine ⟨hA,Ziu (λs ms=>(i s ms).symm) (λh=>(Zmi y hs h).2 (Za6 i)) h,o (.inl rfl)⟩
 ·-- the second is one
  have hs:=(ZeP (tt:=tt) (S:=S) (st:=st) (vi:=vi) (ui:=ui) (vj:=vj) (uj:=uj) j).1.trans (l R)
  have hn:uj=[]:=Za1 T (λh=>(Zmi y (l R) h).1) id
  subst hn
  have hA:opR tt S c.toList kj oj st vj []:=Ziu g (λh=>(Zmi y (l R) h).2 (λx m t=>(Za6 g x m t).symm)) T
  refine ⟨hA,?_,o (.inr rfl)⟩
  exact (Q6 (U:=U) i (.inr (.inl (by show st.ob=(st.put oj.dst vj).ob;rw [XL])))).1 h
 ·-- what is read beside a store into a new box
  have F:=Zru O V
  have z:=ZzC W h
  have A:st.ob=((st.put oi.dst vi).app ui).ob:=by
   subst z
   show st.ob=(st.put oi.dst vi).ob
   rw [XL]
  have hA:=(Q6 (U:=U) g (.inr (.inl A))).2 T
  have hs:=(ZeP (tt:=tt) (S:=S) (st:=st) (vi:=vi) (ui:=ui) (vj:=vj) (uj:=uj) j).1.trans (l R)
  refine ⟨hA,?_,o (.inl z)⟩
  refine Za1 hA (λhx=>?_) (λe=>?_)
  .obtain ⟨kb,t,c1,c2,hk,G,hu⟩:=ZyT V hs hx
   subst hu
   refine (Zmq i (ZzV (kb:=kb) F W (Za6 i) (w R) hk G (t2:=t) (c2:=c2) ?_ λk H=>?_)).1 h
   .exact ZG _ _ _
   .show upd (st.put oj.dst vj).ob kb _ k=_
    rw [ZR _ _ H,XL]
  .refine (Q6 (U:=U) i (.inr (.inl ?_))).1 h
   subst e
   show st.ob=(st.put oj.dst vj).ob
   rw [XL]
 .have F:=Zru N W
  have B:=ZzC V T
  have hs:=(ZeP (tt:=tt) (S:=S) (st:=st) (vi:=vi) (ui:=ui) (vj:=vj) (uj:=uj) j).1.trans (l R)
  have hA:opR tt S c.toList kj oj st vj uj:=by
   refine Za1 h (λhx=>?_) (λe=>?_)
   .obtain ⟨kb,t,c1,c2,hk,G,hu⟩:=ZyT W (w R) hx
    subst hu
    refine (Zmq g (ZzV (kb:=kb) F V (Za6 g) hs hk G (t2:=t) (c2:=c2) ?_ λk H=>?_)).2 T
    .exact ZG _ _ _
    .show upd (st.put oi.dst vi).ob kb _ k=_
     rw [ZR _ _ H,XL]
   .refine (Q6 (U:=U) g (.inr (.inl ?_))).2 T
    subst e
    show st.ob=(st.put oi.dst vi).ob
    rw [XL]
  refine ⟨hA,(Q6 (U:=U) i (.inr (.inl ?_))).1 h,o (.inr B)⟩
  subst B
  show st.ob=(st.put oj.dst vj).ob
  rw [XL]
 have E:∀{u:List (Nat×Ob)} {q:Nat},(∀p∈u,p.1=0\/(q<=p.1/\p.1<q+16)\/p.2=Ye (st.ob p.1))->(∀k,q<=k->k<q+16->¬U k)->∀k,U k->k≠0->Zl st.ob u k=st.ob k\/Zl st.ob u k=Ye (st.ob k):=λ{u q} hu hq k hk C=>by
  have P:∀(u:List (Nat×Ob)) (ob:Nat->Ob),(∀p∈u,p.1=0\/(q<=p.1/\p.1<q+16)\/p.2=Ye (st.ob p.1))->(ob k=st.ob k\/ob k=Ye (st.ob k))->(Zl ob u k=st.ob k\/Zl ob u k=Ye (st.ob k)):=by
   intro u
   induction u with
   |nil=>intro ob _ h;exact h
   |cons p u ih=>
    intro ob hp h
    refine ih _ (λx mx=>hp x (by simp [mx])) ?_
    by_cases D:k=p.1
    .rcases hp p yG with h1|h1|h1
     .exact absurd (D.trans h1) C
     .exact absurd (D ▸ hk) (hq p.1 h1.1 h1.2)
     .right;rw [D,ZG];exact h1
    .rw [ZR _ _ D];exact h
  exact P u st.ob hu (.inl rfl)
 rcases hc with ⟨W,V⟩|⟨W,V⟩
 .have z:=ZvH W h
  have A:st.ob=((st.put oi.dst vi).app ui).ob:=by
   subst z
   show st.ob=(st.put oi.dst vi).ob
   rw [XL]
  have hA:=(Q6 (U:=U) g (.inr (.inl A))).2 T
  have hs:=(ZeP (tt:=tt) (S:=S) (st:=st) (vi:=vi) (ui:=ui) (vj:=vj) (uj:=uj) j).1.trans (l R)
  refine ⟨hA,?_,o (.inl z)⟩
  refine Za1 hA (λhx=>?_) (λe=>?_)
  .refine (Zmq i (Zpt (U:=U) hm W (Za6 i) (w R) M λk hk C=>?_)).1 h
   show Zl (st.put oj.dst vj).ob uj k=_\/Zl (st.put oj.dst vj).ob uj k=_
   rw [XL]
   exact E (ZpW V hs hx) J k hk C
  .refine (Q6 (U:=U) i (.inr (.inl ?_))).1 h
   subst e
   show st.ob=(st.put oj.dst vj).ob
   rw [XL]
 .have B:=ZvH V T
  have hs:=(ZeP (tt:=tt) (S:=S) (st:=st) (vi:=vi) (ui:=ui) (vj:=vj) (uj:=uj) j).1.trans (l R)
  have hA:opR tt S c.toList kj oj st vj uj:=by
   refine Za1 h (λhx=>?_) (λe=>?_)
   .refine (Zmq g (Zpt (U:=U) hm V (Za6 g) hs M λk hk C=>?_)).2 T
    show Zl (st.put oi.dst vi).ob ui k=_\/Zl (st.put oi.dst vi).ob ui k=_
    rw [XL]
    exact E (ZpW W (w R) hx) I k hk C
   .refine (Q6 (U:=U) g (.inr (.inl ?_))).2 T
    subst e
    show st.ob=(st.put oi.dst vi).ob
    rw [XL]
  refine ⟨hA,(Q6 (U:=U) i (.inr (.inl ?_))).1 h,o (.inr B)⟩
  subst B
  show st.ob=(st.put oj.dst vj).ob
  rw [XL]
end
end
section
open Go.RowKit
section
variable {P:Program} {J:World->Prop} {JF:Nat->Prop} {W:Qq} {U:Nat->Prop} {key:Nat} {st st':St} {w w':World} {a:Act} {tt:Nat->Option TI} {hds:FuncId->Nat} {Q:Exit->Act->World->Prop}
def ZAR [NW] (W:Qq) (N:Nat) (U:Nat->Prop) (st:St):Prop:=∃a w,Inv W U st a w/\a.tmps.size=N
theorem Zzs [NW] (B:MOk P J JF W tt) {N:Nat}{all:List Oper}{o:Oper}{v:SV}{u:List (Nat×Ob)}(h:opR tt (SC P J JF hds) all key o st v u) (hR:ZAR W N U st) (d:∀k,key<=k->k<key+16->¬U k) (hd:∀t,o.dst=some t->t<N/\(W.hv=none\/t≠0)):
  ZAR W N (Uk U key) ((st.put o.dst v).app u):=by
 obtain ⟨a,w,R,K⟩:=hR;have i:∀t,o.dst=some t->t<a.tmps.size/\(W.hv=none\/t≠0):=λt V=>K ▸ hd t V;have j:v=.und/\u=[]->ZAR W N (Uk U key) ((st.put o.dst v).app u):=λ⟨e1,e2⟩=>by
  subst e1 e2;exact ⟨_,w,ZvM R _ i,by rw [Zdc];exact K⟩
 have l:ZaF tt (SC P J JF hds) key o st v u->ZAR W N (Uk U key) ((st.put o.dst v).app u):=λh=>by
  obtain ⟨⟨g,O,D⟩,C,f,M⟩:=R;have A:∀(ts:List TypeId) (args:List Operand),ZJ (SVR g w) (evs tt st ts args) (args.map a.eval)/\∀x∈evs tt st ts args,svU U x:=λts args=>by
   have he:args.map a.eval=(Zkz ts args).map λp=>a.eval p.2:=by
    have:=congrArg (List.map a.eval) (ZfY ts args);rw [<-this,List.map_map];rfl
   refine ⟨?_,λx L=>?_⟩
   .rw [he];exact ZJ.of_map _ _ λp _=>(ZlQ B.tt D C p.1 p.2).1
   .obtain ⟨p,_,rfl⟩:=AA.1 L;exact (ZlQ B.tt D C p.1 p.2).2
  cases hc:YS o.op with
  |some c=>
   simp only[ZaF,hc]at h;obtain ⟨_,b⟩:=Zha B h O C d (A c.2.1 c.2.2).1 (A c.2.1 c.2.2).2;obtain ⟨e,w',fr,⟨T,_,S,I,t2,H,G,F,E⟩,_⟩:=b [];exact ⟨_,_,Zgc D C f M i I t2 H G F E,by rw [Zdc];exact K⟩
  |none=>
   simp only[ZaF,hc]at h;cases hd2:Xm o.op with
   |some c=>
    rw [hd2]at h;simp only at h;obtain ⟨fc,h1,_,h⟩:=h;obtain ⟨cs,_,q⟩:=Zug h1 (D c.1);obtain ⟨_,b⟩:=Zha B h O C d ((A c.2.1 c.2.2).1.append q) (λx L=>by
     rcases A6.1 L with m|m
     .exact (A c.2.1 c.2.2).2 x m
     .obtain ⟨c,_,rfl⟩:=AA.1 m;exact XW _)
    obtain ⟨e,w',fr,⟨T,_,S,I,t2,H,G,F,E⟩,_⟩:=b [];exact ⟨_,_,Zgc D C f M i I t2 H G F E,by rw [Zdc];exact K⟩
   |none=>
    rw [hd2]at h;simp only at h;obtain ⟨S,cv,w',_,I,t2,H,G,F,E⟩:=ZpF (P:=P) (W:=W) (a:=a) B.tt o h O D C (d key (AD _) yE);exact ⟨_,_,Zgc D C f M i I t2 H G F E,by rw [Zdc];exact K⟩
 unfold opR at h;split at h
 .exact l h
 .exact j h
 .unfold gK at h;split at h
  .split at h
   .exact l h
   .exact j h
  .split at h
   .exact j h
   .exact h.elim
theorem Zh7 {S:Ctx}{b:Bool}{all:List Oper}{base i:Nat}{r:List Nat}{K:St->Prop}{o:Oper}(c:all[i]?=some o):Zf8 tt S b all base (i::r) K st=ifB b (stk tt S all o.op st) (opG tt S all (base+16*i) o (Zf8 tt S b all base r K) st):=by simp only[Zf8,c]
theorem Zww [NW] {S:Ctx}{all:List Oper}{base:Nat}{K:St->Prop}:∀(r:List Oper) (i:Nat) (st:St),all.drop i=r->Z8 tt S all (base+16*i) r K st->Zf8 tt S false all base (List.range' i r.length) K st
 | [],_,_,_,h=>h
 |o::r,i,st,hr,h=>by
  have hi:all[i]?=some o:=by
   have:=congrArg (λl=>l[0]?) hr;simpa using this
  have a:all.drop (i+1)=r:=by
   have:=congrArg List.tail hr;simpa using this
  rw [List.length_cons,List.range'_succ,Zh7 hi];obtain ⟨v,u,A,c⟩:=Zil.1 h;refine Zil.2 ⟨v,u,A,Zww r (i+1) _ a ?_⟩;rw [show base+16*(i+1)=base+16*i+16 by omega];exact c
theorem ZrM {b c:Bool}{P:Prop}:ifB b c P↔(b=true->c=true)/\P:=by
 cases b<;>simp [ifB]
theorem ZIc [NW] (C:MOk P J JF W tt) {b:Bool}{f:Array Oper}{N base i:Nat}{o:Oper}(I:f.toList[i]?=some o) (R:∀o∈f.toList,∀t,o.dst=some t->t<N/\(W.hv=none\/t≠0)) {K:St->Prop}{R2:List Nat}:∀(R1:List Nat) (U:Nat->Prop) (st:St),(R1++i::R2).Nodup->
  (∀j∈R1,∃oj,f.toList[j]?=some oj/\oj.apart f o=true/\Zyw tt hds b f.toList oj.op o.op=true)->(∀j∈R1++i::R2,∀k,base+16*j<=k->k<base+16*j+16->¬U k)->ZAR W N U st->
  Zf8 tt (SC P J JF hds) b f.toList base (R1++i::R2) K st->(b=true->stk tt (SC P J JF hds) f.toList o.op st=true)/\opG tt (SC P J JF hds) f.toList (base+16*i) o (Zf8 tt (SC P J JF hds) b f.toList base (R1++R2) K) st:=by
 intro R1;induction R1 with
 |nil=>
  intro U st _ _ _ _ h;rw [List.nil_append,Zh7 I]at h;exact ZrM.1 h
 |cons j R1 ih=>
  intro U st l g D L h;obtain ⟨oj,B,m,u⟩:=g j yG;rw [AZ,Zh7 B]at h;obtain ⟨G,h⟩:=ZrM.1 h;obtain ⟨vj,uj,M,h2⟩:=Zil.1 h;have p:=D j yG;have v:=D i yG;rw [AZ,AK]at l;have O:i≠j:=λe=>l.1 (by simp [e]);have w:=Zzs C M L p (R oj (AU B));obtain ⟨H,h3⟩:=ih (Uk U (base+16*j)) _ l.2 (λq A=>g q (by simp [A])) (λq A k a b F=>by
   rcases F with F|⟨c,d⟩
   .exact D q (by simp;simp at A;exact .inr A) k a b F
   .have:q=j:=by omega
    subst this;exact l.1 A) w h2
  obtain ⟨vi,ui,V,T⟩:=Zil.1 h3;obtain ⟨_,_,x,_⟩:=L;obtain ⟨c1,c2,c3⟩:=ZHq (tt:=tt) (S:=SC P J JF hds) (b:=b) m u (AU B) (AU I) x.wf p v yE G H M V;have e1:=(ZeP (tt:=tt) (S:=SC P J JF hds) (st:=st) (vi:=vj) (ui:=uj) (vj:=vi) (uj:=ui) m).1;have e2:=(ZeP (tt:=tt) (S:=SC P J JF hds) (st:=st) (vi:=vj) (ui:=uj) (vj:=vi) (uj:=ui) m).2;refine ⟨λE=>e1.trans (H E),Zil.2 ⟨vi,ui,c1,?_⟩⟩;rw [AZ,Zh7 B];exact ZrM.2 ⟨λE=>e2.trans (G E),Zil.2 ⟨vj,uj,c2,c3 ▸ T⟩⟩
def anc (ops:Array Oper):Nat->Nat->List Nat
 |0,_=>[]
 |n+1,j=>match ops[j]? with
  |some o=>(o.after.toList.filter (Region.binds .any)).flatMap λe=>e.on::anc ops n e.on
  |none=>[]
def ZqC (tt:Nat->Option TI) (hds:FuncId->Nat) (b:Bool) (ops:Array Oper) (i j:Nat):Bool:=!Nat.beq i j&&match ops[i]?,ops[j]? with
 |some oi,some oj=>(oi.after.toList.all λe=>!Region.binds .any e||!Nat.beq e.on j)&&((anc ops ops.size j).contains i||(oi.apart ops oj&&Zyw tt hds b ops.toList oi.op oj.op))
 |_,_=>true
def ZkR (tt:Nat->Option TI) (hds:FuncId->Nat) (b:Bool) (ops:Array Oper):List Nat->Bool
 | []=>true
 |i::r=>r.all (ZqC tt hds b ops i)&&ZkR tt hds b ops r
def elB (ops:Array Oper) (j:Nat):Bool:=match ops[j]? with
 |some oj=>oj.after.toList.all λe=>!Region.binds .any e||(Nat.blt e.on ops.size&&!Nat.beq e.on j)
 |none=>true
def ZEC (ops:Array Oper):Bool:=(AW ops.size).all (elB ops)
def ZvA (tt:Nat->Option TI) (hds:FuncId->Nat) (ops:Array Oper):Bool:=ZkR tt hds false ops (AW ops.size)&&ZEC ops
def ZwD (tt:Nat->Option TI) (hds:FuncId->Nat) (b:Bool) (ops:Array Oper) (l:List Nat):Bool:=ZkR tt hds b ops l&&ZEC ops&&Nat.ble l.length ops.size&&l.all (Nat.blt · ops.size)&&(AW ops.size).all l.contains
theorem Zud {a:Array Oper}(h:ZEC a=true) (j:Nat):elB a j=true:=by
 rcases Aa j a.size with c|c
 .exact AI.1 h j (by simpa using c)
 .unfold elB;rw [Ab c]
theorem Zp0 {b:Bool}{a:Array Oper}:∀{l:List Nat},ZkR tt hds b a l=true->l.Pairwise λi j=>ZqC tt hds b a i j=true
 | [],_=>List.Pairwise.nil
 |i::r,h=>by
  simp only[ZkR,A5,AI]at h;exact List.Pairwise.cons h.1 (Zp0 h.2)
theorem ZvG {i j:Nat}(h:(!Nat.beq i j)=true):i≠j:=λe=>by subst e;simp at h
theorem Znb {b:Bool}{a:Array Oper}{i j:Nat}{oi oj:Oper}(h:ZqC tt hds b a i j=true) (hi:a[i]?=some oi) (A:a[j]?=some oj):(∀e∈oi.after,Region.binds .any e=true->e.on≠j)/\(i∈anc a a.size j\/(oi.apart a oj=true/\Zyw tt hds b a.toList oi.op oj.op=true)):=by
 simp only[ZqC,hi,A,A5,AI,AG]at h;refine ⟨λe c B=>?_,h.2.2.imp (λh=>by simpa using h) λh=>h⟩;have h1:=h.2.1 e (by simpa using c);rw [B]at h1;exact ZvG (h1.resolve_left yG)
theorem Zof {b:Array Oper}{a:Array Bool}(c:∀i o,b[i]?=some o->a.getD i false=true->∀e∈o.after,Region.binds .any e=true->a.getD e.on false=true):
  ∀(n j:Nat) (o:Oper),b[j]?=some o->(∀e∈o.after,Region.binds .any e=true->a.getD e.on false=true)->∀i∈anc b n j,a.getD i false=true
 |0,j,o,_,_,i,A=>by simp [anc]at A
 |n+1,j,o,ho,he,i,A=>by
  simp only[anc,ho,Aj,List.mem_filter]at A;obtain ⟨e,⟨B,C⟩,A⟩:=A;have hl:=he e (by simpa using B) C;rcases AF.1 A with rfl|A
  .exact hl
  .cases ho':b[e.on]? with
   |none=>cases n<;>simp [anc,ho']at A
   |some o'=>exact Zof c n e.on o' ho' (λD d f=>c e.on o' ho' hl D d f) i A
theorem Zxu [NW] (aa:MOk P J JF W tt) {b:Bool}{g:Array Oper}{N base:Nat}(hN:∀o∈g.toList,∀t,o.dst=some t->t<N/\(W.hv=none\/t≠0)) (hE:∀j,elB g j=true) {K:St->Prop}
  (hQ:∀U' st' a' w',Inv W U' st' a' w'->(∀k,base+16*g.size<=k->¬U' k)->a'.tmps.size=N->K st'->Q .normal a' w'):
  ∀(p:Nat) (R:List Nat) (f:Array Bool) (U:Nat->Prop) (st:St) (a:Act) (w:World),R.length<=p->R.Pairwise (λi j=>ZqC tt hds b g i j=true)->f.size=g.size->(∀i,i∈R↔(i<g.size/\f.getD i true=false))->
   (∀i o,g[i]?=some o->f.getD i false=true->∀e∈o.after,Region.binds .any e=true->f.getD e.on false=true)->
   Zf8 tt (SC P J JF hds) b g.toList base R K st->Inv W U st a w->(∀j∈R,∀k,base+16*j<=k->k<base+16*j+16->¬U k)->(∀k,base+16*g.size<=k->¬U k)->a.tmps.size=N->wpAny P .any g Q p f a w:=by
 have L:∀j oj,g[j]?=some oj->∀e∈oj.after,Region.binds .any e=true->e.on<g.size/\e.on≠j:=λj oj hj e me hb=>by
  have h1:=hE j;simp only[elB,hj,AI,AG,A5]at h1;have h2:=h1 e (by simpa using me);rw [hb]at h2;have h3:=h2.resolve_left yG;exact ⟨AB h3.1,ZvG h3.2⟩
 intro p;induction p with
 |zero=>
  intro R f U st a w B _ y l _ h hI _ hU hs;have hR:R=[]:=List.eq_nil_of_length_eq_zero yE;subst hR;refine ⟨?_,hQ U st a w hI hU hs h⟩;rw [List.eq_nil_iff_forall_not_mem];intro i mi;obtain ⟨h1,o,h2,_⟩:=mem_ready.1 mi;exact absurd ((l i).2 ⟨(AX.1 h2).1,h1⟩) yG
 |succ p ih=>
  intro R f U st a w B z y l F h hI hk hU hs;refine ⟨λhr=>?_,λi mi=>?_⟩
  .cases R with
   |nil=>exact hQ U st a w hI hU hs h
   |cons r0 R=>
    exfalso;obtain ⟨m1,m2⟩:=(l r0).1 yG;have:r0∈Region.ready .any g f:=mem_ready.2 ⟨m2,g[r0],by simp [m1],λe me hb=>by
     have x:=L r0 g[r0] (by simp [m1]) e me hb;by_cases hl:f.getD e.on true=false
     .have mR:=(l e.on).2 ⟨x.1,hl⟩;rcases AF.1 mR with e1|mR
      .exact absurd e1 x.2
      .exact absurd rfl ((Znb ((List.pairwise_cons.1 z).1 _ mR) (oi:=g[r0]) (oj:=g[e.on]'x.1) (by simp [m1]) (by simp [x.1])).1 e me hb)
     .have G:e.on<f.size:=by omega
      simp only[AH,G,getElem?_pos,Ac,Bool.not_eq_false]at hl ⊢;exact hl⟩
    rw [hr]at this;simp at this
  .obtain ⟨i1,o,i2,i3⟩:=mem_ready.1 mi;have C:i<g.size:=(AX.1 i2).1;have M:i∈R:=(l i).2 ⟨C,i1⟩;obtain ⟨R1,R2,rfl⟩:=List.append_of_mem M;have A:(R1++i::R2).Nodup:=z.imp λh=>by
    simp only[ZqC,A5]at h;exact ZvG h.1
   have ho:g.toList[i]?=some o:=by simpa using i2
   have H:=Zof F g.size i o i2 i3;have D:∀j∈R1,∃oj,g.toList[j]?=some oj/\oj.apart g o=true/\Zyw tt hds b g.toList oj.op o.op=true:=λj mj=>by
    obtain ⟨j1,j2⟩:=(l j).1 (by simp [mj]);have O:=(List.pairwise_append.1 z).2.2 j mj i yG;have hj:g[j]?=some g[j]:=by simp [j1]
    refine ⟨g[j],by simp [j1],(Znb O hj i2).2.resolve_left λma=>?_⟩;have:=H j ma;have x:j<f.size:=by omega
    simp only[AH,x,getElem?_pos,Ac]at this j2;rw [this]at j2;simp at j2
   have S:=(ZIc aa ho hN R1 U st A D hk ⟨a,w,hI,hs⟩ h).2;refine wpOp_mono ?_ (ZpC aa i2 S hI (hk i yG) (λt ht=>by rw [hs];exact hN o (AU ho) t ht));rintro a' w' ⟨st',T,ac,V⟩;have I:∀q,(f.setIfInBounds i true).getD q true=if q=i then true else f.getD q true:=λq=>by
    by_cases e:q=i
    .subst e;simp [AH,Ak,y,C]
    .simp [AH,Al (λe':i=q=>e e'.symm),e]
   have E:∀q,(f.setIfInBounds i true).getD q false=if q=i then true else f.getD q false:=λq=>by
    by_cases e:q=i
    .subst e;simp [AH,Ak,y,C]
    .simp [AH,Al (λe':i=q=>e e'.symm),e]
   have v:i∉R1++R2:=by
    rw [AS]at A;intro m;rcases A6.1 m with m|m
    .exact A.2.2 i m i yG rfl
    .exact (AK.1 A.2.1).1 m
   refine ih (R1++R2) _ (Uk U (base+16*i)) st' a' w' (by simp at B ⊢;omega) (z.sublist (Ad (Am _) (List.sublist_cons_self i R2))) (by simp [y]) (λq=>?_) (λq oq hq hl e me hb=>?_) V T (λq mq k c d u=>?_) (λk X u=>?_) yE
   .rw [I q];by_cases e:q=i
    .subst e;simp only[if_true,Bool.true_eq_false,and_false,iff_false];exact v
    .rw [if_neg e,<-l q];simp [e]
   .rw [E]at hl ⊢;by_cases e1:e.on=i
    .simp [e1]
    .rw [if_neg e1];by_cases e2:q=i
     .subst e2;rw [i2]at hq;simp only[A0]at hq;subst hq;exact i3 e me hb
     .rw [if_neg e2]at hl;exact F q oq hq hl e me hb
   .have Y:q∈R1++i::R2:=by simp at mq ⊢;rcases mq with mq|mq<;>simp [mq]
    rcases u with u|⟨c',d'⟩
    .exact hk q Y k c d u
    .have:q=i:=by omega
     subst this;exact v mq
   .rcases u with u|⟨c',d'⟩
    .exact hU k X u
    .omega
end
end
section
open Go.RowKit
theorem Zwj:∀{ρ:List Nat}{k i j:Nat},ZqH ρ k i=some j->i<=j/\ρ[j - i]?=some k
 | [],_,_,_,h=>by simp [ZqH]at h
 |x::r,k,i,j,h=>by
  simp only[ZqH]at h;split at h
  .rename_i e;simp only[A0]at h;subst h e;exact ⟨AD _,yG⟩
  .obtain ⟨A,c⟩:=Zwj h;refine ⟨yE,?_⟩;rw [show j - i=(j - (i+1))+1 by omega];simpa using c
theorem ZdV [NW] {ρ:List Nat}{k j:Nat}(h:ZqH ρ k 0=some j):ρ[j]?=some k:=by simpa using (Zwj h).2
theorem Zqm {α:Type}:∀{l:List α},l.Nodup->∀{i j:Nat}(hi:i<l.length) (c:j<l.length),l[i]=l[j]->i=j
 | [],_,_,_,hi,_,_=>by simp at hi
 |x::l,h,0,0,_,_,_=>rfl
 |x::l,h,0,j+1,_,c,e=>by
  rw [AK]at h;exact absurd (by simp at e;rw [e];exact An _) h.1
 |x::l,h,i+1,0,hi,_,e=>by
  rw [AK]at h;exact absurd (by simp at e;rw [<-e];exact An _) h.1
 |x::l,h,i+1,j+1,hi,c,e=>by
  rw [AK]at h;have:=Zqm h.2 (i:=i) (j:=j) (by simpa using hi) (by simpa using c) (by simpa using e);omega
section
variable {P:Program} {J:World->Prop} {JF:Nat->Prop} {W:Qq} {U:Nat->Prop} {st st':St} {w w':World} {a:Act} {tt:Nat->Option TI} {S:Ctx}
theorem ZFV [NW] {g A:Gh}{ρ:List Nat}(C:∀j k,ρ[j]?=some k->A.val j=g.val k) (B:XV A g) {x:AV}{v:Value}(h:AVR g w x v):AVR A w (rAV ρ x) v:=by
 cases x with
 |c x=>obtain ⟨L,F,E⟩:=h;exact ⟨L,F,λb m o=>E b m (B.own b o)⟩
 |n x=>exact NR.move h (λ_ _ _=>rfl) (B.grow _)
 |row k=>
  simp only[rAV];split
  .rename_i j D;exact ⟨by rw [C j k (ZdV D)];exact h.1,h.2⟩
  .exact h.2
 |nil e m=>exact h
 |dead=>exact h
theorem ZJ.map_left {α β γ:Type}{R:α->γ->Prop}{R':β->γ->Prop}(f:α->β) (h:∀a c,R a c->R' (f a) c):∀{l:List α}{r:List γ},ZJ R l r->ZJ R' (l.map f) r
 | [],[],_=>trivial
 |_::_,_::_,hh=>⟨h _ _ hh.1,hh.2.map_left f h⟩
 | [],_::_,h=>h.elim
 |_::_,[],h=>h.elim
theorem ZyG [NW] (ρ:List Nat) (x:AV):avU (λj=>j<ρ.length) (rAV ρ x):=by
 cases x with
 |row k=>
  simp only[rAV];split
  .rename_i j c;exact (AJ.1 (ZdV c)).1
  .trivial
 |_=>trivial
theorem ZvI [NW] (hI:Inv W U st a w) {ρ:List Nat}(hρ:ρ.Nodup):Inv W (λj=>j<ρ.length) (st.ren ρ) a w:=by
 obtain ⟨⟨g,R,hS⟩,hU,B,hh⟩:=hI;let J:Gh:=⟨λj=>match ρ[j]? with|some k=>g.val k|none=>undef,λj=>match ρ[j]? with|some k=>g.O k|none=>[],λj=>match ρ[j]? with|some k=>g.D k|none=>[],g.Z⟩
 have M:∀j k,ρ[j]?=some k->J.val j=g.val k/\J.O j=g.O k/\J.D j=g.D k:=λj k h=>by simp [J,h]
 have P:∀j,ρ[j]?=none->J.O j=[]/\J.D j=[]:=λj h=>by simp [J,h]
 have ho:∀b,J.own b->g.own b:=λb hb=>by
  rcases hb with ⟨j,mj⟩|hz
  .cases h:ρ[j]? with
   |none=>rw [(P j h).1]at mj;simp at mj
   |some k=>rw [(M j k h).2.1]at mj;exact .inl ⟨k,mj⟩
  .exact .inr hz
 have A:XV J g:=.of ho λj b H=>by
  cases h:ρ[j]? with
  |none=>rw [(P j h).2]at H;simp at H
  |some k=>rw [(M j k h).2.2]at H;exact ⟨k,H⟩
 have C:∀x v,AVR g w x v->AVR J w (rAV ρ x) v:=λx v h=>ZFV (λj k F=>(M j k F).1) A h;have u:∀xs vs,ZJ (AVR g w) xs vs->ZJ (AVR J w) (xs.map (rAV ρ)) vs:=λxs vs h=>h.map_left _ C;have E:∀ag cs v,PVR g w ag cs v->PVR J w ag (cs.map (rAV ρ)) v:=λag cs v h=>by
  cases ag with
  |true=>obtain ⟨vs,K,I⟩:=h;exact ⟨vs,K,u _ _ I⟩
  |false=>obtain ⟨x,rfl,I⟩:=h;exact ⟨_,rfl,C _ _ I⟩
 refine ⟨⟨J,⟨R.below,λj=>?_,λj=>?_,λj i G b H=>?_,λj b H=>?_,R.gz,R.zx,R.nw,λj b H=>by
  cases h:ρ[j]? with
  |none=>rw [(P j h).1]at H;simp at H
  |some k=>rw [(M j k h).2.1]at H;exact R.oy k b H⟩,λt=>?_⟩,⟨λt=>?_,λj=>?_,λj T=>?_⟩,B,hh⟩
 .show ObR J w j (match ρ[j]? with|some k=>rOb ρ (st.ob k)|none=>.gone)
  cases h:ρ[j]? with
  |none=>exact P j h
  |some k=>
   obtain ⟨e1,e2,e3⟩:=M j k h;have l:=R.obs k;show ObR J w j (rOb ρ (st.ob k))
   cases hok:st.ob k with
   |gone=>rw [hok]at l;exact ⟨e2.trans l.1,e3.trans l.2⟩
   |box t cs=>
    rw [hok]at l;obtain ⟨b,vs,K,I,S,N,V⟩:=l;exact ⟨b,vs,e1.trans K,e2.trans I,e3.trans S,N,u _ _ V⟩
   |map kk vk kv=>
    rw [hok]at l;obtain ⟨b,es,c,K,I,S,N⟩:=l;exact ⟨b,es,c,e1.trans K,e2.trans I,e3.trans S,N⟩
   |row e m xs d=>
    rw [hok]at l;obtain ⟨hm,cs,L,K,I,N⟩:=l;refine ⟨hm,cs,L,by rw [e1];exact K,I,?_⟩;rw [e1,e2,e3];rcases N with N|⟨hd,S,N,V⟩|⟨hd,S,N,V⟩
    .exact .inl N
    .exact .inr (.inl ⟨hd,S,N,λb H o=>V b H (ho b o)⟩)
    .exact .inr (.inr ⟨hd,S,N,λb H o=>V b H (ho b o)⟩)
 .cases h:ρ[j]? with
  |none=>rw [(P j h).1,(P j h).2];simp
  |some k=>rw [(M j k h).2.1,(M j k h).2.2];exact R.nodup k
 .cases h:ρ[j]? with
  |none=>rw [(P j h).1,(P j h).2]at H;simp at H
  |some k=>
   rw [(M j k h).2.1,(M j k h).2.2]at H;cases h':ρ[i]? with
   |none=>rw [(P i h').1,(P i h').2];simp
   |some q=>
    rw [(M i q h').2.1,(M i q h').2.2];refine R.apart k q (λe=>G ?_) b H;subst e;obtain ⟨l1,e1⟩:=AJ.1 h;obtain ⟨l2,e2⟩:=AJ.1 h';exact Zqm hρ l1 l2 (e1.trans e2.symm)
 .cases h:ρ[j]? with
  |none=>rw [(P j h).1,(P j h).2]at H;simp at H
  |some k=>
   rw [(M j k h).2.1,(M j k h).2.2]at H;refine ⟨(R.plain k b H).1,(R.plain k b H).2.of ?_⟩;show Zji (match ρ[j]? with|some k=>rOb ρ (st.ob k)|none=>.gone)=_
   rw [h];show Zji (rOb ρ (st.ob k))=_
   cases st.ob k<;>rfl
 .have hs:=hS t;show SVR J w (rSV ρ (st.sl t)) _
  cases hsl:st.sl t with
  |any=>trivial
  |und=>rw [hsl]at hs;exact hs
  |p ag cs=>rw [hsl]at hs;exact E _ _ _ hs
  |tup xs=>
   rw [hsl]at hs;obtain ⟨vs,K,I⟩:=hs;exact ⟨vs,K,I.map_left (λx:Bool×List AV=>(x.1,x.2.map (rAV ρ))) λx v h=>E x.1 x.2 v h⟩
  |bp k off=>
   rw [hsl]at hs;simp only[rSV];split
   .rename_i j T;obtain ⟨b,K,I⟩:=hs;exact ⟨b,((M j k (ZdV T)).1).trans K,I⟩
   .trivial
  |rp k m i off=>
   rw [hsl]at hs;simp only[rSV];split
   .rename_i j T;obtain ⟨b,o,n,c,K,I⟩:=hs;exact ⟨b,o,n,c,((M j k (ZdV T)).1).trans K,I⟩
   .trivial
  |ep e off=>
   rw [hsl]at hs;obtain ⟨b,lo,cs,L,K,I,S,N,V⟩:=hs;exact ⟨b,lo,cs,L,K,I,S,λx m o=>N x m (ho x o),V⟩
  |fn f=>rw [hsl]at hs;exact hs
 .show svU _ (rSV ρ (st.sl t))
  cases st.sl t with
  |p ag cs=>intro y my;obtain ⟨x,_,rfl⟩:=AA.1 my;exact ZyG ρ x
  |tup xs=>
   intro y my;obtain ⟨x,_,rfl⟩:=AA.1 my;intro z mz;obtain ⟨q,_,rfl⟩:=AA.1 mz;exact ZyG ρ q
  |bp k off=>
   simp only[rSV];split
   .rename_i j T;exact (AJ.1 (ZdV T)).1
   .trivial
  |rp k m i off=>
   simp only[rSV];split
   .rename_i j T;exact (AJ.1 (ZdV T)).1
   .trivial
  |_=>trivial
 .show obU _ (match ρ[j]? with|some k=>rOb ρ (st.ob k)|none=>.gone)
  split
  .rename_i k _;cases st.ob k with
   |box t cs=>intro y my;obtain ⟨x,_,rfl⟩:=AA.1 my;exact ZyG ρ x
   |_=>trivial
  .trivial
 .show (match ρ[j]? with|some k=>rOb ρ (st.ob k)|none=>.gone)=.gone
  have:ρ[j]?=none:=List.getElem?_eq_none yE;rw [this]
theorem ZBb [NW] {g:Gh}{ob:Nat->Ob}(C:HI W g ob w) {k e m d I:Nat}{xs:List (List CT)}(M:ob k=.row e m xs d) (hd:I<d):∃A:Gh,HI W A (upd ob k (.row e m xs I)) w/\A.val=g.val/\XV A g:=by
 by_cases h0:I=0
 .obtain ⟨A,G,F,H,_⟩:=ZjS C k;rw [M]at G;exact ⟨A,by rw [h0];exact G,F,H⟩
 .have ho:=C.obs k;rw [M]at ho;obtain ⟨hm,cs,L,o1,o2,J⟩:=ho;have F:d=2/\g.O k=(g.val k).ownBlock.toList/\g.D k=L:=by
   rcases J with J|⟨q,_⟩|⟨q,_⟩
   .exact J
   .omega
   .omega
  obtain ⟨rfl,U,T⟩:=F;obtain rfl:I=1:=by omega
  let A:Gh:=⟨g.val,g.O,upd g.D k [],g.Z⟩
  have S:∀b,A.own b↔g.own b:=λb=>Iff.rfl;have l:XV A g:=.of (λb N=>N) λj b E=>by
   by_cases B:j=k
   .subst B;simp [A,upd]at E
   .exact ⟨j,by simpa [A,upd,B]using E⟩
  have f:∀j b,b∈A.O j++A.D j->b∈g.O j++g.D j:=λj b E=>by
   by_cases B:j=k
   .subst B;simp [A,upd]at E;simp [E]
   .simpa [A,upd,B]using E
  refine ⟨A,⟨C.below,λj=>?_,λj=>?_,λi j o b E mj=>C.apart i j o b (f i b E) (f j b mj),λj b E=>⟨(C.plain j b (f j b E)).1,(C.plain j b (f j b E)).2.of (by
   by_cases B:j=k
   .subst B;rw [ZG,M];rfl
   .rw [ZR _ _ B])⟩,C.gz,C.zx,C.nw,C.oy⟩,rfl,l⟩
  .by_cases B:j=k
   .subst B;rw [ZG];refine ⟨hm,cs,L,o1,o2,.inr (.inl ⟨rfl,U,by simp [A,upd],λb E N=>?_⟩)⟩;have K:b∈g.D j:=by rw [T];exact E
    rcases N with ⟨i,R⟩|hz
    .by_cases o:i=j
     .subst o;have:=C.nodup i;rw [AS]at this;exact this.2.2 b R b K rfl
     .exact C.apart i j o b (by simp;exact .inl R) (by simp [K])
    .exact C.nz (k:=j) (b:=b) (by simp [K]) hz
   .rw [ZR _ _ B];have a:=C.obs j;cases hh:ob j with
    |gone=>rw [hh]at a;exact ⟨a.1,by simpa [A,upd,B]using a.2⟩
    |box t ds=>
     rw [hh]at a;obtain ⟨b,vs,G,F,H,P,h5⟩:=a;exact ⟨b,vs,G,F,by simpa [A,upd,B]using H,P,h5.mono λx u _ hx=>AVR.less hx rfl l⟩
    |map kk vk kv=>
     rw [hh]at a;obtain ⟨b,es,c,G,F,H,P⟩:=a;exact ⟨b,es,c,G,F,by simpa [A,upd,B]using H,P⟩
    |row e' m' xs' d2=>
     rw [hh]at a;obtain ⟨p,v,L',p1,p2,V⟩:=a;refine ⟨p,v,L',p1,p2,?_⟩;have e2:A.D j=g.D j:=by simp [A,upd,B]
     rw [e2];exact V
  .by_cases B:j=k
   .subst B;have:=C.nodup j;rw [AS]at this;simpa [A,upd]using this.1
   .have:=C.nodup j;simpa [A,upd,B]using this
theorem ZBh [NW] (m:Bool×Nat×Nat) (hI:Inv W U st a w) (hk:∀k,st.n<=k->¬U k):∃U',Inv W U' (st.mat m) a w/\∀k,(st.mat m).n<=k->¬U' k:=by
 have A:∃U',Inv W U' st a w/\∀k,st.n<=k->¬U' k:=⟨U,hI,hk⟩
 have S:¬U st.n:=hk st.n (AD _);have N:∀k,st.n+1<=k->¬(U k\/k=st.n):=λk l h=>by
  rcases h with h|h
  .exact hk k yE h
  .omega
 have T:∀(e q:Nat),0<q->∀g,HI W g st.ob w->∃g',HI W g' (upd st.ob st.n (.row e q [] 2)) w/\(∀x u,svU U x->SVR g w x u->SVR g' w x u)/\g'.val st.n=.slice none 0 0/\(∀x u,avU U x->AVR g w x u->AVR g' w x u):=λe q hq g hH=>by
  obtain ⟨t1,t2⟩:=hH.turn (key:=st.n) (U:=U) (w':=w) (v:=.slice none 0 0) (O:=[]) (D:=[]) (o:=.row e q [] 2) hI.wf.ob S [] yG hH.below (AD _) (λ_ _ _=>rfl) yG yG yG yG
   (λ_=>⟨hq,[],[],by simpa [Gh.turn,upd]using ZfE _ _ _ _,⟨rfl,rfl⟩,.inl ⟨rfl,by simp [Gh.turn,upd,Value.ownBlock],by simp [Gh.turn]⟩⟩)
  refine ⟨_,t1,t2,by simp [Gh.turn,upd],λx u hx hu=>hu.move hx (λk l=>ZR _ _ λe=>S (e ▸ l)) (λ_ _ _=>rfl) (ZqB yG yG)⟩
 have up:∀k,U k->(U k\/k=st.n):=λ_ h=>.inl h;obtain ⟨⟨g,hH,hS⟩,hU,B,hh⟩:=hI;have P:∀k e q xs d,st.ob k=.row e q xs d->∃g1:Gh,HI W g1 (upd st.ob k (.row e q xs 0)) w/\g1.val=g.val/\XV g1 g/\U k/\∀v,AVR g w (.row k) v->AVR g1 w (.c (.sl e q xs)) v:=λk e q xs d f=>by
  obtain ⟨g1,i1,i2,i3,_⟩:=ZjS hH k;rw [f]at i1;obtain ⟨L,t1,t2⟩:=ZsF i1 (ZG st.ob k (.row e q xs 0));exact ⟨g1,i1,i2,i3,Classical.byContradiction λhn=>by have:=hU.gone _ hn;rw [f]at this;simp at this,λv hv=>⟨L,by rw [hv.1,<-i2];exact t1,t2⟩⟩
 have Q:∀{gg:Gh} {cs:List AV} {vs:List Value} {j:Nat} {y:AV} {v:Value},ZJ (AVR gg w) cs vs->vs[j]?=some v->AVR gg w y v->ZJ (AVR gg w) (cs.set j y) vs:=λ{gg cs vs j y v} h1 h2 h3=>by
  have:=h1.set (i:=j) h3;obtain ⟨hl,he⟩:=AJ.1 h2;rw [<-he,Ae hl]at this;exact this
 have R:∀{gg:Gh} {ag:Bool} {cs:List AV} {v:Value} {j:Nat} {x y:AV},PVR gg w ag cs v->cs[j]?=some x->(∀u,AVR gg w x u->AVR gg w y u)->PVR gg w ag (cs.set j y) v:=λ{gg ag cs v j x y} h1 h2 h3=>by
  cases ag with
  |true=>
   obtain ⟨vs,rfl,h4⟩:=h1;obtain ⟨u,u1,u2⟩:=h4.at h2;exact ⟨vs,rfl,Q h4 u1 (h3 u u2)⟩
  |false=>
   obtain ⟨z,rfl,h4⟩:=h1;cases j with
   |zero=>simp at h2;subst h2;exact ⟨y,rfl,h3 v h4⟩
   |succ j=>simp at h2
 have K:∀{V:Nat->Prop} {cs:List AV} {j:Nat} {y:AV},XX V cs->avU V y->XX V (cs.set j y):=λ{V cs j y} h1 h2 z mz=>by
  rcases Ag mz with mz|mz
  .exact h1 z mz
  .subst mz;exact h2
 unfold St.mat;split
 .split
  .rename_i ag cs X;have G:XX U cs:=by have:=hU.sl m.2.1;rw [X]at this;exact this
   have hs:=hS m.2.1;rw [X]at hs;split
   .rename_i e q H;split
    .rename_i hq;obtain ⟨g',t1,t2,t3,t4⟩:=T e q hq g hH;refine ⟨λk=>U k\/k=st.n,⟨⟨g',t1,λt=>?_⟩,⟨λt=>?_,λk=>?_,λk l=>?_⟩,B,hh⟩,N⟩
     .show SVR g' w (upd st.sl m.2.1 (.p ag (cs.set m.2.2 (.row st.n))) t) _
      by_cases ht:t=m.2.1
      .subst ht;rw [ZG];have h1:PVR g' w ag cs (a.tmps.getD m.2.1 undef):=t2 (.p ag cs) _ G hs;refine R h1 H λu hu=>?_;have Z:u=.slice none 0 0:=hu;rw [Z];exact ⟨t3.symm,rfl⟩
      .rw [ZR _ _ ht];exact t2 _ _ (hU.sl t) (hS t)
     .show svU _ (upd st.sl m.2.1 (.p ag (cs.set m.2.2 (.row st.n))) t)
      by_cases ht:t=m.2.1
      .subst ht;rw [ZG];exact K (G.mono up) (.inr rfl)
      .rw [ZR _ _ ht];exact (hU.sl t).mono up
     .show obU _ (upd st.ob st.n _ k)
      by_cases l:k=st.n
      .subst l;rw [ZG];trivial
      .rw [ZR _ _ l];exact (hU.ob k).mono up
     .show upd st.ob st.n _ k=_
      rw [ZR _ _ λe=>l (.inr e)];exact hU.gone k λh=>l (.inl h)
    .exact A
   .rename_i k H;split
    .rename_i e q xs d f;obtain ⟨g1,i1,i2,i3,C,i4⟩:=P k e q xs d f;refine ⟨U,⟨⟨g1,i1,λt=>?_⟩,⟨λt=>?_,λj=>?_,λj hj=>?_⟩,B,hh⟩,hk⟩
     .show SVR g1 w (upd st.sl m.2.1 (.p ag (cs.set m.2.2 (.c (.sl e q xs)))) t) _
      by_cases ht:t=m.2.1
      .subst ht;rw [ZG];have h1:PVR g1 w ag cs (a.tmps.getD m.2.1 undef):=(show SVR g w (.p ag cs) _ from hs).less i2 i3;exact R h1 H λu hu=>i4 u ⟨hu.1.trans (by rw [i2]),hu.2⟩
      .rw [ZR _ _ ht];exact (hS t).less i2 i3
     .show svU _ (upd st.sl m.2.1 (.p ag (cs.set m.2.2 (.c (.sl e q xs)))) t)
      by_cases ht:t=m.2.1
      .subst ht;rw [ZG];exact K G trivial
      .rw [ZR _ _ ht];exact hU.sl t
     .show obU U (upd st.ob k (.row e q xs 0) j)
      by_cases h1:j=k
      .subst h1;rw [ZG];trivial
      .rw [ZR _ _ h1];exact hU.ob j
     .show upd st.ob k (.row e q xs 0) j=_
      rw [ZR _ _ (show j≠k from λe'=>hj (e' ▸ C))];exact hU.gone j hj
    .exact A
   .exact A
  .exact A
 .split
  .rename_i ty cs f;split
   .rename_i e q H;split
    .rename_i hq;obtain ⟨g',t1,t2,t3,t4⟩:=T e q hq g hH;have C:U m.2.1:=Classical.byContradiction λhn=>by have:=hU.gone _ hn;rw [f]at this;simp at this
     have E:m.2.1≠st.n:=λe=>S (e ▸ C);have G:XX U cs:=by have:=hU.ob m.2.1;rw [f]at this;exact this
     have F:=t1.obs m.2.1;rw [ZR _ _ E,f]at F;obtain ⟨b,vs,b1,b2,b3,b4,b5⟩:=F;obtain ⟨u,u1,u2⟩:=b5.at H;have Y:u=.slice none 0 0:=u2;have aa:vs.set m.2.2 u=vs:=by
      obtain ⟨hl,he⟩:=AJ.1 u1;rw [<-he];exact Ae hl
     have I:ObR g' w m.2.1 (.box ty (cs.set m.2.2 (.row st.n))):=by
      refine ⟨b,vs,b1,b2,b3,b4,?_⟩;have:=b5.set (i:=m.2.2) (a:=AV.row st.n) (b:=u) ⟨by rw [Y,t3],by rw [Y];rfl⟩;rw [aa]at this;exact this
     have J:∀k,(upd (upd st.ob m.2.1 (.box ty (cs.set m.2.2 (.row st.n)))) st.n (.row e q [] 2)) k=if k=m.2.1 then .box ty (cs.set m.2.2 (.row st.n)) else (upd st.ob st.n (.row e q [] 2)) k:=λk=>by
      by_cases h1:k=st.n
      .have h2:¬k=m.2.1:=λe'=>E (e'.symm.trans h1);have h3:¬st.n=m.2.1:=λe'=>E e'.symm;simp [upd,h1,h3]
      .by_cases h2:k=m.2.1
       .simp [upd,h2,E]
       .simp [upd,h1,h2]
     refine ⟨λk=>U k\/k=st.n,⟨⟨g',⟨t1.below,λk=>?_,t1.nodup,t1.apart,λk b mb=>⟨(t1.plain k b mb).1,(t1.plain k b mb).2.of (by
       show Zji ((upd (upd st.ob m.2.1 (.box ty (cs.set m.2.2 (.row st.n)))) st.n (.row e q [] 2)) k)=_
       rw [J k];split
       .rename_i h1;subst h1;rw [ZR _ _ E,f];rfl
       .rfl)⟩,t1.gz,t1.zx,t1.nw,t1.oy⟩,λt=>t2 _ _ (hU.sl t) (hS t)⟩,⟨λt=>(hU.sl t).mono up,λk=>?_,λk l=>?_⟩,B,hh⟩,N⟩
     .show ObR g' w k ((upd (upd st.ob m.2.1 (.box ty (cs.set m.2.2 (.row st.n)))) st.n (.row e q [] 2)) k)
      rw [J k];split
      .rename_i h1;subst h1;exact I
      .exact t1.obs k
     .show obU _ ((upd (upd st.ob m.2.1 (.box ty (cs.set m.2.2 (.row st.n)))) st.n (.row e q [] 2)) k)
      rw [J k];split
      .intro y my;rcases Ag my with my|my
       .exact (G y my).mono up
       .subst my;exact .inr rfl
      .by_cases h1:k=st.n
       .subst h1;rw [ZG];trivial
       .rw [ZR _ _ h1];exact (hU.ob k).mono up
     .show (upd (upd st.ob m.2.1 (.box ty (cs.set m.2.2 (.row st.n)))) st.n (.row e q [] 2)) k=_
      rw [J k,if_neg (show ¬k=m.2.1 from λe'=>l (.inl (e' ▸ C))),ZR _ _ (show k≠st.n from λe'=>l (.inr e'))];exact hU.gone k λh=>l (.inl h)
    .exact A
   .rename_i k H;split
    .rename_i e q xs d M;obtain ⟨g1,i1,i2,i3,C,i4⟩:=P k e q xs d M;have ab:U m.2.1:=Classical.byContradiction λhn=>by have:=hU.gone _ hn;rw [f]at this;simp at this
     have E:k≠m.2.1:=λe'=>by rw [e',f]at M;simp at M
     have G:XX U cs:=by have:=hU.ob m.2.1;rw [f]at this;exact this
     have F:=i1.obs m.2.1;rw [ZR _ _ (λe'=>E e'.symm),f]at F;obtain ⟨b,vs,b1,b2,b3,b4,b5⟩:=F;obtain ⟨u,u1,u2⟩:=b5.at H;have I:ObR g1 w m.2.1 (.box ty (cs.set m.2.2 (.c (.sl e q xs)))):=⟨b,vs,b1,b2,b3,b4,Q b5 u1 (i4 u ⟨u2.1.trans (by rw [i2]),u2.2⟩)⟩
     refine ⟨U,⟨⟨g1,⟨i1.below,λj=>?_,i1.nodup,i1.apart,λj b mb=>⟨(i1.plain j b mb).1,(i1.plain j b mb).2.of (by
       show Zji (upd (upd st.ob k (.row e q xs 0)) m.2.1 (.box ty (cs.set m.2.2 (.c (.sl e q xs)))) j)=_
       by_cases h1:j=m.2.1
       .subst h1;rw [ZG,ZR _ _ (λe'=>E e'.symm),f];rfl
       .rw [ZR _ _ h1])⟩,i1.gz,i1.zx,i1.nw,i1.oy⟩,λt=>(hS t).less i2 i3⟩,⟨hU.sl,λj=>?_,λj hj=>?_⟩,B,hh⟩,hk⟩
     .show ObR g1 w j (upd (upd st.ob k (.row e q xs 0)) m.2.1 (.box ty (cs.set m.2.2 (.c (.sl e q xs)))) j)
      by_cases h1:j=m.2.1
      .subst h1;rw [ZG];exact I
      .rw [ZR _ _ h1];exact i1.obs j
     .show obU U (upd (upd st.ob k (.row e q xs 0)) m.2.1 (.box ty (cs.set m.2.2 (.c (.sl e q xs)))) j)
      by_cases h1:j=m.2.1
      .subst h1;rw [ZG];exact K G trivial
      .rw [ZR _ _ h1];by_cases h2:j=k
       .subst h2;rw [ZG];trivial
       .rw [ZR _ _ h2];exact hU.ob j
     .show upd (upd st.ob k (.row e q xs 0)) m.2.1 (.box ty (cs.set m.2.2 (.c (.sl e q xs)))) j=_
      rw [ZR _ _ (show j≠m.2.1 from λe'=>hj (e' ▸ ab)),ZR _ _ (show j≠k from λe'=>hj (e' ▸ C))];exact hU.gone j hj
    .exact A
   .exact A
  .rename_i e q xs d f;split
   .rename_i ac;have C:U m.2.1:=Classical.byContradiction λhn=>by have:=hU.gone _ hn;rw [f]at this;simp at this
    obtain ⟨g1,t1,t2,t3⟩:=ZBb hH f ac;refine ⟨U,⟨⟨g1,t1,λt=>(hS t).less t2 t3⟩,⟨hU.sl,λk=>?_,λk l=>?_⟩,B,hh⟩,hk⟩
    .show obU U (upd st.ob m.2.1 (.row e q xs m.2.2) k)
     by_cases h1:k=m.2.1
     .subst h1;rw [ZG];trivial
     .rw [ZR _ _ h1];exact hU.ob k
    .show upd st.ob m.2.1 (.row e q xs m.2.2) k=_
     rw [ZR _ _ (show k≠m.2.1 from λe'=>l (e' ▸ C))];exact hU.gone k l
   .exact A
  .exact A
theorem ZAt [NW] (m:Bool×Nat×Nat) (hI:Inv W U st a w) (hk:∀k,st.n<=k->¬U k):∃U',Inv W U' (st.matN m) a w/\∀k,(st.matN m).n<=k->¬U' k:=by
 have c:∃U',Inv W U' st a w/\∀k,st.n<=k->¬U' k:=⟨U,hI,hk⟩
 obtain ⟨⟨g,K,hS⟩,J,o,hh⟩:=hI;unfold St.matN;split
 .rename_i F cs x;have A:XX U cs:=by have:=J.sl m.2.1;rw [x]at this;exact this
  have hs:=hS m.2.1;rw [x]at hs;split
  .rename_i k f;split
   .rename_i e q xs d l;split
    .rename_i hd;subst hd;obtain ⟨O,i1,i2,V,i5⟩:=ZjS K k;rw [l]at i1;obtain ⟨hm,B,L,o1,o2,o3,o5⟩:=K.deep l;have T:∀v,AVR g w (.row k) v->AVR O w (.n (.sl e q xs)) v:=λv R=>by
      rcases o5 with ⟨_,P,q2⟩|⟨P,_⟩|⟨P,_⟩
      .have hN:=K.nodup k;have hP:=K.plain k;have hF:=i5 ⟨_,_,_,_,l⟩;rw [P,q2]at hN hP hF;rw [l]at hP;refine ⟨e,q,xs,B,L,rfl,hm,by rw [R.1];exact o1,o2,by rw [R.1];exact hN,λb M=>?_⟩;rw [R.1]at M;exact ⟨hF b M,K.nw b (hP b M).1,(hP b M).2⟩
      .omega
      .omega
     have C:U k:=Classical.byContradiction λhn=>by have:=J.gone _ hn;rw [l]at this;simp at this
     refine ⟨U,⟨⟨O,i1,λt=>?_⟩,⟨λt=>?_,λj=>?_,λj I=>?_⟩,o,hh⟩,hk⟩
     .show SVR O w (upd st.sl m.2.1 (.p F (cs.set (m.2.2 - 4096) (.n (.sl e q xs)))) t) _
      by_cases H:t=m.2.1
      .subst H;rw [ZG];have h0:PVR g w F cs (a.tmps.getD m.2.1 undef):=hs;have N:PVR O w F cs (a.tmps.getD m.2.1 undef):=(show SVR g w (.p F cs) _ from hs).less i2 V;cases F with
       |true=>
        obtain ⟨vs,e1,S⟩:=h0;obtain ⟨D,y,E⟩:=N;have ev:vs=D:=by rw [e1]at y;simpa using y
        subst ev;obtain ⟨u,u1,u2⟩:=S.at f;refine ⟨vs,e1,?_⟩;have:=E.set (i:=m.2.2 - 4096) (T u u2);obtain ⟨hl,he⟩:=AJ.1 u1;rw [<-he,Ae hl]at this;exact this
       |false=>
        obtain ⟨z,rfl,S⟩:=h0;cases I:m.2.2 - 4096 with
        |zero=>rw [I]at f;simp at f;subst f;exact ⟨_,rfl,T _ S⟩
        |succ j=>rw [I]at f;simp at f
      .rw [ZR _ _ H];exact (hS t).less i2 V
     .show svU U (upd st.sl m.2.1 (.p F (cs.set (m.2.2 - 4096) (.n (.sl e q xs)))) t)
      by_cases H:t=m.2.1
      .subst H;rw [ZG];intro z G;rcases Ag G with G|G
       .exact A z G
       .subst G;trivial
      .rw [ZR _ _ H];exact J.sl t
     .show obU U (upd st.ob k (.row e q xs 0) j)
      by_cases N:j=k
      .subst N;rw [ZG];trivial
      .rw [ZR _ _ N];exact J.ob j
     .show upd st.ob k (.row e q xs 0) j=_
      rw [ZR _ _ (show j≠k from λe'=>I (e' ▸ C))];exact J.gone j I
    .exact c
   .exact c
  .exact c
 .exact c
theorem ZmU [NW]:∀(B:List (Bool×Nat×Nat)) {U:Nat->Prop}{st:St},Inv W U st a w->(∀k,st.n<=k->¬U k)->∃U',Inv W U' (st.mats B) a w
 | [],U,st,hI,_=>⟨U,hI⟩
 |m::r,U,st,hI,hk=>by
  simp only[St.mats];split
  .obtain ⟨U',A,c⟩:=ZAt m hI hk;exact ZmU r A c
  .obtain ⟨U',A,c⟩:=ZBh m hI hk;exact ZmU r A c
theorem least {p:Nat->Prop}(h:∃n,p n):∃n,p n/\∀m,m<n->¬p m:=by
 obtain ⟨n,C⟩:=h;induction n using Nat.strongRecOn with
 |_ n ih=>
  by_cases B:∃m,m<n/\p m
  .obtain ⟨m,A,c⟩:=B;exact ih m A c
  .exact ⟨n,C,λm A c=>B ⟨m,A,c⟩⟩
theorem Zyq [NW] {c:Code}{Q:Exit->Act->World->Prop}(J:Nat->Act->World->Prop) (n:Nat) (h₀:J n a w) (b:∀n a w,J n a w->c.wp P (Exit.then (λA w'=>∃m,m<n/\J m A w') Q) a w):(Code.loop c).wp P Q a w:=by
 classical
 let μ:Act->World->Nat:=λa w=>if h:∃n,J n a w then Classical.choose (least h) else 0
 have hμ:∀a w (h:∃n,J n a w),J (μ a w) a w/\∀m,m<μ a w->¬J m a w:=λa w h=>by
  simp only[μ,dif_pos h];exact Classical.choose_spec (least h)
 refine wp_loop (λa w=>∃n,J n a w) μ ⟨n,h₀⟩ λa w h=>?_;refine wp_mono (b (μ a w) a w (hμ a w h).1) λe A w' C=>?_;cases e with
 |normal=>
  obtain ⟨m,E,B⟩:=C;refine ⟨⟨m,B⟩,?_⟩;have h3:=hμ A w' ⟨m,B⟩;rcases Aa m (μ A w') with D|D
  .exact absurd B (h3.2 m D)
  .omega
 |_=>exact C
mutual
theorem RC.deep {w:World}:∀{x:CT}{v:Value}{L:List Nat},RC w x v L->ctD x
 |.int _ _,_,_,_=>trivial
 |.bool _,_,_,_=>trivial
 |.str _,_,_,h=>h.2.2
 |.sl _ _ _,_,_,⟨A,cap,cs,L0,L1,h1,h2,h3,h4,h5,h6,h7⟩=>⟨by unfold maxLen at h3;omega,h7.deep⟩
 |.pt _,_,_,⟨_,_,_,_,_,_,_,h⟩=>h.deep
 |.fn _ _,_,_,⟨_,_,h⟩=>h.deep
 |.mp _ _ _,_,_,_=>trivial
 |.ifc _,_,_,_=>trivial
 |.any,_,_,_=>trivial
 |.nl _ _,_,_,_=>trivial
theorem RCs.deep {w:World}:∀{x:List CT}{v:List Value}{L:List Nat},RCs w x v L->ctsD x
 | [],_,_,_=>trivial
 |_::_,_,_,⟨v,cs,L1,L2,h1,h2,h3,h4⟩=>⟨h3.deep,h4.deep⟩
theorem REs.deep {w:World}{m:Nat}:∀{x:List (List CT)}{v:List Value}{L:List Nat},REs w m x v L->essD x
 | [],_,_,_=>trivial
 |_::_,_,_,⟨c1,c2,L1,L2,h1,h2,h3,h4⟩=>⟨h3.1.deep,h4.deep⟩
end
theorem AVR.deep [NW] {g:Gh}{w:World}:∀{x:AV}{v:Value},AVR g w x v->avD x
 |.c _,_,⟨_,h,_⟩=>h.deep
 |.n _,_,h=>by obtain ⟨_,A,_⟩:=NR.toC h;exact A.deep
 |.row _,_,_=>trivial
 |.nil _ _,_,_=>trivial
 |.dead,_,_=>trivial
theorem AVRs.deep [NW] {g:Gh}{w:World}:∀{x:List AV}{v:List Value},ZJ (AVR g w) x v->ZAU x
 | [],[],_=>trivial
 |_::_,_::_,h=>⟨h.1.deep,AVRs.deep h.2⟩
 | [],_::_,h=>h.elim
 |_::_,[],h=>h.elim
theorem Inv.deep [NW] (F:Inv W U st a w):WF st:=by
 obtain ⟨⟨g,C,E⟩,K,B,J⟩:=F;refine ⟨λt b cs D=>?_,λk t cs A=>?_,λk e m xs d A=>?_⟩
 .have h:=E t;rw [D]at h;cases b with
  |true=>obtain ⟨vs,_,c⟩:=h;exact AVRs.deep c
  |false=>obtain ⟨x,rfl,c⟩:=h;exact ⟨c.deep,trivial⟩
 .have h:=C.obs k;rw [A]at h;obtain ⟨b,vs,_,_,_,_,c⟩:=h;exact AVRs.deep c
 .have h:=C.obs k;rw [A]at h;obtain ⟨_,cs,L,I,c,_⟩:=h;refine ⟨?_,c.deep⟩;rcases I.2 with ⟨_,H⟩|⟨_,_,cap,_,_,_,_,H,G,_⟩
  .omega
  .unfold maxLen at G;omega
def Zze:Ex->Exit
 |.normal=>.normal
 |.exit id=>.exit id
 |.ret=>.ret
def YR (od:OD) (tt:Nat->Option TI) (hs:FuncId->Nat) (a:Bool) (N:Nat):Code->Bool
 |.skip=>true
 |.region id ops d=>(ops.toList.all λo=>match o.dst with|some t=>Nat.blt t N&&(!a||Nat.blt 0 t)|none=>true)&&(match od id with|none=>!d||ZvA tt hs ops|some l=>d&&ZwD tt hs l.2 ops l.1)
 |.seq x y=>YR od tt hs a N x&&YR od tt hs a N y
 |.cond _ x y=>YR od tt hs a N x&&YR od tt hs a N y
 |.block _ x=>YR od tt hs a N x
 |.loop x=>YR od tt hs a N x
 |.exit _=>true
 |.ret=>true
 |_=>false
theorem X3 [NW] {od:OD}(aa:MOk P J JF W tt) (I:P.follows .mixedOrders=true) {M:FuncId->Nat}{k0:Bool}(v:W.hv=none\/k0=true) {N:Nat}:∀(c:Code),YR od tt M k0 N c=true->∀(Qs:Ex->St->Prop) (Q:Exit->Act->World->Prop),
  (∀ex U' st' H w',Inv W U' st' H w'->(∀k,st'.n<=k->¬U' k)->H.tmps.size=N->Qs ex st'->Q (Zze ex) H w')->
  ∀U st a w,Inv W U st a w->(∀k,st.n<=k->¬U k)->a.tmps.size=N->swp tt (SC P J JF M) od c Qs st->c.wp P Q a w
 |.skip,_,Qs,Q,hQ,U,st,a,w,O,V,hs,h=>wp_skip (hQ .normal U st a w O V hs h)
 |.exit id,_,Qs,Q,hQ,U,st,a,w,O,V,hs,h=>wp_exit (hQ (.exit id) U st a w O V hs h)
 |.ret,_,Qs,Q,hQ,U,st,a,w,O,V,hs,h=>wp_ret (hQ .ret U st a w O V hs h)
 |.region id m d,f,Qs,Q,hQ,U,st,a,w,O,V,hs,h=>by
  simp only[YR,A5,AI]at f;have hN:∀o∈m.toList,∀t,o.dst=some t->t<N/\(W.hv=none\/t≠0):=λo mo t ht=>by
   have:=f.1 o mo;rw [ht]at this;simp only[A5,AG]at this;refine ⟨AB this.1,v.imp (λh=>h) λh=>?_⟩;rcases this.2 with h2|h2
   .rw [h]at h2;simp at h2
   .have h3:0<t:=AB h2;exact Nat.ne_of_gt h3
  have A:∀U' st' H w',Inv W U' st' H w'->(∀k,st.n+16*m.toList.length<=k->¬U' k)->H.tmps.size=N->Zrs (st.n+16*m.toList.length) (Qs .normal) st'->Q .normal H w':=λU' st' H w' L h2 h3 T=>
   hQ .normal U' { st' with n:=st.n+16*m.toList.length } H w' ⟨L.ex,⟨L.wf.sl,L.wf.ob,L.wf.gone⟩,L.defers,L.hand⟩ h2 h3 T
  have B:Inv W U st a { w with drawn:=w.drawn+1 }:=by
   obtain ⟨⟨g,hH,hS⟩,hU,E,hh⟩:=O;have hw:∀b,b<w.heap.size->¬g.own b->({ w with drawn:=w.drawn+1 }:World).heap[b]?=w.heap[b]?:=λ_ _ _=>rfl;refine ⟨⟨g,hH.step (U:=U) (λ_=>False) ⟨hH.below.os,hH.below.tape,hH.below.output,hH.below.size,hH.below.block⟩ rfl (λ_ _ _=>rfl) (λ_ _=>⟨rfl,rfl,rfl,rfl⟩) hU.ob (λ_ _=>rfl) (Ql.refl _ _) (λ_ h=>h.elim),λt=>?_⟩,hU,E,hh⟩;exact (hS t).move (hU.sl t) (λ_ _=>rfl) hw (Ql.refl _ _) (AD _)
  have z:∀(b:Bool) (R:List Nat),ZkR tt M b m R=true->(∀j,elB m j=true)->R.length<=m.size->(∀i,i∈R↔i<m.size)->Zf8 tt (SC P J JF M) b m.toList st.n R (Zrs (st.n+16*m.toList.length) (Qs .normal)) st->(Code.region id m true).wp P Q a w:=λb R L h2 h3 T h5=>by
   refine wp_region_any I ?_;refine Zxu (base:=st.n) aa hN h2 (λU' st' H w' L h2 h3 T=>A U' st' H w' L (by simpa using h2) h3 T) m.size R (AE m.size false) U st a _ h3 (Zp0 L) yG (λi=>?_) (λi o ho hl=>?_) h5 B (λj _ k C _=>V k yE) (λk C=>V k yE) hs
   .rw [T];constructor
    .intro hi;exact ⟨hi,by simp [AH,hi]⟩
    .exact λhi=>hi.1
   .exfalso;have hi:i<m.size:=(AX.1 ho).1;simp [AH,hi]at hl
  cases ho:od id with
  |none=>
   have u:=f.2;simp only[ho]at u;simp only[swp,ho,ZxB]at h;have h':Z8 tt (SC P J JF M) m.toList st.n m.toList (Zrs (st.n+16*m.toList.length) (Qs .normal)) st:=h;cases d with
   |false=>
    refine wp_region ?_;have:=ZpB (Q:=Q) aa hN m.toList 0 st.n U st a w yG h' O V hs A;rw [Ao];simpa using this
   |true=>
    have q:ZvA tt M m=true:=by simpa using u
    simp only[ZvA,A5]at q;have h2:=Zww (tt:=tt) (S:=SC P J JF M) (all:=m.toList) (base:=st.n) (K:=Zrs (st.n+16*m.toList.length) (Qs .normal)) m.toList 0 st yG (by simpa using h');rw [<-Ao]at h2;exact z false (AW m.size) q.1 (Zud q.2) yG yG (by simpa using h2)
  |some l=>
   have u:=f.2;simp only[ho,A5]at u;simp only[swp,ho,ZxB]at h;obtain ⟨rfl,q⟩:=u;simp only[ZwD,A5]at q;exact z l.2 l.1 q.1.1.1.1 (Zud q.1.1.1.2) (AB q.1.1.2) (λi=>⟨λmi=>AB (AI.1 q.1.2 i mi),λhi=>by simpa using AI.1 q.2 i (by simpa using hi)⟩) h
 |.seq x y,f,Qs,Q,hQ,U,st,a,w,O,V,hs,h=>by
  simp only[YR,A5]at f;refine wp_seq (X3 aa I v x f.1 (ZgI (swp tt (SC P J JF M) od y Qs) Qs) _ ?_ U st a w O V hs h);intro ex U' st' H w' L h2 h3 T;cases ex with
  |normal=>exact X3 aa I v y f.2 Qs Q hQ U' st' H w' L h2 h3 T
  |exit id=>exact hQ (.exit id) U' st' H w' L h2 h3 T
  |ret=>exact hQ .ret U' st' H w' L h2 h3 T
 |.cond c x y,f,Qs,Q,hQ,U,st,a,w,O,V,hs,h=>by
  simp only[YR,A5]at f;simp only[swp,Zpd]at h;split at h
  .rename_i hb;obtain ⟨b,D⟩:∃b,st.ev tt 0 c=.p false [.c (.bool b)]:=by
    unfold Zao at hb;split at hb
    .rename_i b he;exact ⟨b,he⟩
    .simp at hb
   obtain ⟨g,hH,hS⟩:=O.ex;have hv:=(ZlQ (P:=P) aa.tt hS O.wf 0 c).1;rw [D]at hv;have G:=Zgj hv;refine wp_cond G ?_;cases b with
   |true=>rw [if_pos (by rw [D];rfl)]at h;exact X3 aa I v x f.1 Qs Q hQ U st a w O V hs h
   |false=>rw [if_neg (by rw [D];simp [Qo])]at h;exact X3 aa I v y f.2 Qs Q hQ U st a w O V hs h
  .exact h.elim
 |.block id x,f,Qs,Q,hQ,U,st,a,w,O,V,hs,h=>by
  refine wp_block (X3 aa I v x f (ZhW id Qs) _ ?_ U st a w O V hs h);intro ex U' st' H w' L h2 h3 T;cases ex with
  |normal=>exact hQ .normal U' st' H w' L h2 h3 T
  |exit j=>
   show Exit.inBlock id Q (.exit j) H w'
   simp only[ZhW]at T;simp only[Exit.inBlock];split
   .rename_i e;rw [if_pos e]at T;exact hQ .normal U' st' H w' L h2 h3 T
   .rename_i e;rw [if_neg e]at T;exact hQ (.exit j) U' st' H w' L h2 h3 T
  |ret=>exact hQ .ret U' st' H w' L h2 h3 T
 |.loop x,f,Qs,Q,hQ,U,st,a,w,O,V,hs,h=>by
  obtain ⟨n,hn⟩:=h;refine Zyq (λn a w=>∃U st,Inv W U st a w/\(∀k,st.n<=k->¬U k)/\a.tmps.size=N/\ZlL (swp tt (SC P J JF M) od x) Qs n st) n ⟨U,st,O,V,hs,hn⟩ ?_;rintro n a w ⟨U,st,O,V,hs,hn⟩;cases n with
  |zero=>exact hn.elim
  |succ n=>
   obtain ⟨ms,ρ,hρ,hb⟩:=hn;obtain ⟨U2,F⟩:=ZmU ms O V;refine X3 aa I v x f (ZgI (ZlL (swp tt (SC P J JF M) od x) Qs n) Qs) _ ?_ _ ((st.mats ms).ren ρ) a w (ZvI F hρ) (λk C hU=>by simp only[St.ren]at C;omega) hs (hb (ZvI F hρ).deep);intro ex U' st' H w' L h2 h3 T;cases ex with
   |normal=>exact ⟨n,yE,U',st',L,h2,h3,T⟩
   |exit id=>exact hQ (.exit id) U' st' H w' L h2 h3 T
   |ret=>exact hQ .ret U' st' H w' L h2 h3 T
 |.rangeFunc _ _ _ _,f,_,_,_,_,_,_,_,_,_,_,_=>by simp [YR]at f
 |.scope _,f,_,_,_,_,_,_,_,_,_,_,_=>by simp [YR]at f
 |.label _,f,_,_,_,_,_,_,_,_,_,_,_=>by simp [YR]at f
 |.goto _,f,_,_,_,_,_,_,_,_,_,_,_=>by simp [YR]at f
 |.refuse _,f,_,_,_,_,_,_,_,_,_,_,_=>by simp [YR]at f
end
end
section
open Go.RowKit
section
variable {P:Program} {J:World->Prop} {JF:Nat->Prop} {W:Qq} {U:Nat->Prop} {st:St} {w w':World} {a:Act} {tt:Nat->Option TI} {g:Gh}
def nK (g:Gh) (K:Nat->Prop) (b:Nat):Prop:=g.Z b\/∃k,K k/\b∈g.O k
theorem ZnE {k e m n B:Nat}{cs:List Value}(h:w.ownsV 0 e m (g.val k) n cs) (A:∀b∈(g.val k).ownBlock.toList,B<=b):w.ownsV B e m (g.val k) n cs:=by
 refine ⟨h.1,?_⟩;rcases h.2 with C|⟨q,o,cap,a,c,D,r⟩
 .exact .inl C
 .exact .inr ⟨q,o,cap,a,c,A q (by simp [c,Value.ownBlock]),r⟩
variable {K:Nat->Prop}
theorem Zue [NW] {B:Nat}(N:HI W g st.ob w) (hK:∀k,K k->Zji (st.ob k)=false/\∀e m xs d,st.ob k=.row e m xs d->d=2) {x:AV}{ct:Bool×CT}{ks:List Nat}{v:Value}(h:ZfD st x=some (ct,ks)) (l:∀k∈ks,K k/\∀b∈g.O k++g.D k,B<=b) (H:AVR g w x v):OC w B (nK g K) ct v (g.F ks):=by
 have a:∀b,nK g K b->g.own b:=λb C=>by
  rcases C with P|⟨k,_,M⟩
  .exact .inr P
  .exact .inl ⟨k,M⟩
 cases x with
 |c y=>
  obtain ⟨L,G,I⟩:=H;cases y<;>simp only[ZfD,A0,A4]at h<;>obtain ⟨rfl,rfl⟩:=h
  .exact ⟨⟨G.1,rfl⟩,by simp [Gh.F]⟩
  .exact ⟨⟨G.1,rfl⟩,by simp [Gh.F]⟩
  .exact ⟨⟨G.1,rfl,G.2.2⟩,by simp [Gh.F]⟩
  .exact ⟨by simp [Gh.F],L,G,λb E C=>I b E (a b C)⟩
  .exact ⟨by simp [Gh.F],L,G,λb E C=>I b E (a b C)⟩
  .exact ⟨by simp [Gh.F],L,G,λb E C=>I b E (a b C)⟩
  .exact ⟨by simp [Gh.F],L,G,λb E C=>I b E (a b C)⟩
  .exact ⟨⟨rfl,G.2⟩,by simp [Gh.F]⟩
  .exact ⟨by simp [Gh.F],L,G,λb E C=>I b E (a b C)⟩
  .exact ⟨by simp [Gh.F],L,G,λb E C=>I b E (a b C)⟩
 |row k=>
  simp only[ZfD]at h;split at h
  .rename_i e m xs d R;obtain ⟨T,cs,L,o1,o2,o3,o5⟩:=N.deep R;split at h
   .rename_i hd;simp only[A0,A4]at h;obtain ⟨rfl,rfl⟩:=h;have i:=l k yG;rcases o5 with ⟨_,J,S⟩|⟨q,_⟩|⟨q,_⟩
    .refine ⟨T,cs,L,by rw [H.1];exact ZnE o1 λb E=>i.2 b (by simp [J,E]),o2,by simp [Gh.F,J,S,H.1],λb E=>.inr ⟨k,i.1,by rw [J];rw [H.1]at E;exact E⟩⟩
    .omega
    .omega
   .rename_i hd;simp only[A0,A4]at h;obtain ⟨rfl,rfl⟩:=h;have f:¬K k:=λh=>hd ((hK k h).2 e m xs d R);obtain ⟨A,cap,L0,s1,s2,s3,s4,s5⟩:=Sl.row o1;refine ⟨by simp [Gh.F],L0++L,⟨A,cap,cs,L0,L,by rw [H.1,s1],s2,s3,rfl,T,s4,o2⟩,λb E C=>?_⟩;rcases A6.1 E with V|V
    .have m2:=s5.subset V;rcases o5 with ⟨q,_⟩|⟨_,J,S⟩|⟨_,_,_,q⟩
     .exact hd q
     .have M:b∈g.O k++g.D k:=by simp [J,m2]
      rcases C with P|⟨j,hj,U⟩
      .exact N.nz M P
      .exact N.apart k j (λe=>f (e ▸ hj)) b M (by simp [U])
     .exact q b m2 (a b C)
    .exact o3 b V (a b C)
  .rename_i kk vk kv R;simp only[A0,A4]at h;obtain ⟨rfl,rfl⟩:=h;have ho:=N.obs k;rw [R]at ho;obtain ⟨b,es,c,J,S,q3,q4,q5,q6⟩:=ho;have f:¬K k:=λh=>by have:=(hK k h).1;rw [R]at this;simp [Zji]at this
   refine ⟨by simp [Gh.F],[b],⟨b,es,c,by rw [H.1,J],q4,q5,q6,rfl⟩,λx mx C=>?_⟩;simp at mx;subst mx;have M:x∈g.O k++g.D k:=by simp [S]
   rcases C with P|⟨j,hj,U⟩
   .exact N.nz M P
   .exact N.apart k j (λe=>f (e ▸ hj)) x M (by simp [U])
  .simp at h
 |nil e m=>
  simp only[ZfD]at h;split at h
  .rename_i T;simp only[A0,A4]at h;obtain ⟨rfl,rfl⟩:=h;have o:v=.slice none 0 0:=H;subst o;exact ⟨T,[],[],ZfE _ _ _ _,⟨rfl,rfl⟩,by simp [Gh.F,Value.ownBlock],by simp [Value.ownBlock]⟩
  .simp at h
 |n y=>
  obtain ⟨L,G,I⟩:=NR.toC H;simp only[ZfD,A0,A4]at h;obtain ⟨rfl,rfl⟩:=h;exact ⟨by simp [Gh.F],L,G,λb E C=>I b E (a b C)⟩
 |dead=>
  simp only[ZfD,A0,A4]at h;obtain ⟨rfl,rfl⟩:=h;exact ⟨by simp [Gh.F],[],⟨rfl,H⟩,yG⟩
theorem Zqt [NW] {B:Nat}(C:HI W g st.ob w) (A:∀k,K k->Zji (st.ob k)=false/\∀e m xs d,st.ob k=.row e m xs d->d=2):∀{xs:List AV}{cts:List (Bool×CT)}{ks:List Nat}{vs:List Value},Zdx st xs=some (cts,ks)->(∀k∈ks,K k/\∀b∈g.O k++g.D k,B<=b)->ZJ (AVR g w) xs vs->OCs w B (nK g K) cts vs (g.F ks)
 | [],_,_,[],h,_,_=>by
  simp only[Zdx,A0,A4]at h;obtain ⟨rfl,rfl⟩:=h;exact ⟨rfl,by simp [Gh.F]⟩
 | [],_,_,_::_,_,_,h=>h.elim
 |_::_,_,_,[],_,_,h=>h.elim
 |x::r,cts,ks,v::vs,h,hks,hr=>by
  simp only[Zdx]at h;obtain ⟨⟨J,G⟩,I,h⟩:=AC.1 h;obtain ⟨⟨c2,E⟩,H,h⟩:=A9.1 h;simp only[A4]at h;obtain ⟨rfl,rfl⟩:=h;exact ⟨v,vs,g.F G,g.F E,rfl,by simp [Gh.F],Zue C A I (λk c=>hks k (by simp [c])) hr.1,Zqt C A H (λk c=>hks k (by simp [c])) hr.2⟩
theorem ZtH [NW] {B:Nat}(G:HI W g st.ob w) (E:∀k,K k->Zji (st.ob k)=false/\∀e m xs d,st.ob k=.row e m xs d->d=2) {A:Bool}{cs:List AV}{cts:List (Bool×CT)}{ks:List Nat}{v:Value}(h:Zdx st cs=some (cts,ks)) (a:∀k∈ks,K k/\∀b∈g.O k++g.D k,B<=b) (C:PVR g w A cs v):OP w B (nK g K) (A,cts) v (g.F ks):=by
 cases A with
 |true=>obtain ⟨vs,rfl,c⟩:=C;exact .inl ⟨rfl,vs,rfl,Zqt G E h a c⟩
 |false=>
  obtain ⟨x,rfl,c⟩:=C;simp only[Zdx]at h;obtain ⟨⟨I,J⟩,H,h⟩:=AC.1 h;simp at h;obtain ⟨rfl,rfl⟩:=h;exact .inr ⟨rfl,I,rfl,Zue G E H a c⟩
theorem OC.one {B:Nat}{n:Nat->Prop}{x:Bool×CT}{v:Value}{F:List Nat}(h:OC w B n x v F):v.oneCell'=true:=by
 obtain ⟨b,x⟩:=x;cases b with
 |true=>obtain ⟨_,L,D,_⟩:=h;exact D.one
 |false=>
  cases x with
  |sl e q xs=>
   obtain ⟨_,cs,L,c,_⟩:=h;obtain ⟨A,cap,C⟩:=Zbi c;rw [C];rfl
  |int k i=>exact h.1.one
  |bool b=>exact h.1.one
  |str s=>exact h.1.one
  |ifc s=>exact h.1.one
  |any=>exact h.1.one
  |_=>exact h.elim
/- what is given is said to be lent -/
theorem ZrD [NW] {B:Nat}{n:Nat->Prop}:∀{r d:List (Bool×CT)}{vs:List Value}{F:List Nat},OCs w B n r vs F->wkC r d->F.Nodup->∃F',F'.Sublist F/\∀m:Nat->Prop,(∀b∈F',n b->m b)->(∀b,m b->n b)->(∀b∈F,m b->b∈F')->OCs w B m d vs F'
 | [],[],vs,F,h,_,_=>⟨[],yG,λm _ _ _=>⟨h.1,rfl⟩⟩
 | [],_::_,_,_,_,h,_=>h.elim
 |_::_,[],_,_,_,h,_=>h.elim
 |x::r,y::d,_,_,⟨v,vs,F1,F2,rfl,rfl,h1,h2⟩,a,hnd=>by
  rw [AS]at hnd;have a:wk1 x y (wkC r d):=a;unfold wk1 at a;by_cases c:Zwv y.2=true
  .rw [if_pos c]at a;obtain ⟨F2',G,g⟩:=ZrD h2 a hnd.2.1;refine ⟨F2',G.trans (List.sublist_append_right _ _),λm D I H=>⟨v,vs,[],F2',rfl,rfl,?_,g m D I λb C E=>H b (by simp [C]) E⟩⟩;have f:=h1.one;obtain ⟨M,y⟩:=y;cases y<;>simp [Zwv]at c
   cases M with
   |true=>exact ⟨rfl,[],⟨rfl,f⟩,yG⟩
   |false=>exact ⟨⟨rfl,f⟩,rfl⟩
  rw [if_neg c]at a;obtain ⟨T,S,hw⟩:=a;obtain ⟨F2',G,g⟩:=ZrD h2 hw hnd.2.1;have key:∃F1',F1'.Sublist F1/\∀m:Nat->Prop,(∀b∈F1',n b->m b)->(∀b,m b->n b)->(∀b∈F1,m b->b∈F1')->OC w B m y v F1':=by
   obtain ⟨b1,x⟩:=x;obtain ⟨M,y⟩:=y;simp only at T S;subst T;cases b1 with
   |true=>
    have:M=true:=by rcases S with e|e<;>simp_all
    subst this;obtain ⟨rfl,L,q1,q2⟩:=h1;exact ⟨[],yG,λm _ I _=>⟨rfl,L,q1,λb C E=>q2 b C (I b E)⟩⟩
   |false=>
    cases M with
    |false=>
     refine ⟨F1,Am _,λm D _ _=>?_⟩;cases x with
     |sl e q xs=>
      obtain ⟨P,cs,L,O,N,K,R⟩:=h1;exact ⟨P,cs,L,O,N,K,λb C=>D b (by simp [K,C]) (R b C)⟩
     |int k i=>exact h1
     |bool b=>exact h1
     |str s=>exact h1
     |ifc s=>exact h1
     |any=>exact h1
     |_=>exact h1.elim
    |true=>
     refine ⟨[],yG,λm _ _ H=>⟨rfl,?_⟩⟩;cases x with
     |sl e q xs=>
      obtain ⟨P,cs,L,O,N,K,R⟩:=h1;obtain ⟨A,cap,L0,J,G,W,V,U⟩:=Sl.row O;refine ⟨L0++L,⟨A,cap,cs,L0,L,J,G,W,rfl,P,V,N⟩,λb C E=>?_⟩;have:b∈F1:=by
       rw [K];rcases A6.1 C with D|D
       .exact A6.2 (.inl (U.subset D))
       .exact A6.2 (.inr D)
      have:=H b this E;simp at this
     |int k i=>exact ⟨[],h1.1,yG⟩
     |bool b=>exact ⟨[],h1.1,yG⟩
     |str s=>exact ⟨[],h1.1,yG⟩
     |ifc s=>exact ⟨[],h1.1,yG⟩
     |any=>exact ⟨[],h1.1,yG⟩
     |_=>exact h1.elim
  obtain ⟨F1',J,f⟩:=key;refine ⟨F1'++F2',Ad J G,λm D I H=>⟨v,vs,F1',F2',rfl,rfl,f m (λb C=>D b (by simp [C])) I (λb C E=>?_),g m (λb C=>D b (by simp [C])) I (λb C E=>?_)⟩⟩
  .rcases A6.1 (H b (by simp [C]) E) with h|h
   .exact h
   .exact absurd rfl (hnd.2.2 b C b (G.subset h))
  .rcases A6.1 (H b (by simp [C]) E) with h|h
   .exact absurd rfl (hnd.2.2 b (J.subset h) b C)
   .exact h
theorem ZC5 [NW] {B:Nat}{n:Nat->Prop}{x y:RT}{v:Value}{F:List Nat}(h:OP w B n x v F) (G:x.1=y.1) (A:wkC x.2 y.2) (d:F.Nodup):∃F',F'.Sublist F/\∀m:Nat->Prop,(∀b∈F',n b->m b)->(∀b,m b->n b)->(∀b∈F,m b->b∈F')->OP w B m y v F':=by
 rcases h with ⟨D,vs,rfl,C⟩|⟨D,P,C,N⟩
 .obtain ⟨F',s,h⟩:=ZrD C A d;exact ⟨F',s,λm a b c=>.inl ⟨G ▸ D,vs,rfl,h m a b c⟩⟩
 .obtain ⟨F',s,h⟩:=ZrD (r:=x.2) (vs:=[v]) (F:=F) (by rw [C];exact ⟨v,[],F,[],rfl,yG,N,rfl,rfl⟩) A d;refine ⟨F',s,λm M L K=>.inr ⟨G ▸ D,?_⟩⟩;have h4:=h m M L K;generalize y.2=l at h4 A
  cases l with
  |nil=>rw [C]at A;exact A.elim
  |cons c l=>
   cases l with
   |nil=>
    obtain ⟨O,H,F1,F2,E,rfl,J,I⟩:=h4;simp only[AR]at E;obtain ⟨rfl,rfl⟩:=E;obtain ⟨_,rfl⟩:=I;exact ⟨c,rfl,by simpa using J⟩
   |cons _ _=>
    rw [C]at A;have A:wk1 _ _ False:=A;unfold wk1 at A;split at A
    .exact A.elim
    .exact A.2.2.elim
theorem ZzS [NW] {B:Nat}{n:Nat->Prop}:∀{r a:List RT}{vs:List Value}{F:List Nat},OPs w B n r vs F->wkR r a->F.Nodup->∃F',F'.Sublist F/\∀m:Nat->Prop,(∀b∈F',n b->m b)->(∀b,m b->n b)->(∀b∈F,m b->b∈F')->OPs w B m a vs F'
 | [],[],vs,F,h,_,_=>⟨[],yG,λm _ _ _=>⟨h.1,rfl⟩⟩
 | [],_::_,_,_,_,h,_=>h.elim
 |_::_,[],_,_,_,h,_=>h.elim
 |x::r,y::a,_,_,⟨v,vs,F1,F2,rfl,rfl,h1,h2⟩,⟨e1,e2,hw⟩,hnd=>by
  rw [AS]at hnd;obtain ⟨F2',D,c⟩:=ZzS h2 hw hnd.2.1;obtain ⟨F1',E,d⟩:=ZC5 h1 e1 e2 hnd.1;refine ⟨F1'++F2',Ad E D,λm I H G=>⟨v,vs,F1',F2',rfl,rfl,d m (λb A=>I b (by simp [A])) H (λb A C=>?_),c m (λb A=>I b (by simp [A])) H (λb A C=>?_)⟩⟩
  .rcases A6.1 (G b (by simp [A]) C) with h|h
   .exact h
   .exact absurd rfl (hnd.2.2 b A b (D.subset h))
  .rcases A6.1 (G b (by simp [A]) C) with h|h
   .exact absurd rfl (hnd.2.2 b (E.subset h) b A)
   .exact h
def ZgE (tmps:Array Value):ResultVar->Sem Value
 |.tmp t=>pure (tmps.getD t undef)
 |.cell b t=>do loadVar t (<-asAddr (tmps.getD b undef))
theorem ZjD (c:Func) (a:Array Value):results c a=(do let vs <-c.results.mapM (ZgE a);pure (if h:vs.size=1 then vs[0] else .tuple vs)):=by
 unfold results;congr 1
theorem Znr [NW] {B:Nat}(E:∀t i,tt t=some i->TOk P t i) (H:HI W g st.ob w) (G:∀t,SVR g w (st.sl t) (a.tmps.getD t undef)) (R:StU U st) (I:∀k,K k->Zji (st.ob k)=false/\∀e m xs d,st.ob k=.row e m xs d->d=2):∀{V:List ResultVar}{j:List RT}{ks:List Nat},ZbE tt st V=some (j,ks)->(∀k∈ks,K k/\∀b∈g.O k++g.D k,B<=b)->
  ∃vs:List Value,(V.mapM (ZgE a.tmps)).run P w=.ok vs w/\OPs w B (nK g K) j vs (g.F ks)
 | [],j,ks,h,_=>by
  simp only[ZbE,A0,A4]at h;obtain ⟨rfl,rfl⟩:=h;exact ⟨[],yG,rfl,by simp [Gh.F]⟩
 |.tmp t::r,j,ks,h,hks=>by
  simp only[ZbE]at h;split at h
  .rename_i ag cs f;obtain ⟨⟨c1,L⟩,T,h⟩:=AC.1 h;obtain ⟨⟨c2,J⟩,S,h⟩:=A9.1 h;simp only[A4]at h;obtain ⟨rfl,rfl⟩:=h;obtain ⟨vs,N,M⟩:=Znr E H G R I S (λk A=>hks k (by simp [A]));have hs:=G t;rw [f]at hs;refine ⟨a.tmps.getD t undef::vs,?_,_,vs,g.F L,g.F J,rfl,by simp [Gh.F],ZtH H I T (λk A=>hks k (by simp [A])) hs,M⟩;simp only[Ap,ZgE,Sem.run_bind,Sem.run_pure,Result.andThen_ok,N]
  .simp at h
 |.cell t ty::r,j,ks,h,hks=>by
  simp only[ZbE]at h;split at h
  .rename_i ag cs f;obtain ⟨⟨c1,L⟩,T,h⟩:=AC.1 h;obtain ⟨⟨c2,J⟩,S,h⟩:=A9.1 h;simp only[A4]at h;obtain ⟨rfl,rfl⟩:=h;obtain ⟨vs,N,M⟩:=Znr E H G R I S (λk A=>hks k (by simp [A]));obtain ⟨cv,l1,l2,_⟩:=Zwg (P:=P) (U:=U) E H R f (G t);have hl:(do loadVar ty (<-asAddr (a.tmps.getD t undef)):Sem Value).run P w=.ok cv w:=by
    have:∃b,a.tmps.getD t undef=.pointer (some b):=by
     have hs:=G t;cases hsl':st.sl t with
     |bp k off=>rw [hsl']at hs;obtain ⟨b,_,C⟩:=hs;exact ⟨_,C⟩
     |rp k m i off=>rw [hsl']at hs;obtain ⟨b,_,_,_,_,C⟩:=hs;exact ⟨_,C⟩
     |ep e off=>rw [hsl']at hs;obtain ⟨b,_,_,_,C,_⟩:=hs;exact ⟨_,C⟩
     |p l o=>
      rw [hsl']at hs f;cases l with
      |true=>simp [Qy]at f
      |false=>
       cases o with
       |nil=>simp [Qy]at f
       |cons y q=>
        cases q with
        |cons _ _=>cases y<;>first|(simp [Qy]at f;done)|(rename_i z;cases z<;>simp [Qy]at f)
        |nil=>cases y with
         |c z=>cases z with
          |pt e=>obtain ⟨b,_,_,C,_⟩:=ZwJ hs;exact ⟨_,C⟩
          |_=>simp [Qy]at f
         |_=>simp [Qy]at f
     |_=>rw [hsl']at f;simp [Qy]at f
    obtain ⟨b,hb⟩:=this;rw [hb]at l1 ⊢;simpa [Instr.loadAt,Instr.sureAddr,asAddr]using l1
   refine ⟨cv::vs,?_,_,vs,g.F L,g.F J,rfl,by simp [Gh.F],ZtH H I T (λk A=>hks k (by simp [A])) l2,M⟩;have u:(ZgE a.tmps (.cell t ty)).run P w=.ok cv w:=hl;simp only[Ap,Sem.run_bind,u,N,Sem.run_pure,Result.andThen_ok]
  .simp at h
theorem Zvr:∀{xs:List AV}{cts:List (Bool×CT)}{ks:List Nat},Zdx st xs=some (cts,ks)->∀k∈ks,∃e m xs,st.ob k=.row e m xs 2
 | [],_,_,h,k,A=>by
  simp only[Zdx,A0,A4]at h;rw [<-h.2]at A;simp at A
 |x::r,cts,ks,h,k,A=>by
  simp only[Zdx]at h;obtain ⟨⟨H,G⟩,B,h⟩:=AC.1 h;obtain ⟨⟨c2,F⟩,E,h⟩:=A9.1 h;simp only[A4]at h;obtain ⟨rfl,rfl⟩:=h;rcases A6.1 A with A|A
  .cases x with
   |c y=>cases y<;>simp only[ZfD,A0,A4]at B<;>(rw [<-B.2]at A;simp at A)
   |row j=>
    simp only[ZfD]at B;split at B
    .rename_i e m xs d C;split at B
     .rename_i D;simp only[A0,A4]at B;rw [<-B.2]at A;simp at A;subst A;exact ⟨e,m,xs,by rw [C,D]⟩
     .simp only[A0,A4]at B;rw [<-B.2]at A;simp at A
    .simp only[A0,A4]at B;rw [<-B.2]at A;simp at A
    .simp at B
   |nil e m=>
    simp only[ZfD]at B;split at B
    .simp only[A0,A4]at B;rw [<-B.2]at A;simp at A
    .simp at B
   |n y=>
    simp only[ZfD,A0,A4]at B;rw [<-B.2]at A;simp at A
   |dead=>
    simp only[ZfD,A0,A4]at B;rw [<-B.2]at A;simp at A
  .exact Zvr E k A
theorem Zki [NW]:∀{C:List ResultVar}{a:List RT}{ks:List Nat},ZbE tt st C=some (a,ks)->∀k∈ks,∃e m xs,st.ob k=.row e m xs 2
 | [],_,_,h,k,c=>by
  simp only[ZbE,A0,A4]at h;rw [<-h.2]at c;simp at c
 |.tmp t::r,a,ks,h,k,c=>by
  simp only[ZbE]at h;split at h
  .obtain ⟨⟨F,E⟩,B,h⟩:=AC.1 h;obtain ⟨⟨c2,D⟩,A,h⟩:=A9.1 h;simp only[A4]at h;obtain ⟨rfl,rfl⟩:=h;rcases A6.1 c with c|c
   .exact Zvr B k c
   .exact Zki A k c
  .simp at h
 |.cell t ty::r,a,ks,h,k,c=>by
  simp only[ZbE]at h;split at h
  .obtain ⟨⟨F,E⟩,B,h⟩:=AC.1 h;obtain ⟨⟨c2,D⟩,A,h⟩:=A9.1 h;simp only[A4]at h;obtain ⟨rfl,rfl⟩:=h;rcases A6.1 c with c|c
   .exact Zvr B k c
   .exact Zki A k c
  .simp at h
theorem Zwa [NW] {z:Nat->Prop}{x:Bool×List CT}{v:Value}(F:∀b,g.own b->z b) (h:Zhk w z x v):SVR g w (.p x.1 (x.2.map .c)) v:=by
 rcases h with ⟨E,vs,L,rfl,D,C⟩|⟨E,H,L,D,G,C⟩
 .rw [E];exact ⟨vs,rfl,D.avr λb A B=>C b A (F b B)⟩
 .rw [E,D];exact ⟨_,rfl,L,G,λb A B=>C b A (F b B)⟩
theorem ZvT [NW] {x:CT}{v:Value}{L:List Nat}(h:RC w x v L) (c:∀b∈L,¬g.own b):AVR g w (ZgW x) v:=by
 cases x with
 |nl e m=>exact h.1
 |_=>exact ⟨L,h,c⟩
theorem Ztu [NW]:∀{e:List CT}{cs:List Value}{L:List Nat},RCs w e cs L->(∀b∈L,¬g.own b)->ZJ (AVR g w) (e.map ZgW) cs
 | [],_,_,⟨h1,h2⟩,_=>by subst h1;trivial
 |x::r,_,_,⟨v,cs,L1,L2,h1,h2,h3,h4⟩,hL=>by
  subst h1 h2;exact ⟨ZvT h3 λb m=>hL b (by simp [m]),Ztu h4 λb m=>hL b (by simp [m])⟩
theorem ZkL [NW] {z:Nat->Prop}{x:Bool×List CT}{v:Value}(E:∀b,g.own b->z b) (h:Zhk w z x v):SVR g w (.p x.1 (x.2.map ZgW)) v:=by
 rcases h with ⟨D,vs,L,rfl,C,B⟩|⟨D,G,L,C,F,B⟩
 .rw [D];exact ⟨vs,rfl,Ztu C λb c A=>B b c (E b A)⟩
 .rw [D,C];exact ⟨_,rfl,ZvT F λb c A=>B b c (E b A)⟩
theorem Zke (e:List CT):XX U (e.map ZgW):=λy m=>by
 obtain ⟨x,_,rfl⟩:=AA.1 m;cases x<;>trivial
theorem ZBH [NW] {B:Nat}(N:∀t i,tt t=some i->TOk P t i) {J:Func}{f:List RT}(hI:Inv W U st a w) (R:HI W g st.ob w) (hS:∀t,SVR g w (st.sl t) (a.tmps.getD t undef)) {r:List RT}{ks:List Nat}(M:ZbE tt st J.results.toList=some (r,ks)) (j:ks.Nodup) (V:wkR r f)
  (S:∀k∈ks,∀b∈g.O k++g.D k,B<=b) (K0:Nat->Prop) (l:∀k,K0 k->Zji (st.ob k)=false/\∀e m xs d,st.ob k=.row e m xs d->d=2):
  ∃v m G F',F'.Sublist (g.F ks)/\(results J a.tmps).run P w=.ok v w/\(OPs w B m f G F'/\Own w B F'/\v=(if h:G.toArray.size=1 then G.toArray[0] else .tuple G.toArray))/\(∀b,m b->g.own b)/\(∀b,m b->g.Z b\/(∃k,(k∈ks\/K0 k)/\b∈g.O k))/\∀b,b∉g.F ks->(g.Z b\/∃k,K0 k/\b∈g.O k)->m b:=by
 obtain ⟨G,r1,r2⟩:=Znr (K:=λk=>k∈ks\/K0 k) N R hS hI.wf (λk C=>by
  rcases C with C|C
  .obtain ⟨e',T,o,I⟩:=Zki M k C;refine ⟨by rw [I];rfl,λe m xs d he=>?_⟩;rw [he]at I;simp only[Ob.row.injEq]at I;exact I.2.2.2
  .exact l k C) M (λk H=>⟨.inl H,S k H⟩)
 have c:=R.nodupF j;obtain ⟨F',s,hF⟩:=ZzS r2 V c;have p:∀b∈g.F ks,B<=b:=λb A=>by
  obtain ⟨k,C,H⟩:=ZfX A;exact S k C b H
 refine ⟨(if h:G.toArray.size=1 then G.toArray[0] else .tuple G.toArray),λb=>nK g (λk=>k∈ks\/K0 k) b/\(b∈g.F ks->b∈F'),G,F',s,?_,⟨hF _ (λb A E=>⟨E,λ_=>A⟩) (λb E=>E.1) (λb A E=>E.2 A),⟨c.sublist s,λb A=>p b (s.subset A),λb A=>?_⟩,rfl⟩,λb E=>?_,λb E=>E.1,λb E hn=>⟨?_,λA=>absurd A E⟩⟩
 .rw [ZjD];have e:J.results.mapM (ZgE a.tmps)=Ah <$> J.results.toList.mapM (ZgE a.tmps):=by
   rw [<-List.mapM_toArray]
  have e2:(Ah <$> J.results.toList.mapM (ZgE a.tmps)).run P w=.ok G.toArray w:=by
   rw [map_eq_pure_bind];simp only[Sem.run_bind,r1,Result.andThen_ok,Sem.run_pure]
  rw [e];simp only[Sem.run_bind,e2,Result.andThen_ok,Sem.run_pure]
 .obtain ⟨k,C,H⟩:=ZfX (s.subset A);obtain ⟨e',T,o,I⟩:=Zki M k C;have:=(R.plain k b H).2;rw [I]at this;exact this
 .rcases E.1 with L|⟨k,_,H⟩
  .exact .inr L
  .exact .inl ⟨k,H⟩
 .rcases hn with L|⟨k,C,H⟩
  .exact .inl L
  .exact .inr ⟨k,.inr C,H⟩
theorem Zra [NW] {B:Nat}(A:∀t i,tt t=some i->TOk P t i) {C:Func}{c:List RT}(J:Inv W U st a w) (K:HI W g st.ob w) (I:∀t,SVR g w (st.sl t) (a.tmps.getD t undef)) {r:List RT}{ks:List Nat}(G:ZbE tt st C.results.toList=some (r,ks)) (f:ks.Nodup) (H:wkR r c)
  (L:∀k∈ks,∀b∈g.O k++g.D k,B<=b) (K0:Nat->Prop) (j:∀k,K0 k->Zji (st.ob k)=false/\∀e m xs d,st.ob k=.row e m xs d->d=2):
  ∃v m,(results C a.tmps).run P w=.ok v w/\Zhg w B m c v/\(∀b,m b->g.own b)/\(∀b,m b->g.Z b\/(∃k,(k∈ks\/K0 k)/\b∈g.O k))/\∀b,b∉g.F ks->(g.Z b\/∃k,K0 k/\b∈g.O k)->m b:=by
 obtain ⟨v,m,E,F',_,T,⟨S,R,N⟩,M⟩:=ZBH A J K I G f H L K0 j;exact ⟨v,m,T,⟨E,F',S,R,N⟩,M⟩
theorem ZsJ [NW] {A:Gh}(B:∀k e m xs,st.ob k=.row e m xs 2->A.val k=g.val k/\U k) {x:AV}{v:Value}(h:AVR g w x v):AVR A w (ZjW st x) v/\avU U (ZjW st x):=by
 have one:=h.one;unfold ZjW;split
 .obtain ⟨L,⟨c,_⟩,_⟩:=h;exact ⟨⟨[],⟨c,rfl⟩,yG⟩,trivial⟩
 .obtain ⟨L,⟨c,_⟩,_⟩:=h;exact ⟨⟨[],⟨c,rfl⟩,yG⟩,trivial⟩
 .obtain ⟨L,⟨c,_,D⟩,_⟩:=h;exact ⟨⟨[],⟨c,rfl,D⟩,yG⟩,trivial⟩
 .rename_i k;cases hk:st.ob k with
  |row e m xs d=>
   simp only[Zwm];split
   .rename_i C;subst C;obtain ⟨F,E⟩:=B k e m xs hk;exact ⟨⟨h.1.trans F.symm,one⟩,E⟩
   .exact ⟨one,trivial⟩
  |gone=>exact ⟨one,trivial⟩
  |box _ _=>exact ⟨one,trivial⟩
  |map _ _ _=>exact ⟨one,trivial⟩
 .exact ⟨one,trivial⟩
theorem ZkP [NW] {A:Gh}(c:∀k e m xs,st.ob k=.row e m xs 2->A.val k=g.val k/\U k):∀{cs:List AV}{vs:List Value},ZJ (AVR g w) cs vs->ZJ (AVR A w) (cs.map (ZjW st)) vs
 | [],[],_=>trivial
 |_::_,_::_,h=>⟨(ZsJ c h.1).1,ZkP c h.2⟩
 | [],_::_,h=>h.elim
 |_::_,[],h=>h.elim
theorem Zzi [NW] {x:SV}{v:Value}{c:Gh}(A:∀k e m xs,st.ob k=.row e m xs 2->c.val k=g.val k/\U k) (B:svU U x) (a:∀k,U k->c.val k=g.val k) (h:SVR g w x v):SVR c w (ZpV st x) v:=by
 cases x with
 |p ag cs=>
  cases ag with
  |true=>obtain ⟨vs,e,h⟩:=h;exact ⟨vs,e,ZkP A h⟩
  |false=>obtain ⟨y,rfl,h⟩:=h;exact ⟨_,rfl,(ZsJ A h).1⟩
 |bp k off=>obtain ⟨b,D,C⟩:=h;exact ⟨b,(a k B).trans D,C⟩
 |_=>trivial
theorem Zwq (c:∀k e m xs,st.ob k=.row e m xs 2->U k) (x:AV):avU U (ZjW st x):=by
 unfold ZjW;split
 .trivial
 .trivial
 .trivial
 .rename_i k;cases hk:st.ob k with
  |row e m xs d=>
   simp only[Zwm];split
   .rename_i A;subst A;exact c k e m xs hk
   .trivial
  |gone=>trivial
  |box _ _=>trivial
  |map _ _ _=>trivial
 .trivial
theorem ZBC (A:∀k e m xs,st.ob k=.row e m xs 2->U k) (x:SV) (B:svU U x):svU U (ZpV st x):=by
 cases x with
 |p ag cs=>
  intro y c;obtain ⟨x,C,rfl⟩:=AA.1 c;exact Zwq A x
 |bp k off=>exact B
 |_=>trivial
theorem ZnA {o:Ob}(h:Za2 st o≠.gone):(∃e m xs,o=.row e m xs 2)\/∃t cs,o=.box t cs:=by
 cases o with
 |row e m xs d=>
  simp only[Za2]at h;split at h
  .rename_i c;subst c;exact .inl ⟨e,m,xs,rfl⟩
  .exact absurd rfl h
 |gone=>exact absurd rfl h
 |box t cs=>exact .inr ⟨t,cs,rfl⟩
 |map _ _ _=>exact absurd rfl h
theorem Zzm [NW] (hB:W.heap.size<=NW.B0) (t:Nat) (hI:Inv W U st a w) (B:∀k,st.n<=k->¬U k):∃U',Inv W U' (st.thaw t) a w:=by
 obtain ⟨⟨g,K,hS⟩,P,d,hh⟩:=hI;unfold St.thaw;cases hv:st.sl t with
 |p ag cs=>
  by_cases hc:∃e m xs,ag=false/\cs=[.n (.sl e m xs)]
  .obtain ⟨e,m,xs,rfl,rfl⟩:=hc;have hs:=hS t;rw [hv]at hs;obtain ⟨_,_,_,cs,L,h1,h2,h3,h4,h5,h6⟩:=ZHs hs;simp only[CT.sl.injEq]at h1;obtain ⟨rfl,rfl,rfl⟩:=h1;let v:=a.tmps.getD t undef
   have hn:st.ob st.n=.gone:=P.gone _ (B _ (AD _));have c:∀k e m xs,st.ob k=.row e m xs 2->k≠st.n/\U k:=λk e m xs F=>⟨λe=>by rw [e,hn]at F;simp at F,Classical.byContradiction λh=>by rw [P.gone k h]at F;simp at F⟩
   let I:Gh:=⟨λk=>if k=st.n then v else g.val k,λk=>if k=st.n then v.ownBlock.toList else (match Za2 st (st.ob k) with | .gone=>[]|_=>g.O k),λk=>if k=st.n then L else (match Za2 st (st.ob k) with | .gone=>[]|_=>g.D k),g.Z⟩
   have N:I.val st.n=v/\I.O st.n=v.ownBlock.toList/\I.D st.n=L:=⟨if_pos rfl,if_pos rfl,if_pos rfl⟩
   have S:∀k,k≠st.n->Za2 st (st.ob k)≠.gone->I.O k=g.O k/\I.D k=g.D k:=λk F G=>by
    rcases ZnA G with ⟨e',m',f,M⟩|⟨t',i,M⟩
    .simp [I,if_neg F,M,Za2]
    .simp [I,if_neg F,M,Za2]
   have T:∀k,k≠st.n->Za2 st (st.ob k)=.gone->I.O k=[]/\I.D k=[]:=λk F G=>by
    simp only[I,if_neg F,G];exact ⟨trivial,trivial⟩
   have o:∀k b,b∈I.O k++I.D k->(k=st.n/\b∈v.ownBlock.toList++L)\/(k≠st.n/\Za2 st (st.ob k)≠.gone/\b∈g.O k++g.D k):=λk b H=>by
    by_cases F:k=st.n
    .subst F;rw [N.2.1,N.2.2]at H;exact .inl ⟨rfl,H⟩
    .by_cases G:Za2 st (st.ob k)=.gone
     .rw [(T k F G).1,(T k F G).2]at H;simp at H
     .rw [(S k F G).1,(S k F G).2]at H;exact .inr ⟨F,G,H⟩
   have z:∀k b,b∈g.O k++g.D k->g.low b:=λk b H=>by
    rcases A6.1 H with J|J
    .exact .inl (.inl ⟨k,J⟩)
    .exact .inr ⟨k,J⟩
   refine ⟨λk=>U k\/k=st.n,⟨I,⟨K.below,λk=>?_,λk=>?_,λk j C b H mj=>?_,λk b H=>?_,K.gz,K.zx,K.nw,λk b H=>by
    by_cases F:k=st.n
    .rw [F,N.2.1]at H;exact .inl (Nat.le_trans hB (h6 b (A6.2 (.inl H))).2.1)
    .by_cases G:Za2 st (st.ob k)=.gone
     .rw [(T k F G).1]at H;simp at H
     .rw [(S k F G).1]at H;exact K.oy k b H⟩,λs=>?_⟩,⟨λs=>?_,λk=>?_,λk F=>?_⟩,d,hh⟩
   .show ObR I w k (if k=st.n then .row e m xs 2 else Za2 st (st.ob k))
    by_cases F:k=st.n
    .subst F;rw [if_pos rfl];exact ⟨h2,cs,L,by rw [N.1];exact h3,h4,.inl ⟨rfl,by rw [N.2.1,N.1],N.2.2⟩⟩
    .rw [if_neg F];by_cases G:Za2 st (st.ob k)=.gone
     .rw [G];exact T k F G
     .have u:=K.obs k;have ev:I.val k=g.val k:=if_neg F;obtain ⟨eO,eD⟩:=S k F G;rcases ZnA G with ⟨e',m',f,M⟩|⟨t',i,M⟩
      .rw [M]at u ⊢;obtain ⟨p1,i,L',p2,p3,V⟩:=u;rw [show Za2 st (.row e' m' f 2)=.row e' m' f 2 from by simp [Za2]];refine ⟨p1,i,L',by rw [ev];exact p2,p3,?_⟩;rw [ev,eO,eD];rcases V with V|⟨q,_⟩|⟨q,_⟩
       .exact .inl V
       .omega
       .omega
      .rw [M]at u ⊢;obtain ⟨b,vs,p1,p2,p3,V,p5⟩:=u;exact ⟨b,vs,ev.trans p1,eO.trans p2,eD.trans p3,V,ZkP (U:=U) (λk e m xs F=>⟨if_neg (c k e m xs F).1,(c k e m xs F).2⟩) p5⟩
   .by_cases F:k=st.n
    .subst F;rw [N.2.1,N.2.2];exact h5
    .by_cases G:Za2 st (st.ob k)=.gone
     .rw [(T k F G).1,(T k F G).2];simp
     .rw [(S k F G).1,(S k F G).2];exact K.nodup k
   .rcases o k b H with ⟨rfl,J⟩|⟨k1,k2,J⟩
    .rcases o j b mj with ⟨rfl,R⟩|⟨j1,j2,R⟩
     .exact C rfl
     .exact (h6 b J).1 (z j b R)
    .rcases o j b mj with ⟨rfl,R⟩|⟨j1,j2,R⟩
     .exact (h6 b R).1 (z k b J)
     .exact K.apart k j C b J R
   .show _/\YT w (if k=st.n then .row e m xs 2 else Za2 st (st.ob k)) b
    rcases o k b H with ⟨rfl,J⟩|⟨k1,k2,J⟩
    .rw [if_pos rfl];exact ⟨.inl (Nat.le_trans hB (h6 b J).2.1),(h6 b J).2.2⟩
    .obtain ⟨q1,q2⟩:=K.plain k b J;rw [if_neg k1];refine ⟨q1,q2.of ?_⟩;rcases ZnA k2 with ⟨e',m',f,M⟩|⟨t',i,M⟩
     .rw [M];rfl
     .rw [M];rfl
   .show SVR I w (if s=t then .p false [.row st.n] else ZpV st (st.sl s)) _
    by_cases l:s=t
    .subst l;rw [if_pos rfl];obtain ⟨A,cap,E⟩:=Zbi h3;exact ⟨_,rfl,N.1.symm,by rw [E];rfl⟩
    .rw [if_neg l];exact Zzi (U:=U) (λk e m xs F=>⟨if_neg (c k e m xs F).1,(c k e m xs F).2⟩) (P.sl s) (λk F=>if_neg λe=>B k yE F) (hS s)
   .show svU _ (if s=t then .p false [.row st.n] else ZpV st (st.sl s))
    by_cases l:s=t
    .rw [if_pos l];intro y my;simp at my;subst my;exact .inr rfl
    .rw [if_neg l];exact ZBC (λk e m xs F=>.inl (c k e m xs F).2) _ ((P.sl s).mono λ_=>.inl)
   .show obU _ (if k=st.n then .row e m xs 2 else Za2 st (st.ob k))
    split
    .trivial
    .cases F:st.ob k with
     |row e' m' f d'=>simp only[Za2];split<;>trivial
     |box t' i=>
      intro y my;obtain ⟨x,mx,rfl⟩:=AA.1 my;exact Zwq (λk e m xs F=>.inl (c k e m xs F).2) x
     |_=>trivial
   .show (if k=st.n then .row e m xs 2 else Za2 st (st.ob k))=.gone
    rw [if_neg λe=>F (.inr e),P.gone k λh=>F (.inl h)];rfl
  .have e:Zsy st t (.p ag cs)=st:=by
    unfold Zsy;split
    .rename_i h;simp only[SV.p.injEq]at h;exact absurd ⟨_,_,_,h.1,h.2⟩ hc
    .rfl
   rw [e];exact ⟨U,⟨g,K,hS⟩,P,d,hh⟩
 |_=>exact ⟨U,⟨g,K,hS⟩,P,d,hh⟩
end
abbrev nw0:NW:=⟨0⟩
section
variable {P:Program} {J:World->Prop} {JF:Nat->Prop} {W:Qq} {U:Nat->Prop} {st:St} {w w':World} {a:Act} {tt:Nat->Option TI} {od:OD} {g:Gh}
structure JOk (J:World->Prop) (JF:Nat->Prop):Prop where
 below:∀(x:Nat->Prop) (w w':World),J w->(∀b,x b->JF b)->w'.os=w.os->w'.tape=w.tape->w'.output=w.output->w.heap.size<=w'.heap.size->(∀k,k<w.heap.size->¬x k->w'.heap[k]?=w.heap[k]?)->J w'
 new:∀(w:World) b,J w->w.heap.size<=b->JF b
theorem Q7 {args:List (Bool×List CT)}{vs:List Value}{N t o:Nat}(h:vs.length<=N) (v:Value) (c:vs[t]?=some v):(vs.toArray++AE (N - vs.toArray.size) undef).getD t undef=v:=by
 have A:t<vs.length:=(AJ.1 c).1;simp only[AH,Aq,Ar,A,if_true,List.getElem?_toArray,c,Ac]
theorem ZfF {vs:List Value}{N t:Nat}(c:vs.length<=t):(vs.toArray++AE (N - vs.toArray.size) undef).getD t undef=undef:=by
 simp only[AH,Aq,Ar,show ¬t<vs.length by omega,if_false,Array.getElem?_replicate];split<;>rfl
theorem Zy9 (htt : ∀ t i, tt t = some i → TOk P t i) (hJ : JOk J JF) (hmix : P.follows .mixedOrders = true) {hds : FuncId → Nat} {f : FuncId} {fn : Func} {c : Code} {args : List (Bool × List CT)} {res : List RT} (hf : P.funcs[f]? = some fn) (hname : (fn.name == "runtime.NumGoroutine") = false) (hb : fn.body = some c)
  (hok:YR od tt hds false fn.ntmps c=true) (hlen:Nat.ble args.length fn.ntmps=true) (h:fnS od tt (SC P J JF hds) fn.results.toList c args res):Sound P J f args res:=by
 letI:NW:=nw0
 refine ⟨⟨fn,hf,hname,by rw [hb];rfl⟩,λw z vs hj hz hargs=>?_⟩
 have hlen':args.length<=fn.ntmps:=AB hlen
 have hvl:=hargs.len
 refine calls_of_wp hf hb ?_
 let W:Qq:={ w with z:=z,x:=λ_=>False,hv:=none }
 let g0:Gh:=⟨λ_=>undef,λ_=>[],λ_=>[],z⟩
 have hg0:∀b,g0.own b->z b:=λb hb=>by
  rcases hb with ⟨k,m⟩|h
  .simp [g0]at m
  .exact h
 have hI0:Inv W (λ_=>False) (Zk args) { tmps:=vs.toArray++AE (fn.ntmps - vs.toArray.size) undef,defers:=[] } w:=by
  refine ⟨⟨g0,⟨⟨rfl,rfl,rfl,AD _,λ_ _ _=>rfl⟩,λk=>⟨rfl,rfl⟩,λk=>by simp [g0],λk j _ b m=>by simp [g0]at m,λk b m=>by simp [g0]at m,rfl,λb hb=>⟨hz b hb,λh=>h,λh=>h⟩,λ_ _=>AT _,λk b m=>by simp [g0]at m⟩,λt=>?_⟩,⟨λt=>?_,λk=>trivial,λk _=>rfl⟩,rfl,λv hv=>by simp [W]at hv⟩
  .show SVR g0 w (match args[t]? with|some x=>.p x.1 (x.2.map ZgW)|none=>.und) _
   cases ht:args[t]? with
   |none=>exact ZfF (by have:args.length<=t:=(by simpa using ht);omega)
   |some x=>
    obtain ⟨v,hv,hr⟩:=hargs.at ht
    show SVR g0 w (.p x.1 (x.2.map ZgW)) ((vs.toArray++AE (fn.ntmps - vs.toArray.size) undef).getD t undef)
    rw [Q7 (args:=args) (o:=0) yE v hv]
    exact ZkL hg0 hr
  .show svU _ (match args[t]? with|some x=>.p x.1 (x.2.map ZgW)|none=>.und)
   split
   .exact Zke _
   .trivial
 have hM:MOk P J JF W tt:=⟨htt,λw' hb=>hJ.below (λ_=>False) w w' hj (λ_ h=>h.elim) hb.os hb.tape hb.output hb.size (λk hk hx=>hb.block k hk hx),λb hb=>hJ.new w b hj hb,λb h=>h.elim⟩
 refine X3 (W:=W) hM hmix (.inl rfl) c hok (ZoB tt fn.results.toList λ_ r _=>wkR r res) _ ?_ _ (Zk args) _ w hI0 (λ_ _ h=>h) (by simp;omega) h
 intro ex U' st' a' w' hI' _ _ hK
 have fin:(match ZbE tt st' fn.results.toList with|some x=>x.2.Nodup/\wkR x.1 res|none=>False)->a'.defers=[]/\∃v,(results fn a'.tmps).run P w'=.ok v w'/\∃u n,Ending.returned v=.returned u/\Zhg w' w.heap.size n res u/\(∀b,z b->n b)/\Below w.heap.size w w':=λhK=>by
  split at hK
  .rename_i x hx
   obtain ⟨r,ks⟩:=x
   obtain ⟨hnd,hw⟩:=hK
   obtain ⟨g,hH,hS⟩:=hI'.ex
   have hBg:∀k∈ks,∀b∈g.O k++g.D k,W.heap.size<=b:=λk _ b mb=>(hH.plain k b mb).1.resolve_right λh=>h.elim (λh=>h) λh=>h
   obtain ⟨v,m,e1,e2,_,_,e4⟩:=Zra htt hI' hH hS hx hnd hw hBg (λ_=>False) (λ_ h=>h.elim)
   have hbel:=hH.below
   exact ⟨hI'.defers,v,e1,v,m,rfl,e2,λb hb=>e4 b (λmb=>by obtain ⟨k,hk,mk⟩:=ZfX mb;have:=hBg k hk b mk;have:=hz b hb;have e:W.heap.size=w.heap.size:=rfl;omega) (.inl (by rw [hH.gz];exact hb)),hbel.os,hbel.tape,hbel.output,hbel.size,λk hk=>hbel.block k hk λh=>h⟩
  .exact hK.elim
 cases ex with
 |normal=>exact fin hK
 |exit id=>exact hK.elim
 |ret=>exact fin hK
theorem ZyB (htt : ∀ t i, tt t = some i → TOk P t i) (hJ : JOk J JF) (hmix : P.follows .mixedOrders = true) {hds : FuncId → Nat} {f : FuncId} {fn : Func} {c : Code} {args : List (Bool × List CT)} {res : List RT} (hf : P.funcs[f]? = some fn) (hname : (fn.name == "runtime.NumGoroutine") = false) (hb : fn.body = some c)
  (hok:YR od tt hds false fn.ntmps c=true) (hlen:Nat.ble args.length fn.ntmps=true) (t0:Nat) (h:fnN od tt (SC P J JF hds) fn.results.toList t0 c args res):Sound P J f args res:=by
 refine ⟨⟨fn,hf,hname,by rw [hb];rfl⟩,λw z vs hj hz hargs=>?_⟩
 letI:NW:=⟨w.heap.size⟩
 have hlen':args.length<=fn.ntmps:=AB hlen
 have hvl:=hargs.len
 refine calls_of_wp hf hb ?_
 let W:Qq:={ w with z:=z,x:=λ_=>False,hv:=none }
 let g0:Gh:=⟨λ_=>undef,λ_=>[],λ_=>[],z⟩
 have hg0:∀b,g0.own b->z b:=λb hb=>by
  rcases hb with ⟨k,m⟩|h
  .simp [g0]at m
  .exact h
 have hI0:Inv W (λ_=>False) (Zk args) { tmps:=vs.toArray++AE (fn.ntmps - vs.toArray.size) undef,defers:=[] } w:=by
  refine ⟨⟨g0,⟨⟨rfl,rfl,rfl,AD _,λ_ _ _=>rfl⟩,λk=>⟨rfl,rfl⟩,λk=>by simp [g0],λk j _ b m=>by simp [g0]at m,λk b m=>by simp [g0]at m,rfl,λb hb=>⟨hz b hb,λh=>h,λh=>h⟩,λb hb=>hb.elim (λh=>h) λh=>h.elim (λh=>h.elim) λh=>h.elim,λk b m=>by simp [g0]at m⟩,λt=>?_⟩,⟨λt=>?_,λk=>trivial,λk _=>rfl⟩,rfl,λv hv=>by simp [W]at hv⟩
  .show SVR g0 w (match args[t]? with|some x=>.p x.1 (x.2.map ZgW)|none=>.und) _
   cases ht:args[t]? with
   |none=>exact ZfF (by have:args.length<=t:=(by simpa using ht);omega)
   |some x=>
    obtain ⟨v,hv,hr⟩:=hargs.at ht
    show SVR g0 w (.p x.1 (x.2.map ZgW)) ((vs.toArray++AE (fn.ntmps - vs.toArray.size) undef).getD t undef)
    rw [Q7 (args:=args) (o:=0) yE v hv]
    exact ZkL hg0 hr
  .show svU _ (match args[t]? with|some x=>.p x.1 (x.2.map ZgW)|none=>.und)
   split
   .exact Zke _
   .trivial
 have hM:MOk P J JF W tt:=⟨htt,λw' hb=>hJ.below (λ_=>False) w w' hj (λ_ h=>h.elim) hb.os hb.tape hb.output hb.size (λk hk hx=>hb.block k hk hx),λb hb=>hJ.new w b hj hb,λb h=>h.elim⟩
 refine X3 (W:=W) hM hmix (.inl rfl) c hok (ZBa t0 (ZoB tt fn.results.toList λ_ r _=>wkR r res)) _ ?_ _ (Zk args) _ w hI0 (λ_ _ h=>h) (by simp;omega) h
 intro ex U1 st1 a' w' hI1 hn1 _ hK
 obtain ⟨U',hI'⟩:=Zzm (AD _) t0 hI1 hn1
 generalize hst:st1.thaw t0=st' at hI'
 simp only[ZBa,hst]at hK
 have fin:(match ZbE tt st' fn.results.toList with|some x=>x.2.Nodup/\wkR x.1 res|none=>False)->a'.defers=[]/\∃v,(results fn a'.tmps).run P w'=.ok v w'/\∃u n,Ending.returned v=.returned u/\Zhg w' w.heap.size n res u/\(∀b,z b->n b)/\Below w.heap.size w w':=λhK=>by
  split at hK
  .rename_i x hx
   obtain ⟨r,ks⟩:=x
   obtain ⟨hnd,hw⟩:=hK
   obtain ⟨g,hH,hS⟩:=hI'.ex
   have hBg:∀k∈ks,∀b∈g.O k++g.D k,W.heap.size<=b:=λk _ b mb=>(hH.plain k b mb).1.resolve_right λh=>h.elim (λh=>h) λh=>h
   obtain ⟨v,m,e1,e2,_,_,e4⟩:=Zra htt hI' hH hS hx hnd hw hBg (λ_=>False) (λ_ h=>h.elim)
   have hbel:=hH.below
   exact ⟨hI'.defers,v,e1,v,m,rfl,e2,λb hb=>e4 b (λmb=>by obtain ⟨k,hk,mk⟩:=ZfX mb;have:=hBg k hk b mk;have:=hz b hb;have e:W.heap.size=w.heap.size:=rfl;omega) (.inl (by rw [hH.gz];exact hb)),hbel.os,hbel.tape,hbel.output,hbel.size,λk hk=>hbel.block k hk λh=>h⟩
  .exact hK.elim
 cases ex with
 |normal=>exact fin hK
 |exit id=>exact hK.elim
 |ret=>exact fin hK
theorem Zw5 (htt : ∀ t i, tt t = some i → TOk P t i) (hJ : JOk J JF) (hmix : P.follows .mixedOrders = true) {hds : FuncId → Nat} {f : FuncId} {fn : Func} {c : Code} {args : List (Bool × List CT)} {nb : NB} (hf : P.funcs[f]? = some fn) (hname : (fn.name == "runtime.NumGoroutine") = false) (hb : fn.body = some c)
  (hok:YR od tt hds false fn.ntmps c=true) (hlen:Nat.ble args.length fn.ntmps=true) (h:fnB od tt (SC P J JF hds) fn.results.toList c args nb):ZmA P J f args nb:=by
 letI:NW:=nw0
 refine ⟨⟨fn,hf,hname,by rw [hb];rfl⟩,λw z vs hj hz hargs=>?_⟩
 have hlen':args.length<=fn.ntmps:=AB hlen
 have hvl:=hargs.len
 refine calls_of_wp hf hb ?_
 let W:Qq:={ w with z:=z,x:=λ_=>False,hv:=none }
 let g0:Gh:=⟨λ_=>undef,λ_=>[],λ_=>[],z⟩
 have hg0:∀b,g0.own b->z b:=λb hb=>by
  rcases hb with ⟨k,m⟩|h
  .simp [g0]at m
  .exact h
 have hI0:Inv W (λ_=>False) (Zk args) { tmps:=vs.toArray++AE (fn.ntmps - vs.toArray.size) undef,defers:=[] } w:=by
  refine ⟨⟨g0,⟨⟨rfl,rfl,rfl,AD _,λ_ _ _=>rfl⟩,λk=>⟨rfl,rfl⟩,λk=>by simp [g0],λk j _ b m=>by simp [g0]at m,λk b m=>by simp [g0]at m,rfl,λb hb=>⟨hz b hb,λh=>h,λh=>h⟩,λ_ _=>AT _,λk b m=>by simp [g0]at m⟩,λt=>?_⟩,⟨λt=>?_,λk=>trivial,λk _=>rfl⟩,rfl,λv hv=>by simp [W]at hv⟩
  .show SVR g0 w (match args[t]? with|some x=>.p x.1 (x.2.map ZgW)|none=>.und) _
   cases ht:args[t]? with
   |none=>exact ZfF (by have:args.length<=t:=(by simpa using ht);omega)
   |some x=>
    obtain ⟨v,hv,hr⟩:=hargs.at ht
    show SVR g0 w (.p x.1 (x.2.map ZgW)) ((vs.toArray++AE (fn.ntmps - vs.toArray.size) undef).getD t undef)
    rw [Q7 (args:=args) (o:=0) yE v hv]
    exact ZkL hg0 hr
  .show svU _ (match args[t]? with|some x=>.p x.1 (x.2.map ZgW)|none=>.und)
   split
   .exact Zke _
   .trivial
 have hM:MOk P J JF W tt:=⟨htt,λw' hb=>hJ.below (λ_=>False) w w' hj (λ_ h=>h.elim) hb.os hb.tape hb.output hb.size (λk hk hx=>hb.block k hk hx),λb hb=>hJ.new w b hj hb,λb h=>h.elim⟩
 refine X3 (W:=W) hM hmix (.inl rfl) c hok (ZA3 fn.results.toList nb) _ ?_ _ (Zk args) _ w hI0 (λ_ _ h=>h) (by simp;omega) h
 intro ex U' st' a' w' hI' _ _ hK
 have fin:ZgD st' fn.results.toList nb->a'.defers=[]/\∃v,(results fn a'.tmps).run P w'=.ok v w'/\∃(b:Nat) (n:Nat->Prop),Ending.returned v=.returned (Zpn b nb)/\w.heap.size<=b/\nbR w' n b nb/\n b/\(∀x,z x->n x)/\Below w.heap.size w w':=λhK=>by
  unfold ZgD at hK
  split at hK
  .rename_i s hrs
   have er:fn.results=#[.tmp s]:=by
    have:=congrArg Ah hrs
    simpa using this
   obtain ⟨g,hH,hS⟩:=hI'.ex
   have hs:=hS s
   have hbel:=hH.below
   cases nb with
   |box t cs=>
    obtain ⟨k,ds,k1,k2,k3,k4⟩:=hK
    rw [k1]at hs
    obtain ⟨b,b1,b2⟩:=hs
    have hob:=hH.obs k
    rw [k2]at hob
    obtain ⟨b',us,o1,o2,o3,o4,o5⟩:=hob
    have hbb:b'=b:=by rw [b1]at o1;simpa using o1.symm
    subst hbb
    obtain ⟨L,hL,hL2⟩:=ZfB hH k4 o5
    have hno:=hL2 λy my=>by
     have:=AI.1 k3 y my
     cases y<;>simp [Zbp]at this<;>trivial
    refine ⟨hI'.defers,_,?_,b',λx=>g.own x,rfl,(hH.plain k b' (by simp [o2])).1.resolve_right λh=>h.elim (λh=>h) λh=>h,⟨us,L,o4,hL,hno⟩,.inl ⟨k,by simp [o2]⟩,λx hx=>.inr (by rw [hH.gz];exact hx),hbel.os,hbel.tape,hbel.output,hbel.size,λk hk=>hbel.block k hk λh=>h⟩
    rw [ZjD,er]
    simp [ZgE,b2,Zpn]
   |map kk vk kv=>
    obtain ⟨k,k1,k2⟩:=hK
    rw [k1]at hs
    obtain ⟨x,hx,hx3⟩:=hs
    simp only[AR,and_true]at hx
    subst hx
    obtain ⟨hx2,_⟩:=hx3
    have hob:=hH.obs k
    rw [k2]at hob
    obtain ⟨b,es,c,o1,o2,o3,o4,o5⟩:=hob
    refine ⟨hI'.defers,_,?_,b,λx=>g.own x,rfl,(hH.plain k b (by simp [o2])).1.resolve_right λh=>h.elim (λh=>h) λh=>h,⟨es,c,o4,o5⟩,.inl ⟨k,by simp [o2]⟩,λx hx=>.inr (by rw [hH.gz];exact hx),hbel.os,hbel.tape,hbel.output,hbel.size,λk hk=>hbel.block k hk λh=>h⟩
    rw [ZjD,er]
    simp [ZgE,hx2,o1,Zpn]
  .exact hK.elim
 cases ex with
 |normal=>exact fin hK
 |exit id=>exact hK.elim
 |ret=>exact fin hK
theorem Zyz (htt : ∀ t i, tt t = some i → TOk P t i) (hJ : JOk J JF) (hmix : P.follows .mixedOrders = true) {hds : FuncId → Nat} {f : FuncId} {fn : Func} {c : Code} {h h' : Zhs} {args : List (Bool × List CT)} {res : List RT} (hf : P.funcs[f]? = some fn) (hname : (fn.name == "runtime.NumGoroutine") = false) (hb : fn.body = some c)
  (hok:YR od tt hds true fn.ntmps c=true) (hlen:Nat.blt args.length fn.ntmps=true) (hh:fnH od tt (SC P J JF hds) fn.results.toList c h args res h'):SoundH P J JF f h args res h':=by
 letI:NW:=nw0
 refine ⟨⟨fn,hf,hname,by rw [hb];rfl⟩,λw z q v0 vs hj hqf hz hhand hargs=>?_⟩
 have hlen':args.length<fn.ntmps:=AB hlen
 have hvl:=hargs.len
 refine calls_of_wp hf hb ?_
 let W:Qq:={ w with z:=z,x:=λb=>q=some b,hv:=some v0 }
 let g0:Gh:=⟨λk=>if k=0 then v0 else undef,λk=>if k=0 then q.toList else [],λ_=>[],z⟩
 have hg0:∀b,g0.own b->inQ z q b:=λb hb=>by
  rcases hb with ⟨k,m⟩|h
  .simp only[g0]at m
   split at m
   .exact .inr (by simpa using m)
   .simp at m
  .exact .inl h
 have hqlt:∀b,q=some b->∃cur e,w.heap[b]?=some (.cells cur e (0,0)):=λb hb=>by
  cases h with
  |row e m xs=>
   obtain ⟨_,_,h3,cs,h4,_⟩:=hhand
   rcases h4.2 with ⟨h0,_⟩|⟨gg,o,cap,cur,hv,_,hcc,_⟩
   .rw [h0]at h3;simp [Value.ownBlock]at h3;rw [<-h3]at hb;simp at hb
   .rw [hv]at h3;simp only[Value.ownBlock]at h3;rw [hb]at h3;simp at h3;subst h3;exact ⟨_,_,hcc⟩
  |box t cs=>
   obtain ⟨b',vs,L,h1,h2,h3,_⟩:=hhand
   rw [hb]at h1;simp at h1;subst h1
   exact ⟨_,_,h3⟩
 have hob0:ObR g0 w 0 (XY h):=by
  cases h with
  |row e m xs=>
   obtain ⟨h1,h2,h3,cs,h4,h5⟩:=hhand
   exact ⟨h2,cs,[],by simpa [g0]using h4,h5,.inl ⟨rfl,by simp [g0,h3],by simp [g0]⟩⟩
  |box t cs=>
   obtain ⟨b,vs,L,h1,h2,h3,h4,h5⟩:=hhand
   exact ⟨b,vs,by simpa [g0]using h2,by simp [g0,h1],by simp [g0],h3,h4.avr λx mx hx=>h5 x mx (hg0 x hx)⟩
 have hsv0:SVR g0 w (Zez h) v0:=by
  cases h with
  |row e m xs=>
   obtain ⟨h1,h2,h3,cs,h4,h5⟩:=hhand
   obtain ⟨A,cap,hv⟩:=Zbi h4
   exact ⟨_,rfl,by simp [g0],by simp [hv,Value.oneCell']⟩
  |box t cs=>
   obtain ⟨b,vs,L,h1,h2,h3,h4,h5⟩:=hhand
   exact ⟨b,by simpa [g0]using h2,h2⟩
 have hI0:Inv W (λk=>k=0) (ZeR h args) { tmps:=(v0::vs).toArray++AE (fn.ntmps - (v0::vs).toArray.size) undef,defers:=[] } w:=by
  refine ⟨⟨g0,⟨⟨rfl,rfl,rfl,AD _,λ_ _ _=>rfl⟩,λk=>?_,λk=>?_,λk j hkj b m=>?_,λk b m=>?_,rfl,λb hb=>⟨(hz b hb).1,(hz b hb).2,λh=>h⟩,λ_ _=>AT _,λk b m=>by
   by_cases hk:k=0
   .subst hk;exact .inr (by simpa [g0]using m)
   .simp [g0,hk]at m⟩,λt=>?_⟩,⟨λt=>?_,λk=>?_,λk hk=>by simp [ZeR,hk]⟩,rfl,λv hv=>?_⟩
  .show ObR g0 w k (if k=0 then XY h else .gone)
   by_cases hk:k=0
   .subst hk;exact hob0
   .rw [if_neg hk];exact ⟨by simp [g0,hk],rfl⟩
  .by_cases hk:k=0
   .subst hk;cases q<;>simp [g0]
   .simp [g0,hk]
  .by_cases hk:k=0
   .have:¬j=0:=λe=>hkj yE
    simp [g0,this]
   .simp [g0,hk]at m
  .by_cases hk:k=0
   .subst hk
    have hb:q=some b:=by simpa [g0]using m
    refine ⟨.inr (.inl hb),?_⟩
    have hp:∃cur e,w.heap[b]?=some (.cells cur e (0,0)):=hqlt b hb
    show YT w (if 0=0 then XY h else .gone) b
    rw [if_pos rfl]
    cases h<;>exact hp
   .simp [g0,hk]at m
  .show SVR g0 w (match t with|0=>Zez h|t+1=>(match args[t]? with|some x=>.p x.1 (x.2.map .c)|none=>.und)) _
   cases t with
   |zero=>
    show SVR g0 w (Zez h) (((v0::vs).toArray++AE (fn.ntmps - (v0::vs).toArray.size) undef).getD 0 undef)
    rw [Q7 (args:=args) (o:=0) (by simp;omega) v0 rfl]
    exact hsv0
   |succ t=>
    show SVR g0 w (match args[t]? with|some x=>.p x.1 (x.2.map .c)|none=>.und) _
    cases ht:args[t]? with
    |none=>exact ZfF (by have:args.length<=t:=(by simpa using ht);simp;omega)
    |some x=>
     obtain ⟨v,hv,hr⟩:=hargs.at ht
     show SVR g0 w (.p x.1 (x.2.map .c)) (((v0::vs).toArray++AE (fn.ntmps - (v0::vs).toArray.size) undef).getD (t+1) undef)
     rw [Q7 (args:=args) (o:=0) (by simp;omega) v (by simpa using hv)]
     exact Zwa hg0 hr
  .show svU _ (match t with|0=>Zez h|t+1=>(match args[t]? with|some x=>.p x.1 (x.2.map .c)|none=>.und))
   cases t with
   |zero=>cases h with
    |row e m xs=>intro y my;simp at my;subst my;rfl
    |box t cs=>rfl
   |succ t=>
    show svU _ (match args[t]? with|some x=>.p x.1 (x.2.map .c)|none=>.und)
    split
    .exact ZjF true _
    .trivial
  .show obU _ (if k=0 then XY h else .gone)
   by_cases hk:k=0
   .rw [if_pos hk]
    cases h with
    |row e m xs=>trivial
    |box t cs=>exact ZjF true _
   .rw [if_neg hk];trivial
  .have:v0=v:=by simpa [W]using hv
   subst this
   exact Q7 (args:=args) (o:=0) (by simp;omega) v0 rfl
 have hM:MOk P J JF W tt:=⟨htt,λw' hb=>hJ.below (λb=>q=some b) w w' hj hqf hb.os hb.tape hb.output hb.size (λk hk hx=>hb.block k hk hx),λb hb=>hJ.new w b hj hb,hqf⟩
 refine X3 (W:=W) hM hmix (.inr rfl) c hok (ZoB tt fn.results.toList λst r ks=>wkR r res/\Zkw st ks h') _ ?_ _ (ZeR h args) _ w hI0 (λk hk h0=>by simp [ZeR]at hk;omega) (by simp;omega) hh
 intro ex U' st' a' w' hI' _ _ hK
 have fin:(match ZbE tt st' fn.results.toList with|some x=>x.2.Nodup/\wkR x.1 res/\Zkw st' x.2 h'|none=>False)->a'.defers=[]/\∃v,(results fn a'.tmps).run P w'=.ok v w'/\∃u n,Ending.returned v=.returned u/\Zhg w' w.heap.size n res u/\(∀b,inQ z q b->n b)/\ZpU w' n q h' v0/\ZFC q w w':=λhK=>by
  split at hK
  .rename_i x hx
   obtain ⟨r,ks⟩:=x
   obtain ⟨hnd,hw,hbk⟩:=hK
   obtain ⟨g,hH,hS⟩:=hI'.ex
   have hv0:a'.tmps.getD 0 undef=v0:=hI'.hand v0 rfl
   have hS0:=hS 0
   rw [hv0]at hS0
   have hkey:∃k,g.val k=v0/\g.O k=q.toList/\g.D k=[]/\k∉ks/\(Zji (st'.ob k)=false/\∀e m xs d,st'.ob k=.row e m xs d->d=2)/\∀n:Nat->Prop,(∀b,n b->g.own b)->ZpU w' n q h' v0:=by
    cases h' with
    |row e m xs=>
     obtain ⟨k,hk1,hk2,hk3,hk4⟩:=hbk
     rw [hk1]at hS0
     obtain ⟨x,hx1,hx2⟩:=hS0
     simp only[AR,and_true]at hx1
     subst hx1
     have hob:=hH.obs k
     rw [hk2]at hob
     obtain ⟨hm,cs,L,o1,o2,o3⟩:=hob
     obtain rfl:=ZhH o2 hk3
     rcases o3 with ⟨_,q1,q2⟩|⟨q1,_⟩|⟨q1,_⟩
     .have hq:v0.ownBlock=q:=by
       cases h with
       |row e1 m1 xs1=>exact hhand.2.2.1
       |box t1 cs1=>
        obtain ⟨b,vs,L,h1,h2,_⟩:=hhand
        obtain ⟨A,cap,hv⟩:=Zbi o1
        rw [<-hx2.1,h2]at hv
        simp at hv
      exact ⟨k,hx2.1.symm,by rw [q1,<-hx2.1,hq],q2,hk4,⟨by rw [hk2];rfl,λe' m' xs' d' h=>by rw [hk2]at h;simp only[Ob.row.injEq]at h;exact h.2.2.2.symm⟩,λn _=>⟨hk3,hm,hq,cs,by rw [hx2.1];exact o1,o2⟩⟩
     .omega
     .omega
    |box t cs=>
     obtain ⟨k,ds,hk1,hk2,hk3,hk4⟩:=hbk
     rw [hk1]at hS0
     obtain ⟨b,hb1,hb2⟩:=hS0
     have hob:=hH.obs k
     rw [hk2]at hob
     obtain ⟨b',vs',o1,o2,o3,o4,o5⟩:=hob
     have hbb:b'=b:=by rw [hb1]at o1;simpa using o1.symm
     subst hbb
     have hq:q=some b':=by
      cases h with
      |row e1 m1 xs1=>
       obtain ⟨_,_,_,cs1,h4,_⟩:=hhand
       obtain ⟨A,cap,hv⟩:=Zbi h4
       rw [hv]at hb2
       simp at hb2
      |box t1 cs1=>
       obtain ⟨b2,vs2,L2,h1,h2,_⟩:=hhand
       rw [h2]at hb2
       simp at hb2
       rw [h1,hb2]
     obtain ⟨L,hL,hL2⟩:=ZfB hH hk4 o5
     refine ⟨k,by rw [o1,hb2],by rw [o2,hq];rfl,o3,λmk=>?_,⟨by rw [hk2];rfl,λe' m' xs' d' h=>by rw [hk2]at h;simp at h⟩,λn hn=>⟨b',vs',L,hq,hb2,o4,hL,λx mx hx=>hL2 (λy my=>?_) x mx (hn x hx)⟩⟩
     .obtain ⟨e',m',xs',h'⟩:=Zki hx k mk
      rw [hk2]at h'
      simp at h'
     .have:=AI.1 hk3 y my
      cases y<;>simp [Zbp]at this<;>trivial
   obtain ⟨k0,c1,c2,c3,c4,c5,c6⟩:=hkey
   have hBg:∀k∈ks,∀b∈g.O k++g.D k,W.heap.size<=b:=λk hk b mb=>(hH.plain k b mb).1.resolve_right λh=>h.elim (λh=>hH.apart k k0 (λe=>c4 (e ▸ hk)) b mb (by rw [c2];simp;exact .inl h)) λh=>h
   obtain ⟨v,m,e1,e2,e3,_,e4⟩:=Zra htt hI' hH hS hx hnd hw hBg (λk=>k=k0) (λk hk=>hk ▸ c5)
   have hbel:=hH.below
   refine ⟨hI'.defers,v,e1,v,m,rfl,e2,λb hb=>?_,c6 m e3,hbel.os,hbel.tape,hbel.output,hbel.size,λk hk hq=>hbel.block k hk hq⟩
   refine e4 b (λmb=>?_) ?_
   .obtain ⟨k,hk,mk⟩:=ZfX mb
    have hge:=hBg k hk b mk
    have e:W.heap.size=w.heap.size:=rfl
    rcases hb with hb|hb
    .have:=(hz b hb).1;omega
    .obtain ⟨cur,e',hc⟩:=hqlt b hb
     have:=(AX.1 hc).1
     omega
   .rcases hb with hb|hb
    .exact .inl (by rw [hH.gz];exact hb)
    .exact .inr ⟨k0,rfl,by rw [c2,hb];simp⟩
  .exact hK.elim
 cases ex with
 |normal=>exact fin hK
 |exit id=>exact hK.elim
 |ret=>exact fin hK
def gvN:Option (Bool×List (Bool×CT))->Nat
 |none=>0
 |some _=>1
theorem Zyp (htt : ∀ t i, tt t = some i → TOk P t i) (hJ : JOk J JF) (hmix : P.follows .mixedOrders = true) {hds : FuncId → Nat} {f : FuncId} {fn : Func} {c : Code} {t0 : Nat} {cs cs' : List (Bool × CT)} {gv : Option (Bool × List (Bool × CT))} {args : List (Bool × List CT)} {res : List RT} (hf : P.funcs[f]? = some fn) (hname : (fn.name == "runtime.NumGoroutine") = false) (hb : fn.body = some c)
  (hok:YR od tt hds true fn.ntmps c=true) (hlen:Nat.blt (args.length+gvN gv) fn.ntmps=true) (hh:fnO od tt (SC P J JF hds) fn.results.toList c t0 cs gv args res cs'):Zgo P J JF f t0 cs gv args res cs':=by
 letI:NW:=nw0
 refine ⟨⟨fn,hf,hname,by rw [hb];rfl⟩,λw z q v0 gs vs b us us2 F hj hqb hqJ hz hul hgr hO hargs=>?_⟩
 have hlen':args.length+gvN gv<fn.ntmps:=AB hlen
 have hvl:=hargs.len
 have hgl:gs.length=gvN gv:=by
  cases gv with
  |none=>rw [hgr.1];rfl
  |some g=>obtain ⟨ag,gc⟩:=g;cases ag with
   |true=>rw [hgr.1];rfl
   |false=>rw [hgr.1,hgr.2.1];rfl
 refine calls_of_wp hf hb ?_
 let W:Qq:={ w with z:=z,x:=q,hv:=some v0,y:=λx=>x∈F }
 obtain ⟨val,O,D,hB,hA⟩:=Qx (l:=true) 1 hO.ocs (λ_=>rfl)
 have hlen2:(v0::(gs++vs)).length<=fn.ntmps:=by simp;omega
 have hbd:∃avs up hi,(ZI 1 (cs++gvC gv)).1=avs/\(ZI 1 (cs++gvC gv)).2.1=up/\(ZI 1 (cs++gvC gv)).2.2=hi:=⟨_,_,_,rfl,rfl,rfl⟩
 obtain ⟨avs,up,hi,ha1,ha2,ha3⟩:=hbd
 rw [ha1]at hA
 rw [ha2,ha3]at hB
 rw [ha3]at hA
 have hle:=hB.le
 have hndF:=AK.1 hO.own.nodup
 have hnd:=Zgg (hB.foot ▸ hndF.2)
 have hmemF:∀j,(1<=j/\j<hi)->∀x∈O j++D j,x∈F:=λj hj x mx=>by
  rw [hB.foot]
  exact Aj.2 ⟨j,List.mem_range'_1.2 ⟨hj.1,yE⟩,mx⟩
 let g0:Gh:=⟨λk=>if k=0 then v0 else val k,λk=>if k=0 then [b] else if 1<=k/\k<hi then O k else [],λk=>if k=0 then [] else if 1<=k/\k<hi then D k else [],z⟩
 have g00:g0.val 0=v0/\g0.O 0=[b]/\g0.D 0=[]:=⟨rfl,rfl,rfl⟩
 have gT:∀k,1<=k/\k<hi->g0.val k=val k/\g0.O k=O k/\g0.D k=D k:=λk hk=>by
  have h0:¬k=0:=by omega
  exact ⟨by simp only[g0,if_neg h0],by simp only[g0,if_neg h0,if_pos hk],by simp only[g0,if_neg h0,if_pos hk]⟩
 have gN:∀k,¬k=0->¬(1<=k/\k<hi)->g0.O k=[]/\g0.D k=[]:=λk h0 hk=>⟨by simp only[g0,if_neg h0,if_neg hk],by simp only[g0,if_neg h0,if_neg hk]⟩
 have hOq:∀k,1<=k/\k<hi->∀x∈O k,q x:=λk hk x mx=>by
  obtain ⟨_,_,_,_,_,_,_,_,_,p6⟩:=hB.at_ k hk.1 hk.2
  rcases p6 x mx with h|h
  .exact absurd (by simp [hmemF k hk x (by simp [mx])]) (hz x h).2.2
  .exact h
 have hg0:∀x,g0.own x->z x\/q x:=λx hx=>by
  rcases hx with ⟨k,m⟩|h
  .by_cases h0:k=0
   .subst h0;rw [g00.2.1]at m;simp at m;subst m;exact .inr hqb
   .by_cases hk:1<=k/\k<hi
    .rw [(gT k hk).2.1]at m;exact .inr (hOq k hk x m)
    .rw [(gN k h0 hk).1]at m;simp at m
  .exact .inl h
 have hob:∀k,(Zk4 t0 cs gv args).ob k=if k=0 then .box t0 (avs.take cs.length) else Zl (λ_=>.gone) up k:=λk=>by
  show (if k=0 then Ob.box t0 ((ZI 1 (cs++gvC gv)).1.take cs.length) else Zl (λ_=>.gone) (ZI 1 (cs++gvC gv)).2.1 k)=_
  rw [ha1,ha2]
 have hAV:∀x u,CR val w (λx=>z x\/q x) true 1 hi x u->AVR g0 w x u/\avU (λk=>k<hi) x:=λx u h=>by
  cases x with
  |row k=>
   obtain ⟨c1,c2,c3,c4⟩:=h
   exact ⟨⟨by rw [(gT k ⟨c1,c2⟩).1];exact c3,c4⟩,c2⟩
  |c x=>
   obtain ⟨L,h1,h2⟩:=h
   exact ⟨⟨L,h1,λb mb o=>(h2 b mb).2 (hg0 b o)⟩,trivial⟩
  |n _=>exact h.elim
  |nil _ _=>exact h.elim
  |dead=>exact h.elim
 have hcellsA:ZJ (AVR g0 w) avs (us++us2)/\XX (λk=>k<hi) avs:=⟨hA.mono λx c _ h=>(hAV x c h).1,λx mx=>by
  obtain ⟨i,hi'⟩:=List.mem_iff_getElem?.1 mx
  obtain ⟨c,_,hc'⟩:=hA.at hi'
  exact (hAV x c hc').2⟩
 have hcells:ZJ (AVR g0 w) (avs.take cs.length) us/\XX (λk=>k<hi) (avs.take cs.length):=⟨by
  have:=hcellsA.1.take cs.length
  rwa [<-hul,List.take_left' rfl,hul]at this,λx mx=>hcellsA.2 x (List.mem_of_mem_take mx)⟩
 have hcellsG:ZJ (AVR g0 w) (avs.drop cs.length) us2/\XX (λk=>k<hi) (avs.drop cs.length):=⟨by
  have:=hcellsA.1.drop cs.length
  rwa [<-hul,List.drop_left' rfl,hul]at this,λx mx=>hcellsA.2 x (List.mem_of_mem_drop mx)⟩
 have hpl:∀k,∀x∈g0.O k++g0.D k,x=b/\k=0\/(1<=k/\k<hi)/\x∈O k++D k:=λk x m=>by
  by_cases h0:k=0
  .subst h0;rw [g00.2.1,g00.2.2]at m;simp at m;exact .inl ⟨m,rfl⟩
  .by_cases hk:1<=k/\k<hi
   .rw [(gT k hk).2.1,(gT k hk).2.2]at m;exact .inr ⟨hk,m⟩
   .rw [(gN k h0 hk).1,(gN k h0 hk).2]at m;simp at m
 have hI0:Inv W (λk=>k<hi) (Zk4 t0 cs gv args) { tmps:=(v0::(gs++vs)).toArray++AE (fn.ntmps - (v0::(gs++vs)).toArray.size) undef,defers:=[] } w:=by
  refine ⟨⟨g0,⟨⟨rfl,rfl,rfl,AD _,λ_ _ _=>rfl⟩,λk=>?_,λk=>?_,λk j hkj x m mj=>?_,λk x m=>?_,rfl,λx hx=>⟨(hz x hx).1,(hz x hx).2.1,λh=>(hz x hx).2.2 (by simp [show x∈F from h])⟩,λ_ _=>AT _,λk x m=>?_⟩,λt=>?_⟩,⟨λt=>?_,λk=>?_,λk hk=>?_⟩,rfl,λv hv=>?_⟩
  .rw [hob k]
   by_cases h0:k=0
   .subst h0;rw [if_pos rfl]
    exact ⟨b,us,hO.val,rfl,rfl,hO.cell,hcells.1⟩
   .rw [if_neg h0]
    by_cases hk:1<=k/\k<hi
    .obtain ⟨e,m,ys,cs2,p1,p2,p3,p4,p5,_⟩:=hB.at_ k hk.1 hk.2
     obtain ⟨e1,e2,e3⟩:=gT k hk
     rw [p1]
     exact ⟨p2,cs2,D k,by rw [e1];exact p3,p4,.inl ⟨rfl,by rw [e1,e2];exact p5,e3⟩⟩
    .rw [hB.out k hk];exact gN k h0 hk
  .by_cases h0:k=0
   .subst h0;simp [g00]
   .by_cases hk:1<=k/\k<hi
    .rw [(gT k hk).2.1,(gT k hk).2.2];exact hnd.1 k hk.1 yE
    .rw [(gN k h0 hk).1,(gN k h0 hk).2];simp
  .rcases hpl k x m with ⟨rfl,rfl⟩|⟨h1,h2⟩
   .rcases hpl j x mj with ⟨_,rfl⟩|⟨h3,h4⟩
    .exact hkj rfl
    .exact hndF.1 (hmemF j h3 x h4)
   .rcases hpl j x mj with ⟨rfl,rfl⟩|⟨h3,h4⟩
    .exact hndF.1 (hmemF k h1 x h2)
    .exact hnd.2 k j h1.1 yE h3.1 yE hkj x h2 h4
  .rw [hob k]
   rcases hpl k x m with ⟨rfl,rfl⟩|⟨h1,h2⟩
   .rw [if_pos rfl]
    exact ⟨.inr (.inl hqb),_,_,hO.cell⟩
   .obtain ⟨e,m,ys,cs2,p1,_⟩:=hB.at_ k h1.1 h1.2
    rw [if_neg (by omega:¬k=0),p1]
    exact ⟨.inr (.inr (hmemF k h1 x h2)),hO.own.plain x (by simp [hmemF k h1 x h2])⟩
  .by_cases h0:k=0
   .subst h0;rw [g00.2.1]at m;simp at m;subst m;exact .inr hqb
   .by_cases hk:1<=k/\k<hi
    .rw [(gT k hk).2.1]at m;exact .inr (hOq k hk x m)
    .rw [(gN k h0 hk).1]at m;simp at m
  .have harg:∀(t o:Nat),o=gvN gv->SVR g0 w (match args[t]? with|some x=>.p x.1 (x.2.map .c)|none=>.und) (((v0::(gs++vs)).toArray++AE (fn.ntmps - (v0::(gs++vs)).toArray.size) undef).getD (t+o+1) undef):=λt o ho=>by
    cases ht:args[t]? with
    |none=>exact ZfF (by have:args.length<=t:=(by simpa using ht);simp;omega)
    |some x=>
     obtain ⟨v,hv,hr⟩:=hargs.at ht
     show SVR g0 w (.p x.1 (x.2.map .c)) _
     rw [Q7 (args:=args) (o:=0) hlen2 v (by
      rw [List.getElem?_cons_succ,List.getElem?_append_right yE,show t+o - gs.length=t by omega]
      exact hv)]
     exact Zwa hg0 hr
   cases t with
   |zero=>
    show SVR g0 w (.bp 0 0) (((v0::(gs++vs)).toArray++AE (fn.ntmps - (v0::(gs++vs)).toArray.size) undef).getD 0 undef)
    rw [Q7 (args:=args) (o:=0) hlen2 v0 rfl]
    exact ⟨b,hO.val,hO.val⟩
   |succ t=>
    cases gv with
    |none=>exact harg t 0 rfl
    |some g=>
     cases t with
     |succ t=>exact harg t 1 rfl
     |zero=>
      show SVR g0 w (.p g.1 ((ZI 1 (cs++g.2)).1.drop cs.length)) _
      rw [show (ZI 1 (cs++g.2)).1=avs from ha1]
      obtain ⟨ag,gc⟩:=g
      cases ag with
      |true=>
       obtain ⟨rfl,_⟩:=hgr
       rw [Q7 (args:=args) (o:=0) hlen2 (.agg us2.toArray) rfl]
       exact ⟨us2,rfl,hcellsG.1⟩
      |false=>
       obtain ⟨rfl,h1,_⟩:=hgr
       obtain ⟨u,hu⟩:=List.length_eq_one_iff.1 h1
       subst hu
       rw [Q7 (args:=args) (o:=0) hlen2 u rfl]
       have hd:=hcellsG.1
       generalize avs.drop cs.length=dd at hd
       cases dd with
       |nil=>exact hd.elim
       |cons y yr=>
        cases yr with
        |nil=>exact ⟨y,rfl,hd.1⟩
        |cons _ _=>exact hd.2.elim
  .cases t with
   |zero=>show 0<hi;omega
   |succ t=>
    cases gv with
    |none=>
     show svU _ (match args[t]? with|some x=>.p x.1 (x.2.map .c)|none=>.und)
     split
     .exact ZjF true _
     .trivial
    |some g=>
     cases t with
     |zero=>
      show svU _ (.p g.1 ((ZI 1 (cs++g.2)).1.drop cs.length))
      rw [show (ZI 1 (cs++g.2)).1=avs from ha1]
      exact hcellsG.2
     |succ t=>
      show svU _ (match args[t]? with|some x=>.p x.1 (x.2.map .c)|none=>.und)
      split
      .exact ZjF true _
      .trivial
  .rw [hob k]
   by_cases h0:k=0
   .rw [if_pos h0];exact hcells.2
   .rw [if_neg h0]
    by_cases hk:1<=k/\k<hi
    .obtain ⟨e,m,ys,cs2,p1,_⟩:=hB.at_ k hk.1 hk.2
     rw [p1];trivial
    .rw [hB.out k hk];trivial
  .rw [hob k,if_neg (by omega:¬k=0),hB.out k yE]
  .have:v0=v:=by simpa [W]using hv
   subst this
   exact Q7 (args:=args) (o:=0) hlen2 v0 rfl
 have hM:MOk P J JF W tt:=⟨htt,λw' hb=>hJ.below q w w' hj (λx hx=>(hqJ x hx).1) hb.os hb.tape hb.output hb.size (λk hk hx=>hb.block k hk hx),λb hb=>hJ.new w b hj hb,λx hx=>(hqJ x hx).1⟩
 refine X3 (W:=W) hM hmix (.inr rfl) c hok (ZoB tt fn.results.toList λst r ks=>wkR r res/\ks=[]/\opB st t0 cs' (st.sl 0)) _ ?_ _ (Zk4 t0 cs gv args) _ w hI0 (λk hk h0=>by
  have:(Zk4 t0 cs gv args).n=hi:=ha3
  omega) (by simp;omega) hh
 intro ex U' st' a' w' hI' _ _ hK
 have fin:(match ZbE tt st' fn.results.toList with|some x=>x.2.Nodup/\wkR x.1 res/\x.2=[]/\opB st' t0 cs' (st'.sl 0)|none=>False)->a'.defers=[]/\∃v,(results fn a'.tmps).run P w'=.ok v w'/\∃u n us' F',Ending.returned v=.returned u/\Zhg w' w.heap.size n res u/\(∀x,z x->n x)/\n b/\(∀x,n x->z x\/q x\/w.heap.size<=x)/\ZpJ w' n t0 cs' v0 b us' [] F'/\(∀x∈F',x∈F\/w.heap.size<=x)/\ZuJ q w w':=λhK=>by
  split at hK
  .rename_i x hx
   obtain ⟨r,ks⟩:=x
   obtain ⟨hnd',hw,hk0,hbk⟩:=hK
   simp only at hk0
   subst hk0
   obtain ⟨g,hH,hS⟩:=hI'.ex
   have hv0:a'.tmps.getD 0 undef=v0:=hI'.hand v0 rfl
   have hS0:=hS 0
   rw [hv0]at hS0
   obtain ⟨k,ds,ks',e1,e2,e3,e4⟩:=ZBI hbk
   rw [e1]at hS0
   obtain ⟨b2,hb1,hb2⟩:=hS0
   have hbb:b2=b:=by have:=hO.val;rw [hb2]at this;simpa using this
   subst hbb
   have hob':=hH.obs k
   rw [e2]at hob'
   obtain ⟨b',us',o1,o2,o3,o4,o5⟩:=hob'
   have hbb:b'=b2:=by rw [hb1]at o1;simpa using o1.symm
   subst hbb
   obtain ⟨q1,q2⟩:=Ziq hH e3 o5
   have hkks:k∉ks':=λm=>by
    obtain ⟨e,m',xs,hr⟩:=q2 k m
    rw [e2]at hr;simp at hr
   have hFk:∀x∈g.F ks',∃j∈ks',x∈g.O j++g.D j:=λx mx=>ZfX mx
   obtain ⟨v,m,e5,e6,e7,_,e8⟩:=Zra htt hI' hH hS hx hnd' hw (λk hk=>by simp at hk) (λj=>j=k\/j∈ks') (λj hj=>by
    rcases hj with rfl|hj
    .exact ⟨by rw [e2];rfl,λe m xs d h=>by rw [e2]at h;simp at h⟩
    .obtain ⟨e,m',xs,hr⟩:=q2 j hj
     exact ⟨by rw [hr];rfl,λe m xs d h=>by rw [hr]at h;simp only[Ob.row.injEq]at h;exact h.2.2.2.symm⟩)
   have hmm:∀x,(g.Z x\/∃j,(j=k\/j∈ks')/\x∈g.O j)->m x:=λx hx=>e8 x (λmb=>by simp [Gh.F]at mb) hx
   have hbel:=hH.below
   have q1l:OCs w' 0 m cs' us' (g.F ks'):=q1.low (λx hx=>e7 x hx) λx mx hox=>by
    obtain ⟨j,hj,mj⟩:=hFk x mx
    rcases hox with ⟨i,mi⟩|hZ
    .by_cases hij:i=j
     .subst hij;exact hmm x (.inr ⟨i,.inr hj,mi⟩)
     .exact absurd (by simp [mi]:x∈g.O i++g.D i) (hH.apart j i (λh=>hij h.symm) x mj)
    .exact hmm x (.inl hZ)
   refine ⟨hI'.defers,v,e5,v,m,us',g.F ks',rfl,e6,λx hx=>hmm x (.inl (by rw [hH.gz];exact hx)),hmm _ (.inr ⟨k,.inl rfl,by simp [o2]⟩),λx hx=>?_,⟨hO.val,o4,by rw [List.append_nil];exact q1l,⟨AK.2 ⟨λmb=>?_,hH.nodupF e4⟩,λ_ _=>AT _,λx mx=>?_⟩⟩,λx mx=>?_,⟨hbel.os,hbel.tape,hbel.output,hbel.size,λi hi hq=>hbel.block i hi hq⟩⟩
   .rcases e7 x hx with ⟨j,mj⟩|hZ
    .rcases hH.oy j x mj with h|h
     .exact .inr (.inr h)
     .exact .inr (.inl h)
    .exact .inl (by rw [hH.gz]at hZ;exact hZ)
   .obtain ⟨j,hj,mj⟩:=hFk _ mb
    exact hH.apart k j (λe=>hkks (e ▸ hj)) _ (by simp [o2]) mj
   .rcases AF.1 mx with rfl|mx
    .exact ⟨_,_,o4⟩
    .obtain ⟨j,hj,mj⟩:=hFk x mx
     obtain ⟨e,m',xs,hr⟩:=q2 j hj
     have:=(hH.plain j x mj).2
     rw [hr]at this
     exact this
   .obtain ⟨j,hj,mj⟩:=hFk x mx
    rcases (hH.plain j x mj).1 with h|h|h
    .exact .inr h
    .rcases AF.1 (hqJ x h).2 with rfl|h'
     .exact absurd mj (hH.apart k j (λe=>hkks (e ▸ hj)) _ (by simp [o2]))
     .exact .inl h'
    .exact .inl h
  .exact hK.elim
 cases ex with
 |normal=>exact fin hK
 |exit id=>exact hK.elim
 |ret=>exact fin hK
end
instance nwD:NW:=nw0
end
section
open Go.RowKit
def Zls {α β:Type}(f:α->β->Bool):List α->List β->Bool
 | [],[]=>true
 |a::l,b::r=>f a b&&Zls f l r
 |_,_=>false
theorem ZjH {α β:Type}{f:α->β->Bool}{R:α->β->Prop}(h:∀a b,f a b=true->R a b):∀{l:List α}{r:List β},Zls f l r=true->ZJ R l r
 | [],[],_=>trivial
 |a::l,b::r,hh=>by
  simp only[Zls,A5]at hh;exact ⟨h a b hh.1,ZjH h hh.2⟩
 | [],_::_,hh=>by simp [Zls]at hh
 |_::_,[],hh=>by simp [Zls]at hh
def ZAQ (P:Program) (fi:FI) (f:Field):Bool:=
 f.offset==fi.off&&!(fi.size==0)&&match P.info? f.type,P.underlying f.type with
  |some j,some d=>j.size==fi.size&&(Zt2 d==fi.agg)
  |_,_=>false
def ZFO:Value->Bool
 |.slice none 0 0=>true
 |_=>false
def ZxE (P:Program):List PK->List Field->Nat->Bool
 | [],[],_=>true
 | k :: ks, f :: fs, n => (f.name != "_") && (f.offset == n) && (match P.underlying f.type with | some d => Zes k d | none => false) && ZxE P ks fs (n + 1)
 |_,_,_=>false
theorem Zwe {P:Program}:∀{ks:List PK}{A:List Field}{n:Nat},ZxE P ks A n=true->EqF P ks A n
 | [],[],_,_=>trivial
 |k::ks,f::A,n,h=>by
  simp only[ZxE,A5,bne_iff_ne,beq_iff_eq]at h;obtain ⟨⟨⟨E,D⟩,c⟩,C⟩:=h;split at c
  .rename_i d B;exact ⟨E,D,⟨d,B,c⟩,Zwe C⟩
  .simp at c
 | [],_::_,_,h=>by simp [ZxE]at h
 |_::_,[],_,h=>by simp [ZxE]at h
def Zqn:Option TypeDesc->Bool
 |some (.struct _)=>true
 |_=>false
def ZDv (P:Program) (t:TypeId) (ks:List PK):Bool:=
 Nat.ble 4000 t&&Zqn (P.underlying (t - 4000))&&!(P.stoodInHeld (t - 4000))&&!(P.eqGuardType P.depth (t - 4000))&&ZxE P ks (P.fieldsOf (t - 4000)).toList 0
theorem ZCe {P:Program}{t:TypeId}{ks:List PK}(h:ZDv P t ks=true):TOk P t (.eqs ks):=by
 simp only[ZDv,A5,AY]at h;obtain ⟨⟨⟨⟨D,c⟩,C⟩,B⟩,A⟩:=h;refine ⟨t - 4000,?_,?_,C,B,Zwe A⟩
 .have:4000<=t:=AB D;exact (Nat.sub_add_cancel this).symm
 .unfold Zqn at c;split at c
  .rename_i E e;unfold Program.fieldsOf;rw [e]
  .simp at c
def tOk (P:Program) (t:TypeId) (ti:TI):Bool:=
 match ti with
 |.eqs ks=>ZDv P t ks
 |_=>
 match P.underlying t,P.info? t with
 |some d,some i=>match ti with
  |.atom z=>ZiR d z&&i.size==1&&match i.zero with|some zv=>Za4 z zv|none=>false
  |.strct fs n z=>match d with
   |.struct fields=>i.size==n&&(match i.zero with|some (.agg zvs)=>Zls Za4 z zvs.toList|_=>false)&&Zls (ZAQ P) fs fields.toList
   |_=>false
  |.slice e m bytes z=>match d with
   |.slice e'=>e==e'&&Nat.blt 0 m&&Nat.ble bytes 131072&&(match P.info? e with
     |some ie=>ie.size==m&&ie.bytes==bytes&&(match ie.zero with|some zv=>Zls Za4 z zv.cells.toList|none=>false)
     |none=>false)&&z.length==m&&i.size==1&&(match i.zero with|some zv=>ZFO zv|none=>false)
   |_=>false
  |.map kk vk=>match d with
   |.map kt et=>(match P.underlying kt with|some dk=>Zes kk dk|none=>false)&&(match P.underlying et with|some dv=>Zes vk dv|none=>false)&&(match P.info? et with|some ie=>(match ie.zero with|some zv=>Za4 (Zfj vk) zv|none=>false)|none=>false)
   |_=>false
  |.ifc=>match d with
   |.interface _=>true
   |_=>false
  |.eqs _=>false
 |_,_=>false
theorem ZBq {v:Value}(h:ZFO v=true):v=.slice none 0 0:=by
 unfold ZFO at h;split at h
 .rfl
 .simp at h
theorem ZFv {P:Program}{t:TypeId}{ti:TI}(h:tOk P t ti=true):TOk P t ti:=by
 unfold tOk at h;split at h
 .exact ZCe h
 split at h
 .rename_i d i F hi;cases ti with
  |eqs ks=>simp at h
  |ifc=>
   simp only at h;split at h
   .exact ⟨_,F⟩
   .simp at h
  |map kk vk=>
   simp only at h;split at h
   .rename_i N et;simp only[A5]at h;obtain ⟨⟨C,B⟩,A⟩:=h;split at C
    .rename_i dk c;split at B
     .rename_i dv g;split at A
      .rename_i J b;split at A
       .rename_i E D;exact ⟨N,et,dk,dv,J,E,F,c,C,g,B,b,D,A⟩
       .simp at A
      .simp at A
     .simp at B
    .simp at C
   .simp at h
  |atom z=>
   simp only[A5,beq_iff_eq]at h;obtain ⟨⟨C,B⟩,A⟩:=h;split at A
   .rename_i E D;exact ⟨d,E,i,F,C,hi,D,B,A⟩
   .simp at A
  |strct fs n z=>
   simp only at h;split at h
   .rename_i a;simp only[A5,beq_iff_eq]at h;obtain ⟨⟨C,B⟩,A⟩:=h;split at B
    .rename_i zvs D;refine ⟨a,i,zvs,F,hi,C,D,ZjH (λ_ _ h=>h) B,ZjH (λfi f K=>?_) A⟩;unfold ZAQ at K;simp only[A5,beq_iff_eq,AY,beq_eq_false_iff_ne]at K;obtain ⟨⟨W,V⟩,G⟩:=K;split at G
     .rename_i j d' S k;simp only[A5,beq_iff_eq]at G;exact ⟨W,V,j,d',S,G.1,k,G.2⟩
     .simp at G
    .simp at B
   .simp at h
  |slice e m bytes z=>
   simp only at h;split at h
   .rename_i e';simp only[A5,beq_iff_eq]at h;obtain ⟨⟨⟨⟨⟨⟨C,B⟩,A⟩,H⟩,U⟩,T⟩,L⟩:=h;subst C;split at H
    .rename_i J b;simp only[A5,beq_iff_eq]at H;obtain ⟨⟨R,O⟩,I⟩:=H;split at I
     .rename_i E D;split at L
      .rename_i M l;exact ⟨F,AB B,AB A,⟨J,E,b,R,O,D,ZjH (λ_ _ h=>h) I,U⟩,i,hi,T,by rw [l,ZBq L]⟩
      .simp at L
     .simp at I
    .simp at H
   .simp at h
 .simp at h
def Zzg:List (Nat×TI)->Nat->Option TI
 | [],_=>none
 |p::r,t=>if p.1=t then some p.2 else Zzg r t
theorem Zzr {P:Program}:∀(l:List (Nat×TI)),(l.all λp=>tOk P p.1 p.2)=true->∀t i,Zzg l t=some i->TOk P t i
 | [],_,t,i,h=>by simp [Zzg]at h
 |p::r,ha,t,i,h=>by
  simp only[List.all_cons,A5]at ha;simp only[Zzg]at h;split at h
  .rename_i e;simp only[A0]at h;subst h e;exact ZFv ha.1
  .exact Zzr r ha.2 t i h
end
section
open Go.RowKit
def ZCP (P:Program) (L:List (String×(Array Value->Prop))) (w:World):Prop:=∀x∈L,∃cs,w.var? P x.1=some cs/\x.2 cs
def ZCK (P:Program) (L:List (String×(Array Value->Prop))) (b:Nat):Prop:=∀x∈L,¬P.globalNamed x.1=some b
theorem ZCy (P:Program) (L:List (String×(Array Value->Prop))):JOk (ZCP P L) (ZCK P L) where
 below:=λx w w' C E _ _ _ hs D y A=>by
  obtain ⟨cs,c,F⟩:=C y A;refine ⟨cs,?_,F⟩;unfold World.var? at c ⊢;obtain ⟨g,B,c⟩:=AC.1 c;rw [B,AP];have a:g<w.heap.size:=by
   rcases Aa g w.heap.size with h|h
   .exact h
   .rw [Ab h]at c;simp at c
  rw [D g a (λh=>E g h y A B)];exact c
 new:=λw b C D y A B=>by
  obtain ⟨cs,c,_⟩:=C y A;unfold World.var? at c;rw [B,AP,Ab D]at c;simp at c
theorem Za0 {J:World->Prop}{JF:Nat->Prop}(h:JOk J JF) {w w':World}(B:J w) (c:Below w.heap.size w w'):J w':=
 h.below (λ_=>False) w w' B (λ_ h=>h.elim) c.os c.tape c.output c.size λk A _=>c.block k A
theorem Ztc {w:World}{B:Nat}{n:Nat->Prop}{c:CT}{v:Value}(h:OC w B n (false,c) v []):Zhg w B n [(false,[(false,c)])] v:=
 ⟨[v],[],⟨v,[],[],[],rfl,rfl,.inr ⟨rfl,_,rfl,h⟩,rfl,rfl⟩,Own.nil _ _,yG⟩
theorem Zsu {w:World}{B:Nat}{n:Nat->Prop}{C c2:CT}{A c:Value}(E:OC w B n (false,C) A []) (D:OC w B n (false,c2) c []):Zhg w B n [(false,[(false,C)]),(false,[(false,c2)])] (.tuple #[A,c]):=
 ⟨[A,c],[],⟨A,[c],[],[],rfl,rfl,.inr ⟨rfl,_,rfl,E⟩,c,[],[],[],rfl,rfl,.inr ⟨rfl,_,rfl,D⟩,rfl,rfl⟩,Own.nil _ _,yG⟩
theorem ZvW {w:World}{z:Nat->Prop}{c:CT}{v:Value}(h:Zhk w z (false,[c]) v):∃L,RC w c v L:=by
 rcases h with ⟨h,_⟩|⟨_,B,L,h,A,_⟩
 .simp at h
 .simp only[AR,and_true]at h;subst h;exact ⟨L,A⟩
theorem ZmX {w:World}{z:Nat->Prop}{c:CT}{vs:List Value}(h:ZJ (Zhk w z) [(false,[c])] vs):∃v L,vs=[v]/\RC w c v L:=by
 cases vs with
 |nil=>exact h.elim
 |cons v r=>
  cases r with
  |nil=>obtain ⟨L,A⟩:=ZvW h.1;exact ⟨v,L,rfl,A⟩
  |cons _ _=>exact h.2.elim
theorem ZyL {w:World}{z:Nat->Prop}{c d:CT}{vs:List Value}(h:ZJ (Zhk w z) [(false,[c]),(false,[d])] vs):∃v u L M,vs=[v,u]/\RC w c v L/\RC w d u M:=by
 cases vs with
 |nil=>exact h.elim
 |cons v r=>
  obtain ⟨u,M,rfl,A⟩:=ZmX h.2;obtain ⟨L,B⟩:=ZvW h.1;exact ⟨v,u,L,M,rfl,B,A⟩
end
end
end Go.Proofs.YthjnneiibkknhaaGreatDoor
