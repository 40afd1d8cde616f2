/- Texts of this proof, joined: BDraw, BAny, BSound, BFn, BTok, Laid, DT. What each holds is said at its theorems. -/
import Derived.Test.YtfehfkfdfmcgfaaGreatDoorWhySetsQ5
import Derived.Orders
import Derived.Test.YtfehfkfdfmcgfaaGreatDoorWhySetsQ1
import Derived.Test.YtfehfkfdfmcgfaaGreatDoorWhySetsQ4
import GoSem.Claims
import Derived.Test.YtfehfkfdfmcgfaaGreatDoorWhySetsQ2
import Derived.Test.YtfehfkfdfmcgfaaGreatDoorProg
import Derived.Lib.LaidTab
import Derived.Lib.ItoaNum
set_option linter.unusedSimpArgs false
set_option linter.unusedVariables false
open Array renaming replicate→AC,getD_eq_getD_getElem?→AE,getElem?_eq_some_iff→AR,getElem?_eq_none→AU,getElem?_setIfInBounds→Ae,getElem?_setIfInBounds_ne→Af,getElem?_append→Ak
open Bool renaming and_eq_true→A6,or_eq_true→AJ,not_eq_true'→Am
open List renaming map→A3,mem_append→A5,mem_map→A8,mem_cons→AD,all_eq_true→AF,getElem?_eq_some_iff→AG,map_congr_left→AK,not_mem_nil→AM,nodup_cons→AO,nodup_append→AP,range→AQ,cons_append→AS,set_getElem_self→AY,mem_or_eq_of_mem_set→AZ,toArray→Aa,mem_filterMap→Ac,mem_of_getElem?→Ad,getElem_mem→Ah,range_eq_range'→Ai,mapM_cons→Aj,size_toArray→Al
open List.Sublist renaming append→AX,refl→Ag
open List.cons renaming injEq→AN
open Nat renaming le_of_ble_eq_true→A9,le_refl→AB,lt_or_ge→AT,zero_le→Ab
open Option renaming map_eq_some_iff→A7,bind_eq_some_iff→AA,map_none→AH,map_some→AI,bind_some→AL,getD_some→AW
open Option.some renaming injEq→A0
open Prod.mk renaming injEq→A4
open Go.Proofs.Tryz
namespace Go.Proofs.YtfehfkfdfmcgfaaGreatDoor
section
open Go.RowKit
def ZuK:Option TI→Bool
 | some (.slice _ _ _ z)=>z.all ZjP
 | _=>false
def cls (tt:Nat→Option TI) (hs:FuncId→Nat):Op→Nat
 | .move _=>0
 | .assign _=>0
 | .pick _ _ _=>0
 | .build _ _=>0
 | .nilCheck _=>0
 | .binOp _ _ _ _ _=>0
 | .unOp _ _ _=>0
 | .convert _ t _=>if Zcq (tt t)=true then 1 else 0
 | .slice t _ lo hi _=>if Zcq (tt t)=true then 0 else if lo.isSome&&hi.isNone then 4 else 3
 | .fieldAddr _ _ _=>0
 | .field _ _ _=>0
 | .index _ _ _=>0
 | .extract _ _=>0
 | .alloc _=>1
 | .box _ _=>1
 | .load _ _=>1
 | .makeMap _ _=>1
 | .lookup _ _ _ _=>1
 | .makeSlice _ _ _=>1
 | .indexAddr _ _ _=>1
 | .buildSlice t _ ps=>if ps.size=0∨ZuK (tt t)=true then 2 else 3
 | .call ⟨.builtin .len,_,_⟩=>1
 | .call ⟨.builtin .max,_,_⟩=>0
 | .call ⟨.builtin .min,_,_⟩=>0
 | .call ⟨.value (.func f),_,_⟩=>if hs f=0∨hs f=4 then 1 else 4
 | _=>4
section
variable {P:Program} {W:Zaa} {U:Nat→Prop} {key:Nat} {st st':St} {w w':World} {a:Act} {tt:Nat→Option TI} {S:Ctx} {Q:Exit→Act→World→Prop}
def Za8 (tt:Nat→Option TI) (S:Ctx) (key:Nat) (o:Oper) (st:St) (v:SV) (u:List (Nat × Ob)):Prop:=
 match Y1 o.op with
 | some c=>ZaW S c.1 (S.hd c.1) key st (evs tt st c.2.1 c.2.2) v u
 | none=>match Y7 o.op with
  | some c=>∃fc,Zok (st.sl c.1)=some fc∧S.hd fc.1=0∧ZaW S fc.1 0 key st (evs tt st c.2.1 c.2.2++fc.2.map Zkw) v u
  | none=>opE tt key o st=some (v,u)
def opR (tt:Nat→Option TI) (S:Ctx) (all:List Oper) (key:Nat) (o:Oper) (st:St) (v:SV) (u:List (Nat × Ob)):Prop:=
 match Zao all o with
 | none=>Za8 tt S key o st v u
 | some (none,_)=>v=.und∧u=[]
 | some (some t,want)=>gK (st.sl t) want (Za8 tt S key o st v u) (v=.und∧u=[])
theorem Ztq [NW] {o:Oper} {K:St→Prop}:opS tt S key o K st↔∃v u,Za8 tt S key o st v u∧K ((st.put o.dst v).app u):=by
 cases hc:Y1 o.op with
 | some c=>
  simp only[opS,Za8,hc]
  exact ZkQ
 | none=>
  simp only[opS,Za8,hc]
  cases hd:Y7 o.op with
  | some c=>
   simp only
   constructor
   ·intro h
    unfold YH at h
    split at h
    ·rename_i fc hfc
     obtain ⟨h0,h⟩:=h
     obtain ⟨v,u,h1,h2⟩:=ZkQ.1 h
     exact ⟨v,u,⟨fc,hfc,h0,h1⟩,h2⟩
    ·exact h.elim
   ·rintro ⟨v,u,⟨fc,hfc,h0,h1⟩,h2⟩
    rw [hfc]
    exact ⟨h0,ZkQ.2 ⟨v,u,h1,h2⟩⟩
  | none=>
   simp only
   constructor
   ·intro h
    unfold YH at h
    split at h
    ·rename_i r hr
     exact ⟨r.1,r.2,hr,h⟩
    ·exact h.elim
   ·rintro ⟨v,u,h1,h2⟩
    rw [h1]
    exact h2
theorem Zhe [NW] {all:List Oper} {o:Oper} {K:St→Prop}:opG tt S all key o K st↔∃v u,opR tt S all key o st v u∧K ((st.put o.dst v).app u):=by
 have skip:K (st.put o.dst .und)↔∃v u,(v=SV.und∧u=[])∧K ((st.put o.dst v).app u):=by
  constructor
  ·intro h;exact ⟨.und,[],⟨rfl,rfl⟩,h⟩
  ·rintro ⟨v,u,⟨rfl,rfl⟩,h⟩;exact h
 cases hg:Zao all o with
 | none=>simp only[opG,opR,hg];exact Ztq
 | some q=>
  obtain ⟨q,want⟩:=q
  cases q with
  | none=>simp only[opG,opR,hg];exact skip
  | some t=>
   simp only[opG,opR,hg,gK]
   by_cases h1:QJ (st.sl t)=true
   ·by_cases h2:(XN (st.sl t)==want)=true
    ·simp only[h1,h2,if_true];exact Ztq
    ·simp only[h1,h2,if_true,if_false];exact skip
   ·by_cases h2:Zq4 (st.sl t)=true
    ·simp only[h1,h2,if_true,if_false];exact skip
    ·simp only[h1,h2,if_false];simp
theorem ZeW [NW] {ts:List TypeId} {xs:List Operand} (h:∀x∈xs,∀t,st.ev tt t x=st'.ev tt t x):evs tt st ts xs=evs tt st' ts xs:=by
 unfold evs
 refine AK fun p hp=>h p.2 ?_ p.1
 rw [←ZeZ ts xs]
 exact A8.2 ⟨p,hp,rfl⟩
def Wk (st st':St) (U:Nat→Prop):Prop:=∀k,U k→st'.ob k=st.ob k∨st'.ob k=Yd (st.ob k)
theorem Wk.of (h:∀k,U k→st.ob k=st'.ob k):Wk st st' U:=fun k hk=>.inl (h k hk).symm
theorem ZgR (hob:Wk st st' U):∀{xs:List AV},Qn U xs→YG st xs=YG st' xs
 | [],_=>rfl
 | x::r,h=>by
  have hx:ZbE st x=ZbE st' x:=by
   cases x with
   | row k=>
    simp only[ZbE]
    rcases hob k (h (.row k) (by simp)) with e | e
    ·rw [e]
    ·rw [e];cases st.ob k<;>rfl
   | _=>rfl
  have hr:=ZgR hob (xs:=r) (fun y m=>h y (by simp [m]))
  simp only[YG,hx,hr]
theorem Zeg [NW] (hob:Wk st st' U):∀{xs:List SV},(∀x∈xs,svU U x)→Z1 st xs=Z1 st' xs
 | [],_=>rfl
 | x::r,h=>by
  have hx:ZcN st x=ZcN st' x:=by
   cases x with
   | p ag cs=>simp only[ZcN,ZgR hob (h (.p ag cs) (by simp))]
   | _=>rfl
  have hr:=Zeg hob (xs:=r) (fun y m=>h y (by simp [m]))
  simp only[Z1,hx,hr]
theorem Zsb (hob:Wk st st' U) {t:Option TI} {x:SV} (hx:svU U x):Qt st t x=Qt st' t x:=by
 cases x with
 | bp k off=>
  simp only[Qt]
  rcases hob k hx with e | e
  ·rw [e]
  ·rw [e];cases st.ob k<;>rfl
 | rp k m i off=>
  simp only[Qt]
  rcases hob k hx with e | e
  ·rw [e]
  ·rw [e];cases st.ob k<;>rfl
 | p ag cs=>cases ag with
  | true=>rfl
  | false=>cases cs with
   | nil=>rfl
   | cons y r=>cases r<;>cases y<;>first | rfl | (rename_i z;cases z<;>rfl) | (rename_i z _ _;cases z<;>rfl)
 | _=>rfl
theorem ZtD (hob:Wk st st' U) {t:Option TI} {x:SV} (hx:svU U x):ZmS st t x=ZmS st' t x:=by
 unfold ZmS
 split<;>try rfl
 rename_i k
 rcases hob k (hx (.row k) (by simp)) with e | e
 ·rw [e]
 ·rw [e];cases st.ob k<;>rfl
theorem ZoW (hob:Wk st st' U) {m:Nat} {x i:SV} (hx:svU U x):Za9 st m x i=Za9 st' m x i:=by
 unfold Za9
 split<;>try rfl
 rename_i k _ _
 rcases hob k (hx (.row k) (by simp)) with e | e
 ·rw [e]
 ·rw [e];cases st.ob k<;>rfl
theorem Zuv (hob:st.ob=st'.ob) (x:SV):ZiQ st x=ZiQ st' x:=by
 unfold ZiQ
 rw [hob]
theorem Zmd [NW] (hob:st.ob=st'.ob):∀xs:List SV,Zel st xs=Zel st' xs
 | []=>rfl
 | x::r=>by simp only[Zel,Zuv hob x,Zmd hob r]
theorem Zsw (hob:Wk st st' U) {t:Option TI} {x i:SV} {ok:Bool} (hx:svU U x):Zgf st t x i ok=Zgf st' t x i ok:=by
 unfold Zgf
 split<;>try rfl
 rename_i k
 rcases hob k (hx (.row k) (by simp)) with e | e
 ·rw [e]
 ·rw [e];cases st.ob k<;>rfl
theorem Zsu (hob:Wk st st' U) {x:SV} (hx:svU U x):ZhD st x=ZhD st' x:=by
 unfold ZhD
 split<;>try rfl
 rename_i k
 rcases hob k (hx (.row k) (by simp)) with e | e
 ·rw [e]
 ·rw [e];cases st.ob k<;>rfl
theorem Zr2 [NW] (hob:Wk st st' U) {s t:Nat} {x:SV} (hx:svU U x):ZgY tt st s t x=ZgY tt st' s t x:=by
 unfold ZgY
 rw [Zsu hob hx]
def Mk (st st':St) (U:Nat→Prop):Prop:=∀k,U k→st'.ob k=st.ob k∨st'.ob k=.gone
theorem Zku (hob:Mk st st' U):∀{xs:List AV} {r:List CT},Qn U xs→YG st' xs=some r→YG st xs=some r
 | [],_,_,h=>h
 | x::xs,r,hu,h=>by
  simp only[YG] at h ⊢
  obtain ⟨a,h1,h⟩:=AA.1 h
  obtain ⟨b,h2,rfl⟩:=A7.1 h
  have hx:ZbE st x=some a:=by
   cases x with
   | row k=>
    simp only[ZbE] at h1 ⊢
    rcases hob k (hu (.row k) (by simp)) with e | e
    ·rwa [e] at h1
    ·rw [e] at h1;simp at h1
   | _=>exact h1
  rw [hx,AL,Zku hob (fun y m=>hu y (by simp [m])) h2]
  rfl
theorem Zgs [NW] (hob:Mk st st' U):∀{xs:List SV} {r:List (Bool × List CT)},(∀x∈xs,svU U x)→Z1 st' xs=some r→Z1 st xs=some r
 | [],_,_,h=>h
 | x::xs,r,hu,h=>by
  simp only[Z1] at h ⊢
  obtain ⟨a,h1,h⟩:=AA.1 h
  obtain ⟨b,h2,rfl⟩:=A7.1 h
  have hx:ZcN st x=some a:=by
   cases x with
   | p ag cs=>
    simp only[ZcN] at h1 ⊢
    obtain ⟨l,h3,rfl⟩:=A7.1 h1
    rw [Zku hob (hu (.p ag cs) (by simp)) h3]
    rfl
   | _=>exact h1
  rw [hx,AL,Zgs hob (fun y m=>hu y (by simp [m])) h2]
  rfl
theorem Zsp (hob:Mk st st' U) {t:Option TI} {x r:SV} (hx:svU U x) (h:Qt st' t x=some r):Qt st t x=some r:=by
 cases x with
 | bp k off=>
  simp only[Qt] at h ⊢
  rcases hob k hx with e | e
  ·rwa [e] at h
  ·rw [e] at h;simp at h
 | rp k m i off=>
  simp only[Qt] at h ⊢
  rcases hob k hx with e | e
  ·rwa [e] at h
  ·rw [e] at h;simp at h
 | p ag cs=>cases ag with
  | true=>exact h
  | false=>cases cs with
   | nil=>exact h
   | cons y r=>cases r<;>cases y<;>first | exact h | (rename_i z;cases z<;>exact h) | (rename_i z _ _;cases z<;>exact h)
 | _=>exact h
theorem Zus (hob:Mk st st' U) {t:Option TI} {x r:SV} (hx:svU U x) (h:ZmS st' t x=some r):ZmS st t x=some r:=by
 unfold ZmS at h ⊢
 split at h<;>try exact h
 rename_i k
 rcases hob k (hx (.row k) (by simp)) with e | e
 ·rwa [e] at h
 ·rw [e] at h;simp at h
theorem Zps (hob:Mk st st' U) {m:Nat} {x i r:SV} (hx:svU U x) (h:Za9 st' m x i=some r):Za9 st m x i=some r:=by
 unfold Za9 at h ⊢
 split at h<;>try exact h
 rename_i k _ _
 rcases hob k (hx (.row k) (by simp)) with e | e
 ·rwa [e] at h
 ·rw [e] at h;simp at h
theorem Zsv (hob:Mk st st' U) {t:Option TI} {x i r:SV} {ok:Bool} (hx:svU U x) (h:Zgf st' t x i ok=some r):Zgf st t x i ok=some r:=by
 unfold Zgf at h ⊢
 split at h<;>try exact h
 rename_i k
 rcases hob k (hx (.row k) (by simp)) with e | e
 ·rwa [e] at h
 ·rw [e] at h;simp at h
theorem ZrT (hob:Mk st st' U) {x r:SV} (hx:svU U x) (h:ZhD st' x=some r):ZhD st x=some r:=by
 unfold ZhD at h ⊢
 split at h<;>try exact h
 rename_i k
 rcases hob k (hx (.row k) (by simp)) with e | e
 ·rwa [e] at h
 ·rw [e] at h;simp at h
theorem Znw [NW] {o:Oper} {sl sl':Nat→SV} {ob:Nat→Ob} {n n':Nat} (hl:∀x∈o.op.operands,∀t,St.ev tt ⟨sl,ob,n⟩ t x=St.ev tt ⟨sl',ob,n'⟩ t x):opE tt key o ⟨sl,ob,n⟩=opE tt key o ⟨sl',ob,n'⟩:=by
 obtain ⟨dst,op,ty,pos,af,gd⟩:=o
 cases op with
 | build t parts=>
  have hp:∀fs z,parts.toList.map (ZfO tt ⟨sl,ob,n⟩ fs z)=parts.toList.map (ZfO tt ⟨sl',ob,n'⟩ fs z):=fun fs z=>AK fun p hp=>by
   have:=hl p.2 (by simp [Op.operands];exact ⟨p.1,by simpa using hp⟩) 0
   unfold ZfO
   split
   ·rfl
   ·rw [this]
  simp only[opE,hp]
 | buildSlice t len parts=>
  have hp:∀e,(parts.toList.map fun p=>St.ev tt ⟨sl,ob,n⟩ e p.2)=parts.toList.map fun p=>St.ev tt ⟨sl',ob,n'⟩ e p.2:=fun e=>AK fun p hp=>hl p.2 (by simp [Op.operands];exact ⟨p.1,by simpa using hp⟩) e
  have he:∀m l,Y0 ⟨sl,ob,n⟩ m l=Y0 ⟨sl',ob,n'⟩ m l:=fun m l=>by
   have h1:∀x,avT ⟨sl,ob,n⟩ x=avT ⟨sl',ob,n'⟩ x:=fun x=>by cases x<;>rfl
   have h2:∀xs,ZfY ⟨sl,ob,n⟩ xs=ZfY ⟨sl',ob,n'⟩ xs:=fun xs=>by
    induction xs with
    | nil=>rfl
    | cons x xs ih=>simp only[ZfY,h1,ih]
   induction l with
   | nil=>rfl
   | cons x xs ih=>cases x<;>simp only[Y0,h2,ih]
  have hz:∀ks,ZS ⟨sl,ob,n⟩ ks=ZS ⟨sl',ob,n'⟩ ks:=fun ks=>by
   induction ks with
   | nil=>rfl
   | cons k r ih=>simp only[ZS,ih]
  simp only[opE,hp,he,hz]
 | slice t x lo hi mx=>
  simp only[Op.operands] at hl
  cases mx with
  | some _=>rfl
  | none=>
   have hx:=fun t=>hl x (by simp) t
   cases lo with
   | none=>cases hi with
    | none=>simp only[opE,hx,AH];rfl
    | some h=>have hh:=fun t=>hl h (by simp) t;simp only[opE,hx,hh,AH,AI];rfl
   | some l=>
    have hlo:=fun t=>hl l (by simp) t
    cases hi with
    | none=>simp only[opE,hx,hlo,AH,AI];rfl
    | some h=>have hh:=fun t=>hl h (by simp) t;simp only[opE,hx,hlo,hh,AI];rfl
 | call c=>
  obtain ⟨callee,args,ts⟩:=c
  cases callee with
  | builtin b=>
   have:=ZeW (tt:=tt) (st:=⟨sl,ob,n⟩) (st':=⟨sl',ob,n'⟩) (ts:=ts.toList) (xs:=args.toList) (fun x m t=>hl x (by simp [Op.operands,Call.operands];simpa using m) t)
   simp only[opE,this]
   unfold Zp6
   split<;>rfl
  | value f=>rfl
  | invoke r m=>rfl
 | move x=>have:=fun t=>hl x (by simp [Op.operands]) t;simp only[opE,this]
 | assign x=>have:=fun t=>hl x (by simp [Op.operands]) t;simp only[opE,this]
 | pick c x y=>have h1:=fun t=>hl c (by simp [Op.operands]) t;have h2:=fun t=>hl x (by simp [Op.operands]) t;have h3:=fun t=>hl y (by simp [Op.operands]) t;simp only[opE,h1,h2,h3]
 | alloc t=>rfl
 | box t x=>have:=fun t=>hl x (by simp [Op.operands]) t;simp only[opE,this]
 | load t x=>have:=fun t=>hl x (by simp [Op.operands]) t;simp only[opE,this];rfl
 | store t x v=>have h1:=fun t=>hl x (by simp [Op.operands]) t;have h2:=fun t=>hl v (by simp [Op.operands]) t;simp only[opE,h1,h2];rfl
 | nilCheck x=>have:=fun t=>hl x (by simp [Op.operands]) t;simp only[opE,this]
 | binOp op t x y t'=>have h1:=fun t=>hl x (by simp [Op.operands]) t;have h2:=fun t=>hl y (by simp [Op.operands]) t;simp only[opE,h1,h2]
 | unOp op t x=>have:=fun t=>hl x (by simp [Op.operands]) t;simp only[opE,this]
 | convert s t x=>have:=fun t=>hl x (by simp [Op.operands]) t;simp only[opE,this];rfl
 | makeFunc fn first caps=>
  cases fn with
  | func f=>
   have hc:caps.toList.map (St.ev tt ⟨sl,ob,n⟩ 0)=caps.toList.map (St.ev tt ⟨sl',ob,n'⟩ 0):=AK fun x hx=>hl x (by simp [Op.operands];exact .inr (by simpa using hx)) 0
   simp only[opE,hc,Zmd (st:=⟨sl,ob,n⟩) (st':=⟨sl',ob,n'⟩) rfl]
  | _=>rfl
 | makeMap t r=>cases r<;>rfl
 | lookup t x i ok=>have h1:=fun t=>hl x (by simp [Op.operands]) t;have h2:=fun t=>hl i (by simp [Op.operands]) t;simp only[opE,h1,h2];rfl
 | mapUpdate t x i v=>have h1:=fun t=>hl x (by simp [Op.operands]) t;have h2:=fun t=>hl i (by simp [Op.operands]) t;have h3:=fun t=>hl v (by simp [Op.operands]) t;simp only[opE,h1,h2,h3];rfl
 | makeSlice t x y=>have h1:=fun t=>hl x (by simp [Op.operands]) t;have h2:=fun t=>hl y (by simp [Op.operands]) t;simp only[opE,h1,h2]
 | fieldAddr t x f=>have:=fun t=>hl x (by simp [Op.operands]) t;simp only[opE,this]
 | field t x f=>have:=fun t=>hl x (by simp [Op.operands]) t;simp only[opE,this]
 | indexAddr t x y=>have h1:=fun t=>hl x (by simp [Op.operands]) t;have h2:=fun t=>hl y (by simp [Op.operands]) t;simp only[opE,h1,h2];rfl
 | index t x y=>have h1:=fun t=>hl x (by simp [Op.operands]) t;have h2:=fun t=>hl y (by simp [Op.operands]) t;simp only[opE,h1,h2]
 | extract x i=>have:=fun t=>hl x (by simp [Op.operands]) t;simp only[opE,this]
 | _=>rfl
theorem Ztl (sl:Nat→SV) (ob ob':Nat→Ob) (n n' t:Nat) (x:Operand):St.ev tt ⟨sl,ob,n⟩ t x=St.ev tt ⟨sl,ob',n'⟩ t x:=by cases x<;>rfl
theorem ZvN {st st':St} (h:∀k,U k→st.ob k=st'.ob k) {x:AV} (hx:avU U x):avT st x=avT st' x:=by
 cases x with
 | row k=>simp only[avT];rw [h k hx]
 | c x=>cases x<;>rfl
 | nil e m=>rfl
 | n x=>rfl
 | dead=>rfl
theorem ZnN [NW] {st st':St} (h:∀k,U k→st.ob k=st'.ob k):∀{xs:List AV},Qn U xs→ZfY st xs=ZfY st' xs
 | [],_=>rfl
 | x::r,hx=>by simp only[ZfY];rw [ZvN h (hx x (by simp)),ZnN h fun y m=>hx y (by simp [m])]
theorem Zks [NW] {st st':St} {m:Nat} (h:∀k,U k→st.ob k=st'.ob k):∀{xs:List SV},(∀v∈xs,svU U v)→Y0 st m xs=Y0 st' m xs
 | [],_=>rfl
 | .p a cs::r,hx=>by
  simp only[Y0]
  rw [ZnN h (hx (.p a cs) (by simp)),Zks h fun v mv=>hx v (by simp [mv])]
 | .any::r,_=>rfl
 | .und::r,_=>rfl
 | .tup _::r,_=>rfl
 | .bp _ _::r,_=>rfl
 | .rp _ _ _ _::r,_=>rfl
 | .ep _ _::r,_=>rfl
 | .fn _::r,_=>rfl
theorem Zt7 {x:AV} {ct:CT} {ks:List Nat} {d:Nat} (h:avT st x=some (ct,ks,d)) (hx:avU U x):∀k∈ks,U k:=by
 intro k mk
 cases x with
 | c y=>cases y<;>simp only[avT,A0,A4] at h<;>(rw [←h.2.1] at mk;simp at mk)
 | nil e m=>
  simp only[avT] at h
  split at h<;>simp only[A0,A4,reduceCtorEq] at h
  rw [←h.2.1] at mk;simp at mk
 | row j=>
  simp only[avT] at h
  split at h
  ·split at h<;>simp only[A0,A4] at h
   ·rw [←h.2.1] at mk;simp at mk
   ·rw [←h.2.1] at mk;simp at mk;subst mk;exact hx
  ·simp at h
 | n x=>simp [avT] at h
 | dead=>simp [avT] at h
theorem Zld [NW]:∀{xs:List AV} {cts:List CT} {ks:List Nat} {d:Nat},ZfY st xs=some (cts,ks,d)→Qn U xs→∀k∈ks,U k
 | [],_,_,_,h,_,k,mk=>by simp only[ZfY,A0,A4] at h;rw [←h.2.1] at mk;simp at mk
 | x::r,_,_,_,h,hu,k,mk=>by
  simp only[ZfY] at h
  obtain ⟨⟨c1,k1,d1⟩,h1,h⟩:=AA.1 h
  obtain ⟨⟨c2,k2,d2⟩,h2,h⟩:=A7.1 h
  simp only[A4] at h
  rw [←h.2.1] at mk
  rcases A5.1 mk with mk | mk
  ·exact Zt7 h1 (hu x (by simp)) k mk
  ·exact Zld h2 (fun y my=>hu y (by simp [my])) k mk
theorem Zfw [NW] {m:Nat}:∀{xs:List SV} {es:List (List CT)} {ks:List Nat} {d:Nat},Y0 st m xs=some (es,ks,d)→(∀v∈xs,svU U v)→∀k∈ks,U k
 | [],_,_,_,h,_,k,mk=>by simp only[Y0,A0,A4] at h;rw [←h.2.1] at mk;simp at mk
 | x::r,_,_,_,h,hu,k,mk=>by
  cases x with
  | p a cs=>
   simp only[Y0] at h
   split at h
   ·obtain ⟨⟨c1,k1,d1⟩,h1,h⟩:=AA.1 h
    obtain ⟨⟨c2,k2,d2⟩,h2,h⟩:=A7.1 h
    simp only[A4] at h
    rw [←h.2.1] at mk
    rcases A5.1 mk with mk | mk
    ·exact Zld h1 (hu (.p a cs) (by simp)) k mk
    ·exact Zfw h2 (fun v mv=>hu v (by simp [mv])) k mk
   ·simp at h
  | _=>simp [Y0] at h
theorem ZpT {st st':St} {ks:List Nat} (h:∀k∈ks,st.ob k=st'.ob k):ZS st ks=ZS st' ks:=by
 induction ks with
 | nil=>rfl
 | cons k r ih=>simp only[ZS,h k (by simp),ih fun j mj=>h j (by simp [mj])]
theorem Zl1 {ks:List Nat} {p:Nat × Ob} (h:p∈ZS st ks):p.1∈ks∧p.2=Yd (st.ob p.1):=by
 induction ks with
 | nil=>simp [ZS] at h
 | cons k r ih=>
  simp only[ZS,AD] at h
  rcases h with rfl | h
  ·exact ⟨by simp,rfl⟩
  ·exact ⟨by simp [(ih h).1],(ih h).2⟩
theorem ZkR [NW] {hs:FuncId→Nat} {o:Oper} {sl:Nat→SV} {ob ob':Nat→Ob} {n n':Nat} (h:cls tt hs o.op=0∨(cls tt hs o.op≤3∧(∀k,U k→ob k=ob' k)∧∀t x,svU U (St.ev tt ⟨sl,ob,n⟩ t x))∨(cls tt hs o.op≤1∧Wk ⟨sl,ob,n⟩ ⟨sl,ob',n'⟩ U∧∀t x,svU U (St.ev tt ⟨sl,ob,n⟩ t x))):opE tt key o ⟨sl,ob,n⟩=opE tt key o ⟨sl,ob',n'⟩:=by
 have he:=fun t x=>Ztl (tt:=tt) sl ob ob' n n' t x
 have hle:cls tt hs o.op≤3:=by rcases h with h | h | h<;>omega
 have hwk:cls tt hs o.op=0∨(Wk ⟨sl,ob,n⟩ ⟨sl,ob',n'⟩ U∧∀t x,svU U (St.ev tt ⟨sl,ob',n'⟩ t x)):=by
  rcases h with h | h | h
  ·exact .inl h
  ·exact .inr ⟨fun k hk=>.inl (h.2.1 k hk).symm,fun t x=>he t x ▸ h.2.2 t x⟩
  ·exact .inr ⟨h.2.1,fun t x=>he t x ▸ h.2.2 t x⟩
 obtain ⟨dst,op,ty,pos,af,gd⟩:=o
 cases op with
 | build t parts=>
  have hp:∀fs z,parts.toList.map (ZfO tt ⟨sl,ob,n⟩ fs z)=parts.toList.map (ZfO tt ⟨sl,ob',n'⟩ fs z):=fun fs z=>AK fun p hp=>by
   unfold ZfO
   split
   ·rfl
   ·rw [he]
  simp only[opE,hp]
 | buildSlice t len parts=>
  have hc:2≤cls tt hs (.buildSlice t len parts):=by simp only[cls];split<;>omega
  have h':(∀k,U k→ob k=ob' k)∧∀t x,svU U (St.ev tt ⟨sl,ob,n⟩ t x):=by
   rcases h with h | h | h
   ·simp only at h;omega
   ·exact h.2
   ·simp only at h;omega
  obtain ⟨h1,h2⟩:=h'
  simp only[opE,he]
  split
  ·rename_i e m _ z _
   have hu:∀v∈parts.toList.map (fun p=>St.ev tt ⟨sl,ob',n'⟩ e p.2),svU U v:=fun v mv=>by obtain ⟨p,_,rfl⟩:=A8.1 mv;rw [←he];exact h2 _ _
   rw [Zks (U:=U) (st:=⟨sl,ob,n⟩) (st':=⟨sl,ob',n'⟩) h1 hu]
   cases hel:Y0 ⟨sl,ob',n'⟩ m (parts.toList.map fun p=>St.ev tt ⟨sl,ob',n'⟩ e p.2) with
   | none=>rfl
   | some a=>
    have hk:=Zfw (U:=U) hel hu
    have:=ZpT (st:=⟨sl,ob,n⟩) (st':=⟨sl,ob',n'⟩) (ks:=a.2.1) (fun k mk=>h1 k (hk k mk))
    simp only[AL,this]
  ·rfl
 | load t x=>
  obtain ⟨h1,h2⟩:=hwk.resolve_left (by simp [cls])
  simp only[opE,he]
  rw [Zsb (U:=U) (st:=⟨sl,ob,n⟩) (st':=⟨sl,ob',n'⟩) h1 (h2 0 x)]
 | indexAddr t x y=>
  obtain ⟨h1,h2⟩:=hwk.resolve_left (by simp [cls])
  simp only[opE,he]
  split
  ·rw [ZoW (U:=U) (st:=⟨sl,ob,n⟩) (st':=⟨sl,ob',n'⟩) h1 (h2 0 x)]
  ·rfl
 | call c=>
  obtain ⟨callee,args,ts⟩:=c
  cases callee with
  | builtin b=>
   have hev:evs tt ⟨sl,ob,n⟩ ts.toList args.toList=evs tt ⟨sl,ob',n'⟩ ts.toList args.toList:=ZeW fun x _ t=>he t x
   simp only[opE,hev]
   unfold Zp6
   split
   ·rename_i t _ v he1 he2
    obtain ⟨h1,h2⟩:=hwk.resolve_left (by simp [cls])
    have hu:svU U v:=by
     have hm:v∈evs tt ⟨sl,ob',n'⟩ ts.toList args.toList:=by simp [he2]
     obtain ⟨p,_,rfl⟩:=A8.1 hm
     exact h2 _ _
    rw [ZtD (U:=U) (st:=⟨sl,ob,n⟩) (st':=⟨sl,ob',n'⟩) h1 hu]
   ·simp [cls] at hle
   ·rfl
   ·rfl
   ·rfl
  | value f=>rfl
  | invoke r m=>rfl
 | store t x v=>simp [cls] at hle
 | makeFunc fn first caps=>simp [cls] at hle
 | mapUpdate t x i v=>simp [cls] at hle
 | makeMap t r=>cases r<;>rfl
 | lookup t x i ok=>
  obtain ⟨h1,h2⟩:=hwk.resolve_left (by simp [cls])
  simp only[opE,he]
  rw [Zsw (U:=U) (st:=⟨sl,ob,n⟩) (st':=⟨sl,ob',n'⟩) h1 (h2 0 x)]
 | convert s t x=>
  simp only[opE,he]
  by_cases hst:Zcq (tt t)=true
  ·obtain ⟨h1,h2⟩:=hwk.resolve_left (by simp [cls,hst])
   rw [Zr2 (U:=U) (st:=⟨sl,ob,n⟩) (st':=⟨sl,ob',n'⟩) h1 (h2 0 x)]
  ·have e:∀st:St,ZgY tt st s t (St.ev tt ⟨sl,ob',n'⟩ 0 x)=ZpZ (tt s) (tt t) (St.ev tt ⟨sl,ob',n'⟩ 0 x):=fun st=>by
    unfold ZgY
    rw [if_neg (by simp [hst])]
   rw [e,e]
 | slice t x lo hi mx=>
  cases mx with
  | some _=>rfl
  | none=>
   by_cases hstr:Zcq (tt t)=true
   ·have hns:Zbm (tt t)=false:=by
     unfold Zcq at hstr
     split at hstr
     ·rename_i e;rw [e];rfl
     ·simp at hstr
    have hu:∀l h v,ZaK ⟨sl,ob,n⟩ key (tt t) l h v=ZaK ⟨sl,ob',n'⟩ key (tt t) l h v:=fun l h v=>by
     unfold ZaK
     split
     ·simp [hns]
     ·rfl
     ·rfl
    cases lo<;>cases hi<;>simp only[opE,he,AH,AI,hu]
   ·have hc:2<cls tt hs (.slice t x lo hi none):=by simp only[cls];rw [if_neg hstr];split<;>omega
    have h':(∀k,U k→ob k=ob' k)∧∀t x,svU U (St.ev tt ⟨sl,ob,n⟩ t x):=by
     rcases h with h | h | h
     ·simp only at h;omega
     ·exact h.2
     ·simp only at h;omega
    obtain ⟨h1,h2⟩:=h'
    have hu:∀l h v,svU U v→ZaK ⟨sl,ob,n⟩ key (tt t) l h v=ZaK ⟨sl,ob',n'⟩ key (tt t) l h v:=fun l h v hv=>by
     unfold ZaK
     split
     ·rename_i k
      have hk:U k:=hv (.row k) (by simp)
      simp only[h1 k hk]
     ·rfl
     ·rfl
    simp only[opE,he]
    exact hu _ _ _ (he 0 x ▸ h2 0 x)
 | _=>first | rfl | simp only[opE,he]
theorem ZdE {x y:Option SV} {r:SV × List (Nat × Ob)} (h:∀v,x=some v→y=some v) (hx:ZaZ x=some r):ZaZ y=some r:=by
 obtain ⟨v,h1,rfl⟩:=A7.1 hx
 rw [h v h1]
 rfl
theorem Zv1 [NW] {hs:FuncId→Nat} {o:Oper} {sl:Nat→SV} {ob ob':Nat→Ob} {n n':Nat} {r:SV × List (Nat × Ob)} (hc:cls tt hs o.op≤1) (hob:Mk ⟨sl,ob,n⟩ ⟨sl,ob',n'⟩ U) (hu:∀t x,svU U (St.ev tt ⟨sl,ob,n⟩ t x)) (h:opE tt key o ⟨sl,ob',n'⟩=some r):opE tt key o ⟨sl,ob,n⟩=some r:=by
 have he:=fun t x=>Ztl (tt:=tt) sl ob ob' n n' t x
 by_cases h0:cls tt hs o.op=0
 ·rw [ZkR (U:=U) (n':=n') (ob':=ob') (.inl h0)];exact h
 obtain ⟨dst,op,ty,pos,af,gd⟩:=o
 cases op with
 | load t x=>
  simp only[opE,he] at h ⊢
  exact ZdE (fun v hv=>Zsp hob (he 0 x ▸ hu 0 x) hv) h
 | indexAddr t x y=>
  simp only[opE,he] at h ⊢
  split at h
  ·exact ZdE (fun v hv=>Zps hob (he 0 x ▸ hu 0 x) hv) h
  ·simp at h
 | lookup t x i ok=>
  simp only[opE,he] at h ⊢
  exact ZdE (fun v hv=>Zsv hob (he 0 x ▸ hu 0 x) hv) h
 | convert s t x=>
  simp only[opE,he] at h ⊢
  refine ZdE (fun v hv=>?_) h
  unfold ZgY at hv ⊢
  split at hv
  ·rename_i hb
   rw [if_pos hb]
   exact ZrT hob (he 0 x ▸ hu 0 x) hv
  ·rename_i hb
   rw [if_neg hb]
   exact hv
 | call c=>
  obtain ⟨callee,args,ts⟩:=c
  cases callee with
  | builtin b=>
   have hev:evs tt ⟨sl,ob,n⟩ ts.toList args.toList=evs tt ⟨sl,ob',n'⟩ ts.toList args.toList:=ZeW fun x _ t=>he t x
   simp only[opE,hev] at h ⊢
   unfold Zp6 at h ⊢
   split at h
   ·rename_i t _ v he1 he2
    have hu':svU U v:=by
     have hm:v∈evs tt ⟨sl,ob',n'⟩ ts.toList args.toList:=by simp [he2]
     obtain ⟨p,_,rfl⟩:=A8.1 hm
     rw [←he];exact hu _ _
    exact ZdE (fun w hw=>Zus hob hu' hw) h
   ·simp [cls] at hc
   ·exact h
   ·exact h
   ·exact h
  | value f=>exact h
  | invoke r m=>exact h
 | slice t x lo hi mx=>simp only[cls] at hc h0;split at hc<;>rename_i hq<;>simp [hq] at h0<;>(split at hc<;>omega)
 | buildSlice t len parts=>simp only[cls] at hc;split at hc<;>omega
 | store t x v=>simp [cls] at hc
 | makeFunc fn first caps=>simp [cls] at hc
 | mapUpdate t x i v=>simp [cls] at hc
 | makeMap t r=>cases r<;>exact h
 | _=>first | exact h | (simp only[opE,he] at h ⊢;exact h)
theorem YF:∀(cts:List (Bool × CT)) (key:Nat),key≤(Ya key cts).2.2∧∀p∈(Ya key cts).2.1,key≤p.1∧p.1<(Ya key cts).2.2
 | [],key=>by simp [Ya]
 | (true,x)::r,key=>YF r key
 | (false,ct)::r,key=>by
  cases ct with
  | sl e m xs=>
   obtain ⟨h1,h2⟩:=YF r (key+1)
   refine ⟨by simp only[Ya];omega,fun p hp=>?_⟩
   simp only[Ya,AD] at hp ⊢
   rcases hp with rfl | hp
   ·exact ⟨AB _,by simp only;omega⟩
   ·have:=h2 p hp;omega
  | int k n=>exact YF r key
  | bool b=>exact YF r key
  | str s=>exact YF r key
  | ifc s=>exact YF r key
  | any=>exact YF r key
  | nl a b=>exact YF r key
  | pt s=>exact YF r key
  | fn f s=>exact YF r key
  | mp a b s=>exact YF r key
theorem ZgH [NW]:∀(res:List RT) (key:Nat),key≤(ZH key res).2.2∧∀p∈(ZH key res).2.1,key≤p.1∧p.1<(ZH key res).2.2
 | [],key=>by simp [ZH]
 | x::r,key=>by
  obtain ⟨h1,h2⟩:=YF x.2 key
  obtain ⟨h3,h4⟩:=ZgH r (Ya key x.2).2.2
  refine ⟨by simp only[ZH];omega,fun p hp=>?_⟩
  simp only[ZH,A5] at hp ⊢
  rcases hp with hp | hp
  ·have:=h2 p hp;omega
  ·have:=h4 p hp;omega
theorem YZ {v:Option SV} {r:SV × List (Nat × Ob)} (h:ZaZ v=some r):r.2=[]:=by
 obtain ⟨u,_,rfl⟩:=A7.1 h;rfl
theorem Zvf [NW] {hs:FuncId→Nat} {o:Oper} {r:SV × List (Nat × Ob)} (hU:∀t x,svU U (st.ev tt t x)) (h:opE tt key o st=some r):(cls tt hs o.op=0→r.2=[])∧(cls tt hs o.op≤2→∀p∈r.2,key≤p.1∧p.1<key+16)∧(cls tt hs o.op≤3→∀p∈r.2,(key≤p.1∧p.1<key+16)∨(U p.1∧p.2=Yd (st.ob p.1))):=by
 have nil:r.2=[]→(cls tt hs o.op=0→r.2=[])∧(cls tt hs o.op≤2→∀p∈r.2,key≤p.1∧p.1<key+16)∧(cls tt hs o.op≤3→∀p∈r.2,(key≤p.1∧p.1<key+16)∨(U p.1∧p.2=Yd (st.ob p.1))):=fun e=>⟨fun _=>e,fun _ p hp=>by simp [e] at hp,fun _ p hp=>by simp [e] at hp⟩
 obtain ⟨dst,op,ty,pos,af,gd⟩:=o
 cases op with
 | move x=>simp only[opE,A0] at h;exact nil (by rw [←h])
 | assign x=>simp only[opE,A0] at h;exact nil (by rw [←h])
 | pick c x y=>
  simp only[opE] at h
  split at h
  ·simp only[A0] at h;exact nil (by rw [←h])
  ·simp at h
 | alloc t=>
  simp only[opE] at h
  obtain ⟨z,_,rfl⟩:=A7.1 h
  exact ⟨fun e=>by simp [cls] at e,fun _ p hp=>by simp at hp;subst hp;simp,fun _ p hp=>by simp at hp;subst hp;simp⟩
 | box t x=>
  simp only[opE] at h
  split at h
  ·simp only[A0] at h
   subst h
   exact ⟨fun e=>by simp [cls] at e,fun _ p hp=>by simp at hp;subst hp;simp,fun _ p hp=>by simp at hp;subst hp;simp⟩
  ·simp at h
 | build t parts=>
  simp only[opE] at h
  split at h
  ·obtain ⟨cs,_,rfl⟩:=A7.1 h;exact nil rfl
  ·simp at h
 | buildSlice t len parts=>
  simp only[opE] at h
  split at h
  ·obtain ⟨⟨xs,ks,d⟩,h1,h⟩:=AA.1 h
   split at h
   ·simp only[A0] at h
    subst h
    rename_i e0 _ _ z hti hcond
    have hu:∀v∈parts.toList.map (fun p=>st.ev tt e0 p.2),svU U v:=fun v mv=>by obtain ⟨p,_,rfl⟩:=A8.1 mv;exact hU _ _
    have hk:=Zfw (U:=U) h1 hu
    refine ⟨fun e=>by simp only[cls] at e;split at e<;>simp at e,fun e p hp=>?_,fun e p hp=>?_⟩
    ·by_cases hs:parts.size=0
     ·have:parts=#[]:=by simpa using hs
      subst this
      simp [Y0] at h1
      obtain ⟨_,rfl,_⟩:=h1
      simp [ZS] at hp;subst hp;simp
     ·by_cases hf:ZuK (tt t)=true
      ·have hz:z.all ZjP=true:=by rw [hti] at hf;exact hf
       have hks:ks=[]:=by
        have h3:=hcond.2.2.2
        rw [hz] at h3
        simpa using h3
       subst hks
       simp [ZS] at hp;subst hp;simp
      ·simp [cls,hs,hf] at e
    ·rcases A5.1 hp with hp | hp
     ·obtain ⟨p1,p2⟩:=Zl1 hp
      exact .inr ⟨hk _ p1,p2⟩
     ·simp at hp;subst hp;simp
   ·simp at h
  ·simp at h
 | load t x=>exact nil (YZ h)
 | store t x v=>exact ⟨fun e=>by simp [cls] at e,fun e=>by simp [cls] at e,fun e=>by simp [cls] at e⟩
 | makeFunc fn first caps=>exact ⟨fun e=>by simp [cls] at e,fun e=>by simp [cls] at e,fun e=>by simp [cls] at e⟩
 | mapUpdate t x i v=>exact ⟨fun e=>by simp [cls] at e,fun e=>by simp [cls] at e,fun e=>by simp [cls] at e⟩
 | lookup t x i ok=>exact nil (YZ h)
 | makeMap t r=>
  cases r with
  | none=>
   simp only[opE,ZnF] at h
   split at h
   ·simp only[A0] at h
    subst h
    exact ⟨fun e=>by simp [cls] at e,fun _ p hp=>by simp at hp;subst hp;simp,fun _ p hp=>by simp at hp;subst hp;simp⟩
   ·simp at h
  | some _=>simp [opE] at h
 | nilCheck x=>
  simp only[opE] at h
  split at h<;>simp only[A0,reduceCtorEq] at h<;>exact nil (by rw [←h])
 | binOp op t x y t'=>exact nil (YZ h)
 | unOp op t x=>exact nil (YZ h)
 | convert s t x=>exact nil (YZ h)
 | makeSlice t n c=>
  simp only[opE,Zqt] at h
  split at h
  ·split at h
   ·obtain ⟨ze,_,h⟩:=AA.1 h
    split at h
    ·simp only[A0] at h
     subst h
     exact ⟨fun e=>by simp [cls] at e,fun _ p hp=>by simp at hp;subst hp;simp,fun _ p hp=>by simp at hp;subst hp;simp⟩
    ·simp at h
   ·simp at h
  ·simp at h
 | slice t x lo hi mx=>
  cases mx with
  | some _=>simp [opE] at h
  | none=>
   by_cases hstr:Zcq (tt t)=true
   ·have hns:Zbm (tt t)=false:=by
     unfold Zcq at hstr
     split at hstr
     ·rename_i e;rw [e];rfl
     ·simp at hstr
    refine nil ?_
    simp only[opE,ZaK] at h
    split at h
    ·simp [hns] at h
    ·obtain ⟨v,_,rfl⟩:=A7.1 h;rfl
    ·simp at h
   ·have hc:3≤cls tt hs (.slice t x lo hi none):=by simp only[cls];rw [if_neg hstr];split<;>omega
    refine ⟨fun e=>by simp only at e;omega,fun e=>by simp only at e;omega,fun e p hp=>?_⟩
    have hmv:∀d,mvS d (lo.map (st.ev tt 0)) (hi.map (st.ev tt 0))=false:=fun d=>by
     cases lo with
     | none=>rfl
     | some _=>cases hi with
      | none=>simp [cls,hstr] at e
      | some _=>rfl
    simp only[opE,ZaK] at h
    split at h
    ·rename_i k hv
     have hk:U k:=by
      have:=hU 0 x
      rw [hv] at this
      exact this (.row k) (by simp)
     split at h
     ·split at h
      ·rename_i hob
       split at h
       ·rw [hmv,if_neg (by simp)] at h
        obtain ⟨_,_,h⟩:=AA.1 h
        obtain ⟨_,_,rfl⟩:=A7.1 h
        simp at hp
        subst hp
        exact .inr ⟨hk,by rw [hob];rfl⟩
       ·simp at h
      ·simp at h
     ·simp at h
    ·obtain ⟨v,_,rfl⟩:=A7.1 h
     simp at hp
    ·simp at h
 | fieldAddr t x f=>
  simp only[opE] at h
  split at h
  ·exact nil (YZ h)
  ·simp at h
 | field t x f=>
  simp only[opE] at h
  split at h
  ·exact nil (YZ h)
  ·simp at h
 | indexAddr t x i=>
  simp only[opE] at h
  split at h
  ·exact nil (YZ h)
  ·simp at h
 | index t x i=>exact nil (YZ h)
 | extract x i=>exact nil (YZ h)
 | call c=>
  obtain ⟨callee,args,ts⟩:=c
  cases callee with
  | builtin b=>
   simp only[opE,Zp6] at h
   split at h
   ·exact nil (YZ h)
   ·exact ⟨fun e=>by simp [cls] at e,fun e=>by simp [cls] at e,fun e=>by simp [cls] at e⟩
   ·exact nil (YZ h)
   ·exact nil (YZ h)
   ·simp at h
  | value f=>simp [opE] at h
  | invoke r m=>simp [opE] at h
 | _=>simp [opE] at h
theorem ZaG {hs:FuncId→Nat} {o:Op} {c:FuncId × List TypeId × List Operand} (h:Y1 o=some c):cls tt hs o=if hs c.1=0∨hs c.1=4 then 1 else 4:=by
 unfold Y1 at h
 split at h
 ·simp only[A0] at h;rw [←h];rfl
 ·simp at h
theorem Zlo {o:Op} {c:Nat × List TypeId × List Operand} (h:Y7 o=some c):∃args ts,o=.call ⟨.value (.tmp c.1),args,ts⟩∧c.2.1=ts.toList∧c.2.2=args.toList:=by
 unfold Y7 at h
 split at h
 ·rename_i s args ts
  simp only[A0] at h
  rw [←h]
  exact ⟨args,ts,rfl,rfl,rfl⟩
 ·simp at h
theorem ZgP [NW] {hs:FuncId→Nat} {o:Op} {c:Nat × List TypeId × List Operand} (h:Y7 o=some c):cls tt hs o=4:=by
 obtain ⟨args,ts,rfl,_⟩:=Zlo h
 rfl
theorem Zlb [NW] (hU:∀t x,svU U (st.ev tt t x)) {all:List Oper} {o:Oper} {v:SV} {u:List (Nat × Ob)} (h:opR tt S all key o st v u):(cls tt S.hd o.op=0→u=[])∧(cls tt S.hd o.op≤2→∀p∈u,key≤p.1∧p.1<key+16)∧(cls tt S.hd o.op≤3→∀p∈u,(key≤p.1∧p.1<key+16)∨(U p.1∧p.2=Yd (st.ob p.1))):=by
 have nil:u=[]→(cls tt S.hd o.op=0→u=[])∧(cls tt S.hd o.op≤2→∀p∈u,key≤p.1∧p.1<key+16)∧(cls tt S.hd o.op≤3→∀p∈u,(key≤p.1∧p.1<key+16)∨(U p.1∧p.2=Yd (st.ob p.1))):=fun e=>⟨fun _=>e,fun _ p hp=>by simp [e] at hp,fun _ p hp=>by simp [e] at hp⟩
 have hRS:Za8 tt S key o st v u→(cls tt S.hd o.op=0→u=[])∧(cls tt S.hd o.op≤2→∀p∈u,key≤p.1∧p.1<key+16)∧(cls tt S.hd o.op≤3→∀p∈u,(key≤p.1∧p.1<key+16)∨(U p.1∧p.2=Yd (st.ob p.1))):=fun h=>by
  unfold Za8 at h
  split at h
  ·rename_i c hc
   by_cases h0:S.hd c.1=0∨S.hd c.1=4
   ·have h':∃res,(ZH key res).2.2≤key+16∧u=(ZH key res).2.1:=by
     rcases h0 with h0 | h0
     ·rw [h0] at h
      obtain ⟨l,res,_,_,_,h3,_,e⟩:=h
      exact ⟨res,h3,e⟩
     ·rw [h0] at h
      obtain ⟨l,res,_,_,_,h3,_,e⟩:=h
      exact ⟨res,h3,e⟩
    obtain ⟨res,h3,rfl⟩:=h'
    have hp:∀p∈(ZH key res).2.1,key≤p.1∧p.1<key+16:=fun p hp=>by
     have:=(ZgH res key).2 p hp
     omega
    exact ⟨fun e=>by rw [ZaG hc,if_pos h0] at e;simp at e,fun _=>hp,fun _ p m=>.inl (hp p m)⟩
   ·refine ⟨fun e=>by rw [ZaG hc,if_neg h0] at e;simp at e,fun e=>by rw [ZaG hc,if_neg h0] at e;simp at e,fun e=>by rw [ZaG hc,if_neg h0] at e;simp at e⟩
  ·split at h
   ·rename_i c hc
    have h4:=ZgP (tt:=tt) (hs:=S.hd) hc
    exact ⟨fun e=>by rw [h4] at e;simp at e,fun e=>by rw [h4] at e;simp at e,fun e=>by rw [h4] at e;simp at e⟩
   ·exact Zvf hU h
 unfold opR at h
 split at h
 ·exact hRS h
 ·exact nil h.2
 ·unfold gK at h
  split at h
  ·split at h
   ·exact hRS h
   ·exact nil h.2
  ·split at h
   ·exact nil h.2
   ·exact h.elim
theorem Zhq (h:st.ob=st'.ob):∀ks:List Nat,ZS st ks=ZS st' ks
 | []=>rfl
 | k::r=>by simp only[ZS,Zhq h r,h]
theorem ZC5 (s:SV):svU (fun _=>True) s:=by
 cases s<;>first | trivial | (intro y my;cases y<;>trivial) | (intro y my z mz;cases z<;>trivial)
theorem Zux [NW] (h:st.ob=st'.ob) (v:SV):ZfF st v=ZfF st' v:=by
 have ha:∀cs,YG st cs=YG st' cs:=fun cs=>ZgR (U:=fun _=>True) (fun k _=>.inl (by rw [h])) (fun x _=>by cases x<;>trivial)
 unfold ZfF
 split
 ·rw [h]
  split
  ·rw [ha]
  ·rfl
 ·rw [h]
 ·rfl
theorem ZlD [NW] (h:st.ob=st'.ob) {f:FuncId} {n:Nat} {vs:List SV} {v:SV} {u:List (Nat × Ob)}:ZaW S f n key st vs v u↔ZaW S f n key st' vs v u:=by
 have hs:∀xs,Z1 st xs=Z1 st' xs:=fun xs=>Zeg (U:=fun _=>True) (fun k _=>.inl (by rw [h])) (fun x _=>ZC5 x)
 unfold ZaW
 split
 ·simp only[hs]
 ·simp only[hs,Zux h,Zhq h]
 ·simp only[hs,Zhq h]
 ·simp only[hs]
 ·simp only[hs,Zhq h]
theorem Zuj [NW] {o:Oper} {v:SV} {u:List (Nat × Ob)} (hl:∀x∈o.op.operands,∀t,st.ev tt t x=st'.ev tt t x)
  (hob:cls tt S.hd o.op=0∨st.ob=st'.ob∨(∀t x,svU U (st.ev tt t x))∧((cls tt S.hd o.op≤3∧∀k,U k→st.ob k=st'.ob k)∨(cls tt S.hd o.op≤1∧Wk st st' U))):Za8 tt S key o st v u↔Za8 tt S key o st' v u:=by
 cases hc:Y1 o.op with
 | some c=>
  simp only[Za8,hc]
  have hop:∃args ts,o.op=.call ⟨.value (.func c.1),args,ts⟩∧c.2.1=ts.toList∧c.2.2=args.toList:=by
   unfold Y1 at hc
   split at hc
   ·rename_i f args ts he
    simp only[A0] at hc
    rw [←hc]
    exact ⟨args,ts,he,rfl,rfl⟩
   ·simp at hc
  obtain ⟨args,ts,ho,e1,e2⟩:=hop
  have hev:evs tt st c.2.1 c.2.2=evs tt st' c.2.1 c.2.2:=ZeW fun x m t=>hl x (by rw [ho];rw [e2] at m;simp [Op.operands,Call.operands];exact .inr (by simpa using m)) t
  rw [←hev]
  rcases hob with hc0 | hob | ⟨hu,hob⟩
  ·rw [ZaG hc] at hc0
   split at hc0<;>simp at hc0
  ·exact ZlD hob
  ·have hc1:cls tt S.hd o.op≤3:=by rcases hob with h | h<;>omega
   have hwk:Wk st st' U:=by
    rcases hob with h | h
    ·exact .of h.2
    ·exact h.2
   have h0:S.hd c.1=0∨S.hd c.1=4:=by
    rw [ZaG hc] at hc1
    split at hc1
    ·assumption
    ·simp at hc1
   have hev0:∀x∈evs tt st c.2.1 c.2.2,svU U x:=fun x hx=>by
    obtain ⟨p,_,rfl⟩:=A8.1 hx
    exact hu _ _
   rcases h0 with h0 | h0
   ·have hsv:Z1 st (evs tt st c.2.1 c.2.2)=Z1 st' (evs tt st c.2.1 c.2.2):=Zeg (U:=U) hwk hev0
    rw [h0]
    simp only[ZaW,hsv]
   ·have hsv:Z1 st ((evs tt st c.2.1 c.2.2).map nlS)=Z1 st' ((evs tt st c.2.1 c.2.2).map nlS):=Zeg (U:=U) hwk (fun x hx=>by
     obtain ⟨y,my,rfl⟩:=A8.1 hx
     exact ZuN (hev0 y my))
    rw [h0]
    simp only[ZaW,hsv]
 | none=>
  simp only[Za8,hc]
  have:opE tt key o st=opE tt key o st':=by
   obtain ⟨sl,ob,n⟩:=st
   obtain ⟨sl',ob',n'⟩:=st'
   have s1:opE tt key o ⟨sl',ob',n'⟩=opE tt key o ⟨sl,ob',n⟩:=Znw fun x m t=>by
    rw [←hl x m t];exact Ztl _ _ _ _ _ _ _
   rw [s1]
   rcases hob with hc | hob | ⟨hu,⟨hc,hob⟩ | ⟨hc,hob⟩⟩
   ·exact ZkR (U:=U) (.inl hc)
   ·simp only at hob;subst hob;rfl
   ·exact ZkR (U:=U) (.inr (.inl ⟨hc,hob,hu⟩))
   ·exact ZkR (U:=U) (.inr (.inr ⟨hc,hob,hu⟩))
  cases hd:Y7 o.op with
  | none=>simp only[this]
  | some c=>
   simp only
   obtain ⟨args,ts,ho,e1,e2⟩:=Zlo hd
   have hev:evs tt st c.2.1 c.2.2=evs tt st' c.2.1 c.2.2:=ZeW fun x m t=>hl x (by rw [ho];rw [e2] at m;simp [Op.operands,Call.operands];exact .inr (by simpa using m)) t
   have hsl:st.sl c.1=st'.sl c.1:=hl (.tmp c.1) (by rw [ho];simp [Op.operands,Call.operands]) 0
   have h4:=ZgP (tt:=tt) (hs:=S.hd) hd
   rcases hob with h0 | h0 | ⟨_,⟨h0,_⟩ | ⟨h0,_⟩⟩
   ·omega
   ·rw [hev,hsl]
    constructor
    ·rintro ⟨fc,f1,f2,f3⟩;exact ⟨fc,f1,f2,(ZlD h0).1 f3⟩
    ·rintro ⟨fc,f1,f2,f3⟩;exact ⟨fc,f1,f2,(ZlD h0).2 f3⟩
   ·omega
   ·omega
theorem ZeT [NW] {ops:Array Oper} {o:Oper} {v:SV} {u:List (Nat × Ob)} (hl:∀s∈o.looksAt ops,st.sl s=st'.sl s)
  (hob:cls tt S.hd o.op=0∨st.ob=st'.ob∨(∀t x,svU U (st.ev tt t x))∧((cls tt S.hd o.op≤3∧∀k,U k→st.ob k=st'.ob k)∨(cls tt S.hd o.op≤1∧Wk st st' U))):opR tt S ops.toList key o st v u↔opR tt S ops.toList key o st' v u:=by
 have hl':∀x∈o.op.operands,∀t,st.ev tt t x=st'.ev tt t x:=fun x m t=>by
  cases x with
  | tmp s=>exact hl s (by
    unfold Oper.looksAt
    refine A5.2 (.inl (Ac.2 ⟨.tmp s,by simpa using m,rfl⟩)))
  | _=>rfl
 have h1:=Zuj (S:=S) (key:=key) (v:=v) (u:=u) hl' hob
 unfold opR
 cases hg:Zao ops.toList o with
 | none=>exact h1
 | some q=>
  obtain ⟨q,want⟩:=q
  cases q with
  | none=>rfl
  | some t=>
   have ht:st.sl t=st'.sl t:=hl t (by
    unfold Zao at hg
    split at hg
    ·simp at hg
    ·rename_i g hgd
     simp only[A0,A4] at hg
     unfold Oper.looksAt
     refine A5.2 (.inr ?_)
     rw [hgd]
     have:(ops[g.1]?).bind (·.dst)=some t:=by simpa using hg.1
     simp [this])
   simp only[gK,ht,h1]
theorem ZDW [NW] (hU:StU U st) (t:Nat) (x:Operand):svU U (st.ev tt t x):=by
 cases x with
 | tmp s=>exact hU.sl s
 | const v=>
  show svU U (cvT (tt t) v)
  unfold cvT
  split
  ·exact Xn _
  ·exact Xn _
  ·split
   ·exact Xn _
   ·trivial
  ·split
   ·intro y m;simp at m;subst m;trivial
   ·trivial
  ·trivial
 | global _=>trivial
 | func _=>trivial
theorem XI [NW]:∀{u:List (Nat × Ob)} {ob:Nat→Ob} {k:Nat},(∀p∈u,p.1≠k)→Zp ob u k=ob k
 | [],_,_,_=>rfl
 | p::r,ob,k,h=>by
  rw [Zp,XI fun q m=>h q (by simp [m])]
  exact ZN _ _ fun e=>h p (by simp) e.symm
theorem ZjL [NW]:∀{u:List (Nat × Ob)} {ob ob':Nat→Ob} {k:Nat},(∃p∈u,p.1=k)→Zp ob u k=Zp ob' u k
 | [],_,_,_,h=>by simp at h
 | p::r,ob,ob',k,h=>by
  rw [Zp,Zp]
  by_cases hr:∃q∈r,q.1=k
  ·exact ZjL hr
  ·have hn:∀q∈r,q.1≠k:=fun q m e=>hr ⟨q,m,e⟩
   rw [XI hn,XI hn]
   obtain ⟨q,mq,e⟩:=h
   rcases AD.1 mq with rfl | mq
   ·rw [←e,ZD,ZD]
   ·exact absurd e (hn q mq)
theorem ZqX [NW] {u1 u2:List (Nat × Ob)} {ob:Nat→Ob} (h:∀p∈u1,∀q∈u2,p.1≠q.1):Zp (Zp ob u1) u2=Zp (Zp ob u2) u1:=by
 funext k
 by_cases h1:∃p∈u1,p.1=k
 ·obtain ⟨p,mp,rfl⟩:=h1
  rw [XI fun q mq e=>h p mp q mq e.symm]
  exact ZjL ⟨p,mp,rfl⟩
 ·have hn:∀q∈u1,q.1≠k:=fun q m e=>h1 ⟨q,m,e⟩
  rw [XI (ob:=Zp ob u2) hn]
  by_cases h2:∃p∈u2,p.1=k
  ·exact ZjL h2
  ·have hn2:∀q∈u2,q.1≠k:=fun q m e=>h2 ⟨q,m,e⟩
   rw [XI hn2,XI hn2,XI hn]
theorem Zck [NW] (st:St) (d:Option Nat) (v:SV) (s:Nat) (h:∀t,d=some t→s≠t):(st.put d v).sl s=st.sl s:=by
 cases d with
 | none=>rfl
 | some t=>exact ZN _ _ (h t rfl)
theorem ZaM (st:St) (d:Option Nat) (v:SV):(st.put d v).ob=st.ob:=by cases d<;>rfl
theorem ZrI (st:St) (d:Option Nat) (v:SV):(st.put d v).n=st.n:=by cases d<;>rfl
theorem Zov (st:St) (d e:Option Nat) (v u:SV) (h:∀t,d=some t→e≠some t):((st.put d v).put e u).sl=((st.put e u).put d v).sl:=by
 cases d with
 | none=>rfl
 | some t=>cases e with
  | none=>rfl
  | some s=>
   have hne:t≠s:=fun e=>h t rfl (e ▸ rfl)
   funext k
   show upd (upd st.sl t v) s u k=upd (upd st.sl s u) t v k
   unfold upd
   by_cases h1:k=s
   ·by_cases h2:k=t
    ·exact absurd (h2.symm.trans h1) hne
    ·have hst:¬s=t:=fun e=>hne e.symm
     simp [h1,hst]
   ·simp [h1]
def Zt4 (tt:Nat→Option TI):Op→Bool
 | .slice t _ (some _) none none=>!Zcq (tt t)
 | .call ⟨.builtin .append,_,_⟩=>true
 | _=>false
theorem ZkV [NW] {ops:Array Oper} {o:Oper} {v:SV} {u:List (Nat × Ob)} (hl:∀s∈o.looksAt ops,st.sl s=st'.sl s) (h1:Za8 tt S key o st' v u→Za8 tt S key o st v u) (h:opR tt S ops.toList key o st' v u):opR tt S ops.toList key o st v u:=by
 unfold opR at h ⊢
 cases hg:Zao ops.toList o with
 | none=>rw [hg] at h;exact h1 h
 | some q=>
  obtain ⟨q,want⟩:=q
  rw [hg] at h
  cases q with
  | none=>exact h
  | some t=>
   have ht:st.sl t=st'.sl t:=hl t (by
    unfold Zao at hg
    split at hg
    ·simp at hg
    ·rename_i g hgd
     simp only[A0,A4] at hg
     unfold Oper.looksAt
     refine A5.2 (.inr ?_)
     rw [hgd]
     have:(ops[g.1]?).bind (·.dst)=some t:=by simpa using hg.1
     simp [this])
   simp only[gK,ht] at h ⊢
   split at h
   ·rename_i hb
    rw [if_pos hb]
    split at h
    ·rename_i hb2;rw [if_pos hb2];exact h1 h
    ·rename_i hb2;rw [if_neg hb2];exact h
   ·rename_i hb
    rw [if_neg hb]
    exact h
theorem ZeO {ops:Array Oper} {o:Oper} (hl:∀s∈o.looksAt ops,st.sl s=st'.sl s):∀x∈o.op.operands,∀t,st.ev tt t x=st'.ev tt t x:=fun x m t=>by
 cases x with
 | tmp s=>exact hl s (by
   unfold Oper.looksAt
   refine A5.2 (.inl (Ac.2 ⟨.tmp s,by simpa using m,rfl⟩)))
 | _=>rfl
theorem ZtW [NW] {o:Oper} {v:SV} {u:List (Nat × Ob)} (hl:∀x∈o.op.operands,∀t,st.ev tt t x=st'.ev tt t x) (hc1:cls tt S.hd o.op≤1) (hu:∀t x,svU U (st.ev tt t x)) (hob:Mk st st' U) (h:Za8 tt S key o st' v u):Za8 tt S key o st v u:=by
 cases hc:Y1 o.op with
 | some c=>
  simp only[Za8,hc] at h ⊢
  have hop:∃args ts,o.op=.call ⟨.value (.func c.1),args,ts⟩∧c.2.1=ts.toList∧c.2.2=args.toList:=by
   unfold Y1 at hc
   split at hc
   ·rename_i f args ts he
    simp only[A0] at hc
    rw [←hc]
    exact ⟨args,ts,he,rfl,rfl⟩
   ·simp at hc
  obtain ⟨args,ts,ho,e1,e2⟩:=hop
  have hev:evs tt st c.2.1 c.2.2=evs tt st' c.2.1 c.2.2:=ZeW fun x m t=>hl x (by rw [ho];rw [e2] at m;simp [Op.operands,Call.operands];exact .inr (by simpa using m)) t
  rw [←hev] at h
  have h0:S.hd c.1=0∨S.hd c.1=4:=by
   rw [ZaG hc] at hc1
   split at hc1
   ·assumption
   ·simp at hc1
  have hev0:∀x∈evs tt st c.2.1 c.2.2,svU U x:=fun x hx=>by
   obtain ⟨p,_,rfl⟩:=A8.1 hx
   exact hu _ _
  rcases h0 with h0 | h0
  ·rw [h0] at h ⊢
   simp only[ZaW] at h ⊢
   obtain ⟨al,res,h1,h2⟩:=h
   exact ⟨al,res,Zgs hob hev0 h1,h2⟩
  ·rw [h0] at h ⊢
   simp only[ZaW] at h ⊢
   obtain ⟨al,res,h1,h2⟩:=h
   exact ⟨al,res,Zgs hob (fun x hx=>by
    obtain ⟨y,my,rfl⟩:=A8.1 hx
    exact ZuN (hev0 y my)) h1,h2⟩
 | none=>
  simp only[Za8,hc] at h ⊢
  cases hd:Y7 o.op with
  | some c=>have h4:=ZgP (tt:=tt) (hs:=S.hd) hd;omega
  | none=>
   rw [hd] at h
   simp only at h ⊢
   obtain ⟨sl,ob,n⟩:=st
   obtain ⟨sl',ob',n'⟩:=st'
   have s1:opE tt key o ⟨sl',ob',n'⟩=opE tt key o ⟨sl,ob',n⟩:=Znw fun x m t=>by
    rw [←hl x m t];exact Ztl _ _ _ _ _ _ _
   rw [s1] at h
   exact Zv1 hc1 hob hu h
theorem ZxY {o:Op} (h:Zt4 tt o=true):(∃t x lo,o=.slice t x (some lo) none none∧Zcq (tt t)=false)∨∃args ts,o=.call ⟨.builtin .append,args,ts⟩:=by
 unfold Zt4 at h
 split at h
 ·exact .inl ⟨_,_,_,rfl,by simpa using h⟩
 ·exact .inr ⟨_,_,rfl⟩
 ·simp at h
theorem ZNf [NW] {s:SV} {a:List (List CT) × List Nat × Nat} (hs:svU U s) (h:ZoV st s=some a):∀k∈a.2.1,U k:=by
 unfold ZoV at h
 split at h
 ·simp only[A0] at h;rw [←h];simp
 ·split at h
  ·split at h
   ·simp at h
   ·simp only[A0] at h
    rw [←h]
    intro k hk
    simp only[AD,AM,or_false] at hk
    subst hk
    exact hs (.row _) (by simp)
  ·simp at h
 ·simp at h
theorem ZNh [NW] {fl:Bool} {s:SV} {a:List (List CT) × List Nat × Nat} (hs:svU U s) (h:Zpd st fl s=some a):∀k∈a.2.1,U k:=by
 unfold Zpd at h
 split at h
 ·simp only[A0] at h;rw [←h];simp
 ·simp only[A0] at h;rw [←h];simp
 ·split at h
  ·split at h
   ·simp only[A0] at h;rw [←h];simp
   ·simp only[A0] at h
    rw [←h]
    intro k hk
    simp only[AD,AM,or_false] at hk
    subst hk
    exact hs (.row _) (by simp)
  ·simp at h
 ·simp at h
theorem ZNe [NW] {t:Option TI} {s x:SV} (hs:svU U s) (hx:svU U x) (hob:∀k,U k→st.ob k=st'.ob k):ZxI st key t s x=ZxI st' key t s x:=by
 have e1:ZoV st s=ZoV st' s:=by
  unfold ZoV
  split
  ·rfl
  ·rename_i k
   rw [hob k (hs (.row k) (by simp))]
  ·rfl
 have e2:∀fl,Zpd st fl x=Zpd st' fl x:=fun fl=>by
  unfold Zpd
  split
  ·rfl
  ·rfl
  ·rename_i k
   rw [hob k (hx (.row k) (by simp))]
  ·rfl
 have e3:∀e m,Zs2 st e m s=Zs2 st' e m s:=fun e m=>by
  unfold Zs2
  split
  ·rename_i k
   rw [hob k (hs (.row k) (by simp))]
  ·rfl
  ·rfl
 have e4:∀m,ZqI st m x=ZqI st' m x:=fun m=>by
  unfold ZqI
  split
  ·rename_i k
   rw [hob k (hx (.row k) (by simp))]
  ·rfl
  ·rfl
  ·rfl
 unfold ZxI
 split
 ·simp only[e1,e2,e3,e4]
 ·rfl
theorem ZNc {ts:List TypeId} {vs:List SV} {r:SV × List (Nat × Ob)} (h:Zp6 tt st key .append ts vs=some r):∃t s x,ts=[t,t]∧vs=[s,x]∧ZxI st key (tt t) s x=some r:=by
 match ts,vs,h with
 | [t,u],[s,x],h=>
  simp only[Zp6] at h
  split at h
  ·rename_i e;subst e;exact ⟨t,s,x,rfl,rfl,h⟩
  ·simp at h
 | [],_,h=>simp [Zp6] at h
 | [_],_,h=>simp [Zp6] at h
 | _::_::_::_,_,h=>simp [Zp6] at h
 | [_,_],[],h=>simp [Zp6] at h
 | [_,_],[_],h=>simp [Zp6] at h
 | [_,_],_::_::_::_,h=>simp [Zp6] at h
theorem Zxr [NW] {o:Oper} {v:SV} {u:List (Nat × Ob)} (hm:Zt4 tt o.op=true) (hU:∀t x,svU U (st.ev tt t x)) (h:Za8 tt S key o st v u):(∀p∈u,(key≤p.1∧p.1<key+16)∨(U p.1∧(p.2=st.ob p.1∨p.2=.gone))):=by
 obtain ⟨dst,op,ty,pos,af,gd⟩:=o
 obtain ⟨t,x,lo,ho,hs⟩ | ⟨args,ts,ho⟩:=ZxY hm
 rotate_left
 ·simp only at ho
  subst ho
  have h':Zp6 tt st key .append ts.toList (evs tt st ts.toList args.toList)=some (v,u):=h
  obtain ⟨t,s,x,_,he,h'⟩:=ZNc h'
  have hmem:svU U s∧svU U x:=by
   have hall:∀y∈evs tt st ts.toList args.toList,svU U y:=fun y my=>by
    obtain ⟨p,_,rfl⟩:=A8.1 my
    exact hU _ _
   exact ⟨hall s (by rw [he];simp),hall x (by rw [he];simp)⟩
  unfold ZxI at h'
  split at h'
  ·obtain ⟨a,h1,h'⟩:=AA.1 h'
   obtain ⟨b,h2,h'⟩:=AA.1 h'
   split at h'
   ·simp only[A0,A4] at h'
    rw [←h'.2]
    intro p hp
    rcases A5.1 hp with hp | hp
    ·obtain ⟨k,mk,rfl⟩:=A8.1 hp
     refine .inr ⟨?_,.inr rfl⟩
     rcases A5.1 mk with mk | mk
     ·exact ZNf hmem.1 h1 k mk
     ·exact ZNh hmem.2 h2 k mk
    ·simp only[AD,AM,or_false] at hp
     subst hp
     exact .inl ⟨AB _,by simp only;omega⟩
   ·simp at h'
  ·simp at h'
 simp only at ho
 subst ho
 have h':opE tt key ⟨dst,.slice t x (some lo) none none,ty,pos,af,gd⟩ st=some (v,u):=h
 simp only[opE,ZaK,AI,AH] at h'
 intro p hp
 split at h'
 ·rename_i k hv
  have hk:U k:=by
   have:=hU 0 x
   rw [hv] at this
   exact this (.row k) (by simp)
  split at h'
  ·split at h'
   ·rename_i hob
    split at h'
    ·split at h'
     ·obtain ⟨l,_,e⟩:=A7.1 h'
      simp only[A4] at e
      rw [←e.2] at hp
      simp only[AD,AM,or_false] at hp
      rcases hp with rfl | rfl
      ·exact .inr ⟨hk,.inr rfl⟩
      ·exact .inl ⟨AB _,by simp only;omega⟩
     ·rename_i hmv
      obtain ⟨_,_,h'⟩:=AA.1 h'
      obtain ⟨_,_,e⟩:=A7.1 h'
      simp only[A4] at e
      rw [←e.2] at hp
      simp only[AD,AM,or_false] at hp
      subst hp
      refine .inr ⟨hk,.inl ?_⟩
      simp only[mvS] at hmv
      split at hmv
      ·rename_i hd;rw [hob,hd]
      ·simp at hmv
    ·simp at h'
   ·simp at h'
  ·simp at h'
 ·obtain ⟨_,_,e⟩:=A7.1 h'
  simp only[A4] at e
  rw [←e.2] at hp
  simp at hp
 ·simp at h'
theorem ZxQ [NW] {o:Oper} {v:SV} {u:List (Nat × Ob)} (hm:Zt4 tt o.op=true) (hl:∀x∈o.op.operands,∀t,st.ev tt t x=st'.ev tt t x) (hU:∀t x,svU U (st'.ev tt t x)) (hob:∀k,U k→st.ob k=st'.ob k) (h:Za8 tt S key o st' v u):Za8 tt S key o st v u:=by
 obtain ⟨dst,op,ty,pos,af,gd⟩:=o
 obtain ⟨t,x,lo,ho,hs⟩ | ⟨args,ts,ho⟩:=ZxY hm
 rotate_left
 ·simp only at ho
  subst ho
  have h':Zp6 tt st' key .append ts.toList (evs tt st' ts.toList args.toList)=some (v,u):=h
  show Zp6 tt st key .append ts.toList (evs tt st ts.toList args.toList)=some (v,u)
  have hev:evs tt st ts.toList args.toList=evs tt st' ts.toList args.toList:=ZeW fun x m t=>hl x (by simpa [Op.operands,Call.operands] using m) t
  have hall:∀y∈evs tt st' ts.toList args.toList,svU U y:=fun y my=>by
   obtain ⟨p,_,rfl⟩:=A8.1 my
   exact hU _ _
  obtain ⟨t,s,x,et,he,h'⟩:=ZNc h'
  rw [hev,he,et]
  rw [he] at hall
  show (if t=t then ZxI st key (tt t) s x else none)=_
  rw [if_pos rfl,ZNe (hall s (by simp)) (hall x (by simp)) hob,h']
 simp only at ho
 subst ho
 have h':opE tt key ⟨dst,.slice t x (some lo) none none,ty,pos,af,gd⟩ st'=some (v,u):=h
 show opE tt key ⟨dst,.slice t x (some lo) none none,ty,pos,af,gd⟩ st=some (v,u)
 have e1:=hl x (by simp [Op.operands]) 0
 have e2:=hl lo (by simp [Op.operands]) 0
 simp only[opE,AI,AH,e1,e2] at h' ⊢
 rw [←h']
 have hx:=hU 0 x
 unfold ZaK
 split
 ·rename_i k hv
  rw [hv] at hx
  have hk:U k:=hx (.row k) (by simp)
  simp only[hob k hk]
 ·rfl
 ·rfl
theorem Zhd [NW] {ops:List Oper} {o:Oper} {v:SV} {u:List (Nat × Ob)} {C:Prop} (h:opR tt S ops key o st v u) (h1:Za8 tt S key o st v u→C) (h2:u=[]→C):C:=by
 unfold opR at h
 split at h
 ·exact h1 h
 ·exact h2 h.2
 ·unfold gK at h
  split at h
  ·split at h
   ·exact h1 h
   ·exact h2 h.2
  ·split at h
   ·exact h2 h.2
   ·exact h.elim
def Ztj (tt:Nat→Option TI) (hs:FuncId→Nat) (x y:Op):Bool:=cls tt hs x==0||cls tt hs y==0||(Nat.ble (cls tt hs x) 2&&Nat.ble (cls tt hs y) 2)||(Nat.ble (cls tt hs x) 1&&Nat.ble (cls tt hs y) 3)||(Nat.ble (cls tt hs x) 3&&Nat.ble (cls tt hs y) 1)||(Zt4 tt x&&Nat.ble (cls tt hs y) 1)
theorem comm [NW] {ops:Array Oper} {oi oj:Oper} {ki kj:Nat} {vi vj:SV} {ui uj:List (Nat × Ob)} (hap:oi.apart ops oj=true) (hc:Ztj tt S.hd oi.op oj.op=true) (hU:StU U st) (hki:∀k,ki≤k→k<ki+16→¬U k) (hkj:∀k,kj≤k→k<kj+16→¬U k) (hdis:ki+16≤kj∨kj+16≤ki)
  (h:opR tt S ops.toList ki oi st vi ui) (h':opR tt S ops.toList kj oj ((st.put oi.dst vi).app ui) vj uj):
  opR tt S ops.toList kj oj st vj uj∧opR tt S ops.toList ki oi ((st.put oj.dst vj).app uj) vi ui∧((((st.put oi.dst vi).app ui).put oj.dst vj).app uj)=((((st.put oj.dst vj).app uj).put oi.dst vi).app ui):=by
 obtain ⟨a1,a2,a3⟩:=Oper.apart_spec hap
 have hev:∀t x,svU U (st.ev tt t x):=fun t x=>ZDW hU t x
 obtain ⟨i1,i2,i3⟩:=Zlb (U:=U) hev h
 have eqs:(∀p∈ui,∀q∈uj,p.1≠q.1)→((((st.put oi.dst vi).app ui).put oj.dst vj).app uj)=((((st.put oj.dst vj).app uj).put oi.dst vi).app ui):=fun hne=>by
  have hsl:((((st.put oi.dst vi).app ui).put oj.dst vj).app uj).sl=((((st.put oj.dst vj).app uj).put oi.dst vi).app ui).sl:=by
   have e1:∀(s:St) (u:List (Nat × Ob)) (d:Option Nat) (v:SV),((s.app u).put d v).sl=(s.put d v).sl:=fun s u d v=>by cases d<;>rfl
   show (((st.put oi.dst vi).app ui).put oj.dst vj).sl=(((st.put oj.dst vj).app uj).put oi.dst vi).sl
   rw [e1,e1]
   exact Zov st _ _ _ _ fun t ht=>a2 t ht
  have hobs:((((st.put oi.dst vi).app ui).put oj.dst vj).app uj).ob=((((st.put oj.dst vj).app uj).put oi.dst vi).app ui).ob:=by
   show Zp (((st.put oi.dst vi).app ui).put oj.dst vj).ob uj=Zp (((st.put oj.dst vj).app uj).put oi.dst vi).ob ui
   rw [ZaM,ZaM]
   show Zp (Zp (st.put oi.dst vi).ob ui) uj=Zp (Zp (st.put oj.dst vj).ob uj) ui
   rw [ZaM,ZaM]
   exact ZqX hne
  have hn:((((st.put oi.dst vi).app ui).put oj.dst vj).app uj).n=((((st.put oj.dst vj).app uj).put oi.dst vi).app ui).n:=by
   show (((st.put oi.dst vi).app ui).put oj.dst vj).n=(((st.put oj.dst vj).app uj).put oi.dst vi).n
   rw [ZrI,ZrI]
   show (st.put oi.dst vi).n=(st.put oj.dst vj).n
   rw [ZrI,ZrI]
  generalize ((((st.put oi.dst vi).app ui).put oj.dst vj).app uj)=s1 at hsl hobs hn ⊢
  generalize ((((st.put oj.dst vj).app uj).put oi.dst vi).app ui)=s2 at hsl hobs hn ⊢
  cases s1;cases s2
  simp only at hsl hobs hn
  subst hsl hobs hn
  rfl
 by_cases hmv:Zt4 tt oi.op=true∧cls tt S.hd oj.op≤1
 ·obtain ⟨hm,hj⟩:=hmv
  have hui:∀p∈ui,(ki≤p.1∧p.1<ki+16)∨(U p.1∧(p.2=st.ob p.1∨p.2=.gone)):=Zhd h (fun h=>Zxr hm hev h) fun e p hp=>by rw [e] at hp;simp at hp
  have hmk:Mk st ((st.put oi.dst vi).app ui) U:=fun k hk=>by
   show Zp (st.put oi.dst vi).ob ui k=st.ob k∨Zp (st.put oi.dst vi).ob ui k=.gone
   rw [ZaM]
   have gen:∀(u:List (Nat × Ob)) (ob:Nat→Ob),(∀p∈u,(ki≤p.1∧p.1<ki+16)∨(U p.1∧(p.2=st.ob p.1∨p.2=.gone)))→(ob k=st.ob k∨ob k=.gone)→(Zp ob u k=st.ob k∨Zp ob u k=.gone):=by
    intro u
    induction u with
    | nil=>intro ob _ h;exact h
    | cons p u ih=>
     intro ob hp h
     refine ih _ (fun x mx=>hp x (by simp [mx])) ?_
     by_cases hpk:k=p.1
     ·rcases hp p (by simp) with h1 | h1
      ·exact absurd (hpk ▸ hk) (hki p.1 h1.1 h1.2)
      ·rw [hpk,ZD];exact h1.2
     ·rw [ZN _ _ hpk];exact h
   exact gen ui st.ob hui (.inl rfl)
  have hlj:∀s∈oj.looksAt ops,st.sl s=((st.put oi.dst vi).app ui).sl s:=fun s ms=>(Zck st oi.dst vi s fun t ht e=>a1 t ht (e ▸ ms)).symm
  have hA:opR tt S ops.toList kj oj st vj uj:=ZkV hlj (ZtW (ZeO hlj) hj hev hmk) h'
  obtain ⟨_,j2,_⟩:=Zlb (U:=U) hev hA
  have hlk:∀s∈oi.looksAt ops,((st.put oj.dst vj).app uj).sl s=st.sl s:=fun s ms=>Zck st oj.dst vj s fun t ht e=>a3 t ht (e ▸ ms)
  have hag:∀k,U k→((st.put oj.dst vj).app uj).ob k=st.ob k:=fun k hk=>by
   show Zp (st.put oj.dst vj).ob uj k=st.ob k
   rw [ZaM]
   exact XI fun p mp e=>hkj p.1 (j2 (by omega) p mp).1 (j2 (by omega) p mp).2 (e ▸ hk)
  refine ⟨hA,ZkV hlk (ZxQ hm (ZeO hlk) hev hag) h,eqs fun p mp q mq e=>?_⟩
  have h2:=j2 (by omega) q mq
  rcases hui p mp with h1 | h1
  ·omega
  ·exact hkj q.1 h2.1 h2.2 (e ▸ h1.1)
 have hcl:cls tt S.hd oi.op=0∨cls tt S.hd oj.op=0∨(cls tt S.hd oi.op≤2∧cls tt S.hd oj.op≤2)∨(cls tt S.hd oi.op≤1∧cls tt S.hd oj.op≤3)∨(cls tt S.hd oi.op≤3∧cls tt S.hd oj.op≤1):=by
  unfold Ztj at hc
  simp only[AJ,beq_iff_eq,A6] at hc
  rcases hc with ((((hc | hc) | hc) | hc) | hc) | hc
  ·exact .inl hc
  ·exact .inr (.inl hc)
  ·exact .inr (.inr (.inl ⟨A9 hc.1,A9 hc.2⟩))
  ·exact .inr (.inr (.inr (.inl ⟨A9 hc.1,A9 hc.2⟩)))
  ·exact .inr (.inr (.inr (.inr ⟨A9 hc.1,A9 hc.2⟩)))
  ·exact absurd ⟨hc.1,A9 hc.2⟩ hmv
 have agree:∀{u:List (Nat × Ob)} {q:Nat},(∀p∈u,q≤p.1∧p.1<q+16)→(∀k,q≤k→k<q+16→¬U k)→∀k,U k→st.ob k=Zp st.ob u k:=fun hu hq k hk=>(XI fun p mp e=>hq p.1 (hu p mp).1 (hu p mp).2 (e ▸ hk)).symm
 have weak:∀{u:List (Nat × Ob)} {q:Nat},(∀p∈u,(q≤p.1∧p.1<q+16)∨(U p.1∧p.2=Yd (st.ob p.1)))→(∀k,q≤k→k<q+16→¬U k)→∀k,U k→Zp st.ob u k=st.ob k∨Zp st.ob u k=Yd (st.ob k):=fun {u q} hu hq k hk=>by
  have gen:∀(u:List (Nat × Ob)) (ob:Nat→Ob),(∀p∈u,(q≤p.1∧p.1<q+16)∨(U p.1∧p.2=Yd (st.ob p.1)))→(ob k=st.ob k∨ob k=Yd (st.ob k))→(Zp ob u k=st.ob k∨Zp ob u k=Yd (st.ob k)):=by
   intro u
   induction u with
   | nil=>intro ob _ h;exact h
   | cons p u ih=>
    intro ob hp h
    refine ih _ (fun x mx=>hp x (by simp [mx])) ?_
    by_cases hpk:k=p.1
    ·rcases hp p (by simp) with h1 | h1
     ·exact absurd (hpk ▸ hk) (hq p.1 h1.1 h1.2)
     ·right;rw [hpk,ZD];exact h1.2
    ·rw [ZN _ _ hpk];exact h
  exact gen u st.ob hu (.inl rfl)
 have hA:opR tt S ops.toList kj oj st vj uj:=by
  refine (ZeT (U:=U) (st:=st) (st':=(st.put oi.dst vi).app ui) (fun s ms=>(Zck st oi.dst vi s fun t ht e=>a1 t ht (e ▸ ms)).symm) ?_).2 h'
  show cls tt S.hd oj.op=0∨st.ob=Zp (st.put oi.dst vi).ob ui∨_∧((cls tt S.hd oj.op≤3∧∀k,U k→st.ob k=Zp (st.put oi.dst vi).ob ui k)∨(cls tt S.hd oj.op≤1∧∀k,U k→Zp (st.put oi.dst vi).ob ui k=st.ob k∨Zp (st.put oi.dst vi).ob ui k=Yd (st.ob k)))
  rw [ZaM]
  rcases hcl with hcl | hcl | ⟨c1,c2⟩ | ⟨c1,c2⟩ | ⟨c1,c2⟩
  ·right;left;rw [i1 hcl];rfl
  ·left;exact hcl
  ·right;right;exact ⟨hev,.inl ⟨by omega,agree (i2 c1) hki⟩⟩
  ·right;right;exact ⟨hev,.inl ⟨c2,agree (i2 (by omega)) hki⟩⟩
  ·right;right;exact ⟨hev,.inr ⟨c2,weak (i3 c1) hki⟩⟩
 obtain ⟨j1',j2',j3'⟩:=Zlb (U:=U) hev hA
 refine ⟨hA,?_,?_⟩
 ·refine (ZeT (U:=U) (st:=st) (st':=(st.put oj.dst vj).app uj) (fun s ms=>(Zck st oj.dst vj s fun t ht e=>a3 t ht (e ▸ ms)).symm) ?_).1 h
  show cls tt S.hd oi.op=0∨st.ob=Zp (st.put oj.dst vj).ob uj∨_∧((cls tt S.hd oi.op≤3∧∀k,U k→st.ob k=Zp (st.put oj.dst vj).ob uj k)∨(cls tt S.hd oi.op≤1∧∀k,U k→Zp (st.put oj.dst vj).ob uj k=st.ob k∨Zp (st.put oj.dst vj).ob uj k=Yd (st.ob k)))
  rw [ZaM]
  rcases hcl with hcl | hcl | ⟨c1,c2⟩ | ⟨c1,c2⟩ | ⟨c1,c2⟩
  ·left;exact hcl
  ·right;left;rw [j1' hcl];rfl
  ·right;right;exact ⟨hev,.inl ⟨by omega,agree (j2' c2) hkj⟩⟩
  ·right;right;exact ⟨hev,.inr ⟨c1,weak (j3' c2) hkj⟩⟩
  ·right;right;exact ⟨hev,.inl ⟨c1,agree (j2' (by omega)) hkj⟩⟩
 ·rcases hcl with hcl | hcl | ⟨c1,c2⟩ | ⟨c1,c2⟩ | ⟨c1,c2⟩
  ·exact eqs fun p mp=>by rw [i1 hcl] at mp;simp at mp
  ·exact eqs fun p mp q mq=>by rw [j1' hcl] at mq;simp at mq
  ·refine eqs fun p mp q mq e=>?_
   have:=i2 c1 p mp
   have:=j2' c2 q mq
   omega
  ·refine eqs fun p mp q mq e=>?_
   have h1:=i2 (by omega) p mp
   rcases j3' c2 q mq with h2 | h2
   ·omega
   ·exact hki p.1 h1.1 h1.2 (e ▸ h2.1)
  ·refine eqs fun p mp q mq e=>?_
   have h1:=j2' (by omega) q mq
   rcases i3 c1 p mp with h2 | h2
   ·omega
   ·exact hkj q.1 h1.1 h1.2 (e ▸ h2.1)
/- a load and a call into which something is handed: what is handed in stands at the key 0, the load looks elsewhere -/
def Zrv:Op→Bool
 | .load _ _=>true
 | _=>false
def ZuD (hs:FuncId→Nat) (o:Op):Bool:=match Y1 o with
 | some c=>hs c.1==1
 | none=>false
def ZM6:Op→Bool
 | .slice _ _ _ _ none=>true
 | _=>false
def Zuz (tt:Nat→Option TI) (hs:FuncId→Nat) (b:Bool) (x y:Op):Bool:=Ztj tt hs x y||(b&&((Zrv x&&ZuD hs y)||(ZuD hs x&&Zrv y)||ZM6 x||ZM6 y))
theorem ZNa {o:Op} {c:FuncId × List TypeId × List Operand} (h:Y1 o=some c):∃args ts,o=.call ⟨.value (.func c.1),args,ts⟩∧c.2.2=args.toList:=by
 unfold Y1 at h
 split at h
 ·rename_i f args ts
  simp only[A0] at h
  rw [←h]
  exact ⟨args,ts,rfl,rfl⟩
 ·simp at h
theorem ZrK {o:Op} (h:∀x∈o.operands,∀t,st.ev tt t x=st'.ev tt t x):stk tt S o st=stk tt S o st':=by
 unfold stk
 split
 ·rename_i t x
  rw [h x (by simp [Op.operands])]
 ·rename_i t x _ _ _
  rw [h x (by simp [Op.operands])]
 ·split
  ·rename_i c hc
   obtain ⟨args,ts,ho,e⟩:=ZNa hc
   unfold hdC
   split
   ·cases hh:c.2.2.head? with
    | none=>rfl
    | some x=>
     have mx:x∈args.toList:=by rw [←e];exact List.mem_of_mem_head? hh
     simp only
     rw [h x (by rw [ho];simp [Op.operands,Call.operands];exact .inr (by simpa using mx))]
   ·rfl
  ·rfl
theorem Zjp [NW] {ops:Array Oper} {oi oj:Oper} {vi vj:SV} {ui uj:List (Nat × Ob)} (hap:oi.apart ops oj=true):stk tt S oj.op st=stk tt S oj.op ((st.put oi.dst vi).app ui)∧stk tt S oi.op ((st.put oj.dst vj).app uj)=stk tt S oi.op st:=by
 obtain ⟨a1,a2,a3⟩:=Oper.apart_spec hap
 exact ⟨ZrK (ZeO fun s ms=>(Zck st oi.dst vi s fun t ht e=>a1 t ht (e ▸ ms)).symm),ZrK (ZeO fun s ms=>Zck st oj.dst vj s fun t ht e=>a3 t ht (e ▸ ms))⟩
theorem Zow [NW] {o:Oper} {v:SV} {u:List (Nat × Ob)} (ho:ZuD S.hd o.op=true) (hs:stk tt S o.op st=true) (h:Za8 tt S key o st v u):∀p∈u,p.1=0∨(key≤p.1∧p.1<key+16)∨p.2=Yd (st.ob p.1):=by
 unfold ZuD at ho
 split at ho
 rotate_left
 ·simp at ho
 rename_i c hc
 have h1:S.hd c.1=1:=by simpa using ho
 unfold Za8 at h
 rw [hc] at h
 simp only[h1,ZaW] at h
 obtain ⟨v0,r,k,hh,l,res,h',hv,hk,hl,hs',hne,hn,rfl,rfl⟩:=h
 have h2:hdC tt 1 c.2.2.head? st=true:=by
  have e:stk tt S o.op st=hdC tt (S.hd c.1) c.2.2.head? st:=by
   unfold stk
   split
   ·rename_i hq;rw [hq] at hc;simp [Y1] at hc
   ·rename_i hq;rw [hq] at hc;simp [Y1] at hc
   ·rw [hc]
  rw [←h1,←e];exact hs
 have hv0:∃off,v0=.bp 0 off:=by
  unfold hdC at h2
  simp only at h2
  cases hx:c.2.2 with
  | nil=>rw [hx] at h2;simp at h2
  | cons x xs=>
   rw [hx] at h2 hv
   simp only[List.head?_cons] at h2
   have e0:∀ts:List TypeId,∃t q,evs tt st ts (x::xs)=st.ev tt t x::q:=fun ts=>by cases ts<;>exact ⟨_,_,rfl⟩
   obtain ⟨t,q,e0⟩:=e0 c.2.1
   rw [e0] at hv
   simp only[AN] at hv
   have hb:hdB (st.ev tt 0 x)=true:=h2
   have ht:∀t',hdB (st.ev tt t' x)=true→∃off,st.ev tt t x=.bp 0 off:=fun t' hb=>by
    cases x with
    | tmp s=>
     have hb':hdB (st.sl s)=true:=hb
     unfold hdB at hb'
     split at hb'
     ·rename_i k' off e;exact ⟨off,by show st.sl s=_;rw [e,of_decide_eq_true hb']⟩
     ·simp at hb'
    | const u=>
     exfalso
     have hb':hdB (cvT (tt t') u)=true:=hb
     unfold cvT at hb'
     split at hb'<;>first | (simp [hdB] at hb';done) | (split at hb'<;>simp [hdB] at hb')
    | func f=>simp [St.ev,hdB] at hb
    | global g=>simp [St.ev,hdB] at hb
   obtain ⟨off,e⟩:=ht 0 hb
   exact ⟨off,by rw [←hv.1,e]⟩
 obtain ⟨off,rfl⟩:=hv0
 have hkk:k=0:=by
  unfold ZfF at hk
  split at hk
  ·rename_i k' e
   simp only[SV.bp.injEq] at e
   obtain ⟨rfl,rfl⟩:=e
   split at hk
   ·rename_i t cs hb
    split at hk
    ·obtain ⟨_,_,e⟩:=A7.1 hk
     simp only[A4] at e
     exact e.1.symm
    ·simp at hk
   ·simp at hk
  ·rename_i e;simp at e
  ·simp at hk
 subst hkk
 intro p mp
 rcases A5.1 mp with mp | mp
 ·exact .inr (.inr (Zl1 mp).2)
 ·rcases AD.1 mp with rfl | mp
  ·exact .inl rfl
  ·have:=(ZgH res key).2 p mp
   exact .inr (.inl (by omega))
theorem ZnV [NW] {o:Oper} {v:SV} {u:List (Nat × Ob)} (ho:Zrv o.op=true) (hl:∀x∈o.op.operands,∀t,st.ev tt t x=st'.ev tt t x) (hs:stk tt S o.op st=true) (hU:∀t x,svU U (st.ev tt t x)) (hob:∀k,U k→k≠0→st'.ob k=st.ob k∨st'.ob k=Yd (st.ob k)):Za8 tt S key o st v u↔Za8 tt S key o st' v u:=by
 obtain ⟨dst,op,ty,pos,af,gd⟩:=o
 unfold Zrv at ho
 simp only at ho
 split at ho
 rotate_left
 ·simp at ho
 rename_i t x
 have e1:=hl x (by simp [Op.operands]) 0
 have hx:=hU 0 x
 have hs':ldB (st.ev tt 0 x)=true:=hs
 have key:Qt st (tt t) (st.ev tt 0 x)=Qt st' (tt t) (st'.ev tt 0 x):=by
  rw [←e1]
  unfold Qt
  split
  ·rename_i k off hv
   rw [hv] at hx hs'
   have hk0:k≠0:=fun e=>by subst e;simp [ldB] at hs'
   rcases hob k hx hk0 with h | h
   ·rw [h]
   ·rw [h]
    cases st.ob k<;>rfl
  ·rename_i k m i off hv
   rw [hv] at hx hs'
   have hk0:k≠0:=fun e=>by subst e;simp [ldB] at hs'
   rcases hob k hx hk0 with h | h
   ·rw [h]
   ·rw [h]
    cases st.ob k<;>rfl
  ·rfl
  ·rfl
  ·rfl
 show opE tt _ _ st=some (v,u)↔opE tt _ _ st'=some (v,u)
 simp only[opE,key]
theorem ZvZ [NW] {ops:List Oper} {o:Oper} {v:SV} {u:List (Nat × Ob)} (ho:Zrv o.op=true) (h:opR tt S ops key o st v u):u=[]:=by
 refine Zhd h (fun h=>?_) id
 obtain ⟨dst,op,ty,pos,af,gd⟩:=o
 unfold Zrv at ho
 simp only at ho
 split at ho
 ·have h':opE tt key ⟨dst,.load _ _,ty,pos,af,gd⟩ st=some (v,u):=h
  exact YZ h'
 ·simp at ho
theorem Ztn {ops:Array Oper} {o:Oper} {v:SV} {u:List (Nat × Ob)} (hl:∀s∈o.looksAt ops,st.sl s=st'.sl s) (h1:Za8 tt S key o st v u↔Za8 tt S key o st' v u) [NW]:opR tt S ops.toList key o st v u↔opR tt S ops.toList key o st' v u:=⟨ZkV (fun s ms=>(hl s ms).symm) h1.1,ZkV hl h1.2⟩
theorem ZMW [NW] {o:Oper} {v:SV} {u:List (Nat × Ob)} (ho:ZM6 o.op=true) (hs:stk tt S o.op st=true) (h:Za8 tt S key o st v u):u=[]∧∀{st':St},(∀x∈o.op.operands,∀t,st.ev tt t x=st'.ev tt t x)→Za8 tt S key o st' v u:=by
 obtain ⟨dst,op,ty,pos,af,gd⟩:=o
 unfold ZM6 at ho
 simp only at ho
 split at ho
 rotate_left
 ·simp at ho
 rename_i t x lo hi
 have hs':slB (st.ev tt 0 x)=true:=hs
 have h':opE tt key ⟨dst,.slice t x lo hi none,ty,pos,af,gd⟩ st=some (v,u):=h
 unfold slB at hs'
 split at hs'
 rotate_left
 ·simp at hs'
 rename_i y hy
 constructor
 ·simp only[opE] at h'
  rw [hy] at h'
  simp only[ZaK] at h'
  obtain ⟨_,_,e⟩:=A7.1 h'
  simp only[A4] at e
  exact e.2.symm
 ·intro st' hl
  show opE tt key ⟨dst,.slice t x lo hi none,ty,pos,af,gd⟩ st'=some (v,u)
  have e1:=hl x (by simp [Op.operands]) 0
  have e2:lo.map (st.ev tt 0)=lo.map (st'.ev tt 0):=by
   cases lo with
   | none=>rfl
   | some l=>exact congrArg some (hl l (by simp [Op.operands]) 0)
  have e3:hi.map (st.ev tt 0)=hi.map (st'.ev tt 0):=by
   cases hi with
   | none=>rfl
   | some l=>exact congrArg some (hl l (by simp [Op.operands]) 0)
  rw [←h']
  simp only[opE,←e1,←e2,←e3,hy,ZaK]
theorem ZDP [NW] {b:Bool} {ops:Array Oper} {oi oj:Oper} {ki kj:Nat} {vi vj:SV} {ui uj:List (Nat × Ob)} (hap:oi.apart ops oj=true) (hc:Zuz tt S.hd b oi.op oj.op=true) (hU:StU U st) (hki:∀k,ki≤k→k<ki+16→¬U k) (hkj:∀k,kj≤k→k<kj+16→¬U k) (hdis:ki+16≤kj∨kj+16≤ki)
  (hsi:b=true→stk tt S oi.op st=true) (hsj:b=true→stk tt S oj.op ((st.put oi.dst vi).app ui)=true) (h:opR tt S ops.toList ki oi st vi ui) (h':opR tt S ops.toList kj oj ((st.put oi.dst vi).app ui) vj uj):
  opR tt S ops.toList kj oj st vj uj∧opR tt S ops.toList ki oi ((st.put oj.dst vj).app uj) vi ui∧((((st.put oi.dst vi).app ui).put oj.dst vj).app uj)=((((st.put oj.dst vj).app uj).put oi.dst vi).app ui):=by
 by_cases hok:Ztj tt S.hd oi.op oj.op=true
 ·exact comm hap hok hU hki hkj hdis h h'
 have hb:b=true∧(((Zrv oi.op=true∧ZuD S.hd oj.op=true)∨(ZuD S.hd oi.op=true∧Zrv oj.op=true))∨ZM6 oi.op=true∨ZM6 oj.op=true):=by
  unfold Zuz at hc
  rw [AJ] at hc
  have:=hc.resolve_left hok
  simp only[A6,AJ] at this
  obtain ⟨q1,q2⟩:=this
  exact ⟨q1,by rcases q2 with (q | q) | q;exact .inl q;exact .inr (.inl q);exact .inr (.inr q)⟩
 obtain ⟨hb,hc⟩:=hb
 obtain ⟨a1,a2,a3⟩:=Oper.apart_spec hap
 have hev:∀t x,svU U (st.ev tt t x):=fun t x=>ZDW hU t x
 have hlj:∀s∈oj.looksAt ops,st.sl s=((st.put oi.dst vi).app ui).sl s:=fun s ms=>(Zck st oi.dst vi s fun t ht e=>a1 t ht (e ▸ ms)).symm
 have hli:∀s∈oi.looksAt ops,st.sl s=((st.put oj.dst vj).app uj).sl s:=fun s ms=>(Zck st oj.dst vj s fun t ht e=>a3 t ht (e ▸ ms)).symm
 have hslots:(((st.put oi.dst vi).put oj.dst vj)).sl=(((st.put oj.dst vj).put oi.dst vi)).sl:=Zov st _ _ _ _ fun t ht=>a2 t ht
 have e1:∀(s:St) (u:List (Nat × Ob)) (d:Option Nat) (v:SV),((s.app u).put d v)=((s.put d v).app u):=fun s u d v=>by cases d<;>rfl
 have eqs:ui=[]∨uj=[]→((((st.put oi.dst vi).app ui).put oj.dst vj).app uj)=((((st.put oj.dst vj).app uj).put oi.dst vi).app ui):=fun hn=>by
  rw [e1,e1]
  have hs:((st.put oi.dst vi).put oj.dst vj)=((st.put oj.dst vj).put oi.dst vi):=by
   have h2:((st.put oi.dst vi).put oj.dst vj).ob=((st.put oj.dst vj).put oi.dst vi).ob:=by simp only[ZaM]
   have h3:((st.put oi.dst vi).put oj.dst vj).n=((st.put oj.dst vj).put oi.dst vi).n:=by simp only[ZrI]
   generalize ((st.put oi.dst vi).put oj.dst vj)=s1 at hslots h2 h3
   generalize ((st.put oj.dst vj).put oi.dst vi)=s2 at hslots h2 h3
   cases s1;cases s2
   simp only at hslots h2 h3
   subst hslots h2 h3
   rfl
  rw [hs]
  rcases hn with rfl | rfl<;>rfl
 rcases hc with hc | hsl | hsl
 rotate_left
 ·-- the first is a slice that is only read
  have hs:=hsi hb
  have hn:ui=[]:=Zhd h (fun h=>(ZMW hsl hs h).1) id
  subst hn
  have hA:opR tt S ops.toList kj oj st vj uj:=(ZeT (U:=U) hlj (.inr (.inl (by show st.ob=(st.put oi.dst vi).ob;rw [ZaM])))).2 h'
  refine ⟨hA,ZkV (fun s ms=>(hli s ms).symm) (fun h=>(ZMW hsl hs h).2 (ZeO hli)) h,eqs (.inl rfl)⟩
 ·-- the second is one
  have hs:=(Zjp (tt:=tt) (S:=S) (st:=st) (vi:=vi) (ui:=ui) (vj:=vj) (uj:=uj) hap).1.trans (hsj hb)
  have hn:uj=[]:=Zhd h' (fun h=>(ZMW hsl (hsj hb) h).1) id
  subst hn
  have hA:opR tt S ops.toList kj oj st vj []:=ZkV hlj (fun h=>(ZMW hsl (hsj hb) h).2 (fun x m t=>(ZeO hlj x m t).symm)) h'
  refine ⟨hA,?_,eqs (.inr rfl)⟩
  exact (ZeT (U:=U) hli (.inr (.inl (by show st.ob=(st.put oj.dst vj).ob;rw [ZaM])))).1 h
 have box0:∀{u:List (Nat × Ob)} {q:Nat},(∀p∈u,p.1=0∨(q≤p.1∧p.1<q+16)∨p.2=Yd (st.ob p.1))→(∀k,q≤k→k<q+16→¬U k)→∀k,U k→k≠0→Zp st.ob u k=st.ob k∨Zp st.ob u k=Yd (st.ob k):=fun {u q} hu hq k hk hk0=>by
  have gen:∀(u:List (Nat × Ob)) (ob:Nat→Ob),(∀p∈u,p.1=0∨(q≤p.1∧p.1<q+16)∨p.2=Yd (st.ob p.1))→(ob k=st.ob k∨ob k=Yd (st.ob k))→(Zp ob u k=st.ob k∨Zp ob u k=Yd (st.ob k)):=by
   intro u
   induction u with
   | nil=>intro ob _ h;exact h
   | cons p u ih=>
    intro ob hp h
    refine ih _ (fun x mx=>hp x (by simp [mx])) ?_
    by_cases hpk:k=p.1
    ·rcases hp p (by simp) with h1 | h1 | h1
     ·exact absurd (hpk.trans h1) hk0
     ·exact absurd (hpk ▸ hk) (hq p.1 h1.1 h1.2)
     ·right;rw [hpk,ZD];exact h1
    ·rw [ZN _ _ hpk];exact h
  exact gen u st.ob hu (.inl rfl)
 rcases hc with ⟨l1,l2⟩ | ⟨l1,l2⟩
 ·have hui:=ZvZ l1 h
  have hob1:st.ob=((st.put oi.dst vi).app ui).ob:=by
   subst hui
   show st.ob=(st.put oi.dst vi).ob
   rw [ZaM]
  have hA:=(ZeT (U:=U) hlj (.inr (.inl hob1))).2 h'
  have hs:=(Zjp (tt:=tt) (S:=S) (st:=st) (vi:=vi) (ui:=ui) (vj:=vj) (uj:=uj) hap).1.trans (hsj hb)
  refine ⟨hA,?_,eqs (.inl hui)⟩
  refine Zhd hA (fun hx=>?_) (fun e=>?_)
  ·refine (Ztn hli (ZnV (U:=U) l1 (ZeO hli) (hsi hb) hev fun k hk hk0=>?_)).1 h
   show Zp (st.put oj.dst vj).ob uj k=_∨Zp (st.put oj.dst vj).ob uj k=_
   rw [ZaM]
   exact box0 (Zow l2 hs hx) hkj k hk hk0
  ·refine (ZeT (U:=U) hli (.inr (.inl ?_))).1 h
   subst e
   show st.ob=(st.put oj.dst vj).ob
   rw [ZaM]
 ·have huj:=ZvZ l2 h'
  have hs:=(Zjp (tt:=tt) (S:=S) (st:=st) (vi:=vi) (ui:=ui) (vj:=vj) (uj:=uj) hap).1.trans (hsj hb)
  have hA:opR tt S ops.toList kj oj st vj uj:=by
   refine Zhd h (fun hx=>?_) (fun e=>?_)
   ·refine (Ztn hlj (ZnV (U:=U) l2 (ZeO hlj) hs hev fun k hk hk0=>?_)).2 h'
    show Zp (st.put oi.dst vi).ob ui k=_∨Zp (st.put oi.dst vi).ob ui k=_
    rw [ZaM]
    exact box0 (Zow l1 (hsi hb) hx) hki k hk hk0
   ·refine (ZeT (U:=U) hlj (.inr (.inl ?_))).2 h'
    subst e
    show st.ob=(st.put oi.dst vi).ob
    rw [ZaM]
  refine ⟨hA,(ZeT (U:=U) hli (.inr (.inl ?_))).1 h,eqs (.inr huj)⟩
  subst huj
  show st.ob=(st.put oj.dst vj).ob
  rw [ZaM]
end
end
section
open Go.RowKit
section
variable {P:Program} {J:World→Prop} {JF:Nat→Prop} {W:Zaa} {U:Nat→Prop} {key:Nat} {st st':St} {w w':World} {a:Act} {tt:Nat→Option TI} {hds:FuncId→Nat} {Q:Exit→Act→World→Prop}
def ZuS [NW] (W:Zaa) (N:Nat) (U:Nat→Prop) (st:St):Prop:=∃a w,Inv W U st a w∧a.tmps.size=N
theorem Zwu [NW] (htt:MOk P J JF W tt) {N:Nat} {all:List Oper} {o:Oper} {v:SV} {u:List (Nat × Ob)} (h:opR tt (SC P J JF hds) all key o st v u) (hR:ZuS W N U st) (hkey:∀k,key≤k→k<key+16→¬U k) (hd:∀t,o.dst=some t→t<N∧(W.hv=none∨t≠0)):
  ZuS W N (Uk U key) ((st.put o.dst v).app u):=by
 obtain ⟨a,w,hI,hN⟩:=hR
 have hd':∀t,o.dst=some t→t<a.tmps.size∧(W.hv=none∨t≠0):=fun t ht=>hN ▸ hd t ht
 have und:v=.und∧u=[]→ZuS W N (Uk U key) ((st.put o.dst v).app u):=fun ⟨e1,e2⟩=>by
  subst e1 e2
  exact ⟨_,w,ZsZ hI _ hd',by rw [Zcg];exact hN⟩
 have run:Za8 tt (SC P J JF hds) key o st v u→ZuS W N (Uk U key) ((st.put o.dst v).app u):=fun h=>by
  obtain ⟨⟨g,hH,hS⟩,hU,hdef,hh⟩:=hI
  have evals:∀(ts:List TypeId) (args:List Operand),ZL (SVR g w) (evs tt st ts args) (args.map a.eval)∧∀x∈evs tt st ts args,svU U x:=fun ts args=>by
   have he:args.map a.eval=(Zje ts args).map fun p=>a.eval p.2:=by
    have:=congrArg (A3 a.eval) (ZeZ ts args)
    rw [←this,List.map_map];rfl
   refine ⟨?_,fun x mx=>?_⟩
   ·rw [he]
    exact ZL.of_map _ _ fun p _=>(Zkm htt.tt hS hU p.1 p.2).1
   ·obtain ⟨p,_,rfl⟩:=A8.1 mx
    exact (Zkm htt.tt hS hU p.1 p.2).2
  cases hc:Y1 o.op with
  | some c=>
   simp only[Za8,hc] at h
   obtain ⟨_,hcall⟩:=Zg5 htt h hH hU hkey (evals c.2.1 c.2.2).1 (evals c.2.1 c.2.2).2
   obtain ⟨e,w',fr,⟨rv,_,g',t1,t2,t3,t4,t5,t6⟩,_⟩:=hcall []
   exact ⟨_,_,Zfs hS hU hdef hh hd' t1 t2 t3 t4 t5 t6,by rw [Zcg];exact hN⟩
  | none=>
   simp only[Za8,hc] at h
   cases hd2:Y7 o.op with
   | some c=>
    rw [hd2] at h
    simp only at h
    obtain ⟨fc,h1,_,h⟩:=h
    obtain ⟨cs,_,hcs⟩:=Zqx h1 (hS c.1)
    obtain ⟨_,hcall⟩:=Zg5 htt h hH hU hkey ((evals c.2.1 c.2.2).1.append hcs) (fun x mx=>by
     rcases A5.1 mx with m | m
     ·exact (evals c.2.1 c.2.2).2 x m
     ·obtain ⟨c,_,rfl⟩:=A8.1 m
      exact Xn _)
    obtain ⟨e,w',fr,⟨rv,_,g',t1,t2,t3,t4,t5,t6⟩,_⟩:=hcall []
    exact ⟨_,_,Zfs hS hU hdef hh hd' t1 t2 t3 t4 t5 t6,by rw [Zcg];exact hN⟩
   | none=>
    rw [hd2] at h
    simp only at h
    obtain ⟨g',cv,w',_,t1,t2,t3,t4,t5,t6⟩:=ZnT (P:=P) (W:=W) (a:=a) htt.tt o h hH hS hU (hkey key (AB _) (by omega))
    exact ⟨_,_,Zfs hS hU hdef hh hd' t1 t2 t3 t4 t5 t6,by rw [Zcg];exact hN⟩
 unfold opR at h
 split at h
 ·exact run h
 ·exact und h
 ·unfold gK at h
  split at h
  ·split at h
   ·exact run h
   ·exact und h
  ·split at h
   ·exact und h
   ·exact h.elim
theorem Zg8 {S:Ctx} {b:Bool} {all:List Oper} {base i:Nat} {r:List Nat} {K:St→Prop} {o:Oper} (ho:all[i]?=some o):Zff tt S b all base (i::r) K st=ifB b (stk tt S o.op st) (opG tt S all (base+16 * i) o (Zff tt S b all base r K) st):=by simp only[Zff,ho]
theorem Ztd [NW] {S:Ctx} {all:List Oper} {base:Nat} {K:St→Prop}:∀(r:List Oper) (i:Nat) (st:St),all.drop i=r→Z5 tt S all (base+16 * i) r K st→Zff tt S false all base (List.range' i r.length) K st
 | [],_,_,_,h=>h
 | o::r,i,st,hr,h=>by
  have hi:all[i]?=some o:=by
   have:=congrArg (fun l=>l[0]?) hr
   simpa using this
  have hr':all.drop (i+1)=r:=by
   have:=congrArg List.tail hr
   simpa using this
  rw [List.length_cons,List.range'_succ,Zg8 hi]
  obtain ⟨v,u,h1,h2⟩:=Zhe.1 h
  refine Zhe.2 ⟨v,u,h1,Ztd r (i+1) _ hr' ?_⟩
  rw [show base+16 * (i+1)=base+16 * i+16 by omega]
  exact h2
theorem Zo2 {b c:Bool} {P:Prop}:ifB b c P↔(b=true→c=true)∧P:=by
 cases b<;>simp [ifB]
theorem ZDq [NW] (htt:MOk P J JF W tt) {b:Bool} {ops:Array Oper} {N base i:Nat} {o:Oper} (ho:ops.toList[i]?=some o) (hN:∀o∈ops.toList,∀t,o.dst=some t→t<N∧(W.hv=none∨t≠0)) {K:St→Prop} {R2:List Nat}:∀(R1:List Nat) (U:Nat→Prop) (st:St),(R1++i::R2).Nodup→
  (∀j∈R1,∃oj,ops.toList[j]?=some oj∧oj.apart ops o=true∧Zuz tt hds b oj.op o.op=true)→(∀j∈R1++i::R2,∀k,base+16 * j≤k→k<base+16 * j+16→¬U k)→ZuS W N U st→
  Zff tt (SC P J JF hds) b ops.toList base (R1++i::R2) K st→(b=true→stk tt (SC P J JF hds) o.op st=true)∧opG tt (SC P J JF hds) ops.toList (base+16 * i) o (Zff tt (SC P J JF hds) b ops.toList base (R1++R2) K) st:=by
 intro R1
 induction R1 with
 | nil=>
  intro U st _ _ _ _ h
  rw [List.nil_append,Zg8 ho] at h
  exact Zo2.1 h
 | cons j R1 ih=>
  intro U st hnd hcomp hk hR h
  obtain ⟨oj,hj,hap,hcl⟩:=hcomp j (by simp)
  rw [AS,Zg8 hj] at h
  obtain ⟨sj,h⟩:=Zo2.1 h
  obtain ⟨vj,uj,h1,h2⟩:=Zhe.1 h
  have hkj:=hk j (by simp)
  have hki:=hk i (by simp)
  rw [AS,AO] at hnd
  have hij:i≠j:=fun e=>hnd.1 (by simp [e])
  have hR1:=Zwu htt h1 hR hkj (hN oj (Ad hj))
  obtain ⟨si,h3⟩:=ih (Uk U (base+16 * j)) _ hnd.2 (fun q mq=>hcomp q (by simp [mq])) (fun q mq k a b hU=>by
   rcases hU with hU | ⟨c,d⟩
   ·exact hk q (by simp;simp at mq;exact .inr mq) k a b hU
   ·have:q=j:=by omega
    subst this
    exact hnd.1 mq) hR1 h2
  obtain ⟨vi,ui,h4,h5⟩:=Zhe.1 h3
  obtain ⟨_,_,hIn,_⟩:=hR
  obtain ⟨c1,c2,c3⟩:=ZDP (tt:=tt) (S:=SC P J JF hds) (b:=b) hap hcl hIn.wf hkj hki (by omega) sj si h1 h4
  have e1:=(Zjp (tt:=tt) (S:=SC P J JF hds) (st:=st) (vi:=vj) (ui:=uj) (vj:=vi) (uj:=ui) hap).1
  have e2:=(Zjp (tt:=tt) (S:=SC P J JF hds) (st:=st) (vi:=vj) (ui:=uj) (vj:=vi) (uj:=ui) hap).2
  refine ⟨fun hb=>e1.trans (si hb),Zhe.2 ⟨vi,ui,c1,?_⟩⟩
  rw [AS,Zg8 hj]
  exact Zo2.2 ⟨fun hb=>e2.trans (sj hb),Zhe.2 ⟨vj,uj,c2,c3 ▸ h5⟩⟩
def anc (ops:Array Oper):Nat→Nat→List Nat
 | 0,_=>[]
 | n+1,j=>match ops[j]? with
  | some o=>(o.after.toList.filter (Region.binds .any)).flatMap fun e=>e.on::anc ops n e.on
  | none=>[]
def Zon (tt:Nat→Option TI) (hds:FuncId→Nat) (b:Bool) (ops:Array Oper) (i j:Nat):Bool:=!Nat.beq i j&&match ops[i]?,ops[j]? with
 | some oi,some oj=>(oi.after.toList.all fun e=>!Region.binds .any e||!Nat.beq e.on j)&&((anc ops ops.size j).contains i||(oi.apart ops oj&&Zuz tt hds b oi.op oj.op))
 | _,_=>true
def ZjU (tt:Nat→Option TI) (hds:FuncId→Nat) (b:Bool) (ops:Array Oper):List Nat→Bool
 | []=>true
 | i::r=>r.all (Zon tt hds b ops i)&&ZjU tt hds b ops r
def elB (ops:Array Oper) (j:Nat):Bool:=match ops[j]? with
 | some oj=>oj.after.toList.all fun e=>!Region.binds .any e||(Nat.blt e.on ops.size&&!Nat.beq e.on j)
 | none=>true
def Zx5 (ops:Array Oper):Bool:=(AQ ops.size).all (elB ops)
def ZsK (tt:Nat→Option TI) (hds:FuncId→Nat) (ops:Array Oper):Bool:=ZjU tt hds false ops (AQ ops.size)&&Zx5 ops
def Ztr (tt:Nat→Option TI) (hds:FuncId→Nat) (b:Bool) (ops:Array Oper) (l:List Nat):Bool:=ZjU tt hds b ops l&&Zx5 ops&&Nat.ble l.length ops.size&&l.all (Nat.blt · ops.size)&&(AQ ops.size).all l.contains
theorem Zrx {ops:Array Oper} (h:Zx5 ops=true) (j:Nat):elB ops j=true:=by
 rcases AT j ops.size with hj | hj
 ·exact AF.1 h j (by simpa using hj)
 ·unfold elB
  rw [AU hj]
theorem Znr {b:Bool} {ops:Array Oper}:∀{l:List Nat},ZjU tt hds b ops l=true→l.Pairwise fun i j=>Zon tt hds b ops i j=true
 | [],_=>List.Pairwise.nil
 | i::r,h=>by
  simp only[ZjU,A6,AF] at h
  exact List.Pairwise.cons h.1 (Znr h.2)
theorem ZsG {i j:Nat} (h:(!Nat.beq i j)=true):i≠j:=fun e=>by subst e;simp at h
theorem Zlq {b:Bool} {ops:Array Oper} {i j:Nat} {oi oj:Oper} (h:Zon tt hds b ops i j=true) (hi:ops[i]?=some oi) (hj:ops[j]?=some oj):(∀e∈oi.after,Region.binds .any e=true→e.on≠j)∧(i∈anc ops ops.size j∨(oi.apart ops oj=true∧Zuz tt hds b oi.op oj.op=true)):=by
 simp only[Zon,hi,hj,A6,AF,AJ] at h
 refine ⟨fun e me hb=>?_,h.2.2.imp (fun h=>by simpa using h) fun h=>h⟩
 have h1:=h.2.1 e (by simpa using me)
 rw [hb] at h1
 exact ZsG (h1.resolve_left (by simp))
theorem Zli {ops:Array Oper} {listed:Array Bool} (hcl:∀i o,ops[i]?=some o→listed.getD i false=true→∀e∈o.after,Region.binds .any e=true→listed.getD e.on false=true):
  ∀(n j:Nat) (o:Oper),ops[j]?=some o→(∀e∈o.after,Region.binds .any e=true→listed.getD e.on false=true)→∀i∈anc ops n j,listed.getD i false=true
 | 0,j,o,_,_,i,mi=>by simp [anc] at mi
 | n+1,j,o,ho,he,i,mi=>by
  simp only[anc,ho,List.mem_flatMap,List.mem_filter] at mi
  obtain ⟨e,⟨me,hb⟩,mi⟩:=mi
  have hl:=he e (by simpa using me) hb
  rcases AD.1 mi with rfl | mi
  ·exact hl
  ·cases ho':ops[e.on]? with
   | none=>cases n<;>simp [anc,ho'] at mi
   | some o'=>exact Zli hcl n e.on o' ho' (fun e' me' hb'=>hcl e.on o' ho' hl e' me' hb') i mi
theorem Zt9 [NW] (htt:MOk P J JF W tt) {b:Bool} {ops:Array Oper} {N base:Nat} (hN:∀o∈ops.toList,∀t,o.dst=some t→t<N∧(W.hv=none∨t≠0)) (hE:∀j,elB ops j=true) {K:St→Prop}
  (hQ:∀U' st' a' w',Inv W U' st' a' w'→(∀k,base+16 * ops.size≤k→¬U' k)→a'.tmps.size=N→K st'→Q .normal a' w'):
  ∀(fuel:Nat) (R:List Nat) (listed:Array Bool) (U:Nat→Prop) (st:St) (a:Act) (w:World),R.length≤fuel→R.Pairwise (fun i j=>Zon tt hds b ops i j=true)→listed.size=ops.size→(∀i,i∈R↔(i<ops.size∧listed.getD i true=false))→
   (∀i o,ops[i]?=some o→listed.getD i false=true→∀e∈o.after,Region.binds .any e=true→listed.getD e.on false=true)→
   Zff tt (SC P J JF hds) b ops.toList base R K st→Inv W U st a w→(∀j∈R,∀k,base+16 * j≤k→k<base+16 * j+16→¬U k)→(∀k,base+16 * ops.size≤k→¬U k)→a.tmps.size=N→wpAny P .any ops Q fuel listed a w:=by
 have hE':∀j oj,ops[j]?=some oj→∀e∈oj.after,Region.binds .any e=true→e.on<ops.size∧e.on≠j:=fun j oj hj e me hb=>by
  have h1:=hE j
  simp only[elB,hj,AF,AJ,A6] at h1
  have h2:=h1 e (by simpa using me)
  rw [hb] at h2
  have h3:=h2.resolve_left (by simp)
  exact ⟨A9 h3.1,ZsG h3.2⟩
 intro fuel
 induction fuel with
 | zero=>
  intro R listed U st a w hlen _ hsz hmem _ h hI _ hU hs
  have hR:R=[]:=List.eq_nil_of_length_eq_zero (by omega)
  subst hR
  refine ⟨?_,hQ U st a w hI hU hs h⟩
  rw [List.eq_nil_iff_forall_not_mem]
  intro i mi
  obtain ⟨h1,o,h2,_⟩:=mem_ready.1 mi
  exact absurd ((hmem i).2 ⟨(AR.1 h2).1,h1⟩) (by simp)
 | succ fuel ih=>
  intro R listed U st a w hlen hso hsz hmem hcl h hI hk hU hs
  refine ⟨fun hr=>?_,fun i mi=>?_⟩
  ·cases R with
   | nil=>exact hQ U st a w hI hU hs h
   | cons r0 R=>
    exfalso
    obtain ⟨m1,m2⟩:=(hmem r0).1 (by simp)
    have:r0∈Region.ready .any ops listed:=mem_ready.2 ⟨m2,ops[r0],by simp [m1],fun e me hb=>by
     have hlt:=hE' r0 ops[r0] (by simp [m1]) e me hb
     by_cases hl:listed.getD e.on true=false
     ·have mR:=(hmem e.on).2 ⟨hlt.1,hl⟩
      rcases AD.1 mR with e1 | mR
      ·exact absurd e1 hlt.2
      ·exact absurd rfl ((Zlq ((List.pairwise_cons.1 hso).1 _ mR) (oi:=ops[r0]) (oj:=ops[e.on]'hlt.1) (by simp [m1]) (by simp [hlt.1])).1 e me hb)
     ·have hlt2:e.on<listed.size:=by omega
      simp only[AE,hlt2,getElem?_pos,AW,Bool.not_eq_false] at hl ⊢
      exact hl⟩
    rw [hr] at this
    simp at this
  ·obtain ⟨i1,o,i2,i3⟩:=mem_ready.1 mi
   have hin:i<ops.size:=(AR.1 i2).1
   have miR:i∈R:=(hmem i).2 ⟨hin,i1⟩
   obtain ⟨R1,R2,rfl⟩:=List.append_of_mem miR
   have hnd:(R1++i::R2).Nodup:=hso.imp fun h=>by
    simp only[Zon,A6] at h
    exact ZsG h.1
   have ho:ops.toList[i]?=some o:=by simpa using i2
   have hanc:=Zli hcl ops.size i o i2 i3
   have hcomp:∀j∈R1,∃oj,ops.toList[j]?=some oj∧oj.apart ops o=true∧Zuz tt hds b oj.op o.op=true:=fun j mj=>by
    obtain ⟨j1,j2⟩:=(hmem j).1 (by simp [mj])
    have hji:=(List.pairwise_append.1 hso).2.2 j mj i (by simp)
    have hj:ops[j]?=some ops[j]:=by simp [j1]
    refine ⟨ops[j],by simp [j1],(Zlq hji hj i2).2.resolve_left fun ma=>?_⟩
    have:=hanc j ma
    have hlt:j<listed.size:=by omega
    simp only[AE,hlt,getElem?_pos,AW] at this j2
    rw [this] at j2;simp at j2
   have hfr:=(ZDq htt ho hN R1 U st hnd hcomp hk ⟨a,w,hI,hs⟩ h).2
   refine wpOp_mono ?_ (ZnI htt i2 hfr hI (hk i (by simp)) (fun t ht=>by rw [hs];exact hN o (Ad ho) t ht))
   rintro a' w' ⟨st',hI',hs',hK'⟩
   have hset:∀q,(listed.setIfInBounds i true).getD q true=if q=i then true else listed.getD q true:=fun q=>by
    by_cases e:q=i
    ·subst e;simp [AE,Ae,hsz,hin]
    ·simp [AE,Af (fun e':i=q=>e e'.symm),e]
   have hset':∀q,(listed.setIfInBounds i true).getD q false=if q=i then true else listed.getD q false:=fun q=>by
    by_cases e:q=i
    ·subst e;simp [AE,Ae,hsz,hin]
    ·simp [AE,Af (fun e':i=q=>e e'.symm),e]
   have hnotin:i∉R1++R2:=by
    rw [AP] at hnd
    intro m
    rcases A5.1 m with m | m
    ·exact hnd.2.2 i m i (by simp) rfl
    ·exact (AO.1 hnd.2.1).1 m
   refine ih (R1++R2) _ (Uk U (base+16 * i)) st' a' w' (by simp at hlen ⊢;omega) (hso.sublist (AX (Ag _) (List.sublist_cons_self i R2))) (by simp [hsz]) (fun q=>?_) (fun q oq hq hl e me hb=>?_) hK' hI' (fun q mq k c d hU'=>?_) (fun k hk' hU'=>?_) (by omega)
   ·rw [hset q]
    by_cases e:q=i
    ·subst e;simp only[if_true,Bool.true_eq_false,and_false,iff_false];exact hnotin
    ·rw [if_neg e,←hmem q];simp [e]
   ·rw [hset'] at hl ⊢
    by_cases e1:e.on=i
    ·simp [e1]
    ·rw [if_neg e1]
     by_cases e2:q=i
     ·subst e2
      rw [i2] at hq
      simp only[A0] at hq
      subst hq
      exact i3 e me hb
     ·rw [if_neg e2] at hl
      exact hcl q oq hq hl e me hb
   ·have mq':q∈R1++i::R2:=by simp at mq ⊢;rcases mq with mq | mq<;>simp [mq]
    rcases hU' with hU' | ⟨c',d'⟩
    ·exact hk q mq' k c d hU'
    ·have:q=i:=by omega
     subst this
     exact hnotin mq
   ·rcases hU' with hU' | ⟨c',d'⟩
    ·exact hU k hk' hU'
    ·omega
end
end
section
open Go.RowKit
theorem Ztm:∀{ρ:List Nat} {k i j:Nat},Zo1 ρ k i=some j→i≤j∧ρ[j - i]?=some k
 | [],_,_,_,h=>by simp [Zo1] at h
 | x::r,k,i,j,h=>by
  simp only[Zo1] at h
  split at h
  ·rename_i e
   simp only[A0] at h
   subst h e
   exact ⟨AB _,by simp⟩
  ·obtain ⟨h1,h2⟩:=Ztm h
   refine ⟨by omega,?_⟩
   rw [show j - i=(j - (i+1))+1 by omega]
   simpa using h2
theorem Zc3 [NW] {ρ:List Nat} {k j:Nat} (h:Zo1 ρ k 0=some j):ρ[j]?=some k:=by simpa using (Ztm h).2
theorem Zns {α:Type}:∀{l:List α},l.Nodup→∀{i j:Nat} (hi:i<l.length) (hj:j<l.length),l[i]=l[j]→i=j
 | [],_,_,_,hi,_,_=>by simp at hi
 | x::l,h,0,0,_,_,_=>rfl
 | x::l,h,0,j+1,_,hj,e=>by
  rw [AO] at h
  exact absurd (by simp at e;rw [e];exact Ah _) h.1
 | x::l,h,i+1,0,hi,_,e=>by
  rw [AO] at h
  exact absurd (by simp at e;rw [←e];exact Ah _) h.1
 | x::l,h,i+1,j+1,hi,hj,e=>by
  rw [AO] at h
  have:=Zns h.2 (i:=i) (j:=j) (by simpa using hi) (by simpa using hj) (by simpa using e)
  omega
section
variable {P:Program} {J:World→Prop} {JF:Nat→Prop} {W:Zaa} {U:Nat→Prop} {st st':St} {w w':World} {a:Act} {tt:Nat→Option TI} {S:Ctx}
theorem Zzq [NW] {g g':Gh} {ρ:List Nat} (hv:∀j k,ρ[j]?=some k→g'.val j=g.val k) (ho:Xo g' g) {x:AV} {v:Value} (h:AVR g w x v):AVR g' w (rAV ρ x) v:=by
 cases x with
 | c x=>obtain ⟨L,h1,h2⟩:=h;exact ⟨L,h1,fun b m o=>h2 b m (ho.own b o)⟩
 | n x=>exact NR.move h (fun _ _ _=>rfl) (ho.grow _)
 | row k=>
  simp only[rAV]
  split
  ·rename_i j hj
   exact ⟨by rw [hv j k (Zc3 hj)];exact h.1,h.2⟩
  ·exact h.2
 | nil e m=>exact h
 | dead=>exact h
theorem ZL.map_left {α β γ:Type} {R:α→γ→Prop} {R':β→γ→Prop} (f:α→β) (h:∀a c,R a c→R' (f a) c):∀{l:List α} {r:List γ},ZL R l r→ZL R' (l.map f) r
 | [],[],_=>trivial
 | _::_,_::_,hh=>⟨h _ _ hh.1,hh.2.map_left f h⟩
 | [],_::_,h=>h.elim
 | _::_,[],h=>h.elim
theorem ZuL [NW] (ρ:List Nat) (x:AV):avU (fun j=>j<ρ.length) (rAV ρ x):=by
 cases x with
 | row k=>
  simp only[rAV]
  split
  ·rename_i j hj
   exact (AG.1 (Zc3 hj)).1
  ·trivial
 | _=>trivial
theorem Zs7 [NW] (hI:Inv W U st a w) {ρ:List Nat} (hρ:ρ.Nodup):Inv W (fun j=>j<ρ.length) (st.ren ρ) a w:=by
 obtain ⟨⟨g,hH,hS⟩,hU,hdef,hh⟩:=hI
 let g':Gh:=⟨fun j=>match ρ[j]? with | some k=>g.val k | none=>undef,fun j=>match ρ[j]? with | some k=>g.O k | none=>[],fun j=>match ρ[j]? with | some k=>g.D k | none=>[],g.Z⟩
 have gs:∀j k,ρ[j]?=some k→g'.val j=g.val k∧g'.O j=g.O k∧g'.D j=g.D k:=fun j k h=>by simp [g',h]
 have gn:∀j,ρ[j]?=none→g'.O j=[]∧g'.D j=[]:=fun j h=>by simp [g',h]
 have ho:∀b,g'.own b→g.own b:=fun b hb=>by
  rcases hb with ⟨j,mj⟩ | hz
  ·cases h:ρ[j]? with
   | none=>rw [(gn j h).1] at mj;simp at mj
   | some k=>rw [(gs j k h).2.1] at mj;exact .inl ⟨k,mj⟩
  ·exact .inr hz
 have hless:Xo g' g:=.of ho fun j b mb=>by
  cases h:ρ[j]? with
  | none=>rw [(gn j h).2] at mb;simp at mb
  | some k=>rw [(gs j k h).2.2] at mb;exact ⟨k,mb⟩
 have hAV:∀x v,AVR g w x v→AVR g' w (rAV ρ x) v:=fun x v h=>Zzq (fun j k hjk=>(gs j k hjk).1) hless h
 have hAVs:∀xs vs,ZL (AVR g w) xs vs→ZL (AVR g' w) (xs.map (rAV ρ)) vs:=fun xs vs h=>h.map_left _ hAV
 have hPV:∀ag cs v,PVR g w ag cs v→PVR g' w ag (cs.map (rAV ρ)) v:=fun ag cs v h=>by
  cases ag with
  | true=>obtain ⟨vs,h1,h2⟩:=h;exact ⟨vs,h1,hAVs _ _ h2⟩
  | false=>obtain ⟨x,rfl,h2⟩:=h;exact ⟨_,rfl,hAV _ _ h2⟩
 refine ⟨⟨g',⟨hH.below,fun j=>?_,fun j=>?_,fun j i hji b mb=>?_,fun j b mb=>?_,hH.gz,hH.zx,hH.nw⟩,fun t=>?_⟩,⟨fun t=>?_,fun j=>?_,fun j hj=>?_⟩,hdef,hh⟩
 ·show ObR g' w j (match ρ[j]? with | some k=>rOb ρ (st.ob k) | none=>.gone)
  cases h:ρ[j]? with
  | none=>exact gn j h
  | some k=>
   obtain ⟨e1,e2,e3⟩:=gs j k h
   have hob:=hH.obs k
   show ObR g' w j (rOb ρ (st.ob k))
   cases hok:st.ob k with
   | gone=>rw [hok] at hob;exact ⟨e2.trans hob.1,e3.trans hob.2⟩
   | box t cs=>
    rw [hok] at hob
    obtain ⟨b,vs,h1,h2,h3,h4,h5⟩:=hob
    exact ⟨b,vs,e1.trans h1,e2.trans h2,e3.trans h3,h4,hAVs _ _ h5⟩
   | map kk vk kv=>
    rw [hok] at hob
    obtain ⟨b,es,c,h1,h2,h3,h4⟩:=hob
    exact ⟨b,es,c,e1.trans h1,e2.trans h2,e3.trans h3,h4⟩
   | row e m xs d=>
    rw [hok] at hob
    obtain ⟨hm,cs,L,h1,h2,h4⟩:=hob
    refine ⟨hm,cs,L,by rw [e1];exact h1,h2,?_⟩
    rw [e1,e2,e3]
    rcases h4 with h4 | ⟨hd,h3,h4,h5⟩ | ⟨hd,h3,h4,h5⟩
    ·exact .inl h4
    ·exact .inr (.inl ⟨hd,h3,h4,fun b mb o=>h5 b mb (ho b o)⟩)
    ·exact .inr (.inr ⟨hd,h3,h4,fun b mb o=>h5 b mb (ho b o)⟩)
 ·cases h:ρ[j]? with
  | none=>rw [(gn j h).1,(gn j h).2];simp
  | some k=>rw [(gs j k h).2.1,(gs j k h).2.2];exact hH.nodup k
 ·cases h:ρ[j]? with
  | none=>rw [(gn j h).1,(gn j h).2] at mb;simp at mb
  | some k=>
   rw [(gs j k h).2.1,(gs j k h).2.2] at mb
   cases h':ρ[i]? with
   | none=>rw [(gn i h').1,(gn i h').2];simp
   | some q=>
    rw [(gs i q h').2.1,(gs i q h').2.2]
    refine hH.apart k q (fun e=>hji ?_) b mb
    subst e
    obtain ⟨l1,e1⟩:=AG.1 h
    obtain ⟨l2,e2⟩:=AG.1 h'
    exact Zns hρ l1 l2 (e1.trans e2.symm)
 ·cases h:ρ[j]? with
  | none=>rw [(gn j h).1,(gn j h).2] at mb;simp at mb
  | some k=>
   rw [(gs j k h).2.1,(gs j k h).2.2] at mb
   refine ⟨(hH.plain k b mb).1,(hH.plain k b mb).2.of ?_⟩
   show Zjf (match ρ[j]? with | some k=>rOb ρ (st.ob k) | none=>.gone)=_
   rw [h]
   show Zjf (rOb ρ (st.ob k))=_
   cases st.ob k<;>rfl
 ·have hs:=hS t
  show SVR g' w (rSV ρ (st.sl t)) _
  cases hsl:st.sl t with
  | any=>trivial
  | und=>rw [hsl] at hs;exact hs
  | p ag cs=>rw [hsl] at hs;exact hPV _ _ _ hs
  | tup xs=>
   rw [hsl] at hs
   obtain ⟨vs,h1,h2⟩:=hs
   exact ⟨vs,h1,h2.map_left (fun x:Bool × List AV=>(x.1,x.2.map (rAV ρ))) fun x v h=>hPV x.1 x.2 v h⟩
  | bp k off=>
   rw [hsl] at hs
   simp only[rSV]
   split
   ·rename_i j hj
    obtain ⟨b,h1,h2⟩:=hs
    exact ⟨b,((gs j k (Zc3 hj)).1).trans h1,h2⟩
   ·trivial
  | rp k m i off=>
   rw [hsl] at hs
   simp only[rSV]
   split
   ·rename_i j hj
    obtain ⟨b,o,n,c,h1,h2⟩:=hs
    exact ⟨b,o,n,c,((gs j k (Zc3 hj)).1).trans h1,h2⟩
   ·trivial
  | ep e off=>
   rw [hsl] at hs
   obtain ⟨b,lo,cs,L,h1,h2,h3,h4,h5⟩:=hs
   exact ⟨b,lo,cs,L,h1,h2,h3,fun x m o=>h4 x m (ho x o),h5⟩
  | fn f=>rw [hsl] at hs;exact hs
 ·show svU _ (rSV ρ (st.sl t))
  cases st.sl t with
  | p ag cs=>intro y my;obtain ⟨x,_,rfl⟩:=A8.1 my;exact ZuL ρ x
  | tup xs=>
   intro y my
   obtain ⟨x,_,rfl⟩:=A8.1 my
   intro z mz
   obtain ⟨q,_,rfl⟩:=A8.1 mz
   exact ZuL ρ q
  | bp k off=>
   simp only[rSV]
   split
   ·rename_i j hj;exact (AG.1 (Zc3 hj)).1
   ·trivial
  | rp k m i off=>
   simp only[rSV]
   split
   ·rename_i j hj;exact (AG.1 (Zc3 hj)).1
   ·trivial
  | _=>trivial
 ·show obU _ (match ρ[j]? with | some k=>rOb ρ (st.ob k) | none=>.gone)
  split
  ·rename_i k _
   cases st.ob k with
   | box t cs=>intro y my;obtain ⟨x,_,rfl⟩:=A8.1 my;exact ZuL ρ x
   | _=>trivial
  ·trivial
 ·show (match ρ[j]? with | some k=>rOb ρ (st.ob k) | none=>.gone)=.gone
  have:ρ[j]?=none:=List.getElem?_eq_none (by omega)
  rw [this]
theorem Zxu [NW] {g:Gh} {ob:Nat→Ob} (hI:HI W g ob w) {k e m d d':Nat} {xs:List (List CT)} (hk:ob k=.row e m xs d) (hd:d'<d):∃g1:Gh,HI W g1 (upd ob k (.row e m xs d')) w∧g1.val=g.val∧Xo g1 g:=by
 by_cases h0:d'=0
 ·obtain ⟨g1,h1,h2,h3,_⟩:=ZiI hI k
  rw [hk] at h1
  exact ⟨g1,by rw [h0];exact h1,h2,h3⟩
 ·have ho:=hI.obs k
  rw [hk] at ho
  obtain ⟨hm,cs,L,o1,o2,o3⟩:=ho
  have h2:d=2∧g.O k=(g.val k).ownBlock.toList∧g.D k=L:=by
   rcases o3 with o3 | ⟨q,_⟩ | ⟨q,_⟩
   ·exact o3
   ·omega
   ·omega
  obtain ⟨rfl,q1,q2⟩:=h2
  obtain rfl:d'=1:=by omega
  let g1:Gh:=⟨g.val,g.O,upd g.D k [],g.Z⟩
  have hown:∀b,g1.own b↔g.own b:=fun b=>Iff.rfl
  have hless:Xo g1 g:=.of (fun b hb=>hb) fun j b mb=>by
   by_cases hj:j=k
   ·subst hj;simp [g1,upd] at mb
   ·exact ⟨j,by simpa [g1,upd,hj] using mb⟩
  have hsub:∀j b,b∈g1.O j++g1.D j→b∈g.O j++g.D j:=fun j b mb=>by
   by_cases hj:j=k
   ·subst hj;simp [g1,upd] at mb;simp [mb]
   ·simpa [g1,upd,hj] using mb
  refine ⟨g1,⟨hI.below,fun j=>?_,fun j=>?_,fun i j hij b mb mj=>hI.apart i j hij b (hsub i b mb) (hsub j b mj),fun j b mb=>⟨(hI.plain j b (hsub j b mb)).1,(hI.plain j b (hsub j b mb)).2.of (by
   by_cases hj:j=k
   ·subst hj;rw [ZD,hk];rfl
   ·rw [ZN _ _ hj])⟩,hI.gz,hI.zx,hI.nw⟩,rfl,hless⟩
  ·by_cases hj:j=k
   ·subst hj
    rw [ZD]
    refine ⟨hm,cs,L,o1,o2,.inr (.inl ⟨rfl,q1,by simp [g1,upd],fun b mb hb=>?_⟩)⟩
    have mk:b∈g.D j:=by rw [q2];exact mb
    rcases hb with ⟨i,mi⟩ | hz
    ·by_cases hij:i=j
     ·subst hij
      have:=hI.nodup i
      rw [AP] at this
      exact this.2.2 b mi b mk rfl
     ·exact hI.apart i j hij b (by simp;exact .inl mi) (by simp [mk])
    ·exact hI.nz (k:=j) (b:=b) (by simp [mk]) hz
   ·rw [ZN _ _ hj]
    have hoj:=hI.obs j
    cases hh:ob j with
    | gone=>rw [hh] at hoj;exact ⟨hoj.1,by simpa [g1,upd,hj] using hoj.2⟩
    | box t ds=>
     rw [hh] at hoj
     obtain ⟨b,vs,h1,h2,h3,h4,h5⟩:=hoj
     exact ⟨b,vs,h1,h2,by simpa [g1,upd,hj] using h3,h4,h5.mono fun x u _ hx=>AVR.less hx rfl hless⟩
    | map kk vk kv=>
     rw [hh] at hoj
     obtain ⟨b,es,c,h1,h2,h3,h4⟩:=hoj
     exact ⟨b,es,c,h1,h2,by simpa [g1,upd,hj] using h3,h4⟩
    | row e' m' xs' d2=>
     rw [hh] at hoj
     obtain ⟨hm',cs',L',p1,p2,p3⟩:=hoj
     refine ⟨hm',cs',L',p1,p2,?_⟩
     have e2:g1.D j=g.D j:=by simp [g1,upd,hj]
     rw [e2]
     exact p3
  ·by_cases hj:j=k
   ·subst hj
    have:=hI.nodup j
    rw [AP] at this
    simpa [g1,upd] using this.1
   ·have:=hI.nodup j
    simpa [g1,upd,hj] using this
theorem Zxn [NW] (m:Bool × Nat × Nat) (hI:Inv W U st a w) (hk:∀k,st.n≤k→¬U k):∃U',Inv W U' (st.mat m) a w∧∀k,(st.mat m).n≤k→¬U' k:=by
 have same:∃U',Inv W U' st a w∧∀k,st.n≤k→¬U' k:=⟨U,hI,hk⟩
 have hk0:¬U st.n:=hk st.n (AB _)
 have hU'n:∀k,st.n+1≤k→¬(U k∨k=st.n):=fun k hk' h=>by
  rcases h with h | h
  ·exact hk k (by omega) h
  ·omega
 have new:∀(e q:Nat),0<q→∀g,HI W g st.ob w→∃g',HI W g' (upd st.ob st.n (.row e q [] 2)) w∧(∀x u,svU U x→SVR g w x u→SVR g' w x u)∧g'.val st.n=.slice none 0 0∧(∀x u,avU U x→AVR g w x u→AVR g' w x u):=fun e q hq g hH=>by
  obtain ⟨t1,t2⟩:=hH.turn (key:=st.n) (U:=U) (w':=w) (v:=.slice none 0 0) (O:=[]) (D:=[]) (o:=.row e q [] 2) hI.wf.ob hk0 [] (by simp) hH.below (AB _) (fun _ _ _=>rfl) (by simp) (by simp) (by simp) (by simp)
   (fun _=>⟨hq,[],[],by simpa [Gh.turn,upd] using ZjM _ _ _ _,⟨rfl,rfl⟩,.inl ⟨rfl,by simp [Gh.turn,upd,Value.ownBlock],by simp [Gh.turn]⟩⟩)
  refine ⟨_,t1,t2,by simp [Gh.turn,upd],fun x u hx hu=>hu.move hx (fun k hk'=>ZN _ _ fun e=>hk0 (e ▸ hk')) (fun _ _ _=>rfl) (Zog (by simp) (by simp))⟩
 have up:∀k,U k→(U k∨k=st.n):=fun _ h=>.inl h
 obtain ⟨⟨g,hH,hS⟩,hU,hdef,hh⟩:=hI
 have tree:∀k e q xs d,st.ob k=.row e q xs d→∃g1:Gh,HI W g1 (upd st.ob k (.row e q xs 0)) w∧g1.val=g.val∧Xo g1 g∧U k∧∀v,AVR g w (.row k) v→AVR g1 w (.c (.sl e q xs)) v:=fun k e q xs d hob=>by
  obtain ⟨g1,i1,i2,i3,_⟩:=ZiI hH k
  rw [hob] at i1
  obtain ⟨L,t1,t2⟩:=Zqj i1 (ZD st.ob k (.row e q xs 0))
  exact ⟨g1,i1,i2,i3,Classical.byContradiction fun hn=>by have:=hU.gone _ hn;rw [hob] at this;simp at this,fun v hv=>⟨L,by rw [hv.1,←i2];exact t1,t2⟩⟩
 have sets:∀{gg:Gh} {cs:List AV} {vs:List Value} {j:Nat} {y:AV} {v:Value},ZL (AVR gg w) cs vs→vs[j]?=some v→AVR gg w y v→ZL (AVR gg w) (cs.set j y) vs:=fun {gg cs vs j y v} h1 h2 h3=>by
  have:=h1.set (i:=j) h3
  obtain ⟨hl,he⟩:=AG.1 h2
  rw [←he,AY hl] at this
  exact this
 have pset:∀{gg:Gh} {ag:Bool} {cs:List AV} {v:Value} {j:Nat} {x y:AV},PVR gg w ag cs v→cs[j]?=some x→(∀u,AVR gg w x u→AVR gg w y u)→PVR gg w ag (cs.set j y) v:=fun {gg ag cs v j x y} h1 h2 h3=>by
  cases ag with
  | true=>
   obtain ⟨vs,rfl,h4⟩:=h1
   obtain ⟨u,u1,u2⟩:=h4.at h2
   exact ⟨vs,rfl,sets h4 u1 (h3 u u2)⟩
  | false=>
   obtain ⟨z,rfl,h4⟩:=h1
   cases j with
   | zero=>simp at h2;subst h2;exact ⟨y,rfl,h3 v h4⟩
   | succ j=>simp at h2
 have uset:∀{V:Nat→Prop} {cs:List AV} {j:Nat} {y:AV},Qn V cs→avU V y→Qn V (cs.set j y):=fun {V cs j y} h1 h2 z mz=>by
  rcases AZ mz with mz | mz
  ·exact h1 z mz
  ·subst mz;exact h2
 unfold St.mat
 split
 ·split
  ·rename_i ag cs hsl
   have hcu:Qn U cs:=by have:=hU.sl m.2.1;rw [hsl] at this;exact this
   have hs:=hS m.2.1
   rw [hsl] at hs
   split
   ·rename_i e q hcs
    split
    ·rename_i hq
     obtain ⟨g',t1,t2,t3,t4⟩:=new e q hq g hH
     refine ⟨fun k=>U k∨k=st.n,⟨⟨g',t1,fun t=>?_⟩,⟨fun t=>?_,fun k=>?_,fun k hk'=>?_⟩,hdef,hh⟩,hU'n⟩
     ·show SVR g' w (upd st.sl m.2.1 (.p ag (cs.set m.2.2 (.row st.n))) t) _
      by_cases ht:t=m.2.1
      ·subst ht
       rw [ZD]
       have h1:PVR g' w ag cs (a.tmps.getD m.2.1 undef):=t2 (.p ag cs) _ hcu hs
       refine pset h1 hcs fun u hu=>?_
       have hu':u=.slice none 0 0:=hu
       rw [hu']
       exact ⟨t3.symm,rfl⟩
      ·rw [ZN _ _ ht];exact t2 _ _ (hU.sl t) (hS t)
     ·show svU _ (upd st.sl m.2.1 (.p ag (cs.set m.2.2 (.row st.n))) t)
      by_cases ht:t=m.2.1
      ·subst ht;rw [ZD];exact uset (hcu.mono up) (.inr rfl)
      ·rw [ZN _ _ ht];exact (hU.sl t).mono up
     ·show obU _ (upd st.ob st.n _ k)
      by_cases hk':k=st.n
      ·subst hk';rw [ZD];trivial
      ·rw [ZN _ _ hk'];exact (hU.ob k).mono up
     ·show upd st.ob st.n _ k=_
      rw [ZN _ _ fun e=>hk' (.inr e)];exact hU.gone k fun h=>hk' (.inl h)
    ·exact same
   ·rename_i k hcs
    split
    ·rename_i e q xs d hob
     obtain ⟨g1,i1,i2,i3,hUk,i4⟩:=tree k e q xs d hob
     refine ⟨U,⟨⟨g1,i1,fun t=>?_⟩,⟨fun t=>?_,fun j=>?_,fun j hj=>?_⟩,hdef,hh⟩,hk⟩
     ·show SVR g1 w (upd st.sl m.2.1 (.p ag (cs.set m.2.2 (.c (.sl e q xs)))) t) _
      by_cases ht:t=m.2.1
      ·subst ht
       rw [ZD]
       have h1:PVR g1 w ag cs (a.tmps.getD m.2.1 undef):=(show SVR g w (.p ag cs) _ from hs).less i2 i3
       exact pset h1 hcs fun u hu=>i4 u ⟨hu.1.trans (by rw [i2]),hu.2⟩
      ·rw [ZN _ _ ht];exact (hS t).less i2 i3
     ·show svU _ (upd st.sl m.2.1 (.p ag (cs.set m.2.2 (.c (.sl e q xs)))) t)
      by_cases ht:t=m.2.1
      ·subst ht;rw [ZD];exact uset hcu trivial
      ·rw [ZN _ _ ht];exact hU.sl t
     ·show obU U (upd st.ob k (.row e q xs 0) j)
      by_cases h1:j=k
      ·subst h1;rw [ZD];trivial
      ·rw [ZN _ _ h1];exact hU.ob j
     ·show upd st.ob k (.row e q xs 0) j=_
      rw [ZN _ _ (show j≠k from fun e'=>hj (e' ▸ hUk))];exact hU.gone j hj
    ·exact same
   ·exact same
  ·exact same
 ·split
  ·rename_i ty cs hob
   split
   ·rename_i e q hcs
    split
    ·rename_i hq
     obtain ⟨g',t1,t2,t3,t4⟩:=new e q hq g hH
     have hUk:U m.2.1:=Classical.byContradiction fun hn=>by have:=hU.gone _ hn;rw [hob] at this;simp at this
     have hne:m.2.1≠st.n:=fun e=>hk0 (e ▸ hUk)
     have hcu:Qn U cs:=by have:=hU.ob m.2.1;rw [hob] at this;exact this
     have hbox:=t1.obs m.2.1
     rw [ZN _ _ hne,hob] at hbox
     obtain ⟨b,vs,b1,b2,b3,b4,b5⟩:=hbox
     obtain ⟨u,u1,u2⟩:=b5.at hcs
     have u2':u=.slice none 0 0:=u2
     have hvs:vs.set m.2.2 u=vs:=by
      obtain ⟨hl,he⟩:=AG.1 u1
      rw [←he];exact AY hl
     have hbox':ObR g' w m.2.1 (.box ty (cs.set m.2.2 (.row st.n))):=by
      refine ⟨b,vs,b1,b2,b3,b4,?_⟩
      have:=b5.set (i:=m.2.2) (a:=AV.row st.n) (b:=u) ⟨by rw [u2',t3],by rw [u2'];rfl⟩
      rw [hvs] at this
      exact this
     have hob':∀k,(upd (upd st.ob m.2.1 (.box ty (cs.set m.2.2 (.row st.n)))) st.n (.row e q [] 2)) k=if k=m.2.1 then .box ty (cs.set m.2.2 (.row st.n)) else (upd st.ob st.n (.row e q [] 2)) k:=fun k=>by
      by_cases h1:k=st.n
      ·have h2:¬k=m.2.1:=fun e'=>hne (e'.symm.trans h1)
       have h3:¬st.n=m.2.1:=fun e'=>hne e'.symm
       simp [upd,h1,h3]
      ·by_cases h2:k=m.2.1
       ·simp [upd,h2,hne]
       ·simp [upd,h1,h2]
     refine ⟨fun k=>U k∨k=st.n,⟨⟨g',⟨t1.below,fun k=>?_,t1.nodup,t1.apart,fun k b mb=>⟨(t1.plain k b mb).1,(t1.plain k b mb).2.of (by
       show Zjf ((upd (upd st.ob m.2.1 (.box ty (cs.set m.2.2 (.row st.n)))) st.n (.row e q [] 2)) k)=_
       rw [hob' k]
       split
       ·rename_i h1;subst h1;rw [ZN _ _ hne,hob];rfl
       ·rfl)⟩,t1.gz,t1.zx,t1.nw⟩,fun t=>t2 _ _ (hU.sl t) (hS t)⟩,⟨fun t=>(hU.sl t).mono up,fun k=>?_,fun k hk'=>?_⟩,hdef,hh⟩,hU'n⟩
     ·show ObR g' w k ((upd (upd st.ob m.2.1 (.box ty (cs.set m.2.2 (.row st.n)))) st.n (.row e q [] 2)) k)
      rw [hob' k]
      split
      ·rename_i h1;subst h1;exact hbox'
      ·exact t1.obs k
     ·show obU _ ((upd (upd st.ob m.2.1 (.box ty (cs.set m.2.2 (.row st.n)))) st.n (.row e q [] 2)) k)
      rw [hob' k]
      split
      ·intro y my
       rcases AZ my with my | my
       ·exact (hcu y my).mono up
       ·subst my;exact .inr rfl
      ·by_cases h1:k=st.n
       ·subst h1;rw [ZD];trivial
       ·rw [ZN _ _ h1];exact (hU.ob k).mono up
     ·show (upd (upd st.ob m.2.1 (.box ty (cs.set m.2.2 (.row st.n)))) st.n (.row e q [] 2)) k=_
      rw [hob' k,if_neg (show ¬k=m.2.1 from fun e'=>hk' (.inl (e' ▸ hUk))),ZN _ _ (show k≠st.n from fun e'=>hk' (.inr e'))]
      exact hU.gone k fun h=>hk' (.inl h)
    ·exact same
   ·rename_i k hcs
    split
    ·rename_i e q xs d hob2
     obtain ⟨g1,i1,i2,i3,hUk,i4⟩:=tree k e q xs d hob2
     have hUm:U m.2.1:=Classical.byContradiction fun hn=>by have:=hU.gone _ hn;rw [hob] at this;simp at this
     have hne:k≠m.2.1:=fun e'=>by rw [e',hob] at hob2;simp at hob2
     have hcu:Qn U cs:=by have:=hU.ob m.2.1;rw [hob] at this;exact this
     have hbox:=i1.obs m.2.1
     rw [ZN _ _ (fun e'=>hne e'.symm),hob] at hbox
     obtain ⟨b,vs,b1,b2,b3,b4,b5⟩:=hbox
     obtain ⟨u,u1,u2⟩:=b5.at hcs
     have hbox':ObR g1 w m.2.1 (.box ty (cs.set m.2.2 (.c (.sl e q xs)))):=⟨b,vs,b1,b2,b3,b4,sets b5 u1 (i4 u ⟨u2.1.trans (by rw [i2]),u2.2⟩)⟩
     refine ⟨U,⟨⟨g1,⟨i1.below,fun j=>?_,i1.nodup,i1.apart,fun j b mb=>⟨(i1.plain j b mb).1,(i1.plain j b mb).2.of (by
       show Zjf (upd (upd st.ob k (.row e q xs 0)) m.2.1 (.box ty (cs.set m.2.2 (.c (.sl e q xs)))) j)=_
       by_cases h1:j=m.2.1
       ·subst h1;rw [ZD,ZN _ _ (fun e'=>hne e'.symm),hob];rfl
       ·rw [ZN _ _ h1])⟩,i1.gz,i1.zx,i1.nw⟩,fun t=>(hS t).less i2 i3⟩,⟨hU.sl,fun j=>?_,fun j hj=>?_⟩,hdef,hh⟩,hk⟩
     ·show ObR g1 w j (upd (upd st.ob k (.row e q xs 0)) m.2.1 (.box ty (cs.set m.2.2 (.c (.sl e q xs)))) j)
      by_cases h1:j=m.2.1
      ·subst h1;rw [ZD];exact hbox'
      ·rw [ZN _ _ h1];exact i1.obs j
     ·show obU U (upd (upd st.ob k (.row e q xs 0)) m.2.1 (.box ty (cs.set m.2.2 (.c (.sl e q xs)))) j)
      by_cases h1:j=m.2.1
      ·subst h1;rw [ZD];exact uset hcu trivial
      ·rw [ZN _ _ h1]
       by_cases h2:j=k
       ·subst h2;rw [ZD];trivial
       ·rw [ZN _ _ h2];exact hU.ob j
     ·show upd (upd st.ob k (.row e q xs 0)) m.2.1 (.box ty (cs.set m.2.2 (.c (.sl e q xs)))) j=_
      rw [ZN _ _ (show j≠m.2.1 from fun e'=>hj (e' ▸ hUm)),ZN _ _ (show j≠k from fun e'=>hj (e' ▸ hUk))];exact hU.gone j hj
    ·exact same
   ·exact same
  ·rename_i e q xs d hob
   split
   ·rename_i hlt
    have hUk:U m.2.1:=Classical.byContradiction fun hn=>by have:=hU.gone _ hn;rw [hob] at this;simp at this
    obtain ⟨g1,t1,t2,t3⟩:=Zxu hH hob hlt
    refine ⟨U,⟨⟨g1,t1,fun t=>(hS t).less t2 t3⟩,⟨hU.sl,fun k=>?_,fun k hk'=>?_⟩,hdef,hh⟩,hk⟩
    ·show obU U (upd st.ob m.2.1 (.row e q xs m.2.2) k)
     by_cases h1:k=m.2.1
     ·subst h1;rw [ZD];trivial
     ·rw [ZN _ _ h1];exact hU.ob k
    ·show upd st.ob m.2.1 (.row e q xs m.2.2) k=_
     rw [ZN _ _ (show k≠m.2.1 from fun e'=>hk' (e' ▸ hUk))];exact hU.gone k hk'
   ·exact same
  ·exact same
theorem ZuR [NW] (m:Bool × Nat × Nat) (hI:Inv W U st a w) (hk:∀k,st.n≤k→¬U k):∃U',Inv W U' (st.matN m) a w∧∀k,(st.matN m).n≤k→¬U' k:=by
 have same:∃U',Inv W U' st a w∧∀k,st.n≤k→¬U' k:=⟨U,hI,hk⟩
 obtain ⟨⟨g,hH,hS⟩,hU,hdef,hh⟩:=hI
 unfold St.matN
 split
 ·rename_i ag cs hsl
  have hcu:Qn U cs:=by have:=hU.sl m.2.1;rw [hsl] at this;exact this
  have hs:=hS m.2.1
  rw [hsl] at hs
  split
  ·rename_i k hcs
   split
   ·rename_i e q xs d hob
    split
    ·rename_i hd
     subst hd
     obtain ⟨g1,i1,i2,i3,i5⟩:=ZiI hH k
     rw [hob] at i1
     obtain ⟨hm,cs0,L,o1,o2,o3,o5⟩:=hH.deep hob
     have i4:∀v,AVR g w (.row k) v→AVR g1 w (.n (.sl e q xs)) v:=fun v hv=>by
      rcases o5 with ⟨_,q1,q2⟩ | ⟨q1,_⟩ | ⟨q1,_⟩
      ·have hN:=hH.nodup k
       have hP:=hH.plain k
       have hF:=i5 ⟨_,_,_,_,hob⟩
       rw [q1,q2] at hN hP hF
       rw [hob] at hP
       refine ⟨e,q,xs,cs0,L,rfl,hm,by rw [hv.1];exact o1,o2,by rw [hv.1];exact hN,fun b mb=>?_⟩
       rw [hv.1] at mb
       exact ⟨hF b mb,hH.nw b (hP b mb).1,(hP b mb).2⟩
      ·omega
      ·omega
     have hUk:U k:=Classical.byContradiction fun hn=>by have:=hU.gone _ hn;rw [hob] at this;simp at this
     refine ⟨U,⟨⟨g1,i1,fun t=>?_⟩,⟨fun t=>?_,fun j=>?_,fun j hj=>?_⟩,hdef,hh⟩,hk⟩
     ·show SVR g1 w (upd st.sl m.2.1 (.p ag (cs.set (m.2.2 - 4096) (.n (.sl e q xs)))) t) _
      by_cases ht:t=m.2.1
      ·subst ht
       rw [ZD]
       have h0:PVR g w ag cs (a.tmps.getD m.2.1 undef):=hs
       have h1:PVR g1 w ag cs (a.tmps.getD m.2.1 undef):=(show SVR g w (.p ag cs) _ from hs).less i2 i3
       cases ag with
       | true=>
        obtain ⟨vs,e1,h4⟩:=h0
        obtain ⟨vs',e1',h4'⟩:=h1
        have ev:vs=vs':=by rw [e1] at e1';simpa using e1'
        subst ev
        obtain ⟨u,u1,u2⟩:=h4.at hcs
        refine ⟨vs,e1,?_⟩
        have:=h4'.set (i:=m.2.2 - 4096) (i4 u u2)
        obtain ⟨hl,he⟩:=AG.1 u1
        rw [←he,AY hl] at this
        exact this
       | false=>
        obtain ⟨z,rfl,h4⟩:=h0
        cases hj:m.2.2 - 4096 with
        | zero=>rw [hj] at hcs;simp at hcs;subst hcs;exact ⟨_,rfl,i4 _ h4⟩
        | succ j=>rw [hj] at hcs;simp at hcs
      ·rw [ZN _ _ ht];exact (hS t).less i2 i3
     ·show svU U (upd st.sl m.2.1 (.p ag (cs.set (m.2.2 - 4096) (.n (.sl e q xs)))) t)
      by_cases ht:t=m.2.1
      ·subst ht;rw [ZD]
       intro z mz
       rcases AZ mz with mz | mz
       ·exact hcu z mz
       ·subst mz;trivial
      ·rw [ZN _ _ ht];exact hU.sl t
     ·show obU U (upd st.ob k (.row e q xs 0) j)
      by_cases h1:j=k
      ·subst h1;rw [ZD];trivial
      ·rw [ZN _ _ h1];exact hU.ob j
     ·show upd st.ob k (.row e q xs 0) j=_
      rw [ZN _ _ (show j≠k from fun e'=>hj (e' ▸ hUk))];exact hU.gone j hj
    ·exact same
   ·exact same
  ·exact same
 ·exact same
theorem ZkX [NW]:∀(ms:List (Bool × Nat × Nat)) {U:Nat→Prop} {st:St},Inv W U st a w→(∀k,st.n≤k→¬U k)→∃U',Inv W U' (st.mats ms) a w
 | [],U,st,hI,_=>⟨U,hI⟩
 | m::r,U,st,hI,hk=>by
  simp only[St.mats]
  split
  ·obtain ⟨U',h1,h2⟩:=ZuR m hI hk
   exact ZkX r h1 h2
  ·obtain ⟨U',h1,h2⟩:=Zxn m hI hk
   exact ZkX r h1 h2
theorem least {p:Nat→Prop} (h:∃n,p n):∃n,p n∧∀m,m<n→¬p m:=by
 obtain ⟨n,hn⟩:=h
 induction n using Nat.strongRecOn with
 | _ n ih=>
  by_cases hm:∃m,m<n∧p m
  ·obtain ⟨m,h1,h2⟩:=hm;exact ih m h1 h2
  ·exact ⟨n,hn,fun m h1 h2=>hm ⟨m,h1,h2⟩⟩
theorem ZuB [NW] {c:Code} {Q:Exit→Act→World→Prop} (J:Nat→Act→World→Prop) (n:Nat) (h₀:J n a w) (round:∀n a w,J n a w→c.wp P (Exit.then (fun a' w'=>∃m,m<n∧J m a' w') Q) a w):(Code.loop c).wp P Q a w:=by
 classical
 let μ:Act→World→Nat:=fun a w=>if h:∃n,J n a w then Classical.choose (least h) else 0
 have hμ:∀a w (h:∃n,J n a w),J (μ a w) a w∧∀m,m<μ a w→¬J m a w:=fun a w h=>by
  simp only[μ,dif_pos h]
  exact Classical.choose_spec (least h)
 refine wp_loop (fun a w=>∃n,J n a w) μ ⟨n,h₀⟩ fun a w h=>?_
 refine wp_mono (round (μ a w) a w (hμ a w h).1) fun e a' w' he=>?_
 cases e with
 | normal=>
  obtain ⟨m,h1,h2⟩:=he
  refine ⟨⟨m,h2⟩,?_⟩
  have h3:=hμ a' w' ⟨m,h2⟩
  rcases AT m (μ a' w') with h4 | h4
  ·exact absurd h2 (h3.2 m h4)
  ·omega
 | _=>exact he
mutual
theorem RC.deep {w:World}:∀{x:CT} {v:Value} {L:List Nat},RC w x v L→ctD x
 | .int _ _,_,_,_=>trivial
 | .bool _,_,_,_=>trivial
 | .str _,_,_,h=>h.2.2
 | .sl _ _ _,_,_,⟨A,cap,cs,L0,L1,h1,h2,h3,h4,h5,h6,h7⟩=>⟨by unfold maxLen at h3;omega,h7.deep⟩
 | .pt _,_,_,⟨_,_,_,_,_,_,_,h⟩=>h.deep
 | .fn _ _,_,_,⟨_,_,h⟩=>h.deep
 | .mp _ _ _,_,_,_=>trivial
 | .ifc _,_,_,_=>trivial
 | .any,_,_,_=>trivial
 | .nl _ _,_,_,_=>trivial
theorem RCs.deep {w:World}:∀{x:List CT} {v:List Value} {L:List Nat},RCs w x v L→ctsD x
 | [],_,_,_=>trivial
 | _::_,_,_,⟨v,cs,L1,L2,h1,h2,h3,h4⟩=>⟨h3.deep,h4.deep⟩
theorem REs.deep {w:World} {m:Nat}:∀{x:List (List CT)} {v:List Value} {L:List Nat},REs w m x v L→essD x
 | [],_,_,_=>trivial
 | _::_,_,_,⟨c1,c2,L1,L2,h1,h2,h3,h4⟩=>⟨h3.1.deep,h4.deep⟩
end
theorem AVR.deep [NW] {g:Gh} {w:World}:∀{x:AV} {v:Value},AVR g w x v→avD x
 | .c _,_,⟨_,h,_⟩=>h.deep
 | .n _,_,h=>by obtain ⟨_,h1,_⟩:=NR.toC h;exact h1.deep
 | .row _,_,_=>trivial
 | .nil _ _,_,_=>trivial
 | .dead,_,_=>trivial
theorem AVRs.deep [NW] {g:Gh} {w:World}:∀{x:List AV} {v:List Value},ZL (AVR g w) x v→ZvU x
 | [],[],_=>trivial
 | _::_,_::_,h=>⟨h.1.deep,AVRs.deep h.2⟩
 | [],_::_,h=>h.elim
 | _::_,[],h=>h.elim
theorem Inv.deep [NW] (hI:Inv W U st a w):WF st:=by
 obtain ⟨⟨g,hH,hS⟩,hU,hdef,hh⟩:=hI
 refine ⟨fun t b cs ht=>?_,fun k t cs hk=>?_,fun k e m xs d hk=>?_⟩
 ·have h:=hS t
  rw [ht] at h
  cases b with
  | true=>obtain ⟨vs,_,h2⟩:=h;exact AVRs.deep h2
  | false=>obtain ⟨x,rfl,h2⟩:=h;exact ⟨h2.deep,trivial⟩
 ·have h:=hH.obs k
  rw [hk] at h
  obtain ⟨b,vs,_,_,_,_,h2⟩:=h
  exact AVRs.deep h2
 ·have h:=hH.obs k
  rw [hk] at h
  obtain ⟨_,cs,L,h1,h2,_⟩:=h
  refine ⟨?_,h2.deep⟩
  rcases h1.2 with ⟨_,h3⟩ | ⟨_,_,cap,_,_,_,_,h3,h4,_⟩
  ·omega
  ·unfold maxLen at h4;omega
def ZyC:Ex→Exit
 | .normal=>.normal
 | .exit id=>.exit id
 | .ret=>.ret
def Xh (od:OD) (tt:Nat→Option TI) (hs:FuncId→Nat) (k0:Bool) (N:Nat):Code→Bool
 | .skip=>true
 | .region id ops d=>(ops.toList.all fun o=>match o.dst with | some t=>Nat.blt t N&&(!k0||Nat.blt 0 t) | none=>true)&&(match od id with | none=>!d||ZsK tt hs ops | some l=>d&&Ztr tt hs l.2 ops l.1)
 | .seq x y=>Xh od tt hs k0 N x&&Xh od tt hs k0 N y
 | .cond _ x y=>Xh od tt hs k0 N x&&Xh od tt hs k0 N y
 | .block _ x=>Xh od tt hs k0 N x
 | .loop x=>Xh od tt hs k0 N x
 | .exit _=>true
 | .ret=>true
 | _=>false
theorem Qo [NW] {od:OD} (htt:MOk P J JF W tt) (hmix:P.follows .mixedOrders=true) {hds:FuncId→Nat} {k0:Bool} (hk0:W.hv=none∨k0=true) {N:Nat}:∀(c:Code),Xh od tt hds k0 N c=true→∀(Qs:Ex→St→Prop) (Q:Exit→Act→World→Prop),
  (∀ex U' st' a' w',Inv W U' st' a' w'→(∀k,st'.n≤k→¬U' k)→a'.tmps.size=N→Qs ex st'→Q (ZyC ex) a' w')→
  ∀U st a w,Inv W U st a w→(∀k,st.n≤k→¬U k)→a.tmps.size=N→swp tt (SC P J JF hds) od c Qs st→c.wp P Q a w
 | .skip,_,Qs,Q,hQ,U,st,a,w,hI,hk,hs,h=>wp_skip (hQ .normal U st a w hI hk hs h)
 | .exit id,_,Qs,Q,hQ,U,st,a,w,hI,hk,hs,h=>wp_exit (hQ (.exit id) U st a w hI hk hs h)
 | .ret,_,Qs,Q,hQ,U,st,a,w,hI,hk,hs,h=>wp_ret (hQ .ret U st a w hI hk hs h)
 | .region id ops d,hok,Qs,Q,hQ,U,st,a,w,hI,hk,hs,h=>by
  simp only[Xh,A6,AF] at hok
  have hN:∀o∈ops.toList,∀t,o.dst=some t→t<N∧(W.hv=none∨t≠0):=fun o mo t ht=>by
   have:=hok.1 o mo
   rw [ht] at this
   simp only[A6,AJ] at this
   refine ⟨A9 this.1,hk0.imp (fun h=>h) fun h=>?_⟩
   rcases this.2 with h2 | h2
   ·rw [h] at h2;simp at h2
   ·have h3:0<t:=A9 h2
    exact Nat.ne_of_gt h3
  have hend:∀U' st' a' w',Inv W U' st' a' w'→(∀k,st.n+16 * ops.toList.length≤k→¬U' k)→a'.tmps.size=N→Zo3 (st.n+16 * ops.toList.length) (Qs .normal) st'→Q .normal a' w':=fun U' st' a' w' h1 h2 h3 h4=>
   hQ .normal U' { st' with n:=st.n+16 * ops.toList.length } a' w' ⟨h1.ex,⟨h1.wf.sl,h1.wf.ob,h1.wf.gone⟩,h1.defers,h1.hand⟩ h2 h3 h4
  have hdraw:Inv W U st a { w with drawn:=w.drawn+1 }:=by
   obtain ⟨⟨g,hH,hS⟩,hU,hdef,hh⟩:=hI
   have hw:∀b,b<w.heap.size→¬g.own b→({ w with drawn:=w.drawn+1 }:World).heap[b]?=w.heap[b]?:=fun _ _ _=>rfl
   refine ⟨⟨g,hH.step (U:=U) (fun _=>False) ⟨hH.below.os,hH.below.tape,hH.below.output,hH.below.size,hH.below.block⟩ rfl (fun _ _ _=>rfl) (fun _ _=>⟨rfl,rfl,rfl,rfl⟩) hU.ob (fun _ _=>rfl) (Qj.refl _ _) (fun _ h=>h.elim),fun t=>?_⟩,hU,hdef,hh⟩
   exact (hS t).move (hU.sl t) (fun _ _=>rfl) hw (Qj.refl _ _) (AB _)
  have open_:∀(b:Bool) (R:List Nat),ZjU tt hds b ops R=true→(∀j,elB ops j=true)→R.length≤ops.size→(∀i,i∈R↔i<ops.size)→Zff tt (SC P J JF hds) b ops.toList st.n R (Zo3 (st.n+16 * ops.toList.length) (Qs .normal)) st→(Code.region id ops true).wp P Q a w:=fun b R h1 h2 h3 h4 h5=>by
   refine wp_region_any hmix ?_
   refine Zt9 (base:=st.n) htt hN h2 (fun U' st' a' w' h1 h2 h3 h4=>hend U' st' a' w' h1 (by simpa using h2) h3 h4) ops.size R (AC ops.size false) U st a _ h3 (Znr h1) (by simp) (fun i=>?_) (fun i o ho hl=>?_) h5 hdraw (fun j _ k hk' _=>hk k (by omega)) (fun k hk'=>hk k (by omega)) hs
   ·rw [h4]
    constructor
    ·intro hi;exact ⟨hi,by simp [AE,hi]⟩
    ·exact fun hi=>hi.1
   ·exfalso
    have hi:i<ops.size:=(AR.1 ho).1
    simp [AE,hi] at hl
  cases ho:od id with
  | none=>
   have hok2:=hok.2
   simp only[ho] at hok2
   simp only[swp,ho,ZtY] at h
   have h':Z5 tt (SC P J JF hds) ops.toList st.n ops.toList (Zo3 (st.n+16 * ops.toList.length) (Qs .normal)) st:=h
   cases d with
   | false=>
    refine wp_region ?_
    have:=ZnK (Q:=Q) htt hN ops.toList 0 st.n U st a w (by simp) h' hI hk hs hend
    rw [Ai]
    simpa using this
   | true=>
    have hdr:ZsK tt hds ops=true:=by simpa using hok2
    simp only[ZsK,A6] at hdr
    have h2:=Ztd (tt:=tt) (S:=SC P J JF hds) (all:=ops.toList) (base:=st.n) (K:=Zo3 (st.n+16 * ops.toList.length) (Qs .normal)) ops.toList 0 st (by simp) (by simpa using h')
    rw [←Ai] at h2
    exact open_ false (AQ ops.size) hdr.1 (Zrx hdr.2) (by simp) (by simp) (by simpa using h2)
  | some l=>
   have hok2:=hok.2
   simp only[ho,A6] at hok2
   simp only[swp,ho,ZtY] at h
   obtain ⟨rfl,hdr⟩:=hok2
   simp only[Ztr,A6] at hdr
   exact open_ l.2 l.1 hdr.1.1.1.1 (Zrx hdr.1.1.1.2) (A9 hdr.1.1.2) (fun i=>⟨fun mi=>A9 (AF.1 hdr.1.2 i mi),fun hi=>by simpa using AF.1 hdr.2 i (by simpa using hi)⟩) h
 | .seq x y,hok,Qs,Q,hQ,U,st,a,w,hI,hk,hs,h=>by
  simp only[Xh,A6] at hok
  refine wp_seq (Qo htt hmix hk0 x hok.1 (Zgh (swp tt (SC P J JF hds) od y Qs) Qs) _ ?_ U st a w hI hk hs h)
  intro ex U' st' a' w' h1 h2 h3 h4
  cases ex with
  | normal=>exact Qo htt hmix hk0 y hok.2 Qs Q hQ U' st' a' w' h1 h2 h3 h4
  | exit id=>exact hQ (.exit id) U' st' a' w' h1 h2 h3 h4
  | ret=>exact hQ .ret U' st' a' w' h1 h2 h3 h4
 | .cond c x y,hok,Qs,Q,hQ,U,st,a,w,hI,hk,hs,h=>by
  simp only[Xh,A6] at hok
  simp only[swp,ZnY] at h
  split at h
  ·rename_i hb
   obtain ⟨b,hb'⟩:∃b,st.ev tt 0 c=.p false [.c (.bool b)]:=by
    unfold QJ at hb
    split at hb
    ·rename_i b he;exact ⟨b,he⟩
    ·simp at hb
   obtain ⟨g,hH,hS⟩:=hI.ex
   have hv:=(Zkm (P:=P) htt.tt hS hI.wf 0 c).1
   rw [hb'] at hv
   have hv':=ZfE hv
   refine wp_cond hv' ?_
   cases b with
   | true=>rw [if_pos (by rw [hb'];rfl)] at h;exact Qo htt hmix hk0 x hok.1 Qs Q hQ U st a w hI hk hs h
   | false=>rw [if_neg (by rw [hb'];simp [XN])] at h;exact Qo htt hmix hk0 y hok.2 Qs Q hQ U st a w hI hk hs h
  ·exact h.elim
 | .block id x,hok,Qs,Q,hQ,U,st,a,w,hI,hk,hs,h=>by
  refine wp_block (Qo htt hmix hk0 x hok (Zge id Qs) _ ?_ U st a w hI hk hs h)
  intro ex U' st' a' w' h1 h2 h3 h4
  cases ex with
  | normal=>exact hQ .normal U' st' a' w' h1 h2 h3 h4
  | exit j=>
   show Exit.inBlock id Q (.exit j) a' w'
   simp only[Zge] at h4
   simp only[Exit.inBlock]
   split
   ·rename_i e;rw [if_pos e] at h4;exact hQ .normal U' st' a' w' h1 h2 h3 h4
   ·rename_i e;rw [if_neg e] at h4;exact hQ (.exit j) U' st' a' w' h1 h2 h3 h4
  | ret=>exact hQ .ret U' st' a' w' h1 h2 h3 h4
 | .loop x,hok,Qs,Q,hQ,U,st,a,w,hI,hk,hs,h=>by
  obtain ⟨n,hn⟩:=h
  refine ZuB (fun n a w=>∃U st,Inv W U st a w∧(∀k,st.n≤k→¬U k)∧a.tmps.size=N∧Zkc (swp tt (SC P J JF hds) od x) Qs n st) n ⟨U,st,hI,hk,hs,hn⟩ ?_
  rintro n a w ⟨U,st,hI,hk,hs,hn⟩
  cases n with
  | zero=>exact hn.elim
  | succ n=>
   obtain ⟨ms,ρ,hρ,hb⟩:=hn
   obtain ⟨U2,hI2⟩:=ZkX ms hI hk
   refine Qo htt hmix hk0 x hok (Zgh (Zkc (swp tt (SC P J JF hds) od x) Qs n) Qs) _ ?_ _ ((st.mats ms).ren ρ) a w (Zs7 hI2 hρ) (fun k hk' hU=>by simp only[St.ren] at hk';omega) hs (hb (Zs7 hI2 hρ).deep)
   intro ex U' st' a' w' h1 h2 h3 h4
   cases ex with
   | normal=>exact ⟨n,by omega,U',st',h1,h2,h3,h4⟩
   | exit id=>exact hQ (.exit id) U' st' a' w' h1 h2 h3 h4
   | ret=>exact hQ .ret U' st' a' w' h1 h2 h3 h4
 | .rangeFunc _ _ _ _,hok,_,_,_,_,_,_,_,_,_,_,_=>by simp [Xh] at hok
 | .scope _,hok,_,_,_,_,_,_,_,_,_,_,_=>by simp [Xh] at hok
 | .label _,hok,_,_,_,_,_,_,_,_,_,_,_=>by simp [Xh] at hok
 | .goto _,hok,_,_,_,_,_,_,_,_,_,_,_=>by simp [Xh] at hok
 | .refuse _,hok,_,_,_,_,_,_,_,_,_,_,_=>by simp [Xh] at hok
end
end
section
open Go.RowKit
section
variable {P:Program} {J:World→Prop} {JF:Nat→Prop} {W:Zaa} {U:Nat→Prop} {st:St} {w w':World} {a:Act} {tt:Nat→Option TI} {g:Gh}
def nK (g:Gh) (K:Nat→Prop) (b:Nat):Prop:=g.Z b∨∃k,K k∧b∈g.O k
theorem Zv3 {k e m n B:Nat} {cs:List Value} (h:w.ownsV 0 e m (g.val k) n cs) (hB:∀b∈(g.val k).ownBlock.toList,B≤b):w.ownsV B e m (g.val k) n cs:=by
 refine ⟨h.1,?_⟩
 rcases h.2 with h0 | ⟨q,o,cap,cur,hv,hg,r⟩
 ·exact .inl h0
 ·exact .inr ⟨q,o,cap,cur,hv,hB q (by simp [hv,Value.ownBlock]),r⟩
variable {K:Nat→Prop}
theorem ZqR [NW] (hI:HI W g st.ob w) (hK:∀k,K k→Zjf (st.ob k)=false∧∀e m xs d,st.ob k=.row e m xs d→d=2) {x:AV} {ct:Bool × CT} {ks:List Nat} {v:Value} (h:ZeV st x=some (ct,ks)) (hks:∀k∈ks,K k∧∀b∈g.O k++g.D k,W.heap.size≤b) (hx:AVR g w x v):OC w W.heap.size (nK g K) ct v (g.F ks):=by
 have hsub:∀b,nK g K b→g.own b:=fun b hb=>by
  rcases hb with hz | ⟨k,_,mk⟩
  ·exact .inr hz
  ·exact .inl ⟨k,mk⟩
 cases x with
 | c y=>
  obtain ⟨L,h1,h2⟩:=hx
  cases y<;>simp only[ZeV,A0,A4] at h<;>obtain ⟨rfl,rfl⟩:=h
  ·exact ⟨⟨h1.1,rfl⟩,by simp [Gh.F]⟩
  ·exact ⟨⟨h1.1,rfl⟩,by simp [Gh.F]⟩
  ·exact ⟨⟨h1.1,rfl,h1.2.2⟩,by simp [Gh.F]⟩
  ·exact ⟨by simp [Gh.F],L,h1,fun b mb hb=>h2 b mb (hsub b hb)⟩
  ·exact ⟨by simp [Gh.F],L,h1,fun b mb hb=>h2 b mb (hsub b hb)⟩
  ·exact ⟨by simp [Gh.F],L,h1,fun b mb hb=>h2 b mb (hsub b hb)⟩
  ·exact ⟨by simp [Gh.F],L,h1,fun b mb hb=>h2 b mb (hsub b hb)⟩
  ·exact ⟨⟨rfl,h1.2⟩,by simp [Gh.F]⟩
  ·exact ⟨by simp [Gh.F],L,h1,fun b mb hb=>h2 b mb (hsub b hb)⟩
  ·exact ⟨by simp [Gh.F],L,h1,fun b mb hb=>h2 b mb (hsub b hb)⟩
 | row k=>
  simp only[ZeV] at h
  split at h
  ·rename_i e m xs d hk
   obtain ⟨hm,cs,L,o1,o2,o3,o5⟩:=hI.deep hk
   split at h
   ·rename_i hd
    simp only[A0,A4] at h
    obtain ⟨rfl,rfl⟩:=h
    have hKk:=hks k (by simp)
    rcases o5 with ⟨_,q1,q2⟩ | ⟨q,_⟩ | ⟨q,_⟩
    ·refine ⟨hm,cs,L,by rw [hx.1];exact Zv3 o1 fun b mb=>hKk.2 b (by simp [q1,mb]),o2,by simp [Gh.F,q1,q2,hx.1],fun b mb=>.inr ⟨k,hKk.1,by rw [q1];rw [hx.1] at mb;exact mb⟩⟩
    ·omega
    ·omega
   ·rename_i hd
    simp only[A0,A4] at h
    obtain ⟨rfl,rfl⟩:=h
    have hnK:¬K k:=fun h=>hd ((hK k h).2 e m xs d hk)
    obtain ⟨A,cap,L0,s1,s2,s3,s4,s5⟩:=Sl.row o1
    refine ⟨by simp [Gh.F],L0++L,⟨A,cap,cs,L0,L,by rw [hx.1,s1],s2,s3,rfl,hm,s4,o2⟩,fun b mb hb=>?_⟩
    rcases A5.1 mb with m1 | m1
    ·have m2:=s5.subset m1
     rcases o5 with ⟨q,_⟩ | ⟨_,q1,q2⟩ | ⟨_,_,_,q⟩
     ·exact hd q
     ·have mk:b∈g.O k++g.D k:=by simp [q1,m2]
      rcases hb with hz | ⟨j,hj,mj⟩
      ·exact hI.nz mk hz
      ·exact hI.apart k j (fun e=>hnK (e ▸ hj)) b mk (by simp [mj])
     ·exact q b m2 (hsub b hb)
    ·exact o3 b m1 (hsub b hb)
  ·rename_i kk vk kv hk
   simp only[A0,A4] at h
   obtain ⟨rfl,rfl⟩:=h
   have ho:=hI.obs k
   rw [hk] at ho
   obtain ⟨b,es,c,q1,q2,q3,q4,q5,q6⟩:=ho
   have hnK:¬K k:=fun h=>by have:=(hK k h).1;rw [hk] at this;simp [Zjf] at this
   refine ⟨by simp [Gh.F],[b],⟨b,es,c,by rw [hx.1,q1],q4,q5,q6,rfl⟩,fun x mx hb=>?_⟩
   simp at mx;subst mx
   have mk:x∈g.O k++g.D k:=by simp [q2]
   rcases hb with hz | ⟨j,hj,mj⟩
   ·exact hI.nz mk hz
   ·exact hI.apart k j (fun e=>hnK (e ▸ hj)) x mk (by simp [mj])
  ·simp at h
 | nil e m=>
  simp only[ZeV] at h
  split at h
  ·rename_i hm
   simp only[A0,A4] at h
   obtain ⟨rfl,rfl⟩:=h
   have hx':v=.slice none 0 0:=hx
   subst hx'
   exact ⟨hm,[],[],ZjM _ _ _ _,⟨rfl,rfl⟩,by simp [Gh.F,Value.ownBlock],by simp [Value.ownBlock]⟩
  ·simp at h
 | n y=>
  obtain ⟨L,h1,h2⟩:=NR.toC hx
  simp only[ZeV,A0,A4] at h
  obtain ⟨rfl,rfl⟩:=h
  exact ⟨by simp [Gh.F],L,h1,fun b mb hb=>h2 b mb (hsub b hb)⟩
 | dead=>
  simp only[ZeV,A0,A4] at h
  obtain ⟨rfl,rfl⟩:=h
  exact ⟨by simp [Gh.F],[],⟨rfl,hx⟩,by simp⟩
theorem Zob [NW] (hI:HI W g st.ob w) (hK:∀k,K k→Zjf (st.ob k)=false∧∀e m xs d,st.ob k=.row e m xs d→d=2):∀{xs:List AV} {cts:List (Bool × CT)} {ks:List Nat} {vs:List Value},ZcI st xs=some (cts,ks)→(∀k∈ks,K k∧∀b∈g.O k++g.D k,W.heap.size≤b)→ZL (AVR g w) xs vs→OCs w W.heap.size (nK g K) cts vs (g.F ks)
 | [],_,_,[],h,_,_=>by
  simp only[ZcI,A0,A4] at h
  obtain ⟨rfl,rfl⟩:=h
  exact ⟨rfl,by simp [Gh.F]⟩
 | [],_,_,_::_,_,_,h=>h.elim
 | _::_,_,_,[],_,_,h=>h.elim
 | x::r,cts,ks,v::vs,h,hks,hr=>by
  simp only[ZcI] at h
  obtain ⟨⟨c1,k1⟩,h1,h⟩:=AA.1 h
  obtain ⟨⟨c2,k2⟩,h2,h⟩:=A7.1 h
  simp only[A4] at h
  obtain ⟨rfl,rfl⟩:=h
  exact ⟨v,vs,g.F k1,g.F k2,rfl,by simp [Gh.F],ZqR hI hK h1 (fun k mk=>hks k (by simp [mk])) hr.1,Zob hI hK h2 (fun k mk=>hks k (by simp [mk])) hr.2⟩
theorem ZrH [NW] (hI:HI W g st.ob w) (hK:∀k,K k→Zjf (st.ob k)=false∧∀e m xs d,st.ob k=.row e m xs d→d=2) {ag:Bool} {cs:List AV} {cts:List (Bool × CT)} {ks:List Nat} {v:Value} (h:ZcI st cs=some (cts,ks)) (hks:∀k∈ks,K k∧∀b∈g.O k++g.D k,W.heap.size≤b) (hx:PVR g w ag cs v):OP w W.heap.size (nK g K) (ag,cts) v (g.F ks):=by
 cases ag with
 | true=>obtain ⟨vs,rfl,h2⟩:=hx;exact .inl ⟨rfl,vs,rfl,Zob hI hK h hks h2⟩
 | false=>
  obtain ⟨x,rfl,h2⟩:=hx
  simp only[ZcI] at h
  obtain ⟨⟨c1,k1⟩,h1,h⟩:=AA.1 h
  simp at h
  obtain ⟨rfl,rfl⟩:=h
  exact .inr ⟨rfl,c1,rfl,ZqR hI hK h1 hks h2⟩
theorem OC.one {B:Nat} {n:Nat→Prop} {x:Bool × CT} {v:Value} {F:List Nat} (h:OC w B n x v F):v.oneCell'=true:=by
 obtain ⟨b,x⟩:=x
 cases b with
 | true=>obtain ⟨_,L,h1,_⟩:=h;exact h1.one
 | false=>
  cases x with
  | sl e q xs=>
   obtain ⟨_,cs,L,o1,_⟩:=h
   obtain ⟨A,cap,hv⟩:=Zax o1
   rw [hv];rfl
  | int k i=>exact h.1.one
  | bool b=>exact h.1.one
  | str s=>exact h.1.one
  | ifc s=>exact h.1.one
  | any=>exact h.1.one
  | _=>exact h.elim
/- what is given is said to be lent -/
theorem Zpc [NW] {B:Nat} {n:Nat→Prop}:∀{r res:List (Bool × CT)} {vs:List Value} {F:List Nat},OCs w B n r vs F→wkC r res→F.Nodup→∃F',F'.Sublist F∧∀m:Nat→Prop,(∀b∈F',n b→m b)→(∀b,m b→n b)→(∀b∈F,m b→b∈F')→OCs w B m res vs F'
 | [],[],vs,F,h,_,_=>⟨[],by simp,fun m _ _ _=>⟨h.1,rfl⟩⟩
 | [],_::_,_,_,_,h,_=>h.elim
 | _::_,[],_,_,_,h,_=>h.elim
 | x::r,y::res,_,_,⟨v,vs,F1,F2,rfl,rfl,h1,h2⟩,hw0,hnd=>by
  rw [AP] at hnd
  have hw0:wk1 x y (wkC r res):=hw0
  unfold wk1 at hw0
  by_cases hany:ZsX y.2=true
  ·rw [if_pos hany] at hw0
   obtain ⟨F2',s2,h2'⟩:=Zpc h2 hw0 hnd.2.1
   refine ⟨F2',s2.trans (List.sublist_append_right _ _),fun m m1 m2 m3=>⟨v,vs,[],F2',rfl,rfl,?_,h2' m m1 m2 fun b mb hb=>m3 b (by simp [mb]) hb⟩⟩
   have h1':=h1.one
   obtain ⟨b2,y⟩:=y
   cases y<;>simp [ZsX] at hany
   cases b2 with
   | true=>exact ⟨rfl,[],⟨rfl,h1'⟩,by simp⟩
   | false=>exact ⟨⟨rfl,h1'⟩,rfl⟩
  rw [if_neg hany] at hw0
  obtain ⟨e1,e2,hw⟩:=hw0
  obtain ⟨F2',s2,h2'⟩:=Zpc h2 hw hnd.2.1
  have key:∃F1',F1'.Sublist F1∧∀m:Nat→Prop,(∀b∈F1',n b→m b)→(∀b,m b→n b)→(∀b∈F1,m b→b∈F1')→OC w B m y v F1':=by
   obtain ⟨b1,x⟩:=x
   obtain ⟨b2,y⟩:=y
   simp only at e1 e2
   subst e1
   cases b1 with
   | true=>
    have:b2=true:=by rcases e2 with e | e<;>simp_all
    subst this
    obtain ⟨rfl,L,q1,q2⟩:=h1
    exact ⟨[],by simp,fun m _ m2 _=>⟨rfl,L,q1,fun b mb hb=>q2 b mb (m2 b hb)⟩⟩
   | false=>
    cases b2 with
    | false=>
     refine ⟨F1,Ag _,fun m m1 _ _=>?_⟩
     cases x with
     | sl e q xs=>
      obtain ⟨hm,cs,L,o1,o2,o3,o4⟩:=h1
      exact ⟨hm,cs,L,o1,o2,o3,fun b mb=>m1 b (by simp [o3,mb]) (o4 b mb)⟩
     | int k i=>exact h1
     | bool b=>exact h1
     | str s=>exact h1
     | ifc s=>exact h1
     | any=>exact h1
     | _=>exact h1.elim
    | true=>
     refine ⟨[],by simp,fun m _ _ m3=>⟨rfl,?_⟩⟩
     cases x with
     | sl e q xs=>
      obtain ⟨hm,cs,L,o1,o2,o3,o4⟩:=h1
      obtain ⟨A,cap,L0,s1,s2,s3,s4,s5⟩:=Sl.row o1
      refine ⟨L0++L,⟨A,cap,cs,L0,L,s1,s2,s3,rfl,hm,s4,o2⟩,fun b mb hb=>?_⟩
      have:b∈F1:=by
       rw [o3]
       rcases A5.1 mb with m1 | m1
       ·exact A5.2 (.inl (s5.subset m1))
       ·exact A5.2 (.inr m1)
      have:=m3 b this hb
      simp at this
     | int k i=>exact ⟨[],h1.1,by simp⟩
     | bool b=>exact ⟨[],h1.1,by simp⟩
     | str s=>exact ⟨[],h1.1,by simp⟩
     | ifc s=>exact ⟨[],h1.1,by simp⟩
     | any=>exact ⟨[],h1.1,by simp⟩
     | _=>exact h1.elim
  obtain ⟨F1',s1,h1'⟩:=key
  refine ⟨F1'++F2',AX s1 s2,fun m m1 m2 m3=>⟨v,vs,F1',F2',rfl,rfl,h1' m (fun b mb=>m1 b (by simp [mb])) m2 (fun b mb hb=>?_),h2' m (fun b mb=>m1 b (by simp [mb])) m2 (fun b mb hb=>?_)⟩⟩
  ·rcases A5.1 (m3 b (by simp [mb]) hb) with h | h
   ·exact h
   ·exact absurd rfl (hnd.2.2 b mb b (s2.subset h))
  ·rcases A5.1 (m3 b (by simp [mb]) hb) with h | h
   ·exact absurd rfl (hnd.2.2 b (s1.subset h) b mb)
   ·exact h
theorem Zzv [NW] {B:Nat} {n:Nat→Prop} {x y:RT} {v:Value} {F:List Nat} (h:OP w B n x v F) (e1:x.1=y.1) (hw:wkC x.2 y.2) (hnd:F.Nodup):∃F',F'.Sublist F∧∀m:Nat→Prop,(∀b∈F',n b→m b)→(∀b,m b→n b)→(∀b∈F,m b→b∈F')→OP w B m y v F':=by
 rcases h with ⟨h1,vs,rfl,h2⟩ | ⟨h1,ct,h2,h3⟩
 ·obtain ⟨F',s,h⟩:=Zpc h2 hw hnd
  exact ⟨F',s,fun m a b c=>.inl ⟨e1 ▸ h1,vs,rfl,h m a b c⟩⟩
 ·obtain ⟨F',s,h⟩:=Zpc (r:=x.2) (vs:=[v]) (F:=F) (by rw [h2];exact ⟨v,[],F,[],rfl,by simp,h3,rfl,rfl⟩) hw hnd
  refine ⟨F',s,fun m p1 p2 p3=>.inr ⟨e1 ▸ h1,?_⟩⟩
  have h4:=h m p1 p2 p3
  generalize y.2=l at h4 hw
  cases l with
  | nil=>rw [h2] at hw;exact hw.elim
  | cons c l=>
   cases l with
   | nil=>
    obtain ⟨v',vs',F1,F2,q1,rfl,q3,q4⟩:=h4
    simp only[AN] at q1
    obtain ⟨rfl,rfl⟩:=q1
    obtain ⟨_,rfl⟩:=q4
    exact ⟨c,rfl,by simpa using q3⟩
   | cons _ _=>
    rw [h2] at hw
    have hw:wk1 _ _ False:=hw
    unfold wk1 at hw
    split at hw
    ·exact hw.elim
    ·exact hw.2.2.elim
theorem Zvl [NW] {B:Nat} {n:Nat→Prop}:∀{r res:List RT} {vs:List Value} {F:List Nat},OPs w B n r vs F→wkR r res→F.Nodup→∃F',F'.Sublist F∧∀m:Nat→Prop,(∀b∈F',n b→m b)→(∀b,m b→n b)→(∀b∈F,m b→b∈F')→OPs w B m res vs F'
 | [],[],vs,F,h,_,_=>⟨[],by simp,fun m _ _ _=>⟨h.1,rfl⟩⟩
 | [],_::_,_,_,_,h,_=>h.elim
 | _::_,[],_,_,_,h,_=>h.elim
 | x::r,y::res,_,_,⟨v,vs,F1,F2,rfl,rfl,h1,h2⟩,⟨e1,e2,hw⟩,hnd=>by
  rw [AP] at hnd
  obtain ⟨F2',s2,h2'⟩:=Zvl h2 hw hnd.2.1
  obtain ⟨F1',s1,h1'⟩:=Zzv h1 e1 e2 hnd.1
  refine ⟨F1'++F2',AX s1 s2,fun m m1 m2 m3=>⟨v,vs,F1',F2',rfl,rfl,h1' m (fun b mb=>m1 b (by simp [mb])) m2 (fun b mb hb=>?_),h2' m (fun b mb=>m1 b (by simp [mb])) m2 (fun b mb hb=>?_)⟩⟩
  ·rcases A5.1 (m3 b (by simp [mb]) hb) with h | h
   ·exact h
   ·exact absurd rfl (hnd.2.2 b mb b (s2.subset h))
  ·rcases A5.1 (m3 b (by simp [mb]) hb) with h | h
   ·exact absurd rfl (hnd.2.2 b (s1.subset h) b mb)
   ·exact h
def Zfj (tmps:Array Value):ResultVar→Sem Value
 | .tmp t=>pure (tmps.getD t undef)
 | .cell b t=>do loadVar t (←asAddr (tmps.getD b undef))
theorem Zio (fn:Func) (tmps:Array Value):results fn tmps=(do let vs ←fn.results.mapM (Zfj tmps);pure (if h:vs.size=1 then vs[0] else .tuple vs)):=by
 unfold results
 congr 1
theorem Zlk [NW] (htt:∀t i,tt t=some i→TOk P t i) (hI:HI W g st.ob w) (hS:∀t,SVR g w (st.sl t) (a.tmps.getD t undef)) (hU:StU U st) (hK:∀k,K k→Zjf (st.ob k)=false∧∀e m xs d,st.ob k=.row e m xs d→d=2):∀{rs:List ResultVar} {res:List RT} {ks:List Nat},ZbD tt st rs=some (res,ks)→(∀k∈ks,K k∧∀b∈g.O k++g.D k,W.heap.size≤b)→
  ∃vs:List Value,(rs.mapM (Zfj a.tmps)).run P w=.ok vs w∧OPs w W.heap.size (nK g K) res vs (g.F ks)
 | [],res,ks,h,_=>by
  simp only[ZbD,A0,A4] at h
  obtain ⟨rfl,rfl⟩:=h
  exact ⟨[],by simp,rfl,by simp [Gh.F]⟩
 | .tmp t::r,res,ks,h,hks=>by
  simp only[ZbD] at h
  split at h
  ·rename_i ag cs hsl
   obtain ⟨⟨c1,k1⟩,h1,h⟩:=AA.1 h
   obtain ⟨⟨c2,k2⟩,h2,h⟩:=A7.1 h
   simp only[A4] at h
   obtain ⟨rfl,rfl⟩:=h
   obtain ⟨vs,i1,i2⟩:=Zlk htt hI hS hU hK h2 (fun k mk=>hks k (by simp [mk]))
   have hs:=hS t
   rw [hsl] at hs
   refine ⟨a.tmps.getD t undef::vs,?_,_,vs,g.F k1,g.F k2,rfl,by simp [Gh.F],ZrH hI hK h1 (fun k mk=>hks k (by simp [mk])) hs,i2⟩
   simp only[Aj,Zfj,Sem.run_bind,Sem.run_pure,Result.andThen_ok,i1]
  ·simp at h
 | .cell t ty::r,res,ks,h,hks=>by
  simp only[ZbD] at h
  split at h
  ·rename_i ag cs hsl
   obtain ⟨⟨c1,k1⟩,h1,h⟩:=AA.1 h
   obtain ⟨⟨c2,k2⟩,h2,h⟩:=A7.1 h
   simp only[A4] at h
   obtain ⟨rfl,rfl⟩:=h
   obtain ⟨vs,i1,i2⟩:=Zlk htt hI hS hU hK h2 (fun k mk=>hks k (by simp [mk]))
   obtain ⟨cv,l1,l2,_⟩:=ZsY (P:=P) (U:=U) htt hI hU hsl (hS t)
   have hl:(do loadVar ty (←asAddr (a.tmps.getD t undef)):Sem Value).run P w=.ok cv w:=by
    have:∃b,a.tmps.getD t undef=.pointer (some b):=by
     have hs:=hS t
     cases hsl':st.sl t with
     | bp k off=>rw [hsl'] at hs;obtain ⟨b,_,hv⟩:=hs;exact ⟨_,hv⟩
     | rp k m i off=>rw [hsl'] at hs;obtain ⟨b,_,_,_,_,hv⟩:=hs;exact ⟨_,hv⟩
     | ep e off=>rw [hsl'] at hs;obtain ⟨b,_,_,_,hv,_⟩:=hs;exact ⟨_,hv⟩
     | p ag2 cs2=>
      rw [hsl'] at hs hsl
      cases ag2 with
      | true=>simp [Qt] at hsl
      | false=>
       cases cs2 with
       | nil=>simp [Qt] at hsl
       | cons y q=>
        cases q with
        | cons _ _=>cases y<;>first | (simp [Qt] at hsl;done) | (rename_i z;cases z<;>simp [Qt] at hsl)
        | nil=>cases y with
         | c z=>cases z with
          | pt e=>obtain ⟨b,_,_,hv,_⟩:=ZsS hs;exact ⟨_,hv⟩
          | _=>simp [Qt] at hsl
         | _=>simp [Qt] at hsl
     | _=>rw [hsl'] at hsl;simp [Qt] at hsl
    obtain ⟨b,hb⟩:=this
    rw [hb] at l1 ⊢
    simpa [Instr.loadAt,Instr.sureAddr,asAddr] using l1
   refine ⟨cv::vs,?_,_,vs,g.F k1,g.F k2,rfl,by simp [Gh.F],ZrH hI hK h1 (fun k mk=>hks k (by simp [mk])) l2,i2⟩
   have hl':(Zfj a.tmps (.cell t ty)).run P w=.ok cv w:=hl
   simp only[Aj,Sem.run_bind,hl',i1,Sem.run_pure,Result.andThen_ok]
  ·simp at h
theorem ZsL:∀{xs:List AV} {cts:List (Bool × CT)} {ks:List Nat},ZcI st xs=some (cts,ks)→∀k∈ks,∃e m xs,st.ob k=.row e m xs 2
 | [],_,_,h,k,mk=>by
  simp only[ZcI,A0,A4] at h
  rw [←h.2] at mk;simp at mk
 | x::r,cts,ks,h,k,mk=>by
  simp only[ZcI] at h
  obtain ⟨⟨c1,k1⟩,h1,h⟩:=AA.1 h
  obtain ⟨⟨c2,k2⟩,h2,h⟩:=A7.1 h
  simp only[A4] at h
  obtain ⟨rfl,rfl⟩:=h
  rcases A5.1 mk with mk | mk
  ·cases x with
   | c y=>cases y<;>simp only[ZeV,A0,A4] at h1<;>(rw [←h1.2] at mk;simp at mk)
   | row j=>
    simp only[ZeV] at h1
    split at h1
    ·rename_i e m xs d hk
     split at h1
     ·rename_i hd
      simp only[A0,A4] at h1
      rw [←h1.2] at mk
      simp at mk
      subst mk
      exact ⟨e,m,xs,by rw [hk,hd]⟩
     ·simp only[A0,A4] at h1
      rw [←h1.2] at mk;simp at mk
    ·simp only[A0,A4] at h1
     rw [←h1.2] at mk;simp at mk
    ·simp at h1
   | nil e m=>
    simp only[ZeV] at h1
    split at h1
    ·simp only[A0,A4] at h1
     rw [←h1.2] at mk;simp at mk
    ·simp at h1
   | n y=>
    simp only[ZeV,A0,A4] at h1
    rw [←h1.2] at mk;simp at mk
   | dead=>
    simp only[ZeV,A0,A4] at h1
    rw [←h1.2] at mk;simp at mk
  ·exact ZsL h2 k mk
theorem Zi4 [NW]:∀{rs:List ResultVar} {res:List RT} {ks:List Nat},ZbD tt st rs=some (res,ks)→∀k∈ks,∃e m xs,st.ob k=.row e m xs 2
 | [],_,_,h,k,mk=>by
  simp only[ZbD,A0,A4] at h
  rw [←h.2] at mk;simp at mk
 | .tmp t::r,res,ks,h,k,mk=>by
  simp only[ZbD] at h
  split at h
  ·obtain ⟨⟨c1,k1⟩,h1,h⟩:=AA.1 h
   obtain ⟨⟨c2,k2⟩,h2,h⟩:=A7.1 h
   simp only[A4] at h
   obtain ⟨rfl,rfl⟩:=h
   rcases A5.1 mk with mk | mk
   ·exact ZsL h1 k mk
   ·exact Zi4 h2 k mk
  ·simp at h
 | .cell t ty::r,res,ks,h,k,mk=>by
  simp only[ZbD] at h
  split at h
  ·obtain ⟨⟨c1,k1⟩,h1,h⟩:=AA.1 h
   obtain ⟨⟨c2,k2⟩,h2,h⟩:=A7.1 h
   simp only[A4] at h
   obtain ⟨rfl,rfl⟩:=h
   rcases A5.1 mk with mk | mk
   ·exact ZsL h1 k mk
   ·exact Zi4 h2 k mk
  ·simp at h
theorem ZwF [NW] {z:Nat→Prop} {x:Bool × List CT} {v:Value} (hg:∀b,g.own b→z b) (h:ZkB w z x v):SVR g w (.p x.1 (x.2.map .c)) v:=by
 rcases h with ⟨h1,vs,L,rfl,h2,h4⟩ | ⟨h1,ct,L,h2,h3,h4⟩
 ·rw [h1];exact ⟨vs,rfl,h2.avr fun b mb hb=>h4 b mb (hg b hb)⟩
 ·rw [h1,h2];exact ⟨_,rfl,L,h3,fun b mb hb=>h4 b mb (hg b hb)⟩
theorem Ztk [NW] {x:CT} {v:Value} {L:List Nat} (h:RC w x v L) (hL:∀b∈L,¬g.own b):AVR g w (Zim x) v:=by
 cases x with
 | nl e m=>exact h.1
 | _=>exact ⟨L,h,hL⟩
theorem Zrg [NW]:∀{e:List CT} {cs:List Value} {L:List Nat},RCs w e cs L→(∀b∈L,¬g.own b)→ZL (AVR g w) (e.map Zim) cs
 | [],_,_,⟨h1,h2⟩,_=>by subst h1;trivial
 | x::r,_,_,⟨v,cs,L1,L2,h1,h2,h3,h4⟩,hL=>by
  subst h1 h2
  exact ⟨Ztk h3 fun b m=>hL b (by simp [m]),Zrg h4 fun b m=>hL b (by simp [m])⟩
theorem ZmE [NW] {z:Nat→Prop} {x:Bool × List CT} {v:Value} (hg:∀b,g.own b→z b) (h:ZkB w z x v):SVR g w (.p x.1 (x.2.map Zim)) v:=by
 rcases h with ⟨h1,vs,L,rfl,h2,h4⟩ | ⟨h1,ct,L,h2,h3,h4⟩
 ·rw [h1];exact ⟨vs,rfl,Zrg h2 fun b mb hb=>h4 b mb (hg b hb)⟩
 ·rw [h1,h2];exact ⟨_,rfl,Ztk h3 fun b mb hb=>h4 b mb (hg b hb)⟩
theorem Zmr (e:List CT):Qn U (e.map Zim):=fun y m=>by
 obtain ⟨x,_,rfl⟩:=A8.1 m
 cases x<;>trivial
theorem ZrX [NW] (htt:∀t i,tt t=some i→TOk P t i) {fn:Func} {res:List RT} (hI:Inv W U st a w) (hH:HI W g st.ob w) (hS:∀t,SVR g w (st.sl t) (a.tmps.getD t undef)) {r:List RT} {ks:List Nat} (hx:ZbD tt st fn.results.toList=some (r,ks)) (hnd:ks.Nodup) (hw:wkR r res)
  (hB:∀k∈ks,∀b∈g.O k++g.D k,W.heap.size≤b) (K0:Nat→Prop) (hK0:∀k,K0 k→Zjf (st.ob k)=false∧∀e m xs d,st.ob k=.row e m xs d→d=2):
  ∃v m,(results fn a.tmps).run P w=.ok v w∧ZjD w W.heap.size m res v∧(∀b,m b→g.own b)∧(∀b,m b→g.Z b∨(∃k,(k∈ks∨K0 k)∧b∈g.O k))∧∀b,b∉g.F ks→(g.Z b∨∃k,K0 k∧b∈g.O k)→m b:=by
 obtain ⟨us,r1,r2⟩:=Zlk (K:=fun k=>k∈ks∨K0 k) htt hH hS hI.wf (fun k hk=>by
  rcases hk with hk | hk
  ·obtain ⟨e',m',xs',h'⟩:=Zi4 hx k hk
   refine ⟨by rw [h'];rfl,fun e m xs d he=>?_⟩
   rw [he] at h'
   simp only[Ob.row.injEq] at h'
   exact h'.2.2.2
  ·exact hK0 k hk) hx (fun k mk=>⟨.inl mk,hB k mk⟩)
 have hndF:=hH.nodupF hnd
 obtain ⟨F',s,hF⟩:=Zvl r2 hw hndF
 have hge:∀b∈g.F ks,W.heap.size≤b:=fun b mb=>by
  obtain ⟨k,hk,mk⟩:=Zi5 mb
  exact hB k hk b mk
 refine ⟨(if h:us.toArray.size=1 then us.toArray[0] else .tuple us.toArray),fun b=>nK g (fun k=>k∈ks∨K0 k) b∧(b∈g.F ks→b∈F'),?_,⟨us,F',hF _ (fun b mb hb=>⟨hb,fun _=>mb⟩) (fun b hb=>hb.1) (fun b mb hb=>hb.2 mb),⟨hndF.sublist s,fun b mb=>hge b (s.subset mb),fun b mb=>?_⟩,rfl⟩,fun b hb=>?_,fun b hb=>hb.1,fun b hb hn=>⟨?_,fun mb=>absurd mb hb⟩⟩
 ·rw [Zio]
  have e:fn.results.mapM (Zfj a.tmps)=Aa <$> fn.results.toList.mapM (Zfj a.tmps):=by
   rw [←List.mapM_toArray]
  have e2:(Aa <$> fn.results.toList.mapM (Zfj a.tmps)).run P w=.ok us.toArray w:=by
   rw [map_eq_pure_bind]
   simp only[Sem.run_bind,r1,Result.andThen_ok,Sem.run_pure]
  rw [e]
  simp only[Sem.run_bind,e2,Result.andThen_ok,Sem.run_pure]
 ·obtain ⟨k,hk,mk⟩:=Zi5 (s.subset mb)
  obtain ⟨e',m',xs',h'⟩:=Zi4 hx k hk
  have:=(hH.plain k b mk).2
  rw [h'] at this
  exact this
 ·rcases hb.1 with hz | ⟨k,_,mk⟩
  ·exact .inr hz
  ·exact .inl ⟨k,mk⟩
 ·rcases hn with hz | ⟨k,hk,mk⟩
  ·exact .inl hz
  ·exact .inr ⟨k,.inr hk,mk⟩
theorem ZqU [NW] {g':Gh} (hv:∀k e m xs,st.ob k=.row e m xs 2→g'.val k=g.val k∧U k) {x:AV} {v:Value} (h:AVR g w x v):AVR g' w (ZiH st x) v∧avU U (ZiH st x):=by
 have one:=h.one
 unfold ZiH
 split
 ·obtain ⟨L,⟨h1,_⟩,_⟩:=h
  exact ⟨⟨[],⟨h1,rfl⟩,by simp⟩,trivial⟩
 ·obtain ⟨L,⟨h1,_⟩,_⟩:=h
  exact ⟨⟨[],⟨h1,rfl⟩,by simp⟩,trivial⟩
 ·obtain ⟨L,⟨h1,_,h3⟩,_⟩:=h
  exact ⟨⟨[],⟨h1,rfl,h3⟩,by simp⟩,trivial⟩
 ·rename_i k
  cases hk:st.ob k with
  | row e m xs d=>
   simp only[Ztb]
   split
   ·rename_i hd
    subst hd
    obtain ⟨e1,e2⟩:=hv k e m xs hk
    exact ⟨⟨h.1.trans e1.symm,one⟩,e2⟩
   ·exact ⟨one,trivial⟩
  | gone=>exact ⟨one,trivial⟩
  | box _ _=>exact ⟨one,trivial⟩
  | map _ _ _=>exact ⟨one,trivial⟩
 ·exact ⟨one,trivial⟩
theorem ZjT [NW] {g':Gh} (hv:∀k e m xs,st.ob k=.row e m xs 2→g'.val k=g.val k∧U k):∀{cs:List AV} {vs:List Value},ZL (AVR g w) cs vs→ZL (AVR g' w) (cs.map (ZiH st)) vs
 | [],[],_=>trivial
 | _::_,_::_,h=>⟨(ZqU hv h.1).1,ZjT hv h.2⟩
 | [],_::_,h=>h.elim
 | _::_,[],h=>h.elim
theorem Zwo [NW] {x:SV} {v:Value} {g':Gh} (hv:∀k e m xs,st.ob k=.row e m xs 2→g'.val k=g.val k∧U k) (hu:svU U x) (hvu:∀k,U k→g'.val k=g.val k) (h:SVR g w x v):SVR g' w (ZoD st x) v:=by
 cases x with
 | p ag cs=>
  cases ag with
  | true=>obtain ⟨vs,e,h⟩:=h;exact ⟨vs,e,ZjT hv h⟩
  | false=>obtain ⟨y,rfl,h⟩:=h;exact ⟨_,rfl,(ZqU hv h).1⟩
 | bp k off=>obtain ⟨b,h1,h2⟩:=h;exact ⟨b,(hvu k hu).trans h1,h2⟩
 | _=>trivial
theorem Ztt (hv:∀k e m xs,st.ob k=.row e m xs 2→U k) (x:AV):avU U (ZiH st x):=by
 unfold ZiH
 split
 ·trivial
 ·trivial
 ·trivial
 ·rename_i k
  cases hk:st.ob k with
  | row e m xs d=>
   simp only[Ztb]
   split
   ·rename_i hd
    subst hd
    exact hv k e m xs hk
   ·trivial
  | gone=>trivial
  | box _ _=>trivial
  | map _ _ _=>trivial
 ·trivial
theorem Zw8 (hv:∀k e m xs,st.ob k=.row e m xs 2→U k) (x:SV) (hu:svU U x):svU U (ZoD st x):=by
 cases x with
 | p ag cs=>
  intro y my
  obtain ⟨x,mx,rfl⟩:=A8.1 my
  exact Ztt hv x
 | bp k off=>exact hu
 | _=>trivial
theorem Zl6 {o:Ob} (h:Zan st o≠.gone):(∃e m xs,o=.row e m xs 2)∨∃t cs,o=.box t cs:=by
 cases o with
 | row e m xs d=>
  simp only[Zan] at h
  split at h
  ·rename_i hd
   subst hd
   exact .inl ⟨e,m,xs,rfl⟩
  ·exact absurd rfl h
 | gone=>exact absurd rfl h
 | box t cs=>exact .inr ⟨t,cs,rfl⟩
 | map _ _ _=>exact absurd rfl h
theorem ZvH [NW] (hB:W.heap.size≤NW.B0) (t:Nat) (hI:Inv W U st a w) (hkn:∀k,st.n≤k→¬U k):∃U',Inv W U' (st.thaw t) a w:=by
 obtain ⟨⟨g,hH,hS⟩,hU,hdef,hh⟩:=hI
 unfold St.thaw
 cases hv:st.sl t with
 | p ag cs=>
  by_cases hc:∃e m xs,ag=false∧cs=[.n (.sl e m xs)]
  ·obtain ⟨e,m,xs,rfl,rfl⟩:=hc
   have hs:=hS t
   rw [hv] at hs
   obtain ⟨_,_,_,cs,L,h1,h2,h3,h4,h5,h6⟩:=ZD0 hs
   simp only[CT.sl.injEq] at h1
   obtain ⟨rfl,rfl,rfl⟩:=h1
   let v:=a.tmps.getD t undef
   have hn:st.ob st.n=.gone:=hU.gone _ (hkn _ (AB _))
   have hrow:∀k e m xs,st.ob k=.row e m xs 2→k≠st.n∧U k:=fun k e m xs hk=>⟨fun e=>by rw [e,hn] at hk;simp at hk,Classical.byContradiction fun h=>by rw [hU.gone k h] at hk;simp at hk⟩
   let g':Gh:=⟨fun k=>if k=st.n then v else g.val k,fun k=>if k=st.n then v.ownBlock.toList else (match Zan st (st.ob k) with | .gone=>[] | _=>g.O k),fun k=>if k=st.n then L else (match Zan st (st.ob k) with | .gone=>[] | _=>g.D k),g.Z⟩
   have gn:g'.val st.n=v∧g'.O st.n=v.ownBlock.toList∧g'.D st.n=L:=⟨if_pos rfl,if_pos rfl,if_pos rfl⟩
   have gk:∀k,k≠st.n→Zan st (st.ob k)≠.gone→g'.O k=g.O k∧g'.D k=g.D k:=fun k hk ho=>by
    rcases Zl6 ho with ⟨e',m',xs',e1⟩ | ⟨t',cs',e1⟩
    ·simp [g',if_neg hk,e1,Zan]
    ·simp [g',if_neg hk,e1,Zan]
   have gg:∀k,k≠st.n→Zan st (st.ob k)=.gone→g'.O k=[]∧g'.D k=[]:=fun k hk ho=>by
    simp only[g',if_neg hk,ho]
    exact ⟨trivial,trivial⟩
   have hOD:∀k b,b∈g'.O k++g'.D k→(k=st.n∧b∈v.ownBlock.toList++L)∨(k≠st.n∧Zan st (st.ob k)≠.gone∧b∈g.O k++g.D k):=fun k b mb=>by
    by_cases hk:k=st.n
    ·subst hk;rw [gn.2.1,gn.2.2] at mb;exact .inl ⟨rfl,mb⟩
    ·by_cases ho:Zan st (st.ob k)=.gone
     ·rw [(gg k hk ho).1,(gg k hk ho).2] at mb;simp at mb
     ·rw [(gk k hk ho).1,(gk k hk ho).2] at mb;exact .inr ⟨hk,ho,mb⟩
   have hlow:∀k b,b∈g.O k++g.D k→g.low b:=fun k b mb=>by
    rcases A5.1 mb with m1 | m1
    ·exact .inl (.inl ⟨k,m1⟩)
    ·exact .inr ⟨k,m1⟩
   refine ⟨fun k=>U k∨k=st.n,⟨g',⟨hH.below,fun k=>?_,fun k=>?_,fun k j hkj b mb mj=>?_,fun k b mb=>?_,hH.gz,hH.zx,hH.nw⟩,fun s=>?_⟩,⟨fun s=>?_,fun k=>?_,fun k hk=>?_⟩,hdef,hh⟩
   ·show ObR g' w k (if k=st.n then .row e m xs 2 else Zan st (st.ob k))
    by_cases hk:k=st.n
    ·subst hk
     rw [if_pos rfl]
     exact ⟨h2,cs,L,by rw [gn.1];exact h3,h4,.inl ⟨rfl,by rw [gn.2.1,gn.1],gn.2.2⟩⟩
    ·rw [if_neg hk]
     by_cases ho:Zan st (st.ob k)=.gone
     ·rw [ho];exact gg k hk ho
     ·have hob:=hH.obs k
      have ev:g'.val k=g.val k:=if_neg hk
      obtain ⟨eO,eD⟩:=gk k hk ho
      rcases Zl6 ho with ⟨e',m',xs',e1⟩ | ⟨t',cs',e1⟩
      ·rw [e1] at hob ⊢
       obtain ⟨p1,cs',L',p2,p3,p4⟩:=hob
       rw [show Zan st (.row e' m' xs' 2)=.row e' m' xs' 2 from by simp [Zan]]
       refine ⟨p1,cs',L',by rw [ev];exact p2,p3,?_⟩
       rw [ev,eO,eD]
       rcases p4 with p4 | ⟨q,_⟩ | ⟨q,_⟩
       ·exact .inl p4
       ·omega
       ·omega
      ·rw [e1] at hob ⊢
       obtain ⟨b,vs,p1,p2,p3,p4,p5⟩:=hob
       exact ⟨b,vs,ev.trans p1,eO.trans p2,eD.trans p3,p4,ZjT (U:=U) (fun k e m xs hk=>⟨if_neg (hrow k e m xs hk).1,(hrow k e m xs hk).2⟩) p5⟩
   ·by_cases hk:k=st.n
    ·subst hk;rw [gn.2.1,gn.2.2];exact h5
    ·by_cases ho:Zan st (st.ob k)=.gone
     ·rw [(gg k hk ho).1,(gg k hk ho).2];simp
     ·rw [(gk k hk ho).1,(gk k hk ho).2];exact hH.nodup k
   ·rcases hOD k b mb with ⟨rfl,m1⟩ | ⟨k1,k2,m1⟩
    ·rcases hOD j b mj with ⟨rfl,m2⟩ | ⟨j1,j2,m2⟩
     ·exact hkj rfl
     ·exact (h6 b m1).1 (hlow j b m2)
    ·rcases hOD j b mj with ⟨rfl,m2⟩ | ⟨j1,j2,m2⟩
     ·exact (h6 b m2).1 (hlow k b m1)
     ·exact hH.apart k j hkj b m1 m2
   ·show _∧Xx w (if k=st.n then .row e m xs 2 else Zan st (st.ob k)) b
    rcases hOD k b mb with ⟨rfl,m1⟩ | ⟨k1,k2,m1⟩
    ·rw [if_pos rfl]
     exact ⟨.inl (Nat.le_trans hB (h6 b m1).2.1),(h6 b m1).2.2⟩
    ·obtain ⟨q1,q2⟩:=hH.plain k b m1
     rw [if_neg k1]
     refine ⟨q1,q2.of ?_⟩
     rcases Zl6 k2 with ⟨e',m',xs',e1⟩ | ⟨t',cs',e1⟩
     ·rw [e1];rfl
     ·rw [e1];rfl
   ·show SVR g' w (if s=t then .p false [.row st.n] else ZoD st (st.sl s)) _
    by_cases hs':s=t
    ·subst hs'
     rw [if_pos rfl]
     obtain ⟨A,cap,hval⟩:=Zax h3
     exact ⟨_,rfl,gn.1.symm,by rw [hval];rfl⟩
    ·rw [if_neg hs']
     exact Zwo (U:=U) (fun k e m xs hk=>⟨if_neg (hrow k e m xs hk).1,(hrow k e m xs hk).2⟩) (hU.sl s) (fun k hk=>if_neg fun e=>hkn k (by omega) hk) (hS s)
   ·show svU _ (if s=t then .p false [.row st.n] else ZoD st (st.sl s))
    by_cases hs':s=t
    ·rw [if_pos hs'];intro y my;simp at my;subst my;exact .inr rfl
    ·rw [if_neg hs'];exact Zw8 (fun k e m xs hk=>.inl (hrow k e m xs hk).2) _ ((hU.sl s).mono fun _=>.inl)
   ·show obU _ (if k=st.n then .row e m xs 2 else Zan st (st.ob k))
    split
    ·trivial
    ·cases hk:st.ob k with
     | row e' m' xs' d'=>simp only[Zan];split<;>trivial
     | box t' cs'=>
      intro y my
      obtain ⟨x,mx,rfl⟩:=A8.1 my
      exact Ztt (fun k e m xs hk=>.inl (hrow k e m xs hk).2) x
     | _=>trivial
   ·show (if k=st.n then .row e m xs 2 else Zan st (st.ob k))=.gone
    rw [if_neg fun e=>hk (.inr e),hU.gone k fun h=>hk (.inl h)]
    rfl
  ·have e:Zqr st t (.p ag cs)=st:=by
    unfold Zqr
    split
    ·rename_i h
     simp only[SV.p.injEq] at h
     exact absurd ⟨_,_,_,h.1,h.2⟩ hc
    ·rfl
   rw [e]
   exact ⟨U,⟨g,hH,hS⟩,hU,hdef,hh⟩
 | _=>exact ⟨U,⟨g,hH,hS⟩,hU,hdef,hh⟩
end
abbrev nw0:NW:=⟨0⟩
section
variable {P:Program} {J:World→Prop} {JF:Nat→Prop} {W:Zaa} {U:Nat→Prop} {st:St} {w w':World} {a:Act} {tt:Nat→Option TI} {od:OD} {g:Gh}
structure JOk (J:World→Prop) (JF:Nat→Prop):Prop where
 below:∀(x:Nat→Prop) (w w':World),J w→(∀b,x b→JF b)→w'.os=w.os→w'.tape=w.tape→w'.output=w.output→w.heap.size≤w'.heap.size→(∀k,k<w.heap.size→¬x k→w'.heap[k]?=w.heap[k]?)→J w'
 new:∀(w:World) b,J w→w.heap.size≤b→JF b
theorem Ze0 {args:List (Bool × List CT)} {vs:List Value} {N t o:Nat} (h:vs.length≤N) (v:Value) (hv:vs[t]?=some v):(vs.toArray++AC (N - vs.toArray.size) undef).getD t undef=v:=by
 have hl:t<vs.length:=(AG.1 hv).1
 simp only[AE,Ak,Al,hl,if_true,List.getElem?_toArray,hv,AW]
theorem Zi6 {vs:List Value} {N t:Nat} (ht:vs.length≤t):(vs.toArray++AC (N - vs.toArray.size) undef).getD t undef=undef:=by
 simp only[AE,Ak,Al,show ¬t<vs.length by omega,if_false,Array.getElem?_replicate]
 split<;>rfl
theorem Zv4 (htt : ∀ t i, tt t = some i → TOk P t i) (hJ : JOk J JF) (hmix : P.follows .mixedOrders = true) {hds : FuncId → Nat} {f : FuncId} {fn : Func} {c : Code} {args : List (Bool × List CT)} {res : List RT} (hf : P.funcs[f]? = some fn) (hname : (fn.name == "runtime.NumGoroutine") = false) (hb : fn.body = some c)
  (hok:Xh od tt hds false fn.ntmps c=true) (hlen:Nat.ble args.length fn.ntmps=true) (h:fnS od tt (SC P J JF hds) fn.results.toList c args res):Zk P J f args res:=by
 letI:NW:=nw0
 refine ⟨⟨fn,hf,hname,by rw [hb];rfl⟩,fun w z vs hj hz hargs=>?_⟩
 have hlen':args.length≤fn.ntmps:=A9 hlen
 have hvl:=hargs.len
 refine calls_of_wp hf hb ?_
 let W:Zaa:={ w with z:=z,x:=fun _=>False,hv:=none }
 let g0:Gh:=⟨fun _=>undef,fun _=>[],fun _=>[],z⟩
 have hg0:∀b,g0.own b→z b:=fun b hb=>by
  rcases hb with ⟨k,m⟩ | h
  ·simp [g0] at m
  ·exact h
 have hI0:Inv W (fun _=>False) (Zm args) { tmps:=vs.toArray++AC (fn.ntmps - vs.toArray.size) undef,defers:=[] } w:=by
  refine ⟨⟨g0,⟨⟨rfl,rfl,rfl,AB _,fun _ _ _=>rfl⟩,fun k=>⟨rfl,rfl⟩,fun k=>by simp [g0],fun k j _ b m=>by simp [g0] at m,fun k b m=>by simp [g0] at m,rfl,fun b hb=>⟨hz b hb,fun h=>h⟩,fun _ _=>Ab _⟩,fun t=>?_⟩,⟨fun t=>?_,fun k=>trivial,fun k _=>rfl⟩,rfl,fun v hv=>by simp [W] at hv⟩
  ·show SVR g0 w (match args[t]? with | some x=>.p x.1 (x.2.map Zim) | none=>.und) _
   cases ht:args[t]? with
   | none=>exact Zi6 (by have:args.length≤t:=(by simpa using ht);omega)
   | some x=>
    obtain ⟨v,hv,hr⟩:=hargs.at ht
    show SVR g0 w (.p x.1 (x.2.map Zim)) ((vs.toArray++AC (fn.ntmps - vs.toArray.size) undef).getD t undef)
    rw [Ze0 (args:=args) (o:=0) (by omega) v hv]
    exact ZmE hg0 hr
  ·show svU _ (match args[t]? with | some x=>.p x.1 (x.2.map Zim) | none=>.und)
   split
   ·exact Zmr _
   ·trivial
 have hM:MOk P J JF W tt:=⟨htt,fun w' hb=>hJ.below (fun _=>False) w w' hj (fun _ h=>h.elim) hb.os hb.tape hb.output hb.size (fun k hk hx=>hb.block k hk hx),fun b hb=>hJ.new w b hj hb,fun b h=>h.elim⟩
 refine Qo (W:=W) hM hmix (.inl rfl) c hok (Zrj tt fn.results.toList fun _ r _=>wkR r res) _ ?_ _ (Zm args) _ w hI0 (fun _ _ h=>h) (by simp;omega) h
 intro ex U' st' a' w' hI' _ _ hK
 have fin:(match ZbD tt st' fn.results.toList with | some x=>x.2.Nodup∧wkR x.1 res | none=>False)→a'.defers=[]∧∃v,(results fn a'.tmps).run P w'=.ok v w'∧∃u n,Ending.returned v=.returned u∧ZjD w' w.heap.size n res u∧(∀b,z b→n b)∧Below w.heap.size w w':=fun hK=>by
  split at hK
  ·rename_i x hx
   obtain ⟨r,ks⟩:=x
   obtain ⟨hnd,hw⟩:=hK
   obtain ⟨g,hH,hS⟩:=hI'.ex
   have hBg:∀k∈ks,∀b∈g.O k++g.D k,W.heap.size≤b:=fun k _ b mb=>(hH.plain k b mb).1.resolve_right fun h=>h
   obtain ⟨v,m,e1,e2,_,_,e4⟩:=ZrX htt hI' hH hS hx hnd hw hBg (fun _=>False) (fun _ h=>h.elim)
   have hbel:=hH.below
   exact ⟨hI'.defers,v,e1,v,m,rfl,e2,fun b hb=>e4 b (fun mb=>by obtain ⟨k,hk,mk⟩:=Zi5 mb;have:=hBg k hk b mk;have:=hz b hb;have e:W.heap.size=w.heap.size:=rfl;omega) (.inl (by rw [hH.gz];exact hb)),hbel.os,hbel.tape,hbel.output,hbel.size,fun k hk=>hbel.block k hk fun h=>h⟩
  ·exact hK.elim
 cases ex with
 | normal=>exact fin hK
 | exit id=>exact hK.elim
 | ret=>exact fin hK
theorem ZuH (htt : ∀ t i, tt t = some i → TOk P t i) (hJ : JOk J JF) (hmix : P.follows .mixedOrders = true) {hds : FuncId → Nat} {f : FuncId} {fn : Func} {c : Code} {args : List (Bool × List CT)} {res : List RT} (hf : P.funcs[f]? = some fn) (hname : (fn.name == "runtime.NumGoroutine") = false) (hb : fn.body = some c)
  (hok:Xh od tt hds false fn.ntmps c=true) (hlen:Nat.ble args.length fn.ntmps=true) (t0:Nat) (h:fnN od tt (SC P J JF hds) fn.results.toList t0 c args res):Zk P J f args res:=by
 refine ⟨⟨fn,hf,hname,by rw [hb];rfl⟩,fun w z vs hj hz hargs=>?_⟩
 letI:NW:=⟨w.heap.size⟩
 have hlen':args.length≤fn.ntmps:=A9 hlen
 have hvl:=hargs.len
 refine calls_of_wp hf hb ?_
 let W:Zaa:={ w with z:=z,x:=fun _=>False,hv:=none }
 let g0:Gh:=⟨fun _=>undef,fun _=>[],fun _=>[],z⟩
 have hg0:∀b,g0.own b→z b:=fun b hb=>by
  rcases hb with ⟨k,m⟩ | h
  ·simp [g0] at m
  ·exact h
 have hI0:Inv W (fun _=>False) (Zm args) { tmps:=vs.toArray++AC (fn.ntmps - vs.toArray.size) undef,defers:=[] } w:=by
  refine ⟨⟨g0,⟨⟨rfl,rfl,rfl,AB _,fun _ _ _=>rfl⟩,fun k=>⟨rfl,rfl⟩,fun k=>by simp [g0],fun k j _ b m=>by simp [g0] at m,fun k b m=>by simp [g0] at m,rfl,fun b hb=>⟨hz b hb,fun h=>h⟩,fun b hb=>hb.elim (fun h=>h) fun h=>h.elim⟩,fun t=>?_⟩,⟨fun t=>?_,fun k=>trivial,fun k _=>rfl⟩,rfl,fun v hv=>by simp [W] at hv⟩
  ·show SVR g0 w (match args[t]? with | some x=>.p x.1 (x.2.map Zim) | none=>.und) _
   cases ht:args[t]? with
   | none=>exact Zi6 (by have:args.length≤t:=(by simpa using ht);omega)
   | some x=>
    obtain ⟨v,hv,hr⟩:=hargs.at ht
    show SVR g0 w (.p x.1 (x.2.map Zim)) ((vs.toArray++AC (fn.ntmps - vs.toArray.size) undef).getD t undef)
    rw [Ze0 (args:=args) (o:=0) (by omega) v hv]
    exact ZmE hg0 hr
  ·show svU _ (match args[t]? with | some x=>.p x.1 (x.2.map Zim) | none=>.und)
   split
   ·exact Zmr _
   ·trivial
 have hM:MOk P J JF W tt:=⟨htt,fun w' hb=>hJ.below (fun _=>False) w w' hj (fun _ h=>h.elim) hb.os hb.tape hb.output hb.size (fun k hk hx=>hb.block k hk hx),fun b hb=>hJ.new w b hj hb,fun b h=>h.elim⟩
 refine Qo (W:=W) hM hmix (.inl rfl) c hok (ZwX t0 (Zrj tt fn.results.toList fun _ r _=>wkR r res)) _ ?_ _ (Zm args) _ w hI0 (fun _ _ h=>h) (by simp;omega) h
 intro ex U1 st1 a' w' hI1 hn1 _ hK
 obtain ⟨U',hI'⟩:=ZvH (AB _) t0 hI1 hn1
 generalize hst:st1.thaw t0=st' at hI'
 simp only[ZwX,hst] at hK
 have fin:(match ZbD tt st' fn.results.toList with | some x=>x.2.Nodup∧wkR x.1 res | none=>False)→a'.defers=[]∧∃v,(results fn a'.tmps).run P w'=.ok v w'∧∃u n,Ending.returned v=.returned u∧ZjD w' w.heap.size n res u∧(∀b,z b→n b)∧Below w.heap.size w w':=fun hK=>by
  split at hK
  ·rename_i x hx
   obtain ⟨r,ks⟩:=x
   obtain ⟨hnd,hw⟩:=hK
   obtain ⟨g,hH,hS⟩:=hI'.ex
   have hBg:∀k∈ks,∀b∈g.O k++g.D k,W.heap.size≤b:=fun k _ b mb=>(hH.plain k b mb).1.resolve_right fun h=>h
   obtain ⟨v,m,e1,e2,_,_,e4⟩:=ZrX htt hI' hH hS hx hnd hw hBg (fun _=>False) (fun _ h=>h.elim)
   have hbel:=hH.below
   exact ⟨hI'.defers,v,e1,v,m,rfl,e2,fun b hb=>e4 b (fun mb=>by obtain ⟨k,hk,mk⟩:=Zi5 mb;have:=hBg k hk b mk;have:=hz b hb;have e:W.heap.size=w.heap.size:=rfl;omega) (.inl (by rw [hH.gz];exact hb)),hbel.os,hbel.tape,hbel.output,hbel.size,fun k hk=>hbel.block k hk fun h=>h⟩
  ·exact hK.elim
 cases ex with
 | normal=>exact fin hK
 | exit id=>exact hK.elim
 | ret=>exact fin hK
theorem ZtB (htt : ∀ t i, tt t = some i → TOk P t i) (hJ : JOk J JF) (hmix : P.follows .mixedOrders = true) {hds : FuncId → Nat} {f : FuncId} {fn : Func} {c : Code} {args : List (Bool × List CT)} {nb : NB} (hf : P.funcs[f]? = some fn) (hname : (fn.name == "runtime.NumGoroutine") = false) (hb : fn.body = some c)
  (hok:Xh od tt hds false fn.ntmps c=true) (hlen:Nat.ble args.length fn.ntmps=true) (h:fnB od tt (SC P J JF hds) fn.results.toList c args nb):Zmx P J f args nb:=by
 letI:NW:=nw0
 refine ⟨⟨fn,hf,hname,by rw [hb];rfl⟩,fun w z vs hj hz hargs=>?_⟩
 have hlen':args.length≤fn.ntmps:=A9 hlen
 have hvl:=hargs.len
 refine calls_of_wp hf hb ?_
 let W:Zaa:={ w with z:=z,x:=fun _=>False,hv:=none }
 let g0:Gh:=⟨fun _=>undef,fun _=>[],fun _=>[],z⟩
 have hg0:∀b,g0.own b→z b:=fun b hb=>by
  rcases hb with ⟨k,m⟩ | h
  ·simp [g0] at m
  ·exact h
 have hI0:Inv W (fun _=>False) (Zm args) { tmps:=vs.toArray++AC (fn.ntmps - vs.toArray.size) undef,defers:=[] } w:=by
  refine ⟨⟨g0,⟨⟨rfl,rfl,rfl,AB _,fun _ _ _=>rfl⟩,fun k=>⟨rfl,rfl⟩,fun k=>by simp [g0],fun k j _ b m=>by simp [g0] at m,fun k b m=>by simp [g0] at m,rfl,fun b hb=>⟨hz b hb,fun h=>h⟩,fun _ _=>Ab _⟩,fun t=>?_⟩,⟨fun t=>?_,fun k=>trivial,fun k _=>rfl⟩,rfl,fun v hv=>by simp [W] at hv⟩
  ·show SVR g0 w (match args[t]? with | some x=>.p x.1 (x.2.map Zim) | none=>.und) _
   cases ht:args[t]? with
   | none=>exact Zi6 (by have:args.length≤t:=(by simpa using ht);omega)
   | some x=>
    obtain ⟨v,hv,hr⟩:=hargs.at ht
    show SVR g0 w (.p x.1 (x.2.map Zim)) ((vs.toArray++AC (fn.ntmps - vs.toArray.size) undef).getD t undef)
    rw [Ze0 (args:=args) (o:=0) (by omega) v hv]
    exact ZmE hg0 hr
  ·show svU _ (match args[t]? with | some x=>.p x.1 (x.2.map Zim) | none=>.und)
   split
   ·exact Zmr _
   ·trivial
 have hM:MOk P J JF W tt:=⟨htt,fun w' hb=>hJ.below (fun _=>False) w w' hj (fun _ h=>h.elim) hb.os hb.tape hb.output hb.size (fun k hk hx=>hb.block k hk hx),fun b hb=>hJ.new w b hj hb,fun b h=>h.elim⟩
 refine Qo (W:=W) hM hmix (.inl rfl) c hok (ZwE fn.results.toList nb) _ ?_ _ (Zm args) _ w hI0 (fun _ _ h=>h) (by simp;omega) h
 intro ex U' st' a' w' hI' _ _ hK
 have fin:Zft st' fn.results.toList nb→a'.defers=[]∧∃v,(results fn a'.tmps).run P w'=.ok v w'∧∃(b:Nat) (n:Nat→Prop),Ending.returned v=.returned (Zol b nb)∧w.heap.size≤b∧nbR w' n b nb∧n b∧(∀x,z x→n x)∧Below w.heap.size w w':=fun hK=>by
  unfold Zft at hK
  split at hK
  ·rename_i s hrs
   have er:fn.results=#[.tmp s]:=by
    have:=congrArg Aa hrs
    simpa using this
   obtain ⟨g,hH,hS⟩:=hI'.ex
   have hs:=hS s
   have hbel:=hH.below
   cases nb with
   | box t cs=>
    obtain ⟨k,ds,k1,k2,k3,k4⟩:=hK
    rw [k1] at hs
    obtain ⟨b,b1,b2⟩:=hs
    have hob:=hH.obs k
    rw [k2] at hob
    obtain ⟨b',us,o1,o2,o3,o4,o5⟩:=hob
    have hbb:b'=b:=by rw [b1] at o1;simpa using o1.symm
    subst hbb
    obtain ⟨L,hL,hL2⟩:=ZeF hH k4 o5
    have hno:=hL2 fun y my=>by
     have:=AF.1 k3 y my
     cases y<;>simp [Zaw] at this<;>trivial
    refine ⟨hI'.defers,_,?_,b',fun x=>g.own x,rfl,(hH.plain k b' (by simp [o2])).1.resolve_right fun h=>h,⟨us,L,o4,hL,hno⟩,.inl ⟨k,by simp [o2]⟩,fun x hx=>.inr (by rw [hH.gz];exact hx),hbel.os,hbel.tape,hbel.output,hbel.size,fun k hk=>hbel.block k hk fun h=>h⟩
    rw [Zio,er]
    simp [Zfj,b2,Zol]
   | map kk vk kv=>
    obtain ⟨k,k1,k2⟩:=hK
    rw [k1] at hs
    obtain ⟨x,hx,hx3⟩:=hs
    simp only[AN,and_true] at hx
    subst hx
    obtain ⟨hx2,_⟩:=hx3
    have hob:=hH.obs k
    rw [k2] at hob
    obtain ⟨b,es,c,o1,o2,o3,o4,o5⟩:=hob
    refine ⟨hI'.defers,_,?_,b,fun x=>g.own x,rfl,(hH.plain k b (by simp [o2])).1.resolve_right fun h=>h,⟨es,c,o4,o5⟩,.inl ⟨k,by simp [o2]⟩,fun x hx=>.inr (by rw [hH.gz];exact hx),hbel.os,hbel.tape,hbel.output,hbel.size,fun k hk=>hbel.block k hk fun h=>h⟩
    rw [Zio,er]
    simp [Zfj,hx2,o1,Zol]
  ·exact hK.elim
 cases ex with
 | normal=>exact fin hK
 | exit id=>exact hK.elim
 | ret=>exact fin hK
theorem ZtM (htt : ∀ t i, tt t = some i → TOk P t i) (hJ : JOk J JF) (hmix : P.follows .mixedOrders = true) {hds : FuncId → Nat} {f : FuncId} {fn : Func} {c : Code} {h h' : ZgU} {args : List (Bool × List CT)} {res : List RT} (hf : P.funcs[f]? = some fn) (hname : (fn.name == "runtime.NumGoroutine") = false) (hb : fn.body = some c)
  (hok:Xh od tt hds true fn.ntmps c=true) (hlen:Nat.blt args.length fn.ntmps=true) (hh:fnH od tt (SC P J JF hds) fn.results.toList c h args res h'):Zbx P J JF f h args res h':=by
 letI:NW:=nw0
 refine ⟨⟨fn,hf,hname,by rw [hb];rfl⟩,fun w z q v0 vs hj hqf hz hhand hargs=>?_⟩
 have hlen':args.length<fn.ntmps:=A9 hlen
 have hvl:=hargs.len
 refine calls_of_wp hf hb ?_
 let W:Zaa:={ w with z:=z,x:=fun b=>q=some b,hv:=some v0 }
 let g0:Gh:=⟨fun k=>if k=0 then v0 else undef,fun k=>if k=0 then q.toList else [],fun _=>[],z⟩
 have hg0:∀b,g0.own b→inQ z q b:=fun b hb=>by
  rcases hb with ⟨k,m⟩ | h
  ·simp only[g0] at m
   split at m
   ·exact .inr (by simpa using m)
   ·simp at m
  ·exact .inl h
 have hqlt:∀b,q=some b→∃cur e,w.heap[b]?=some (.cells cur e (0,0)):=fun b hb=>by
  cases h with
  | row e m xs=>
   obtain ⟨_,_,h3,cs,h4,_⟩:=hhand
   rcases h4.2 with ⟨h0,_⟩ | ⟨gg,o,cap,cur,hv,_,hcc,_⟩
   ·rw [h0] at h3;simp [Value.ownBlock] at h3;rw [←h3] at hb;simp at hb
   ·rw [hv] at h3;simp only[Value.ownBlock] at h3;rw [hb] at h3;simp at h3;subst h3;exact ⟨_,_,hcc⟩
  | box t cs=>
   obtain ⟨b',vs,L,h1,h2,h3,_⟩:=hhand
   rw [hb] at h1;simp at h1;subst h1
   exact ⟨_,_,h3⟩
 have hob0:ObR g0 w 0 (Xp h):=by
  cases h with
  | row e m xs=>
   obtain ⟨h1,h2,h3,cs,h4,h5⟩:=hhand
   exact ⟨h2,cs,[],by simpa [g0] using h4,h5,.inl ⟨rfl,by simp [g0,h3],by simp [g0]⟩⟩
  | box t cs=>
   obtain ⟨b,vs,L,h1,h2,h3,h4,h5⟩:=hhand
   exact ⟨b,vs,by simpa [g0] using h2,by simp [g0,h1],by simp [g0],h3,h4.avr fun x mx hx=>h5 x mx (hg0 x hx)⟩
 have hsv0:SVR g0 w (Zdg h) v0:=by
  cases h with
  | row e m xs=>
   obtain ⟨h1,h2,h3,cs,h4,h5⟩:=hhand
   obtain ⟨A,cap,hv⟩:=Zax h4
   exact ⟨_,rfl,by simp [g0],by simp [hv,Value.oneCell']⟩
  | box t cs=>
   obtain ⟨b,vs,L,h1,h2,h3,h4,h5⟩:=hhand
   exact ⟨b,by simpa [g0] using h2,h2⟩
 have hI0:Inv W (fun k=>k=0) (Zdh h args) { tmps:=(v0::vs).toArray++AC (fn.ntmps - (v0::vs).toArray.size) undef,defers:=[] } w:=by
  refine ⟨⟨g0,⟨⟨rfl,rfl,rfl,AB _,fun _ _ _=>rfl⟩,fun k=>?_,fun k=>?_,fun k j hkj b m=>?_,fun k b m=>?_,rfl,fun b hb=>⟨(hz b hb).1,(hz b hb).2⟩,fun _ _=>Ab _⟩,fun t=>?_⟩,⟨fun t=>?_,fun k=>?_,fun k hk=>by simp [Zdh,hk]⟩,rfl,fun v hv=>?_⟩
  ·show ObR g0 w k (if k=0 then Xp h else .gone)
   by_cases hk:k=0
   ·subst hk;exact hob0
   ·rw [if_neg hk];exact ⟨by simp [g0,hk],rfl⟩
  ·by_cases hk:k=0
   ·subst hk;cases q<;>simp [g0]
   ·simp [g0,hk]
  ·by_cases hk:k=0
   ·have:¬j=0:=fun e=>hkj (by omega)
    simp [g0,this]
   ·simp [g0,hk] at m
  ·by_cases hk:k=0
   ·subst hk
    have hb:q=some b:=by simpa [g0] using m
    refine ⟨.inr hb,?_⟩
    have hp:∃cur e,w.heap[b]?=some (.cells cur e (0,0)):=hqlt b hb
    show Xx w (if 0=0 then Xp h else .gone) b
    rw [if_pos rfl]
    cases h<;>exact hp
   ·simp [g0,hk] at m
  ·show SVR g0 w (match t with | 0=>Zdg h | t+1=>(match args[t]? with | some x=>.p x.1 (x.2.map .c) | none=>.und)) _
   cases t with
   | zero=>
    show SVR g0 w (Zdg h) (((v0::vs).toArray++AC (fn.ntmps - (v0::vs).toArray.size) undef).getD 0 undef)
    rw [Ze0 (args:=args) (o:=0) (by simp;omega) v0 rfl]
    exact hsv0
   | succ t=>
    show SVR g0 w (match args[t]? with | some x=>.p x.1 (x.2.map .c) | none=>.und) _
    cases ht:args[t]? with
    | none=>exact Zi6 (by have:args.length≤t:=(by simpa using ht);simp;omega)
    | some x=>
     obtain ⟨v,hv,hr⟩:=hargs.at ht
     show SVR g0 w (.p x.1 (x.2.map .c)) (((v0::vs).toArray++AC (fn.ntmps - (v0::vs).toArray.size) undef).getD (t+1) undef)
     rw [Ze0 (args:=args) (o:=0) (by simp;omega) v (by simpa using hv)]
     exact ZwF hg0 hr
  ·show svU _ (match t with | 0=>Zdg h | t+1=>(match args[t]? with | some x=>.p x.1 (x.2.map .c) | none=>.und))
   cases t with
   | zero=>cases h with
    | row e m xs=>intro y my;simp at my;subst my;rfl
    | box t cs=>rfl
   | succ t=>
    show svU _ (match args[t]? with | some x=>.p x.1 (x.2.map .c) | none=>.und)
    split
    ·exact Zmu true _
    ·trivial
  ·show obU _ (if k=0 then Xp h else .gone)
   by_cases hk:k=0
   ·rw [if_pos hk]
    cases h with
    | row e m xs=>trivial
    | box t cs=>exact Zmu true _
   ·rw [if_neg hk];trivial
  ·have:v0=v:=by simpa [W] using hv
   subst this
   exact Ze0 (args:=args) (o:=0) (by simp;omega) v0 rfl
 have hM:MOk P J JF W tt:=⟨htt,fun w' hb=>hJ.below (fun b=>q=some b) w w' hj hqf hb.os hb.tape hb.output hb.size (fun k hk hx=>hb.block k hk hx),fun b hb=>hJ.new w b hj hb,hqf⟩
 refine Qo (W:=W) hM hmix (.inr rfl) c hok (Zrj tt fn.results.toList fun st r ks=>wkR r res∧Zji st ks h') _ ?_ _ (Zdh h args) _ w hI0 (fun k hk h0=>by simp [Zdh] at hk;omega) (by simp;omega) hh
 intro ex U' st' a' w' hI' _ _ hK
 have fin:(match ZbD tt st' fn.results.toList with | some x=>x.2.Nodup∧wkR x.1 res∧Zji st' x.2 h' | none=>False)→a'.defers=[]∧∃v,(results fn a'.tmps).run P w'=.ok v w'∧∃u n,Ending.returned v=.returned u∧ZjD w' w.heap.size n res u∧(∀b,inQ z q b→n b)∧ZnA w' n q h' v0∧Zzh q w w':=fun hK=>by
  split at hK
  ·rename_i x hx
   obtain ⟨r,ks⟩:=x
   obtain ⟨hnd,hw,hbk⟩:=hK
   obtain ⟨g,hH,hS⟩:=hI'.ex
   have hv0:a'.tmps.getD 0 undef=v0:=hI'.hand v0 rfl
   have hS0:=hS 0
   rw [hv0] at hS0
   have hkey:∃k,g.val k=v0∧g.O k=q.toList∧g.D k=[]∧k∉ks∧(Zjf (st'.ob k)=false∧∀e m xs d,st'.ob k=.row e m xs d→d=2)∧∀n:Nat→Prop,(∀b,n b→g.own b)→ZnA w' n q h' v0:=by
    cases h' with
    | row e m xs=>
     obtain ⟨k,hk1,hk2,hk3,hk4⟩:=hbk
     rw [hk1] at hS0
     obtain ⟨x,hx1,hx2⟩:=hS0
     simp only[AN,and_true] at hx1
     subst hx1
     have hob:=hH.obs k
     rw [hk2] at hob
     obtain ⟨hm,cs,L,o1,o2,o3⟩:=hob
     obtain rfl:=Zf1 o2 hk3
     rcases o3 with ⟨_,q1,q2⟩ | ⟨q1,_⟩ | ⟨q1,_⟩
     ·have hq:v0.ownBlock=q:=by
       cases h with
       | row e1 m1 xs1=>exact hhand.2.2.1
       | box t1 cs1=>
        obtain ⟨b,vs,L,h1,h2,_⟩:=hhand
        obtain ⟨A,cap,hv⟩:=Zax o1
        rw [←hx2.1,h2] at hv
        simp at hv
      exact ⟨k,hx2.1.symm,by rw [q1,←hx2.1,hq],q2,hk4,⟨by rw [hk2];rfl,fun e' m' xs' d' h=>by rw [hk2] at h;simp only[Ob.row.injEq] at h;exact h.2.2.2.symm⟩,fun n _=>⟨hk3,hm,hq,cs,by rw [hx2.1];exact o1,o2⟩⟩
     ·omega
     ·omega
    | box t cs=>
     obtain ⟨k,ds,hk1,hk2,hk3,hk4⟩:=hbk
     rw [hk1] at hS0
     obtain ⟨b,hb1,hb2⟩:=hS0
     have hob:=hH.obs k
     rw [hk2] at hob
     obtain ⟨b',vs',o1,o2,o3,o4,o5⟩:=hob
     have hbb:b'=b:=by rw [hb1] at o1;simpa using o1.symm
     subst hbb
     have hq:q=some b':=by
      cases h with
      | row e1 m1 xs1=>
       obtain ⟨_,_,_,cs1,h4,_⟩:=hhand
       obtain ⟨A,cap,hv⟩:=Zax h4
       rw [hv] at hb2
       simp at hb2
      | box t1 cs1=>
       obtain ⟨b2,vs2,L2,h1,h2,_⟩:=hhand
       rw [h2] at hb2
       simp at hb2
       rw [h1,hb2]
     obtain ⟨L,hL,hL2⟩:=ZeF hH hk4 o5
     refine ⟨k,by rw [o1,hb2],by rw [o2,hq];rfl,o3,fun mk=>?_,⟨by rw [hk2];rfl,fun e' m' xs' d' h=>by rw [hk2] at h;simp at h⟩,fun n hn=>⟨b',vs',L,hq,hb2,o4,hL,fun x mx hx=>hL2 (fun y my=>?_) x mx (hn x hx)⟩⟩
     ·obtain ⟨e',m',xs',h'⟩:=Zi4 hx k mk
      rw [hk2] at h'
      simp at h'
     ·have:=AF.1 hk3 y my
      cases y<;>simp [Zaw] at this<;>trivial
   obtain ⟨k0,c1,c2,c3,c4,c5,c6⟩:=hkey
   have hBg:∀k∈ks,∀b∈g.O k++g.D k,W.heap.size≤b:=fun k hk b mb=>(hH.plain k b mb).1.resolve_right fun h=>hH.apart k k0 (fun e=>c4 (e ▸ hk)) b mb (by rw [c2];simp;exact .inl h)
   obtain ⟨v,m,e1,e2,e3,_,e4⟩:=ZrX htt hI' hH hS hx hnd hw hBg (fun k=>k=k0) (fun k hk=>hk ▸ c5)
   have hbel:=hH.below
   refine ⟨hI'.defers,v,e1,v,m,rfl,e2,fun b hb=>?_,c6 m e3,hbel.os,hbel.tape,hbel.output,hbel.size,fun k hk hq=>hbel.block k hk hq⟩
   refine e4 b (fun mb=>?_) ?_
   ·obtain ⟨k,hk,mk⟩:=Zi5 mb
    have hge:=hBg k hk b mk
    have e:W.heap.size=w.heap.size:=rfl
    rcases hb with hb | hb
    ·have:=(hz b hb).1;omega
    ·obtain ⟨cur,e',hc⟩:=hqlt b hb
     have:=(AR.1 hc).1
     omega
   ·rcases hb with hb | hb
    ·exact .inl (by rw [hH.gz];exact hb)
    ·exact .inr ⟨k0,rfl,by rw [c2,hb];simp⟩
  ·exact hK.elim
 cases ex with
 | normal=>exact fin hK
 | exit id=>exact hK.elim
 | ret=>exact fin hK
end
instance nwD:NW:=nw0
end
section
open Go.RowKit
def Zka {α β:Type} (f:α→β→Bool):List α→List β→Bool
 | [],[]=>true
 | a::l,b::r=>f a b&&Zka f l r
 | _,_=>false
theorem ZiR {α β:Type} {f:α→β→Bool} {R:α→β→Prop} (h:∀a b,f a b=true→R a b):∀{l:List α} {r:List β},Zka f l r=true→ZL R l r
 | [],[],_=>trivial
 | a::l,b::r,hh=>by
  simp only[Zka,A6] at hh
  exact ⟨h a b hh.1,ZiR h hh.2⟩
 | [],_::_,hh=>by simp [Zka] at hh
 | _::_,[],hh=>by simp [Zka] at hh
def Zvy (P:Program) (fi:FI) (f:Field):Bool:=
 f.offset==fi.off&&!(fi.size==0)&&match P.info? f.type,P.underlying f.type with
  | some j,some d=>j.size==fi.size&&(ZqC d==fi.agg)
  | _,_=>false
def Zzr:Value→Bool
 | .slice none 0 0=>true
 | _=>false
def Zup (P:Program):List PK→List Field→Nat→Bool
 | [],[],_=>true
 | k :: ks, f :: fs, n => (f.name != "_") && (f.offset == n) && (match P.underlying f.type with | some d => ZdO k d | none => false) && Zup P ks fs (n + 1)
 | _,_,_=>false
theorem Zts {P:Program}:∀{ks:List PK} {fs:List Field} {n:Nat},Zup P ks fs n=true→EqF P ks fs n
 | [],[],_,_=>trivial
 | k::ks,f::fs,n,h=>by
  simp only[Zup,A6,bne_iff_ne,beq_iff_eq] at h
  obtain ⟨⟨⟨h1,h2⟩,h3⟩,h4⟩:=h
  split at h3
  ·rename_i d hd;exact ⟨h1,h2,⟨d,hd,h3⟩,Zts h4⟩
  ·simp at h3
 | [],_::_,_,h=>by simp [Zup] at h
 | _::_,[],_,h=>by simp [Zup] at h
def Zn0:Option TypeDesc→Bool
 | some (.struct _)=>true
 | _=>false
def ZA4 (P:Program) (t:TypeId) (ks:List PK):Bool:=
 Nat.ble 4000 t&&Zn0 (P.underlying (t - 4000))&&!(P.stoodInHeld (t - 4000))&&!(P.eqGuardType P.depth (t - 4000))&&Zup P ks (P.fieldsOf (t - 4000)).toList 0
theorem Zxm {P:Program} {t:TypeId} {ks:List PK} (h:ZA4 P t ks=true):TOk P t (.eqs ks):=by
 simp only[ZA4,A6,Am] at h
 obtain ⟨⟨⟨⟨h1,h2⟩,h3⟩,h4⟩,h5⟩:=h
 refine ⟨t - 4000,?_,?_,h3,h4,Zts h5⟩
 ·have:4000≤t:=A9 h1
  exact (Nat.sub_add_cancel this).symm
 ·unfold Zn0 at h2
  split at h2
  ·rename_i fs e
   unfold Program.fieldsOf
   rw [e]
  ·simp at h2
def tOk (P:Program) (t:TypeId) (ti:TI):Bool:=
 match ti with
 | .eqs ks=>ZA4 P t ks
 | _=>
 match P.underlying t,P.info? t with
 | some d,some i=>match ti with
  | .atom z=>ZhA d z&&i.size==1&&match i.zero with | some zv=>Zai z zv | none=>false
  | .strct fs n z=>match d with
   | .struct fields=>i.size==n&&(match i.zero with | some (.agg zvs)=>Zka Zai z zvs.toList | _=>false)&&Zka (Zvy P) fs fields.toList
   | _=>false
  | .slice e m bytes z=>match d with
   | .slice e'=>e==e'&&Nat.blt 0 m&&Nat.ble bytes 131072&&(match P.info? e with
     | some ie=>ie.size==m&&ie.bytes==bytes&&(match ie.zero with | some zv=>Zka Zai z zv.cells.toList | none=>false)
     | none=>false)&&z.length==m&&i.size==1&&(match i.zero with | some zv=>Zzr zv | none=>false)
   | _=>false
  | .map kk vk=>match d with
   | .map kt et=>(match P.underlying kt with | some dk=>ZdO kk dk | none=>false)&&(match P.underlying et with | some dv=>ZdO vk dv | none=>false)&&(match P.info? et with | some ie=>(match ie.zero with | some zv=>Zai (Zes vk) zv | none=>false) | none=>false)
   | _=>false
  | .ifc=>match d with
   | .interface _=>true
   | _=>false
  | .eqs _=>false
 | _,_=>false
theorem Zxl {v:Value} (h:Zzr v=true):v=.slice none 0 0:=by
 unfold Zzr at h
 split at h
 ·rfl
 ·simp at h
theorem Zy0 {P:Program} {t:TypeId} {ti:TI} (h:tOk P t ti=true):TOk P t ti:=by
 unfold tOk at h
 split at h
 ·exact Zxm h
 split at h
 ·rename_i d i hd hi
  cases ti with
  | eqs ks=>simp at h
  | ifc=>
   simp only at h
   split at h
   ·exact ⟨_,hd⟩
   ·simp at h
  | map kk vk=>
   simp only at h
   split at h
   ·rename_i kt et
    simp only[A6] at h
    obtain ⟨⟨h1,h2⟩,h3⟩:=h
    split at h1
    ·rename_i dk hdk
     split at h2
     ·rename_i dv hdv
      split at h3
      ·rename_i ie hie
       split at h3
       ·rename_i zv hz
        exact ⟨kt,et,dk,dv,ie,zv,hd,hdk,h1,hdv,h2,hie,hz,h3⟩
       ·simp at h3
      ·simp at h3
     ·simp at h2
    ·simp at h1
   ·simp at h
  | atom z=>
   simp only[A6,beq_iff_eq] at h
   obtain ⟨⟨h1,h2⟩,h3⟩:=h
   split at h3
   ·rename_i zv hz;exact ⟨d,zv,i,hd,h1,hi,hz,h2,h3⟩
   ·simp at h3
  | strct fs n z=>
   simp only at h
   split at h
   ·rename_i fields
    simp only[A6,beq_iff_eq] at h
    obtain ⟨⟨h1,h2⟩,h3⟩:=h
    split at h2
    ·rename_i zvs hz
     refine ⟨fields,i,zvs,hd,hi,h1,hz,ZiR (fun _ _ h=>h) h2,ZiR (fun fi f hf=>?_) h3⟩
     unfold Zvy at hf
     simp only[A6,beq_iff_eq,Am,beq_eq_false_iff_ne] at hf
     obtain ⟨⟨f1,f2⟩,f3⟩:=hf
     split at f3
     ·rename_i j d' hj hd'
      simp only[A6,beq_iff_eq] at f3
      exact ⟨f1,f2,j,d',hj,f3.1,hd',f3.2⟩
     ·simp at f3
    ·simp at h2
   ·simp at h
  | slice e m bytes z=>
   simp only at h
   split at h
   ·rename_i e'
    simp only[A6,beq_iff_eq] at h
    obtain ⟨⟨⟨⟨⟨⟨h1,h2⟩,h3⟩,h4⟩,h5⟩,h6⟩,h7⟩:=h
    subst h1
    split at h4
    ·rename_i ie hie
     simp only[A6,beq_iff_eq] at h4
     obtain ⟨⟨k1,k2⟩,k3⟩:=h4
     split at k3
     ·rename_i zv hz
      split at h7
      ·rename_i zv' hz'
       exact ⟨hd,A9 h2,A9 h3,⟨ie,zv,hie,k1,k2,hz,ZiR (fun _ _ h=>h) k3,h5⟩,i,hi,h6,by rw [hz',Zxl h7]⟩
      ·simp at h7
     ·simp at k3
    ·simp at h4
   ·simp at h
 ·simp at h
def Zwj:List (Nat × TI)→Nat→Option TI
 | [],_=>none
 | p::r,t=>if p.1=t then some p.2 else Zwj r t
theorem Zwi {P:Program}:∀(l:List (Nat × TI)),(l.all fun p=>tOk P p.1 p.2)=true→∀t i,Zwj l t=some i→TOk P t i
 | [],_,t,i,h=>by simp [Zwj] at h
 | p::r,ha,t,i,h=>by
  simp only[List.all_cons,A6] at ha
  simp only[Zwj] at h
  split at h
  ·rename_i e
   simp only[A0] at h
   subst h e
   exact Zy0 ha.1
  ·exact Zwi r ha.2 t i h
end
section
open Go.RowKit
def ZxT (P:Program) (L:List (String × (Array Value→Prop))) (w:World):Prop:=∀x∈L,∃cs,w.var? P x.1=some cs∧x.2 cs
def Zx0 (P:Program) (L:List (String × (Array Value→Prop))) (b:Nat):Prop:=∀x∈L,¬P.globalNamed x.1=some b
theorem ZxO (P:Program) (L:List (String × (Array Value→Prop))):JOk (ZxT P L) (Zx0 P L) where
 below:=fun x w w' hj hx _ _ _ hs hb y my=>by
  obtain ⟨cs,h1,h2⟩:=hj y my
  refine ⟨cs,?_,h2⟩
  unfold World.var? at h1 ⊢
  obtain ⟨g,hg,h1⟩:=AA.1 h1
  rw [hg,AL]
  have hlt:g<w.heap.size:=by
   rcases AT g w.heap.size with h | h
   ·exact h
   ·rw [AU h] at h1;simp at h1
  rw [hb g hlt (fun h=>hx g h y my hg)]
  exact h1
 new:=fun w b hj hb y my hg=>by
  obtain ⟨cs,h1,_⟩:=hj y my
  unfold World.var? at h1
  rw [hg,AL,AU hb] at h1
  simp at h1
theorem ZqW {w:World} {B:Nat} {n:Nat→Prop} {ct:CT} {v:Value} (h:OC w B n (false,ct) v []):ZjD w B n [(false,[(false,ct)])] v:=
 ⟨[v],[],⟨v,[],[],[],rfl,rfl,.inr ⟨rfl,_,rfl,h⟩,rfl,rfl⟩,Own.nil _ _,by simp⟩
theorem ZpQ {w:World} {B:Nat} {n:Nat→Prop} {c1 c2:CT} {v1 v2:Value} (h1:OC w B n (false,c1) v1 []) (h2:OC w B n (false,c2) v2 []):ZjD w B n [(false,[(false,c1)]),(false,[(false,c2)])] (.tuple #[v1,v2]):=
 ⟨[v1,v2],[],⟨v1,[v2],[],[],rfl,rfl,.inr ⟨rfl,_,rfl,h1⟩,v2,[],[],[],rfl,rfl,.inr ⟨rfl,_,rfl,h2⟩,rfl,rfl⟩,Own.nil _ _,by simp⟩
theorem Zs9 {w:World} {z:Nat→Prop} {c:CT} {v:Value} (h:ZkB w z (false,[c]) v):∃L,RC w c v L:=by
 rcases h with ⟨h,_⟩ | ⟨_,ct,L,h,hr,_⟩
 ·simp at h
 ·simp only[AN,and_true] at h
  subst h
  exact ⟨L,hr⟩
theorem Zmc {w:World} {z:Nat→Prop} {c:CT} {vs:List Value} (h:ZL (ZkB w z) [(false,[c])] vs):∃v L,vs=[v]∧RC w c v L:=by
 cases vs with
 | nil=>exact h.elim
 | cons v r=>
  cases r with
  | nil=>obtain ⟨L,hr⟩:=Zs9 h.1;exact ⟨v,L,rfl,hr⟩
  | cons _ _=>exact h.2.elim
theorem Zwg {w:World} {z:Nat→Prop} {c d:CT} {vs:List Value} (h:ZL (ZkB w z) [(false,[c]),(false,[d])] vs):∃v u L M,vs=[v,u]∧RC w c v L∧RC w d u M:=by
 cases vs with
 | nil=>exact h.elim
 | cons v r=>
  obtain ⟨u,M,rfl,hu⟩:=Zmc h.2
  obtain ⟨L,hr⟩:=Zs9 h.1
  exact ⟨v,u,L,M,rfl,hr,hu⟩
end
section
open Go.RowKit
def ttL:List (Nat × TI):=[
 (2,.atom (.c (.int .i64 0))),
 (3,.atom (.c (.int .i64 0))),
 (4,.atom (.c (.bool false))),
 (5,.atom (.c (.int .u8 0))),
 (9,.atom (.c (.str ⟨#[]⟩))),
 (12,.atom (.c (.int .u64 0))),
 (14,.strct [⟨0,1,false⟩,⟨1,1,false⟩] 2 [.c (.str ⟨#[]⟩),.c (.int .u64 0)]),
 (20,.ifc),
 (21,.atom (.c (.int .i32 0))),
 (22,.slice 5 1 1 [.c (.int .u8 0)]),
 (24,.slice 42 4 72 [.c (.str ⟨#[]⟩),.c (.int .i64 0),.nil 173 5,.nil 50 3]),
 (25,.slice 45 2 40 [.c (.str ⟨#[]⟩),.nil 9 1]),
 (33,.slice 38 3 64 [.c (.str ⟨#[]⟩),.nil 45 2,.nil 166 2]),
 (36,.slice 166 2 32 [.c (.str ⟨#[]⟩),.c (.str ⟨#[]⟩)]),
 (38,.strct [⟨0,1,false⟩,⟨1,1,false⟩,⟨2,1,false⟩] 3 [.c (.str ⟨#[]⟩),.nil 45 2,.nil 166 2]),
 (39,.slice 173 5 80 [.c (.int .i64 0),.c (.str ⟨#[]⟩),.nil 9 1,.c (.str ⟨#[]⟩),.c (.str ⟨#[]⟩)]),
 (40,.slice 50 3 48 [.c (.int .i64 0),.c (.str ⟨#[]⟩),.nil 9 1]),
 (42,.strct [⟨0,1,false⟩,⟨1,1,false⟩,⟨2,1,false⟩,⟨3,1,false⟩] 4 [.c (.str ⟨#[]⟩),.c (.int .i64 0),.nil 173 5,.nil 50 3]),
 (43,.slice 9 1 16 [.c (.str ⟨#[]⟩)]),
 (45,.strct [⟨0,1,false⟩,⟨1,1,false⟩] 2 [.c (.str ⟨#[]⟩),.nil 9 1]),
 (48,.strct [⟨0,1,false⟩,⟨1,1,false⟩] 2 [.c (.str ⟨#[]⟩),.nil 9 1]),
 (50,.strct [⟨0,1,false⟩,⟨1,2,true⟩] 3 [.c (.int .i64 0),.c (.str ⟨#[]⟩),.nil 9 1]),
 (58,.slice 126 4 72 [.c (.str ⟨#[]⟩),.c (.int .i64 0),.nil 228 5,.nil 231 3]),
 (59,.slice 86 2 40 [.c (.str ⟨#[]⟩),.nil 9 1]),
 (62,.slice 199 3 56 [.c (.int .i64 0),.nil 3 1,.nil 3 1]),
 (64,.strct [⟨0,1,false⟩,⟨1,1,false⟩] 2 [.c (.int .i64 0),.nil 199 3]),
 (65,.slice 3 1 8 [.c (.int .i64 0)]),
 (67,.strct [⟨0,2,true⟩,⟨2,1,false⟩,⟨3,1,false⟩] 4 [.c (.int .i64 0),.nil 199 3,.nil 3 1,.nil 3 1]),
 (80,.slice 25 1 24 [.nil 45 2]),
 (86,.strct [⟨0,1,false⟩,⟨1,1,false⟩] 2 [.c (.str ⟨#[]⟩),.nil 9 1]),
 (110,.map .str .bool),
 (116,.slice 120 2 48 [.nil 45 2,.nil 166 2]),
 (120,.strct [⟨0,1,false⟩,⟨1,1,false⟩] 2 [.nil 45 2,.nil 166 2]),
 (123,.slice 228 5 80 [.c (.int .i64 0),.c (.str ⟨#[]⟩),.nil 9 1,.c (.str ⟨#[]⟩),.c (.str ⟨#[]⟩)]),
 (124,.slice 231 3 48 [.c (.int .i64 0),.c (.str ⟨#[]⟩),.nil 9 1]),
 (126,.strct [⟨0,1,false⟩,⟨1,1,false⟩,⟨2,1,false⟩,⟨3,1,false⟩] 4 [.c (.str ⟨#[]⟩),.c (.int .i64 0),.nil 228 5,.nil 231 3]),
 (152,.strct [⟨0,1,false⟩,⟨1,1,false⟩,⟨2,1,false⟩] 3 [.nil 5 1,.c (.int .i64 0),.c (.int .i64 0)]),
 (155,.slice 204 2 40 [.c (.str ⟨#[]⟩),.nil 45 2]),
 (158,.slice 4 1 1 [.c (.bool false)]),
 (160,.slice 208 3 64 [.c (.str ⟨#[]⟩),.nil 45 2,.nil 166 2]),
 (166,.strct [⟨0,1,false⟩,⟨1,1,false⟩] 2 [.c (.str ⟨#[]⟩),.c (.str ⟨#[]⟩)]),
 (173,.strct [⟨0,1,false⟩,⟨1,2,true⟩,⟨3,1,false⟩,⟨4,1,false⟩] 5 [.c (.int .i64 0),.c (.str ⟨#[]⟩),.nil 9 1,.c (.str ⟨#[]⟩),.c (.str ⟨#[]⟩)]),
 (199,.strct [⟨0,1,false⟩,⟨1,1,false⟩,⟨2,1,false⟩] 3 [.c (.int .i64 0),.nil 3 1,.nil 3 1]),
 (204,.strct [⟨0,1,false⟩,⟨1,1,false⟩] 2 [.c (.str ⟨#[]⟩),.nil 45 2]),
 (208,.strct [⟨0,1,false⟩,⟨1,2,true⟩] 3 [.c (.str ⟨#[]⟩),.nil 45 2,.nil 166 2]),
 (226,.strct [⟨0,1,false⟩,⟨1,1,false⟩] 2 [.c (.str ⟨#[]⟩),.nil 9 1]),
 (228,.strct [⟨0,1,false⟩,⟨1,2,true⟩,⟨3,1,false⟩,⟨4,1,false⟩] 5 [.c (.int .i64 0),.c (.str ⟨#[]⟩),.nil 9 1,.c (.str ⟨#[]⟩),.c (.str ⟨#[]⟩)]),
 (231,.strct [⟨0,1,false⟩,⟨1,2,true⟩] 3 [.c (.int .i64 0),.c (.str ⟨#[]⟩),.nil 9 1]),
 (241,.atom (.c (.int .u64 0))),
 (270,.ifc),
 (271,.ifc),
 (283,.atom (.c (.int .u32 0))),
 (285,.atom (.c (.int .u64 0))),
 (330,.strct [⟨0,1,false⟩] 1 [.c (.str ⟨#[]⟩)])]
def tt (t:Nat):Option TI:=Zwj ttL t
theorem htt:∀t i,tt t=some i→TOk prog t i:=Zwi ttL (by kernel_rfl)
theorem hmix:prog.follows .mixedOrders=true:=by kernel_rfl
def ZxG : List (String × (Array Value → Prop)) := [("internal/strconv.uint64pow10", fun cs => cs = (Lib.pow10Tab.map fun z => Value.int .u64 z).toArray), ("strconv.ErrSyntax", fun cs => ∃ tp p, cs = #[.iface tp p])]
def J0:World→Prop:=ZxT prog ZxG
def JF0:Nat→Prop:=Zx0 prog ZxG
theorem hJ0:JOk J0 JF0:=ZxO _ _
theorem ZzO (w : World) (h : J0 w) : Lib.TabIs prog w "internal/strconv.uint64pow10" .u64 Lib.pow10Tab := by
 obtain ⟨cs,h1,h2⟩:=h _ (List.mem_cons_self ..)
 rw [h2] at h1
 exact h1
theorem ZAB (w : World) (h : J0 w) : ∃ tp p, w.var? prog "strconv.ErrSyntax" = some #[.iface tp p] := by
 obtain ⟨cs, h1, tp, p, h2⟩ := h ("strconv.ErrSyntax", fun cs => ∃ tp p, cs = #[.iface tp p]) (by simp [ZxG])
 rw [h2] at h1
 exact ⟨tp,p,h1⟩
def hdL:List (Nat × Nat):=[(17,2),(18,2),(30,2),(45,2),(48,2),(58,3),(59,1),(60,1),(67,2),(70,2),(77,3),(84,2),(85,2),(108,1),(110,1),(111,1),(112,1),(118,1),(124,1),(126,1),(164,1),(172,2),(173,1),(174,1),(175,1),(186,1),(210,1),(239,1),(240,1),(250,1),(251,1),(255,4),(284,1),(285,1),(286,1),(287,1),(288,1),(315,1),(316,1),(317,1),(340,1),(341,1),(342,1),(355,1),(356,1)]
def ZxZ:List (Nat × Nat)→Nat→Nat
 | [],_=>0
 | p::r,f=>match Nat.beq p.1 f with | true=>p.2 | false=>ZxZ r f
def hds (f:FuncId):Nat:=ZxZ hdL f
theorem ZEK:(SC prog J0 JF0 hds).hd 3=0:=yi (by kernel_rfl)
theorem ZEv:(SC prog J0 JF0 hds).hd 4=0:=yi (by kernel_rfl)
theorem ZEt:(SC prog J0 JF0 hds).hd 5=0:=yi (by kernel_rfl)
theorem ZNl:(SC prog J0 JF0 hds).hd 7=0:=yi (by kernel_rfl)
theorem ZE3:(SC prog J0 JF0 hds).hd 8=0:=yi (by kernel_rfl)
theorem ZEp:(SC prog J0 JF0 hds).hd 9=0:=yi (by kernel_rfl)
theorem ZDO:(SC prog J0 JF0 hds).hd 11=0:=yi (by kernel_rfl)
theorem ZD7:(SC prog J0 JF0 hds).hd 12=0:=yi (by kernel_rfl)
theorem ZDh:(SC prog J0 JF0 hds).hd 13=0:=yi (by kernel_rfl)
theorem ZCr:(SC prog J0 JF0 hds).hd 14=0:=yi (by kernel_rfl)
theorem ZDN:(SC prog J0 JF0 hds).hd 15=0:=yi (by kernel_rfl)
theorem ZDF:(SC prog J0 JF0 hds).hd 16=0:=yi (by kernel_rfl)
theorem ZCx:(SC prog J0 JF0 hds).hd 17=2:=yi (by kernel_rfl)
theorem ZDT:(SC prog J0 JF0 hds).hd 18=2:=yi (by kernel_rfl)
theorem ZDz:(SC prog J0 JF0 hds).hd 19=0:=yi (by kernel_rfl)
theorem ZDD:(SC prog J0 JF0 hds).hd 20=0:=yi (by kernel_rfl)
theorem ZDf:(SC prog J0 JF0 hds).hd 21=0:=yi (by kernel_rfl)
theorem ZC4:(SC prog J0 JF0 hds).hd 22=0:=yi (by kernel_rfl)
theorem ZEk:(SC prog J0 JF0 hds).hd 23=0:=yi (by kernel_rfl)
theorem ZDs:(SC prog J0 JF0 hds).hd 24=0:=yi (by kernel_rfl)
theorem ZDi:(SC prog J0 JF0 hds).hd 25=0:=yi (by kernel_rfl)
theorem ZCt:(SC prog J0 JF0 hds).hd 26=0:=yi (by kernel_rfl)
theorem ZDg:(SC prog J0 JF0 hds).hd 27=0:=yi (by kernel_rfl)
theorem ZEd:(SC prog J0 JF0 hds).hd 28=0:=yi (by kernel_rfl)
theorem ZEh:(SC prog J0 JF0 hds).hd 29=0:=yi (by kernel_rfl)
theorem ZD6:(SC prog J0 JF0 hds).hd 30=2:=yi (by kernel_rfl)
theorem ZD3:(SC prog J0 JF0 hds).hd 33=0:=yi (by kernel_rfl)
theorem ZDE:(SC prog J0 JF0 hds).hd 36=0:=yi (by kernel_rfl)
theorem ZDU:(SC prog J0 JF0 hds).hd 45=2:=yi (by kernel_rfl)
theorem ZCI:(SC prog J0 JF0 hds).hd 46=0:=yi (by kernel_rfl)
theorem ZCz:(SC prog J0 JF0 hds).hd 47=0:=yi (by kernel_rfl)
theorem ZCH:(SC prog J0 JF0 hds).hd 48=2:=yi (by kernel_rfl)
theorem ZDJ:(SC prog J0 JF0 hds).hd 49=0:=yi (by kernel_rfl)
theorem ZCA:(SC prog J0 JF0 hds).hd 50=0:=yi (by kernel_rfl)
theorem ZC2:(SC prog J0 JF0 hds).hd 58=3:=yi (by kernel_rfl)
theorem ZCp:(SC prog J0 JF0 hds).hd 59=1:=yi (by kernel_rfl)
theorem ZCY:(SC prog J0 JF0 hds).hd 60=1:=yi (by kernel_rfl)
theorem ZDe:(SC prog J0 JF0 hds).hd 61=0:=yi (by kernel_rfl)
theorem ZDA:(SC prog J0 JF0 hds).hd 62=0:=yi (by kernel_rfl)
theorem ZEb:(SC prog J0 JF0 hds).hd 63=0:=yi (by kernel_rfl)
theorem ZCX:(SC prog J0 JF0 hds).hd 64=0:=yi (by kernel_rfl)
theorem ZDc:(SC prog J0 JF0 hds).hd 65=0:=yi (by kernel_rfl)
theorem ZEg:(SC prog J0 JF0 hds).hd 66=0:=yi (by kernel_rfl)
theorem ZEa:(SC prog J0 JF0 hds).hd 67=2:=yi (by kernel_rfl)
theorem ZC6:(SC prog J0 JF0 hds).hd 68=0:=yi (by kernel_rfl)
theorem ZDC:(SC prog J0 JF0 hds).hd 69=0:=yi (by kernel_rfl)
theorem ZCG:(SC prog J0 JF0 hds).hd 70=2:=yi (by kernel_rfl)
theorem ZDM:(SC prog J0 JF0 hds).hd 71=0:=yi (by kernel_rfl)
theorem ZCM:(SC prog J0 JF0 hds).hd 72=0:=yi (by kernel_rfl)
theorem ZDK:(SC prog J0 JF0 hds).hd 73=0:=yi (by kernel_rfl)
theorem ZDb:(SC prog J0 JF0 hds).hd 74=0:=yi (by kernel_rfl)
theorem ZD8:(SC prog J0 JF0 hds).hd 75=0:=yi (by kernel_rfl)
theorem ZDV:(SC prog J0 JF0 hds).hd 76=0:=yi (by kernel_rfl)
theorem ZDX:(SC prog J0 JF0 hds).hd 77=3:=yi (by kernel_rfl)
theorem ZEe:(SC prog J0 JF0 hds).hd 78=0:=yi (by kernel_rfl)
theorem ZEc:(SC prog J0 JF0 hds).hd 79=0:=yi (by kernel_rfl)
theorem ZDa:(SC prog J0 JF0 hds).hd 80=0:=yi (by kernel_rfl)
theorem ZCQ:(SC prog J0 JF0 hds).hd 81=0:=yi (by kernel_rfl)
theorem ZCE:(SC prog J0 JF0 hds).hd 82=0:=yi (by kernel_rfl)
theorem ZDy:(SC prog J0 JF0 hds).hd 83=0:=yi (by kernel_rfl)
theorem ZC8:(SC prog J0 JF0 hds).hd 84=2:=yi (by kernel_rfl)
theorem ZEj:(SC prog J0 JF0 hds).hd 85=2:=yi (by kernel_rfl)
theorem ZD9:(SC prog J0 JF0 hds).hd 86=0:=yi (by kernel_rfl)
theorem ZEi:(SC prog J0 JF0 hds).hd 87=0:=yi (by kernel_rfl)
theorem ZDQ:(SC prog J0 JF0 hds).hd 88=0:=yi (by kernel_rfl)
theorem ZC1:(SC prog J0 JF0 hds).hd 89=0:=yi (by kernel_rfl)
theorem ZDS:(SC prog J0 JF0 hds).hd 91=0:=yi (by kernel_rfl)
theorem ZDv:(SC prog J0 JF0 hds).hd 92=0:=yi (by kernel_rfl)
theorem ZCs:(SC prog J0 JF0 hds).hd 94=0:=yi (by kernel_rfl)
theorem ZDu:(SC prog J0 JF0 hds).hd 95=0:=yi (by kernel_rfl)
theorem ZBQ:(SC prog J0 JF0 hds).hd 108=1:=yi (by kernel_rfl)
theorem ZAn:(SC prog J0 JF0 hds).hd 109=0:=yi (by kernel_rfl)
theorem Zz2:(SC prog J0 JF0 hds).hd 110=1:=yi (by kernel_rfl)
theorem ZAb:(SC prog J0 JF0 hds).hd 111=1:=yi (by kernel_rfl)
theorem ZB8:(SC prog J0 JF0 hds).hd 112=1:=yi (by kernel_rfl)
theorem ZAu:(SC prog J0 JF0 hds).hd 113=0:=yi (by kernel_rfl)
theorem Zyr:(SC prog J0 JF0 hds).hd 114=0:=yi (by kernel_rfl)
theorem Zyp:(SC prog J0 JF0 hds).hd 115=0:=yi (by kernel_rfl)
theorem Zyz:(SC prog J0 JF0 hds).hd 116=0:=yi (by kernel_rfl)
theorem ZAM:(SC prog J0 JF0 hds).hd 117=0:=yi (by kernel_rfl)
theorem ZBD:(SC prog J0 JF0 hds).hd 118=1:=yi (by kernel_rfl)
theorem ZCm:(SC prog J0 JF0 hds).hd 119=0:=yi (by kernel_rfl)
theorem ZyY:(SC prog J0 JF0 hds).hd 120=0:=yi (by kernel_rfl)
theorem ZA5:(SC prog J0 JF0 hds).hd 124=1:=yi (by kernel_rfl)
theorem ZyI:(SC prog J0 JF0 hds).hd 125=0:=yi (by kernel_rfl)
theorem ZAx:(SC prog J0 JF0 hds).hd 126=1:=yi (by kernel_rfl)
theorem Zzk:(SC prog J0 JF0 hds).hd 127=0:=yi (by kernel_rfl)
theorem ZyR:(SC prog J0 JF0 hds).hd 128=0:=yi (by kernel_rfl)
theorem Zx3:(SC prog J0 JF0 hds).hd 129=0:=yi (by kernel_rfl)
theorem ZAD:(SC prog J0 JF0 hds).hd 130=0:=yi (by kernel_rfl)
theorem ZB4:(SC prog J0 JF0 hds).hd 131=0:=yi (by kernel_rfl)
theorem ZzN:(SC prog J0 JF0 hds).hd 132=0:=yi (by kernel_rfl)
theorem ZAp:(SC prog J0 JF0 hds).hd 133=0:=yi (by kernel_rfl)
theorem ZyG:(SC prog J0 JF0 hds).hd 134=0:=yi (by kernel_rfl)
theorem ZzR:(SC prog J0 JF0 hds).hd 135=0:=yi (by kernel_rfl)
theorem ZB9:(SC prog J0 JF0 hds).hd 136=0:=yi (by kernel_rfl)
theorem ZzP:(SC prog J0 JF0 hds).hd 137=0:=yi (by kernel_rfl)
theorem ZBm:(SC prog J0 JF0 hds).hd 138=0:=yi (by kernel_rfl)
theorem ZAH:(SC prog J0 JF0 hds).hd 139=0:=yi (by kernel_rfl)
theorem ZAE:(SC prog J0 JF0 hds).hd 140=0:=yi (by kernel_rfl)
theorem ZBi:(SC prog J0 JF0 hds).hd 141=0:=yi (by kernel_rfl)
theorem ZA3:(SC prog J0 JF0 hds).hd 142=0:=yi (by kernel_rfl)
theorem Zzj:(SC prog J0 JF0 hds).hd 143=0:=yi (by kernel_rfl)
theorem ZAy:(SC prog J0 JF0 hds).hd 144=0:=yi (by kernel_rfl)
theorem Zx4:(SC prog J0 JF0 hds).hd 145=0:=yi (by kernel_rfl)
theorem ZyH:(SC prog J0 JF0 hds).hd 146=0:=yi (by kernel_rfl)
theorem ZyS:(SC prog J0 JF0 hds).hd 147=0:=yi (by kernel_rfl)
theorem Zyk:(SC prog J0 JF0 hds).hd 148=0:=yi (by kernel_rfl)
theorem ZAd:(SC prog J0 JF0 hds).hd 149=0:=yi (by kernel_rfl)
theorem ZBG:(SC prog J0 JF0 hds).hd 150=0:=yi (by kernel_rfl)
theorem ZBE:(SC prog J0 JF0 hds).hd 151=0:=yi (by kernel_rfl)
theorem ZzS:(SC prog J0 JF0 hds).hd 152=0:=yi (by kernel_rfl)
theorem ZBh:(SC prog J0 JF0 hds).hd 153=0:=yi (by kernel_rfl)
theorem ZzZ:(SC prog J0 JF0 hds).hd 154=0:=yi (by kernel_rfl)
theorem ZB2:(SC prog J0 JF0 hds).hd 155=0:=yi (by kernel_rfl)
theorem ZBy:(SC prog J0 JF0 hds).hd 158=0:=yi (by kernel_rfl)
theorem ZBa:(SC prog J0 JF0 hds).hd 159=0:=yi (by kernel_rfl)
theorem ZzL:(SC prog J0 JF0 hds).hd 162=0:=yi (by kernel_rfl)
theorem ZAN:(SC prog J0 JF0 hds).hd 163=0:=yi (by kernel_rfl)
theorem Zy4:(SC prog J0 JF0 hds).hd 164=1:=yi (by kernel_rfl)
theorem ZzW:(SC prog J0 JF0 hds).hd 170=0:=yi (by kernel_rfl)
theorem ZBz:(SC prog J0 JF0 hds).hd 171=0:=yi (by kernel_rfl)
theorem ZA8:(SC prog J0 JF0 hds).hd 172=2:=yi (by kernel_rfl)
theorem ZBV:(SC prog J0 JF0 hds).hd 173=1:=yi (by kernel_rfl)
theorem Zz9:(SC prog J0 JF0 hds).hd 174=1:=yi (by kernel_rfl)
theorem ZB6:(SC prog J0 JF0 hds).hd 175=1:=yi (by kernel_rfl)
theorem ZB3:(SC prog J0 JF0 hds).hd 176=0:=yi (by kernel_rfl)
theorem ZzQ:(SC prog J0 JF0 hds).hd 177=0:=yi (by kernel_rfl)
theorem Zyn:(SC prog J0 JF0 hds).hd 178=0:=yi (by kernel_rfl)
theorem Zyx:(SC prog J0 JF0 hds).hd 179=0:=yi (by kernel_rfl)
theorem ZyZ:(SC prog J0 JF0 hds).hd 180=0:=yi (by kernel_rfl)
theorem ZBF:(SC prog J0 JF0 hds).hd 181=0:=yi (by kernel_rfl)
theorem ZAX:(SC prog J0 JF0 hds).hd 182=0:=yi (by kernel_rfl)
theorem Zzs:(SC prog J0 JF0 hds).hd 183=0:=yi (by kernel_rfl)
theorem ZzI:(SC prog J0 JF0 hds).hd 184=0:=yi (by kernel_rfl)
theorem ZzT:(SC prog J0 JF0 hds).hd 185=0:=yi (by kernel_rfl)
theorem ZA9:(SC prog J0 JF0 hds).hd 186=1:=yi (by kernel_rfl)
theorem ZAP:(SC prog J0 JF0 hds).hd 187=0:=yi (by kernel_rfl)
theorem Zzg:(SC prog J0 JF0 hds).hd 188=0:=yi (by kernel_rfl)
theorem ZyV:(SC prog J0 JF0 hds).hd 189=0:=yi (by kernel_rfl)
theorem ZyB:(SC prog J0 JF0 hds).hd 190=0:=yi (by kernel_rfl)
theorem Zzz:(SC prog J0 JF0 hds).hd 191=0:=yi (by kernel_rfl)
theorem ZBS:(SC prog J0 JF0 hds).hd 192=0:=yi (by kernel_rfl)
theorem ZBL:(SC prog J0 JF0 hds).hd 193=0:=yi (by kernel_rfl)
theorem ZBw:(SC prog J0 JF0 hds).hd 194=0:=yi (by kernel_rfl)
theorem ZzF:(SC prog J0 JF0 hds).hd 195=0:=yi (by kernel_rfl)
theorem Zy7:(SC prog J0 JF0 hds).hd 196=0:=yi (by kernel_rfl)
theorem ZAq:(SC prog J0 JF0 hds).hd 197=0:=yi (by kernel_rfl)
theorem ZzY:(SC prog J0 JF0 hds).hd 198=0:=yi (by kernel_rfl)
theorem ZAo:(SC prog J0 JF0 hds).hd 199=0:=yi (by kernel_rfl)
theorem ZzG:(SC prog J0 JF0 hds).hd 200=0:=yi (by kernel_rfl)
theorem ZyT:(SC prog J0 JF0 hds).hd 201=0:=yi (by kernel_rfl)
theorem ZyL:(SC prog J0 JF0 hds).hd 202=0:=yi (by kernel_rfl)
theorem Zys:(SC prog J0 JF0 hds).hd 203=0:=yi (by kernel_rfl)
theorem Zzt:(SC prog J0 JF0 hds).hd 204=0:=yi (by kernel_rfl)
theorem ZAl:(SC prog J0 JF0 hds).hd 205=0:=yi (by kernel_rfl)
theorem Zyf:(SC prog J0 JF0 hds).hd 206=0:=yi (by kernel_rfl)
theorem ZBq:(SC prog J0 JF0 hds).hd 207=0:=yi (by kernel_rfl)
theorem ZAv:(SC prog J0 JF0 hds).hd 208=0:=yi (by kernel_rfl)
theorem Zzi:(SC prog J0 JF0 hds).hd 209=0:=yi (by kernel_rfl)
theorem ZAw:(SC prog J0 JF0 hds).hd 210=1:=yi (by kernel_rfl)
theorem ZCh:(SC prog J0 JF0 hds).hd 211=0:=yi (by kernel_rfl)
theorem Zyi:(SC prog J0 JF0 hds).hd 212=0:=yi (by kernel_rfl)
theorem ZCo:(SC prog J0 JF0 hds).hd 213=0:=yi (by kernel_rfl)
theorem ZAI:(SC prog J0 JF0 hds).hd 214=0:=yi (by kernel_rfl)
theorem ZCe:(SC prog J0 JF0 hds).hd 215=0:=yi (by kernel_rfl)
theorem ZBM:(SC prog J0 JF0 hds).hd 216=0:=yi (by kernel_rfl)
theorem ZAh:(SC prog J0 JF0 hds).hd 219=0:=yi (by kernel_rfl)
theorem ZBP:(SC prog J0 JF0 hds).hd 220=0:=yi (by kernel_rfl)
theorem ZAY:(SC prog J0 JF0 hds).hd 221=0:=yi (by kernel_rfl)
theorem ZAk:(SC prog J0 JF0 hds).hd 222=0:=yi (by kernel_rfl)
theorem Zze:(SC prog J0 JF0 hds).hd 223=0:=yi (by kernel_rfl)
theorem ZyO:(SC prog J0 JF0 hds).hd 224=0:=yi (by kernel_rfl)
theorem ZBR:(SC prog J0 JF0 hds).hd 225=0:=yi (by kernel_rfl)
theorem Zy5:(SC prog J0 JF0 hds).hd 226=0:=yi (by kernel_rfl)
theorem Zx6:(SC prog J0 JF0 hds).hd 227=0:=yi (by kernel_rfl)
theorem ZCn:(SC prog J0 JF0 hds).hd 234=0:=yi (by kernel_rfl)
theorem ZAF:(SC prog J0 JF0 hds).hd 235=0:=yi (by kernel_rfl)
theorem ZCg:(SC prog J0 JF0 hds).hd 236=0:=yi (by kernel_rfl)
theorem ZyJ:(SC prog J0 JF0 hds).hd 237=0:=yi (by kernel_rfl)
theorem ZzB:(SC prog J0 JF0 hds).hd 238=0:=yi (by kernel_rfl)
theorem Zzc:(SC prog J0 JF0 hds).hd 239=1:=yi (by kernel_rfl)
theorem Zzn:(SC prog J0 JF0 hds).hd 240=1:=yi (by kernel_rfl)
theorem ZAU:(SC prog J0 JF0 hds).hd 241=0:=yi (by kernel_rfl)
theorem ZCa:(SC prog J0 JF0 hds).hd 242=0:=yi (by kernel_rfl)
theorem Zzu:(SC prog J0 JF0 hds).hd 243=0:=yi (by kernel_rfl)
theorem ZBg:(SC prog J0 JF0 hds).hd 244=0:=yi (by kernel_rfl)
theorem ZyP:(SC prog J0 JF0 hds).hd 245=0:=yi (by kernel_rfl)
theorem Zyy:(SC prog J0 JF0 hds).hd 246=0:=yi (by kernel_rfl)
theorem ZzV:(SC prog J0 JF0 hds).hd 247=0:=yi (by kernel_rfl)
theorem ZzX:(SC prog J0 JF0 hds).hd 248=0:=yi (by kernel_rfl)
theorem ZBl:(SC prog J0 JF0 hds).hd 249=0:=yi (by kernel_rfl)
theorem ZzA:(SC prog J0 JF0 hds).hd 250=1:=yi (by kernel_rfl)
theorem ZB7:(SC prog J0 JF0 hds).hd 251=1:=yi (by kernel_rfl)
theorem Zzl:(SC prog J0 JF0 hds).hd 252=0:=yi (by kernel_rfl)
theorem ZAm:(SC prog J0 JF0 hds).hd 253=0:=yi (by kernel_rfl)
theorem ZAz:(SC prog J0 JF0 hds).hd 254=0:=yi (by kernel_rfl)
theorem ZAG:(SC prog J0 JF0 hds).hd 255=4:=yi (by kernel_rfl)
theorem ZyA:(SC prog J0 JF0 hds).hd 256=0:=yi (by kernel_rfl)
theorem Zz5:(SC prog J0 JF0 hds).hd 257=0:=yi (by kernel_rfl)
theorem ZAW:(SC prog J0 JF0 hds).hd 258=0:=yi (by kernel_rfl)
theorem ZyW:(SC prog J0 JF0 hds).hd 259=0:=yi (by kernel_rfl)
theorem Zzf:(SC prog J0 JF0 hds).hd 260=0:=yi (by kernel_rfl)
theorem ZAj:(SC prog J0 JF0 hds).hd 261=0:=yi (by kernel_rfl)
theorem ZAR:(SC prog J0 JF0 hds).hd 262=0:=yi (by kernel_rfl)
theorem Zy9:(SC prog J0 JF0 hds).hd 263=0:=yi (by kernel_rfl)
theorem Zym:(SC prog J0 JF0 hds).hd 264=0:=yi (by kernel_rfl)
theorem ZCf:(SC prog J0 JF0 hds).hd 266=0:=yi (by kernel_rfl)
theorem ZAO:(SC prog J0 JF0 hds).hd 268=0:=yi (by kernel_rfl)
theorem ZBk:(SC prog J0 JF0 hds).hd 269=0:=yi (by kernel_rfl)
theorem ZyX:(SC prog J0 JF0 hds).hd 271=0:=yi (by kernel_rfl)
theorem ZCj:(SC prog J0 JF0 hds).hd 276=0:=yi (by kernel_rfl)
theorem Zyt:(SC prog J0 JF0 hds).hd 277=0:=yi (by kernel_rfl)
theorem Zz3:(SC prog J0 JF0 hds).hd 278=0:=yi (by kernel_rfl)
theorem Zx7:(SC prog J0 JF0 hds).hd 279=0:=yi (by kernel_rfl)
theorem ZAs:(SC prog J0 JF0 hds).hd 280=0:=yi (by kernel_rfl)
theorem ZAA:(SC prog J0 JF0 hds).hd 281=0:=yi (by kernel_rfl)
theorem ZAQ:(SC prog J0 JF0 hds).hd 282=0:=yi (by kernel_rfl)
theorem Zyl:(SC prog J0 JF0 hds).hd 283=0:=yi (by kernel_rfl)
theorem Zyb:(SC prog J0 JF0 hds).hd 284=1:=yi (by kernel_rfl)
theorem ZBn:(SC prog J0 JF0 hds).hd 285=1:=yi (by kernel_rfl)
theorem ZBf:(SC prog J0 JF0 hds).hd 286=1:=yi (by kernel_rfl)
theorem ZBd:(SC prog J0 JF0 hds).hd 287=1:=yi (by kernel_rfl)
theorem ZA7:(SC prog J0 JF0 hds).hd 288=1:=yi (by kernel_rfl)
theorem Zzw:(SC prog J0 JF0 hds).hd 289=0:=yi (by kernel_rfl)
theorem ZBN:(SC prog J0 JF0 hds).hd 290=0:=yi (by kernel_rfl)
theorem Zzy:(SC prog J0 JF0 hds).hd 291=0:=yi (by kernel_rfl)
theorem ZAK:(SC prog J0 JF0 hds).hd 292=0:=yi (by kernel_rfl)
theorem ZBZ:(SC prog J0 JF0 hds).hd 293=0:=yi (by kernel_rfl)
theorem ZBs:(SC prog J0 JF0 hds).hd 294=0:=yi (by kernel_rfl)
theorem ZAZ:(SC prog J0 JF0 hds).hd 295=0:=yi (by kernel_rfl)
theorem ZBU:(SC prog J0 JF0 hds).hd 297=0:=yi (by kernel_rfl)
theorem ZBA:(SC prog J0 JF0 hds).hd 298=0:=yi (by kernel_rfl)
theorem ZBB:(SC prog J0 JF0 hds).hd 311=0:=yi (by kernel_rfl)
theorem Zyq:(SC prog J0 JF0 hds).hd 312=0:=yi (by kernel_rfl)
theorem Zz8:(SC prog J0 JF0 hds).hd 313=0:=yi (by kernel_rfl)
theorem Zyv:(SC prog J0 JF0 hds).hd 314=0:=yi (by kernel_rfl)
theorem ZBe:(SC prog J0 JF0 hds).hd 315=1:=yi (by kernel_rfl)
theorem Zz1:(SC prog J0 JF0 hds).hd 316=1:=yi (by kernel_rfl)
theorem ZyD:(SC prog J0 JF0 hds).hd 317=1:=yi (by kernel_rfl)
theorem Zyo:(SC prog J0 JF0 hds).hd 318=0:=yi (by kernel_rfl)
theorem ZA0:(SC prog J0 JF0 hds).hd 319=0:=yi (by kernel_rfl)
theorem ZBb:(SC prog J0 JF0 hds).hd 322=0:=yi (by kernel_rfl)
theorem ZAS:(SC prog J0 JF0 hds).hd 338=0:=yi (by kernel_rfl)
theorem ZBT:(SC prog J0 JF0 hds).hd 339=0:=yi (by kernel_rfl)
theorem ZCd:(SC prog J0 JF0 hds).hd 340=1:=yi (by kernel_rfl)
theorem ZB0:(SC prog J0 JF0 hds).hd 341=1:=yi (by kernel_rfl)
theorem ZBx:(SC prog J0 JF0 hds).hd 342=1:=yi (by kernel_rfl)
theorem Zye:(SC prog J0 JF0 hds).hd 343=0:=yi (by kernel_rfl)
theorem ZAL:(SC prog J0 JF0 hds).hd 355=1:=yi (by kernel_rfl)
theorem ZzM:(SC prog J0 JF0 hds).hd 356=1:=yi (by kernel_rfl)
theorem tt2:tt 2=some (.atom (.c (.int .i64 0))):=yi rfl
theorem tt3:tt 3=some (.atom (.c (.int .i64 0))):=yi rfl
theorem tt4:tt 4=some (.atom (.c (.bool false))):=yi rfl
theorem tt5:tt 5=some (.atom (.c (.int .u8 0))):=yi rfl
theorem tt9:tt 9=some (.atom (.c (.str ⟨#[]⟩))):=yi rfl
theorem ZEN:tt 12=some (.atom (.c (.int .u64 0))):=yi rfl
theorem ZEZ:tt 14=some (.strct [⟨0,1,false⟩,⟨1,1,false⟩] 2 [.c (.str ⟨#[]⟩),.c (.int .u64 0)]):=yi rfl
theorem ZEW:tt 20=some (.ifc):=yi rfl
theorem ZE2:tt 21=some (.atom (.c (.int .i32 0))):=yi rfl
theorem ZEV:tt 22=some (.slice 5 1 1 [.c (.int .u8 0)]):=yi rfl
theorem ZEH:tt 24=some (.slice 42 4 72 [.c (.str ⟨#[]⟩),.c (.int .i64 0),.nil 173 5,.nil 50 3]):=yi rfl
theorem ZES:tt 25=some (.slice 45 2 40 [.c (.str ⟨#[]⟩),.nil 9 1]):=yi rfl
theorem ZER:tt 33=some (.slice 38 3 64 [.c (.str ⟨#[]⟩),.nil 45 2,.nil 166 2]):=yi rfl
theorem ZEA:tt 36=some (.slice 166 2 32 [.c (.str ⟨#[]⟩),.c (.str ⟨#[]⟩)]):=yi rfl
theorem ZEB:tt 38=some (.strct [⟨0,1,false⟩,⟨1,1,false⟩,⟨2,1,false⟩] 3 [.c (.str ⟨#[]⟩),.nil 45 2,.nil 166 2]):=yi rfl
theorem ZEJ:tt 39=some (.slice 173 5 80 [.c (.int .i64 0),.c (.str ⟨#[]⟩),.nil 9 1,.c (.str ⟨#[]⟩),.c (.str ⟨#[]⟩)]):=yi rfl
theorem ZED:tt 40=some (.slice 50 3 48 [.c (.int .i64 0),.c (.str ⟨#[]⟩),.nil 9 1]):=yi rfl
theorem ZEo:tt 42=some (.strct [⟨0,1,false⟩,⟨1,1,false⟩,⟨2,1,false⟩,⟨3,1,false⟩] 4 [.c (.str ⟨#[]⟩),.c (.int .i64 0),.nil 173 5,.nil 50 3]):=yi rfl
theorem ZEQ:tt 43=some (.slice 9 1 16 [.c (.str ⟨#[]⟩)]):=yi rfl
theorem ZE9:tt 45=some (.strct [⟨0,1,false⟩,⟨1,1,false⟩] 2 [.c (.str ⟨#[]⟩),.nil 9 1]):=yi rfl
theorem ZFa:tt 48=some (.strct [⟨0,1,false⟩,⟨1,1,false⟩] 2 [.c (.str ⟨#[]⟩),.nil 9 1]):=yi rfl
theorem ZEs:tt 50=some (.strct [⟨0,1,false⟩,⟨1,2,true⟩] 3 [.c (.int .i64 0),.c (.str ⟨#[]⟩),.nil 9 1]):=yi rfl
theorem ZE7:tt 58=some (.slice 126 4 72 [.c (.str ⟨#[]⟩),.c (.int .i64 0),.nil 228 5,.nil 231 3]):=yi rfl
theorem ZE5:tt 59=some (.slice 86 2 40 [.c (.str ⟨#[]⟩),.nil 9 1]):=yi rfl
theorem ZEP:tt 62=some (.slice 199 3 56 [.c (.int .i64 0),.nil 3 1,.nil 3 1]):=yi rfl
theorem ZEI:tt 64=some (.strct [⟨0,1,false⟩,⟨1,1,false⟩] 2 [.c (.int .i64 0),.nil 199 3]):=yi rfl
theorem ZEm:tt 65=some (.slice 3 1 8 [.c (.int .i64 0)]):=yi rfl
theorem ZEM:tt 67=some (.strct [⟨0,2,true⟩,⟨2,1,false⟩,⟨3,1,false⟩] 4 [.c (.int .i64 0),.nil 199 3,.nil 3 1,.nil 3 1]):=yi rfl
theorem ZEw:tt 80=some (.slice 25 1 24 [.nil 45 2]):=yi rfl
theorem ZE8:tt 86=some (.strct [⟨0,1,false⟩,⟨1,1,false⟩] 2 [.c (.str ⟨#[]⟩),.nil 9 1]):=yi rfl
theorem ZCO:tt 110=some (.map .str .bool):=yi rfl
theorem ZD4:tt 116=some (.slice 120 2 48 [.nil 45 2,.nil 166 2]):=yi rfl
theorem ZDm:tt 120=some (.strct [⟨0,1,false⟩,⟨1,1,false⟩] 2 [.nil 45 2,.nil 166 2]):=yi rfl
theorem ZDd:tt 123=some (.slice 228 5 80 [.c (.int .i64 0),.c (.str ⟨#[]⟩),.nil 9 1,.c (.str ⟨#[]⟩),.c (.str ⟨#[]⟩)]):=yi rfl
theorem ZDt:tt 124=some (.slice 231 3 48 [.c (.int .i64 0),.c (.str ⟨#[]⟩),.nil 9 1]):=yi rfl
theorem ZDx:tt 126=some (.strct [⟨0,1,false⟩,⟨1,1,false⟩,⟨2,1,false⟩,⟨3,1,false⟩] 4 [.c (.str ⟨#[]⟩),.c (.int .i64 0),.nil 228 5,.nil 231 3]):=yi rfl
theorem ZDk:tt 152=some (.strct [⟨0,1,false⟩,⟨1,1,false⟩,⟨2,1,false⟩] 3 [.nil 5 1,.c (.int .i64 0),.c (.int .i64 0)]):=yi rfl
theorem ZCD:tt 155=some (.slice 204 2 40 [.c (.str ⟨#[]⟩),.nil 45 2]):=yi rfl
theorem ZCS:tt 158=some (.slice 4 1 1 [.c (.bool false)]):=yi rfl
theorem ZDZ:tt 160=some (.slice 208 3 64 [.c (.str ⟨#[]⟩),.nil 45 2,.nil 166 2]):=yi rfl
theorem ZCv:tt 166=some (.strct [⟨0,1,false⟩,⟨1,1,false⟩] 2 [.c (.str ⟨#[]⟩),.c (.str ⟨#[]⟩)]):=yi rfl
theorem ZDn:tt 173=some (.strct [⟨0,1,false⟩,⟨1,2,true⟩,⟨3,1,false⟩,⟨4,1,false⟩] 5 [.c (.int .i64 0),.c (.str ⟨#[]⟩),.nil 9 1,.c (.str ⟨#[]⟩),.c (.str ⟨#[]⟩)]):=yi rfl
theorem ZD1:tt 199=some (.strct [⟨0,1,false⟩,⟨1,1,false⟩,⟨2,1,false⟩] 3 [.c (.int .i64 0),.nil 3 1,.nil 3 1]):=yi rfl
theorem ZCU:tt 204=some (.strct [⟨0,1,false⟩,⟨1,1,false⟩] 2 [.c (.str ⟨#[]⟩),.nil 45 2]):=yi rfl
theorem ZCF:tt 208=some (.strct [⟨0,1,false⟩,⟨1,2,true⟩] 3 [.c (.str ⟨#[]⟩),.nil 45 2,.nil 166 2]):=yi rfl
theorem ZC3:tt 226=some (.strct [⟨0,1,false⟩,⟨1,1,false⟩] 2 [.c (.str ⟨#[]⟩),.nil 9 1]):=yi rfl
theorem ZCL:tt 228=some (.strct [⟨0,1,false⟩,⟨1,2,true⟩,⟨3,1,false⟩,⟨4,1,false⟩] 5 [.c (.int .i64 0),.c (.str ⟨#[]⟩),.nil 9 1,.c (.str ⟨#[]⟩),.c (.str ⟨#[]⟩)]):=yi rfl
theorem ZCN:tt 231=some (.strct [⟨0,1,false⟩,⟨1,2,true⟩] 3 [.c (.int .i64 0),.c (.str ⟨#[]⟩),.nil 9 1]):=yi rfl
theorem ZCq:tt 241=some (.atom (.c (.int .u64 0))):=yi rfl
theorem ZEf:tt 270=some (.ifc):=yi rfl
theorem ZD5:tt 271=some (.ifc):=yi rfl
theorem ZCZ:tt 283=some (.atom (.c (.int .u32 0))):=yi rfl
theorem ZCR:tt 285=some (.atom (.c (.int .u64 0))):=yi rfl
theorem ZDl:tt 330=some (.strct [⟨0,1,false⟩] 1 [.c (.str ⟨#[]⟩)]):=yi rfl
theorem fnk {f : FuncId} {fn : Func} {c : Code} {args : List (Bool × List CT)} {res : List RT} (hf : prog.funcs[f]? = some fn) (hb : fn.body = some c) (h : fnS (fun _ => none) tt (SC prog J0 JF0 hds) fn.results.toList c args res) (hname : (fn.name == "runtime.NumGoroutine") = false := by kernel_rfl) (hok : Xh (fun _ => none) tt hds false fn.ntmps c = true := by kernel_rfl) (hlen : Nat.ble args.length fn.ntmps = true := by kernel_rfl) : Zk prog J0 f args res := Zv4 htt hJ0 hmix hf hname hb hok hlen h
theorem fnh {f : FuncId} {fn : Func} {c : Code} {h h' : ZgU} {args : List (Bool × List CT)} {res : List RT} (hf : prog.funcs[f]? = some fn) (hb : fn.body = some c) (hh : fnH (fun _ => none) tt (SC prog J0 JF0 hds) fn.results.toList c h args res h') (hname : (fn.name == "runtime.NumGoroutine") = false := by kernel_rfl) (hok : Xh (fun _ => none) tt hds true fn.ntmps c = true := by kernel_rfl) (hlen : Nat.blt args.length fn.ntmps = true := by kernel_rfl) : Zbx prog J0 JF0 f h args res h' := ZtM htt hJ0 hmix hf hname hb hok hlen hh
theorem fnb {f : FuncId} {fn : Func} {c : Code} {args : List (Bool × List CT)} {nb : NB} (hf : prog.funcs[f]? = some fn) (hb : fn.body = some c) (h : fnB (fun _ => none) tt (SC prog J0 JF0 hds) fn.results.toList c args nb) (hname : (fn.name == "runtime.NumGoroutine") = false := by kernel_rfl) (hok : Xh (fun _ => none) tt hds false fn.ntmps c = true := by kernel_rfl) (hlen : Nat.ble args.length fn.ntmps = true := by kernel_rfl) : Zmx prog J0 f args nb := ZtB htt hJ0 hmix hf hname hb hok hlen h
theorem fnn (t0 : Nat) {f : FuncId} {fn : Func} {c : Code} {args : List (Bool × List CT)} {res : List RT} (hf : prog.funcs[f]? = some fn) (hb : fn.body = some c) (h : fnN (fun _ => none) tt (SC prog J0 JF0 hds) fn.results.toList t0 c args res) (hname : (fn.name == "runtime.NumGoroutine") = false := by kernel_rfl) (hok : Xh (fun _ => none) tt hds false fn.ntmps c = true := by kernel_rfl) (hlen : Nat.ble args.length fn.ntmps = true := by kernel_rfl) : Zk prog J0 f args res := ZuH htt hJ0 hmix hf hname hb hok hlen t0 h
theorem ZJu (m : List (Nat × List Nat × Bool)) {f : FuncId} {fn : Func} {c : Code} {args : List (Bool × List CT)} {res : List RT} (hf : prog.funcs[f]? = some fn) (hb : fn.body = some c) (h : fnS (ZwW m) tt (SC prog J0 JF0 hds) fn.results.toList c args res) (hname : (fn.name == "runtime.NumGoroutine") = false := by kernel_rfl) (hok : Xh (ZwW m) tt hds false fn.ntmps c = true := by kernel_rfl) (hlen : Nat.ble args.length fn.ntmps = true := by kernel_rfl) : Zk prog J0 f args res := Zv4 htt hJ0 hmix hf hname hb hok hlen h
theorem ZJv (m : List (Nat × List Nat × Bool)) {f : FuncId} {fn : Func} {c : Code} {h h' : ZgU} {args : List (Bool × List CT)} {res : List RT} (hf : prog.funcs[f]? = some fn) (hb : fn.body = some c) (hh : fnH (ZwW m) tt (SC prog J0 JF0 hds) fn.results.toList c h args res h') (hname : (fn.name == "runtime.NumGoroutine") = false := by kernel_rfl) (hok : Xh (ZwW m) tt hds true fn.ntmps c = true := by kernel_rfl) (hlen : Nat.blt args.length fn.ntmps = true := by kernel_rfl) : Zbx prog J0 JF0 f h args res h' := ZtM htt hJ0 hmix hf hname hb hok hlen hh
def Zl (x:Zb):List CT:=[.str x.rel,.sl 9 1 (A3 Zx x.args)]
theorem ZvR (x:Zb):Zl x=[.str x.rel,.sl 9 1 (A3 Zx x.args)]:=yi rfl
def Z4 (x:Zs):List CT:=[.str x.var,.str x.value]
theorem Zu9 (x:Zs):Z4 x=[.str x.var,.str x.value]:=yi rfl
theorem Zsc (l:List Zs):ZaN (l.map Z4)=true:=ZbO (fun _=>rfl) l
def Zc8 (x:Qg):List CT:=[.str x.rule,.sl 45 2 (A3 Zl x.facts),.sl 166 2 (A3 Z4 x.binding)]
theorem ZtT (x:Qg):Zc8 x=[.str x.rule,.sl 45 2 (A3 Zl x.facts),.sl 166 2 (A3 Z4 x.binding)]:=yi rfl
def QA (x:Zv):List CT:=[.str x.rel,.sl 9 1 (A3 Zx x.args)]
theorem Zq5 (x:Zv):QA x=[.str x.rel,.sl 9 1 (A3 Zx x.args)]:=yi rfl
def ZK (x:Zt):List CT:=[.int .i64 x.kind,.str x.pattern.rel,.sl 9 1 (A3 Zx x.pattern.args),.str x.left,.str x.right]
theorem Zwb (x:Zt):ZK x=[.int .i64 x.kind,.str x.pattern.rel,.sl 9 1 (A3 Zx x.pattern.args),.str x.left,.str x.right]:=yi rfl
def ZG (x:Zz):List CT:=[.int .i64 x.kind,.str x.pattern.rel,.sl 9 1 (A3 Zx x.pattern.args)]
theorem Zsr (x:Zz):ZG x=[.int .i64 x.kind,.str x.pattern.rel,.sl 9 1 (A3 Zx x.pattern.args)]:=yi rfl
def ZF (x:Zg):List CT:=[.str x.name,.int .i64 x.priority,.sl 173 5 (A3 ZK x.cond),.sl 50 3 (A3 ZG x.thn)]
theorem Zvs (x:Zg):ZF x=[.str x.name,.int .i64 x.priority,.sl 173 5 (A3 ZK x.cond),.sl 50 3 (A3 ZG x.thn)]:=yi rfl
def ZE (x:Zf):List CT:=[.int .i64 x.for_,.sl 3 1 (A3 ZI x.inn),.sl 3 1 (A3 ZI x.outs)]
theorem Zsg (x:Zf):ZE x=[.int .i64 x.for_,.sl 3 1 (A3 ZI x.inn),.sl 3 1 (A3 ZI x.outs)]:=yi rfl
def XY (x:Zr):List CT:=[.int .i64 x.nodes,.sl 199 3 (A3 ZE x.reasons)]
theorem ZqM (x:Zr):XY x=[.int .i64 x.nodes,.sl 199 3 (A3 ZE x.reasons)]:=yi rfl
def ZAT (x:QZ):List CT:=[.int .i64 x.beliefs.nodes,.sl 199 3 (A3 ZE x.beliefs.reasons),.sl 3 1 (A3 ZI x.assumed),.sl 3 1 (A3 ZI x.bad)]
theorem Zut (x:QZ):ZAT x=[.int .i64 x.beliefs.nodes,.sl 199 3 (A3 ZE x.beliefs.reasons),.sl 3 1 (A3 ZI x.assumed),.sl 3 1 (A3 ZI x.bad)]:=yi rfl
def YK (x:Zu):List CT:=[.sl 45 2 (A3 Zl x.facts),.sl 166 2 (A3 Z4 x.binding)]
theorem ZuG (x:Zu):YK x=[.sl 45 2 (A3 Zl x.facts),.sl 166 2 (A3 Z4 x.binding)]:=yi rfl
def Zbj (x:ZJ):List CT:=[.sl 5 1 (A3 ZeK x.b),.int .i64 x.i,.int .i64 x.h]
theorem Zug (x:ZJ):Zbj x=[.sl 5 1 (A3 ZeK x.b),.int .i64 x.i,.int .i64 x.h]:=yi rfl
def Zhi (x:ZaA):List CT:=[.str x.rule,.sl 45 2 (A3 Zl x.facts)]
theorem Zst (x:ZaA):Zhi x=[.str x.rule,.sl 45 2 (A3 Zl x.facts)]:=yi rfl
def Ze9 (x:Xr):List CT:=[.str x.rule,.sl 45 2 (A3 Zl x.token.facts),.sl 166 2 (A3 Z4 x.token.binding)]
theorem ZoU (x:Xr):Ze9 x=[.str x.rule,.sl 45 2 (A3 Zl x.token.facts),.sl 166 2 (A3 Z4 x.token.binding)]:=yi rfl
def Zse (x:(List Zb)):List CT:=[.sl 45 2 (A3 Zl x)]
theorem Zna (x:(List Zb)):Zse x=[.sl 45 2 (A3 Zl x)]:=yi rfl
attribute [go_sem] tt2 tt3 tt4 tt5 tt9 ZEN ZEZ ZEW ZE2 ZEV ZEH ZES ZER ZEA ZEB ZEJ ZED ZEo ZEQ ZE9 ZFa ZEs ZE7 ZE5 ZEP ZEI ZEm ZEM ZEw ZE8 ZCO ZD4 ZDm ZDd ZDt ZDx ZDk ZCD ZCS ZDZ
attribute [go_sem] ZCv ZDn ZD1 ZCU ZCF ZC3 ZCL ZCN ZCq ZEf ZD5 ZCZ ZCR ZDl ZEK ZEv ZEt ZNl ZE3 ZEp ZDO ZD7 ZDh ZCr ZDN ZDF ZCx ZDT ZDz ZDD ZDf ZC4 ZEk ZDs ZDi ZCt ZDg ZEd ZEh ZD6
attribute [go_sem] ZD3 ZDE ZDU ZCI ZCz ZCH ZDJ ZCA ZC2 ZCp ZCY ZDe ZDA ZEb ZCX ZDc ZEg ZEa ZC6 ZDC ZCG ZDM ZCM ZDK ZDb ZD8 ZDV ZDX ZEe ZEc ZDa ZCQ ZCE ZDy ZC8 ZEj ZD9 ZEi ZDQ ZC1
attribute [go_sem] ZDS ZDv ZCs ZDu ZBQ ZAn Zz2 ZAb ZB8 ZAu Zyr Zyp Zyz ZAM ZBD ZCm ZyY ZA5 ZyI ZAx Zzk ZyR Zx3 ZAD ZB4 ZzN ZAp ZyG ZzR ZB9 ZzP ZBm ZAH ZAE ZBi ZA3 Zzj ZAy Zx4 ZyH
attribute [go_sem] ZyS Zyk ZAd ZBG ZBE ZzS ZBh ZzZ ZB2 ZBy ZBa ZzL ZAN Zy4 ZzW ZBz ZA8 ZBV Zz9 ZB6 ZB3 ZzQ Zyn Zyx ZyZ ZBF ZAX Zzs ZzI ZzT ZA9 ZAP Zzg ZyV ZyB Zzz ZBS ZBL ZBw ZzF
attribute [go_sem] Zy7 ZAq ZzY ZAo ZzG ZyT ZyL Zys Zzt ZAl Zyf ZBq ZAv Zzi ZAw ZCh Zyi ZCo ZAI ZCe ZBM ZAh ZBP ZAY ZAk Zze ZyO ZBR Zy5 Zx6 ZCn ZAF ZCg ZyJ ZzB Zzc Zzn ZAU ZCa Zzu
attribute [go_sem] ZBg ZyP Zyy ZzV ZzX ZBl ZzA ZB7 Zzl ZAm ZAz ZAG ZyA Zz5 ZAW ZyW Zzf ZAj ZAR Zy9 Zym ZCf ZAO ZBk ZyX ZCj Zyt Zz3 Zx7 ZAs ZAA ZAQ Zyl Zyb ZBn ZBf ZBd ZA7 Zzw ZBN
attribute [go_sem] Zzy ZAK ZBZ ZBs ZAZ ZBU ZBA ZBB Zyq Zz8 Zyv ZBe Zz1 ZyD Zyo ZA0 ZBb ZAS ZBT ZCd ZB0 ZBx Zye ZAL ZzM ZvR Zsc Zu9 ZtT Zq5 Zwb Zsr Zvs Zsg ZqM Zut ZuG Zug Zst ZoU
attribute [go_sem] Zna
end
end Go.Proofs.YtfehfkfdfmcgfaaGreatDoor
