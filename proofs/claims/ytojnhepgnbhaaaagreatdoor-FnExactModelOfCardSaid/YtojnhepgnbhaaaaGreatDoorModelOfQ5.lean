/- Texts of this proof, joined: BDraw, BAny, BSound, BFn, BTok, Laid, DT, Shelf, SortH, SortZ, LCompare, SortS, LAtoi, LItoa, Ext. What each holds is said at its theorems. -/
import Derived.Test.YtojnhepgnbhaaaaGreatDoorModelOfQ4
import Derived.Orders
import Derived.Test.YtojnhepgnbhaaaaGreatDoorModelOfQ1
import GoSem.Claims
import Derived.Test.YtojnhepgnbhaaaaGreatDoorModelOfQ2
import Derived.Test.YtojnhepgnbhaaaaGreatDoorProg
import Derived.Lib.LaidTab
import Derived.Lib.ItoaNum
import Derived.Shelf.Small.Strs
import Derived.Shelf.Small.Wraps
import Derived.Shelf.Strconv.Atoi
import Derived.Shelf.Strconv.Itoa0
import Derived.Shelf.Strconv.Itoa1
import Derived.Shelf.LaysM
import Derived.Shelf.Strconv.Itoa2
import Derived.Shelf.Strconv.Itoa3
import Derived.Shelf.Strconv.AtoiErrFast
import Derived.Shelf.Strconv.ParseIntEmpty
import Derived.Shelf.Strconv.AtoiFail
import Derived.Shelf.Strconv.Clone
import Derived.Shelf.Strconv.SyntaxError
import Derived.Shelf.LaysC
import Derived.Shelf.Strconv.ToError
import Derived.Shelf.Strconv.AtoiErr
import Derived.Shelf.Strconv.ErrVar
import Derived.Shelf.Sort.Plain
import Derived.Shelf.Slices.In.SortNone
import Derived.Shelf.Slices.In.SortNone2
import Derived.Lib.AtoiErrMem
import Derived.Lib.AppendIntMem
import Derived.Lib.ItoaLen
set_option linter.unusedSimpArgs false
set_option linter.unusedVariables false
namespace Go.Proofs.YtojnhepgnbhaaaaGreatDoor
open Go.RowKit
def Zsj:Option TI→Bool
 | some (.slice _ _ _ z)=>z.all ZiB
 | _=>false
def cls (tt:Nat→Option TI) (hs:FuncId→Nat):Op→Nat
 | .move _=>0
 | .assign _=>0
 | .pick _ _ _=>0
 | .build _ _=>0
 | .nilCheck _=>0
 | .binOp _ _ _ _ _=>0
 | .unOp _ _ _=>0
 | .convert _ t _=>if ZcI (tt t)=true then 1 else 0
 | .slice t _ lo hi _=>if ZcI (tt t)=true then 0 else if lo.isSome&&hi.isNone then 4 else 3
 | .fieldAddr _ _ _=>0
 | .field _ _ _=>0
 | .index _ _ _=>0
 | .extract _ _=>0
 | .alloc _=>1
 | .box _ _=>1
 | .load _ _=>1
 | .makeMap _ _=>1
 | .lookup _ _ _ _=>1
 | .makeSlice _ _ _=>1
 | .indexAddr _ _ _=>1
 | .buildSlice t _ ps=>if ps.size=0∨Zsj (tt t)=true then 2 else 3
 | .call ⟨.builtin .len,_,_⟩=>1
 | .call ⟨.builtin .max,_,_⟩=>0
 | .call ⟨.builtin .min,_,_⟩=>0
 | .call ⟨.value (.func f),_,_⟩=>if hs f=0 then 1 else 4
 | _=>4
section
variable {P:Program} {W:Q8} {U:Nat→Prop} {key:Nat} {st st':St} {w w':World} {a:Act} {tt:Nat→Option TI} {S:Ctx} {Q:Exit→Act→World→Prop}
def ZhN (tt:Nat→Option TI) (S:Ctx) (key:Nat) (o:Oper) (st:St) (v:SV) (u:List (Nat × Ob)):Prop:=
 match Qw o.op with
 | some c=>ZdC S c.1 (S.hd c.1) key st (evs tt st c.2.1 c.2.2) v u
 | none=>match Xr o.op with
  | some c=>∃fc,Zmz (st.sl c.1)=some fc∧S.hd fc.1=0∧ZdC S fc.1 0 key st (evs tt st c.2.1 c.2.2++fc.2.map Zjq) v u
  | none=>opE tt key o st=some (v,u)
def opR (tt:Nat→Option TI) (S:Ctx) (all:List Oper) (key:Nat) (o:Oper) (st:St) (v:SV) (u:List (Nat × Ob)):Prop:=
 match Zbk all o with
 | none=>ZhN tt S key o st v u
 | some (none,_)=>v=.und∧u=[]
 | some (some t,want)=>gK (st.sl t) want (ZhN tt S key o st v u) (v=.und∧u=[])
theorem ZqH [NW] {o:Oper} {K:St→Prop}:opS tt S key o K st↔∃v u,ZhN tt S key o st v u∧K ((st.put o.dst v).app u):=by
 cases hc:Qw o.op with
 | some c=>
  simp only [opS,ZhN,hc]
  exact ZjR
 | none=>
  simp only [opS,ZhN,hc]
  cases hd:Xr o.op with
  | some c=>
   simp only
   constructor
   ·intro h
    unfold YS at h
    split at h
    ·rename_i fc hfc
     obtain ⟨h0,h⟩:=h
     obtain ⟨v,u,h1,h2⟩:=ZjR.1 h
     exact ⟨v,u,⟨fc,hfc,h0,h1⟩,h2⟩
    ·exact h.elim
   ·rintro ⟨v,u,⟨fc,hfc,h0,h1⟩,h2⟩
    rw [hfc]
    exact ⟨h0,ZjR.2 ⟨v,u,h1,h2⟩⟩
  | none=>
   simp only
   constructor
   ·intro h
    unfold YS at h
    split at h
    ·rename_i r hr
     exact ⟨r.1,r.2,hr,h⟩
    ·exact h.elim
   ·rintro ⟨v,u,h1,h2⟩
    rw [h1]
    exact h2
theorem Zgg [NW] {all:List Oper} {o:Oper} {K:St→Prop}:opG tt S all key o K st↔∃v u,opR tt S all key o st v u∧K ((st.put o.dst v).app u):=by
 have skip:K (st.put o.dst .und)↔∃v u,(v=SV.und∧u=[])∧K ((st.put o.dst v).app u):=by
  constructor
  ·intro h;exact ⟨.und,[],⟨rfl,rfl⟩,h⟩
  ·rintro ⟨v,u,⟨rfl,rfl⟩,h⟩;exact h
 cases hg:Zbk all o with
 | none=>simp only [opG,opR,hg];exact ZqH
 | some q=>
  obtain ⟨q,want⟩:=q
  cases q with
  | none=>simp only [opG,opR,hg];exact skip
  | some t=>
   simp only [opG,opR,hg,gK]
   by_cases h1:QO (st.sl t)=true
   ·by_cases h2:(X0 (st.sl t)==want)=true
    ·simp only [h1,h2,if_true];exact ZqH
    ·simp only [h1,h2,if_true,if_false];exact skip
   ·by_cases h2:ZoV (st.sl t)=true
    ·simp only [h1,h2,if_true,if_false];exact skip
    ·simp only [h1,h2,if_false];simp
theorem ZhW [NW] {ts:List TypeId} {xs:List Operand} (h:∀x∈xs,∀t,st.ev tt t x=st'.ev tt t x):evs tt st ts xs=evs tt st' ts xs:=by
 unfold evs
 refine List.map_congr_left fun p hp=>h p.2 ?_ p.1
 rw [←Zet ts xs]
 exact List.mem_map.2 ⟨p,hp,rfl⟩
def Wk (st st':St) (U:Nat→Prop):Prop:=∀k,U k→st'.ob k=st.ob k∨st'.ob k=Ym (st.ob k)
theorem Wk.of (h:∀k,U k→st.ob k=st'.ob k):Wk st st' U:=fun k hk=>.inl (h k hk).symm
theorem Zf5 (hob:Wk st st' U):∀{xs:List AV},Qz U xs→Y2 st xs=Y2 st' xs
 | [],_=>rfl
 | x::r,h=>by
  have hx:Zch st x=Zch st' x:=by
   cases x with
   | row k=>
    simp only [Zch]
    rcases hob k (h (.row k) (by simp)) with e | e
    ·rw [e]
    ·rw [e];cases st.ob k<;>rfl
   | _=>rfl
  have hr:=Zf5 hob (xs:=r) (fun y m=>h y (by simp [m]))
  simp only [Y2,hx,hr]
theorem Zfu [NW] (hob:Wk st st' U):∀{xs:List SV},(∀x∈xs,svU U x)→Yc st xs=Yc st' xs
 | [],_=>rfl
 | x::r,h=>by
  have hx:ZdH st x=ZdH st' x:=by
   cases x with
   | p ag cs=>simp only [ZdH,Zf5 hob (h (.p ag cs) (by simp))]
   | _=>rfl
  have hr:=Zfu hob (xs:=r) (fun y m=>h y (by simp [m]))
  simp only [Yc,hx,hr]
theorem ZpG (hob:Wk st st' U) {t:Option TI} {x:SV} (hx:svU U x):ZbW st t x=ZbW st' t x:=by
 cases x with
 | bp k off=>
  simp only [ZbW]
  rcases hob k hx with e | e
  ·rw [e]
  ·rw [e];cases st.ob k<;>rfl
 | rp k m i off=>
  simp only [ZbW]
  rcases hob k hx with e | e
  ·rw [e]
  ·rw [e];cases st.ob k<;>rfl
 | p ag cs=>cases ag with
  | true=>rfl
  | false=>cases cs with
   | nil=>rfl
   | cons y r=>cases r<;>cases y<;>first | rfl | (rename_i z;cases z<;>rfl) | (rename_i z _ _;cases z<;>rfl)
 | _=>rfl
theorem ZqY (hob:Wk st st' U) {t:Option TI} {x:SV} (hx:svU U x):Zqd st t x=Zqd st' t x:=by
 unfold Zqd
 split<;>try rfl
 rename_i k
 rcases hob k (hx (.row k) (by simp)) with e | e
 ·rw [e]
 ·rw [e];cases st.ob k<;>rfl
theorem Znc (hob:Wk st st' U) {m:Nat} {x i:SV} (hx:svU U x):ZdJ st m x i=ZdJ st' m x i:=by
 unfold ZdJ
 split<;>try rfl
 rename_i k _ _
 rcases hob k (hx (.row k) (by simp)) with e | e
 ·rw [e]
 ·rw [e];cases st.ob k<;>rfl
theorem ZrP (hob:st.ob=st'.ob) (x:SV):Zh2 st x=Zh2 st' x:=by
 unfold Zh2
 rw [hob]
theorem Zk0 [NW] (hob:st.ob=st'.ob):∀xs:List SV,ZdM st xs=ZdM st' xs
 | []=>rfl
 | x::r=>by simp only [ZdM,ZrP hob x,Zk0 hob r]
theorem Zp3 (hob:Wk st st' U) {t:Option TI} {x i:SV} {ok:Bool} (hx:svU U x):Zjf st t x i ok=Zjf st' t x i ok:=by
 unfold Zjf
 split<;>try rfl
 rename_i k
 rcases hob k (hx (.row k) (by simp)) with e | e
 ·rw [e]
 ·rw [e];cases st.ob k<;>rfl
theorem ZpD (hob:Wk st st' U) {x:SV} (hx:svU U x):ZkR st x=ZkR st' x:=by
 unfold ZkR
 split<;>try rfl
 rename_i k
 rcases hob k (hx (.row k) (by simp)) with e | e
 ·rw [e]
 ·rw [e];cases st.ob k<;>rfl
theorem ZpH [NW] (hob:Wk st st' U) {s t:Nat} {x:SV} (hx:svU U x):Zgv tt st s t x=Zgv tt st' s t x:=by
 unfold Zgv
 rw [ZpD hob hx]
theorem Zrq [NW] {o:Oper} {sl sl':Nat→SV} {ob:Nat→Ob} {n n':Nat} (hl:∀x∈o.op.operands,∀t,St.ev tt ⟨sl,ob,n⟩ t x=St.ev tt ⟨sl',ob,n'⟩ t x):opE tt key o ⟨sl,ob,n⟩=opE tt key o ⟨sl',ob,n'⟩:=by
 obtain ⟨dst,op,ty,pos,af,gd⟩:=o
 cases op with
 | build t parts=>
  have hp:∀fs z,parts.toList.map (Zfa tt ⟨sl,ob,n⟩ fs z)=parts.toList.map (Zfa tt ⟨sl',ob,n'⟩ fs z):=fun fs z=>List.map_congr_left fun p hp=>by
   have:=hl p.2 (by simp [Op.operands];exact ⟨p.1,by simpa using hp⟩) 0
   unfold Zfa
   split
   ·rfl
   ·rw [this]
  simp only [opE,hp]
 | buildSlice t len parts=>
  have hp:∀e,(parts.toList.map fun p=>St.ev tt ⟨sl,ob,n⟩ e p.2)=parts.toList.map fun p=>St.ev tt ⟨sl',ob,n'⟩ e p.2:=fun e=>List.map_congr_left fun p hp=>hl p.2 (by simp [Op.operands];exact ⟨p.1,by simpa using hp⟩) e
  have he:∀m l,Y1 ⟨sl,ob,n⟩ m l=Y1 ⟨sl',ob,n'⟩ m l:=fun m l=>by
   have h1:∀x,avT ⟨sl,ob,n⟩ x=avT ⟨sl',ob,n'⟩ x:=fun x=>by cases x<;>rfl
   have h2:∀xs,Zfb ⟨sl,ob,n⟩ xs=Zfb ⟨sl',ob,n'⟩ xs:=fun xs=>by
    induction xs with
    | nil=>rfl
    | cons x xs ih=>simp only [Zfb,h1,ih]
   induction l with
   | nil=>rfl
   | cons x xs ih=>cases x<;>simp only [Y1,h2,ih]
  have hz:∀ks,ZP ⟨sl,ob,n⟩ ks=ZP ⟨sl',ob,n'⟩ ks:=fun ks=>by
   induction ks with
   | nil=>rfl
   | cons k r ih=>simp only [ZP,ih]
  simp only [opE,hp,he,hz]
 | slice t x lo hi mx=>
  simp only [Op.operands] at hl
  cases mx with
  | some _=>rfl
  | none=>
   have hx:=fun t=>hl x (by simp) t
   cases lo with
   | none=>cases hi with
    | none=>simp only [opE,hx,Option.map_none];rfl
    | some h=>have hh:=fun t=>hl h (by simp) t;simp only [opE,hx,hh,Option.map_none,Option.map_some];rfl
   | some l=>
    have hlo:=fun t=>hl l (by simp) t
    cases hi with
    | none=>simp only [opE,hx,hlo,Option.map_none,Option.map_some];rfl
    | some h=>have hh:=fun t=>hl h (by simp) t;simp only [opE,hx,hlo,hh,Option.map_some];rfl
 | call c=>
  obtain ⟨callee,args,ts⟩:=c
  cases callee with
  | builtin b=>
   have:=ZhW (tt:=tt) (st:=⟨sl,ob,n⟩) (st':=⟨sl',ob,n'⟩) (ts:=ts.toList) (xs:=args.toList) (fun x m t=>hl x (by simp [Op.operands,Call.operands];simpa using m) t)
   simp only [opE,this]
   unfold Zqb
   split<;>rfl
  | value f=>rfl
  | invoke r m=>rfl
 | move x=>have:=fun t=>hl x (by simp [Op.operands]) t;simp only [opE,this]
 | assign x=>have:=fun t=>hl x (by simp [Op.operands]) t;simp only [opE,this]
 | pick c x y=>have h1:=fun t=>hl c (by simp [Op.operands]) t;have h2:=fun t=>hl x (by simp [Op.operands]) t;have h3:=fun t=>hl y (by simp [Op.operands]) t;simp only [opE,h1,h2,h3]
 | alloc t=>rfl
 | box t x=>have:=fun t=>hl x (by simp [Op.operands]) t;simp only [opE,this]
 | load t x=>have:=fun t=>hl x (by simp [Op.operands]) t;simp only [opE,this];rfl
 | store t x v=>have h1:=fun t=>hl x (by simp [Op.operands]) t;have h2:=fun t=>hl v (by simp [Op.operands]) t;simp only [opE,h1,h2];rfl
 | nilCheck x=>have:=fun t=>hl x (by simp [Op.operands]) t;simp only [opE,this]
 | binOp op t x y t'=>have h1:=fun t=>hl x (by simp [Op.operands]) t;have h2:=fun t=>hl y (by simp [Op.operands]) t;simp only [opE,h1,h2]
 | unOp op t x=>have:=fun t=>hl x (by simp [Op.operands]) t;simp only [opE,this]
 | convert s t x=>have:=fun t=>hl x (by simp [Op.operands]) t;simp only [opE,this];rfl
 | makeFunc fn first caps=>
  cases fn with
  | func f=>
   have hc:caps.toList.map (St.ev tt ⟨sl,ob,n⟩ 0)=caps.toList.map (St.ev tt ⟨sl',ob,n'⟩ 0):=List.map_congr_left fun x hx=>hl x (by simp [Op.operands];exact .inr (by simpa using hx)) 0
   simp only [opE,hc,Zk0 (st:=⟨sl,ob,n⟩) (st':=⟨sl',ob,n'⟩) rfl]
  | _=>rfl
 | makeMap t r=>cases r<;>rfl
 | lookup t x i ok=>have h1:=fun t=>hl x (by simp [Op.operands]) t;have h2:=fun t=>hl i (by simp [Op.operands]) t;simp only [opE,h1,h2];rfl
 | mapUpdate t x i v=>have h1:=fun t=>hl x (by simp [Op.operands]) t;have h2:=fun t=>hl i (by simp [Op.operands]) t;have h3:=fun t=>hl v (by simp [Op.operands]) t;simp only [opE,h1,h2,h3];rfl
 | makeSlice t x y=>have h1:=fun t=>hl x (by simp [Op.operands]) t;have h2:=fun t=>hl y (by simp [Op.operands]) t;simp only [opE,h1,h2]
 | fieldAddr t x f=>have:=fun t=>hl x (by simp [Op.operands]) t;simp only [opE,this]
 | field t x f=>have:=fun t=>hl x (by simp [Op.operands]) t;simp only [opE,this]
 | indexAddr t x y=>have h1:=fun t=>hl x (by simp [Op.operands]) t;have h2:=fun t=>hl y (by simp [Op.operands]) t;simp only [opE,h1,h2];rfl
 | index t x y=>have h1:=fun t=>hl x (by simp [Op.operands]) t;have h2:=fun t=>hl y (by simp [Op.operands]) t;simp only [opE,h1,h2]
 | extract x i=>have:=fun t=>hl x (by simp [Op.operands]) t;simp only [opE,this]
 | _=>rfl
theorem Zux (sl:Nat→SV) (ob ob':Nat→Ob) (n n' t:Nat) (x:Operand):St.ev tt ⟨sl,ob,n⟩ t x=St.ev tt ⟨sl,ob',n'⟩ t x:=by cases x<;>rfl
theorem Zsk {st st':St} (h:∀k,U k→st.ob k=st'.ob k) {x:AV} (hx:avU U x):avT st x=avT st' x:=by
 cases x with
 | row k=>simp only [avT];rw [h k hx]
 | c x=>cases x<;>rfl
 | nil e m=>rfl
 | n x=>rfl
 | dead=>rfl
theorem ZmH [NW] {st st':St} (h:∀k,U k→st.ob k=st'.ob k):∀{xs:List AV},Qz U xs→Zfb st xs=Zfb st' xs
 | [],_=>rfl
 | x::r,hx=>by simp only [Zfb];rw [Zsk h (hx x (by simp)),ZmH h fun y m=>hx y (by simp [m])]
theorem Zjr [NW] {st st':St} {m:Nat} (h:∀k,U k→st.ob k=st'.ob k):∀{xs:List SV},(∀v∈xs,svU U v)→Y1 st m xs=Y1 st' m xs
 | [],_=>rfl
 | .p a cs::r,hx=>by
  simp only [Y1]
  rw [ZmH h (hx (.p a cs) (by simp)),Zjr h fun v mv=>hx v (by simp [mv])]
 | .any::r,_=>rfl
 | .und::r,_=>rfl
 | .tup _::r,_=>rfl
 | .bp _ _::r,_=>rfl
 | .rp _ _ _ _::r,_=>rfl
 | .ep _ _::r,_=>rfl
 | .fn _::r,_=>rfl
theorem ZrK {x:AV} {ct:CT} {ks:List Nat} {d:Nat} (h:avT st x=some (ct,ks,d)) (hx:avU U x):∀k∈ks,U k:=by
 intro k mk
 cases x with
 | c y=>cases y<;>simp only [avT,Option.some.injEq,Prod.mk.injEq] at h<;>(rw [←h.2.1] at mk;simp at mk)
 | nil e m=>
  simp only [avT] at h
  split at h<;>simp only [Option.some.injEq,Prod.mk.injEq,reduceCtorEq] at h
  rw [←h.2.1] at mk;simp at mk
 | row j=>
  simp only [avT] at h
  split at h
  ·split at h<;>simp only [Option.some.injEq,Prod.mk.injEq] at h
   ·rw [←h.2.1] at mk;simp at mk
   ·rw [←h.2.1] at mk;simp at mk;subst mk;exact hx
  ·simp at h
 | n x=>simp [avT] at h
 | dead=>simp [avT] at h
theorem Zlg [NW]:∀{xs:List AV} {cts:List CT} {ks:List Nat} {d:Nat},Zfb st xs=some (cts,ks,d)→Qz U xs→∀k∈ks,U k
 | [],_,_,_,h,_,k,mk=>by simp only [Zfb,Option.some.injEq,Prod.mk.injEq] at h;rw [←h.2.1] at mk;simp at mk
 | x::r,_,_,_,h,hu,k,mk=>by
  simp only [Zfb] at h
  obtain ⟨⟨c1,k1,d1⟩,h1,h⟩:=Option.bind_eq_some_iff.1 h
  obtain ⟨⟨c2,k2,d2⟩,h2,h⟩:=Option.map_eq_some_iff.1 h
  simp only [Prod.mk.injEq] at h
  rw [←h.2.1] at mk
  rcases List.mem_append.1 mk with mk | mk
  ·exact ZrK h1 (hu x (by simp)) k mk
  ·exact Zlg h2 (fun y my=>hu y (by simp [my])) k mk
theorem ZeU [NW] {m:Nat}:∀{xs:List SV} {es:List (List CT)} {ks:List Nat} {d:Nat},Y1 st m xs=some (es,ks,d)→(∀v∈xs,svU U v)→∀k∈ks,U k
 | [],_,_,_,h,_,k,mk=>by simp only [Y1,Option.some.injEq,Prod.mk.injEq] at h;rw [←h.2.1] at mk;simp at mk
 | x::r,_,_,_,h,hu,k,mk=>by
  cases x with
  | p a cs=>
   simp only [Y1] at h
   split at h
   ·obtain ⟨⟨c1,k1,d1⟩,h1,h⟩:=Option.bind_eq_some_iff.1 h
    obtain ⟨⟨c2,k2,d2⟩,h2,h⟩:=Option.map_eq_some_iff.1 h
    simp only [Prod.mk.injEq] at h
    rw [←h.2.1] at mk
    rcases List.mem_append.1 mk with mk | mk
    ·exact Zlg h1 (hu (.p a cs) (by simp)) k mk
    ·exact ZeU h2 (fun v mv=>hu v (by simp [mv])) k mk
   ·simp at h
  | _=>simp [Y1] at h
theorem ZoA {st st':St} {ks:List Nat} (h:∀k∈ks,st.ob k=st'.ob k):ZP st ks=ZP st' ks:=by
 induction ks with
 | nil=>rfl
 | cons k r ih=>simp only [ZP,h k (by simp),ih fun j mj=>h j (by simp [mj])]
theorem Zp8 {ks:List Nat} {p:Nat × Ob} (h:p∈ZP st ks):p.1∈ks∧p.2=Ym (st.ob p.1):=by
 induction ks with
 | nil=>simp [ZP] at h
 | cons k r ih=>
  simp only [ZP,List.mem_cons] at h
  rcases h with rfl | h
  ·exact ⟨by simp,rfl⟩
  ·exact ⟨by simp [(ih h).1],(ih h).2⟩
theorem Znf [NW] {hs:FuncId→Nat} {o:Oper} {sl:Nat→SV} {ob ob':Nat→Ob} {n n':Nat} (h:cls tt hs o.op=0∨(cls tt hs o.op≤3∧(∀k,U k→ob k=ob' k)∧∀t x,svU U (St.ev tt ⟨sl,ob,n⟩ t x))∨(cls tt hs o.op≤1∧Wk ⟨sl,ob,n⟩ ⟨sl,ob',n'⟩ U∧∀t x,svU U (St.ev tt ⟨sl,ob,n⟩ t x))):opE tt key o ⟨sl,ob,n⟩=opE tt key o ⟨sl,ob',n'⟩:=by
 have he:=fun t x=>Zux (tt:=tt) sl ob ob' n n' t x
 have hle:cls tt hs o.op≤3:=by rcases h with h | h | h<;>omega
 have hwk:cls tt hs o.op=0∨(Wk ⟨sl,ob,n⟩ ⟨sl,ob',n'⟩ U∧∀t x,svU U (St.ev tt ⟨sl,ob',n'⟩ t x)):=by
  rcases h with h | h | h
  ·exact .inl h
  ·exact .inr ⟨fun k hk=>.inl (h.2.1 k hk).symm,fun t x=>he t x ▸ h.2.2 t x⟩
  ·exact .inr ⟨h.2.1,fun t x=>he t x ▸ h.2.2 t x⟩
 obtain ⟨dst,op,ty,pos,af,gd⟩:=o
 cases op with
 | build t parts=>
  have hp:∀fs z,parts.toList.map (Zfa tt ⟨sl,ob,n⟩ fs z)=parts.toList.map (Zfa tt ⟨sl,ob',n'⟩ fs z):=fun fs z=>List.map_congr_left fun p hp=>by
   unfold Zfa
   split
   ·rfl
   ·rw [he]
  simp only [opE,hp]
 | buildSlice t len parts=>
  have hc:2≤cls tt hs (.buildSlice t len parts):=by simp only [cls];split<;>omega
  have h':(∀k,U k→ob k=ob' k)∧∀t x,svU U (St.ev tt ⟨sl,ob,n⟩ t x):=by
   rcases h with h | h | h
   ·simp only at h;omega
   ·exact h.2
   ·simp only at h;omega
  obtain ⟨h1,h2⟩:=h'
  simp only [opE,he]
  split
  ·rename_i e m _ z _
   have hu:∀v∈parts.toList.map (fun p=>St.ev tt ⟨sl,ob',n'⟩ e p.2),svU U v:=fun v mv=>by obtain ⟨p,_,rfl⟩:=List.mem_map.1 mv;rw [←he];exact h2 _ _
   rw [Zjr (U:=U) (st:=⟨sl,ob,n⟩) (st':=⟨sl,ob',n'⟩) h1 hu]
   cases hel:Y1 ⟨sl,ob',n'⟩ m (parts.toList.map fun p=>St.ev tt ⟨sl,ob',n'⟩ e p.2) with
   | none=>rfl
   | some a=>
    have hk:=ZeU (U:=U) hel hu
    have:=ZoA (st:=⟨sl,ob,n⟩) (st':=⟨sl,ob',n'⟩) (ks:=a.2.1) (fun k mk=>h1 k (hk k mk))
    simp only [Option.bind_some,this]
  ·rfl
 | load t x=>
  obtain ⟨h1,h2⟩:=hwk.resolve_left (by simp [cls])
  simp only [opE,he]
  rw [ZpG (U:=U) (st:=⟨sl,ob,n⟩) (st':=⟨sl,ob',n'⟩) h1 (h2 0 x)]
 | indexAddr t x y=>
  obtain ⟨h1,h2⟩:=hwk.resolve_left (by simp [cls])
  simp only [opE,he]
  split
  ·rw [Znc (U:=U) (st:=⟨sl,ob,n⟩) (st':=⟨sl,ob',n'⟩) h1 (h2 0 x)]
  ·rfl
 | call c=>
  obtain ⟨callee,args,ts⟩:=c
  cases callee with
  | builtin b=>
   have hev:evs tt ⟨sl,ob,n⟩ ts.toList args.toList=evs tt ⟨sl,ob',n'⟩ ts.toList args.toList:=ZhW fun x _ t=>he t x
   simp only [opE,hev]
   unfold Zqb
   split
   ·rename_i t _ v he1 he2
    obtain ⟨h1,h2⟩:=hwk.resolve_left (by simp [cls])
    have hu:svU U v:=by
     have hm:v∈evs tt ⟨sl,ob',n'⟩ ts.toList args.toList:=by simp [he2]
     obtain ⟨p,_,rfl⟩:=List.mem_map.1 hm
     exact h2 _ _
    rw [ZqY (U:=U) (st:=⟨sl,ob,n⟩) (st':=⟨sl,ob',n'⟩) h1 hu]
   ·simp [cls] at hle
   ·rfl
   ·rfl
   ·rfl
  | value f=>rfl
  | invoke r m=>rfl
 | store t x v=>simp [cls] at hle
 | makeFunc fn first caps=>simp [cls] at hle
 | mapUpdate t x i v=>simp [cls] at hle
 | makeMap t r=>cases r<;>rfl
 | lookup t x i ok=>
  obtain ⟨h1,h2⟩:=hwk.resolve_left (by simp [cls])
  simp only [opE,he]
  rw [Zp3 (U:=U) (st:=⟨sl,ob,n⟩) (st':=⟨sl,ob',n'⟩) h1 (h2 0 x)]
 | convert s t x=>
  simp only [opE,he]
  by_cases hst:ZcI (tt t)=true
  ·obtain ⟨h1,h2⟩:=hwk.resolve_left (by simp [cls,hst])
   rw [ZpH (U:=U) (st:=⟨sl,ob,n⟩) (st':=⟨sl,ob',n'⟩) h1 (h2 0 x)]
  ·have e:∀st:St,Zgv tt st s t (St.ev tt ⟨sl,ob',n'⟩ 0 x)=ZoT (tt s) (tt t) (St.ev tt ⟨sl,ob',n'⟩ 0 x):=fun st=>by
    unfold Zgv
    rw [if_neg (by simp [hst])]
   rw [e,e]
 | slice t x lo hi mx=>
  cases mx with
  | some _=>rfl
  | none=>
   by_cases hstr:ZcI (tt t)=true
   ·have hns:ZaZ (tt t)=false:=by
     unfold ZcI at hstr
     split at hstr
     ·rename_i e;rw [e];rfl
     ·simp at hstr
    have hu:∀l h v,Zbu ⟨sl,ob,n⟩ key (tt t) l h v=Zbu ⟨sl,ob',n'⟩ key (tt t) l h v:=fun l h v=>by
     unfold Zbu
     split
     ·simp [hns]
     ·rfl
     ·rfl
    cases lo<;>cases hi<;>simp only [opE,he,Option.map_none,Option.map_some,hu]
   ·have hc:2<cls tt hs (.slice t x lo hi none):=by simp only [cls];rw [if_neg hstr];split<;>omega
    have h':(∀k,U k→ob k=ob' k)∧∀t x,svU U (St.ev tt ⟨sl,ob,n⟩ t x):=by
     rcases h with h | h | h
     ·simp only at h;omega
     ·exact h.2
     ·simp only at h;omega
    obtain ⟨h1,h2⟩:=h'
    have hu:∀l h v,svU U v→Zbu ⟨sl,ob,n⟩ key (tt t) l h v=Zbu ⟨sl,ob',n'⟩ key (tt t) l h v:=fun l h v hv=>by
     unfold Zbu
     split
     ·rename_i k
      have hk:U k:=hv (.row k) (by simp)
      simp only [h1 k hk]
     ·rfl
     ·rfl
    simp only [opE,he]
    exact hu _ _ _ (he 0 x ▸ h2 0 x)
 | _=>first | rfl | simp only [opE,he]
theorem YX:∀(cts:List (Bool × CT)) (key:Nat),key≤(Z8 key cts).2.2∧∀p∈(Z8 key cts).2.1,key≤p.1∧p.1<(Z8 key cts).2.2
 | [],key=>by simp [Z8]
 | (true,x)::r,key=>YX r key
 | (false,ct)::r,key=>by
  cases ct with
  | sl e m xs=>
   obtain ⟨h1,h2⟩:=YX r (key+1)
   refine ⟨by simp only [Z8];omega,fun p hp=>?_⟩
   simp only [Z8,List.mem_cons] at hp ⊢
   rcases hp with rfl | hp
   ·exact ⟨Nat.le_refl _,by simp only;omega⟩
   ·have:=h2 p hp;omega
  | int k n=>exact YX r key
  | bool b=>exact YX r key
  | str s=>exact YX r key
  | ifc s=>exact YX r key
  | any=>exact YX r key
  | pt s=>exact YX r key
  | fn f s=>exact YX r key
  | mp a b s=>exact YX r key
theorem Zi1 [NW]:∀(res:List RT) (key:Nat),key≤(ZD key res).2.2∧∀p∈(ZD key res).2.1,key≤p.1∧p.1<(ZD key res).2.2
 | [],key=>by simp [ZD]
 | x::r,key=>by
  obtain ⟨h1,h2⟩:=YX x.2 key
  obtain ⟨h3,h4⟩:=Zi1 r (Z8 key x.2).2.2
  refine ⟨by simp only [ZD];omega,fun p hp=>?_⟩
  simp only [ZD,List.mem_append] at hp ⊢
  rcases hp with hp | hp
  ·have:=h2 p hp;omega
  ·have:=h4 p hp;omega
theorem Xg {v:Option SV} {r:SV × List (Nat × Ob)} (h:Zbn v=some r):r.2=[]:=by
 obtain ⟨u,_,rfl⟩:=Option.map_eq_some_iff.1 h;rfl
theorem ZsV [NW] {hs:FuncId→Nat} {o:Oper} {r:SV × List (Nat × Ob)} (hU:∀t x,svU U (st.ev tt t x)) (h:opE tt key o st=some r):(cls tt hs o.op=0→r.2=[])∧(cls tt hs o.op≤2→∀p∈r.2,key≤p.1∧p.1<key+16)∧(cls tt hs o.op≤3→∀p∈r.2,(key≤p.1∧p.1<key+16)∨(U p.1∧p.2=Ym (st.ob p.1))):=by
 have nil:r.2=[]→(cls tt hs o.op=0→r.2=[])∧(cls tt hs o.op≤2→∀p∈r.2,key≤p.1∧p.1<key+16)∧(cls tt hs o.op≤3→∀p∈r.2,(key≤p.1∧p.1<key+16)∨(U p.1∧p.2=Ym (st.ob p.1))):=fun e=>⟨fun _=>e,fun _ p hp=>by simp [e] at hp,fun _ p hp=>by simp [e] at hp⟩
 obtain ⟨dst,op,ty,pos,af,gd⟩:=o
 cases op with
 | move x=>simp only [opE,Option.some.injEq] at h;exact nil (by rw [←h])
 | assign x=>simp only [opE,Option.some.injEq] at h;exact nil (by rw [←h])
 | pick c x y=>
  simp only [opE] at h
  split at h
  ·simp only [Option.some.injEq] at h;exact nil (by rw [←h])
  ·simp at h
 | alloc t=>
  simp only [opE] at h
  obtain ⟨z,_,rfl⟩:=Option.map_eq_some_iff.1 h
  exact ⟨fun e=>by simp [cls] at e,fun _ p hp=>by simp at hp;subst hp;simp,fun _ p hp=>by simp at hp;subst hp;simp⟩
 | box t x=>
  simp only [opE] at h
  split at h
  ·simp only [Option.some.injEq] at h
   subst h
   exact ⟨fun e=>by simp [cls] at e,fun _ p hp=>by simp at hp;subst hp;simp,fun _ p hp=>by simp at hp;subst hp;simp⟩
  ·simp at h
 | build t parts=>
  simp only [opE] at h
  split at h
  ·obtain ⟨cs,_,rfl⟩:=Option.map_eq_some_iff.1 h;exact nil rfl
  ·simp at h
 | buildSlice t len parts=>
  simp only [opE] at h
  split at h
  ·obtain ⟨⟨xs,ks,d⟩,h1,h⟩:=Option.bind_eq_some_iff.1 h
   split at h
   ·simp only [Option.some.injEq] at h
    subst h
    rename_i e0 _ _ z hti hcond
    have hu:∀v∈parts.toList.map (fun p=>st.ev tt e0 p.2),svU U v:=fun v mv=>by obtain ⟨p,_,rfl⟩:=List.mem_map.1 mv;exact hU _ _
    have hk:=ZeU (U:=U) h1 hu
    refine ⟨fun e=>by simp only [cls] at e;split at e<;>simp at e,fun e p hp=>?_,fun e p hp=>?_⟩
    ·by_cases hs:parts.size=0
     ·have:parts=#[]:=by simpa using hs
      subst this
      simp [Y1] at h1
      obtain ⟨_,rfl,_⟩:=h1
      simp [ZP] at hp;subst hp;simp
     ·by_cases hf:Zsj (tt t)=true
      ·have hz:z.all ZiB=true:=by rw [hti] at hf;exact hf
       have hks:ks=[]:=by
        have h3:=hcond.2.2.2
        rw [hz] at h3
        simpa using h3
       subst hks
       simp [ZP] at hp;subst hp;simp
      ·simp [cls,hs,hf] at e
    ·rcases List.mem_append.1 hp with hp | hp
     ·obtain ⟨p1,p2⟩:=Zp8 hp
      exact .inr ⟨hk _ p1,p2⟩
     ·simp at hp;subst hp;simp
   ·simp at h
  ·simp at h
 | load t x=>exact nil (Xg h)
 | store t x v=>exact ⟨fun e=>by simp [cls] at e,fun e=>by simp [cls] at e,fun e=>by simp [cls] at e⟩
 | makeFunc fn first caps=>exact ⟨fun e=>by simp [cls] at e,fun e=>by simp [cls] at e,fun e=>by simp [cls] at e⟩
 | mapUpdate t x i v=>exact ⟨fun e=>by simp [cls] at e,fun e=>by simp [cls] at e,fun e=>by simp [cls] at e⟩
 | lookup t x i ok=>exact nil (Xg h)
 | makeMap t r=>
  cases r with
  | none=>
   simp only [opE,ZmB] at h
   split at h
   ·simp only [Option.some.injEq] at h
    subst h
    exact ⟨fun e=>by simp [cls] at e,fun _ p hp=>by simp at hp;subst hp;simp,fun _ p hp=>by simp at hp;subst hp;simp⟩
   ·simp at h
  | some _=>simp [opE] at h
 | nilCheck x=>
  simp only [opE] at h
  split at h<;>simp only [Option.some.injEq,reduceCtorEq] at h<;>exact nil (by rw [←h])
 | binOp op t x y t'=>exact nil (Xg h)
 | unOp op t x=>exact nil (Xg h)
 | convert s t x=>exact nil (Xg h)
 | makeSlice t n c=>
  simp only [opE,ZoS] at h
  split at h
  ·split at h
   ·obtain ⟨ze,_,h⟩:=Option.bind_eq_some_iff.1 h
    split at h
    ·simp only [Option.some.injEq] at h
     subst h
     exact ⟨fun e=>by simp [cls] at e,fun _ p hp=>by simp at hp;subst hp;simp,fun _ p hp=>by simp at hp;subst hp;simp⟩
    ·simp at h
   ·simp at h
  ·simp at h
 | slice t x lo hi mx=>
  cases mx with
  | some _=>simp [opE] at h
  | none=>
   by_cases hstr:ZcI (tt t)=true
   ·have hns:ZaZ (tt t)=false:=by
     unfold ZcI at hstr
     split at hstr
     ·rename_i e;rw [e];rfl
     ·simp at hstr
    refine nil ?_
    simp only [opE,Zbu] at h
    split at h
    ·simp [hns] at h
    ·obtain ⟨v,_,rfl⟩:=Option.map_eq_some_iff.1 h;rfl
    ·simp at h
   ·have hc:3≤cls tt hs (.slice t x lo hi none):=by simp only [cls];rw [if_neg hstr];split<;>omega
    refine ⟨fun e=>by simp only at e;omega,fun e=>by simp only at e;omega,fun e p hp=>?_⟩
    have hmv:∀d,mvS d (lo.map (st.ev tt 0)) (hi.map (st.ev tt 0))=false:=fun d=>by
     cases lo with
     | none=>rfl
     | some _=>cases hi with
      | none=>simp [cls,hstr] at e
      | some _=>rfl
    simp only [opE,Zbu] at h
    split at h
    ·rename_i k hv
     have hk:U k:=by
      have:=hU 0 x
      rw [hv] at this
      exact this (.row k) (by simp)
     split at h
     ·split at h
      ·rename_i hob
       split at h
       ·rw [hmv,if_neg (by simp)] at h
        obtain ⟨_,_,h⟩:=Option.bind_eq_some_iff.1 h
        obtain ⟨_,_,rfl⟩:=Option.map_eq_some_iff.1 h
        simp at hp
        subst hp
        exact .inr ⟨hk,by rw [hob];rfl⟩
       ·simp at h
      ·simp at h
     ·simp at h
    ·obtain ⟨v,_,rfl⟩:=Option.map_eq_some_iff.1 h
     simp at hp
    ·simp at h
 | fieldAddr t x f=>
  simp only [opE] at h
  split at h
  ·exact nil (Xg h)
  ·simp at h
 | field t x f=>
  simp only [opE] at h
  split at h
  ·exact nil (Xg h)
  ·simp at h
 | indexAddr t x i=>
  simp only [opE] at h
  split at h
  ·exact nil (Xg h)
  ·simp at h
 | index t x i=>exact nil (Xg h)
 | extract x i=>exact nil (Xg h)
 | call c=>
  obtain ⟨callee,args,ts⟩:=c
  cases callee with
  | builtin b=>
   simp only [opE,Zqb] at h
   split at h
   ·exact nil (Xg h)
   ·exact ⟨fun e=>by simp [cls] at e,fun e=>by simp [cls] at e,fun e=>by simp [cls] at e⟩
   ·exact nil (Xg h)
   ·exact nil (Xg h)
   ·simp at h
  | value f=>simp [opE] at h
  | invoke r m=>simp [opE] at h
 | _=>simp [opE] at h
theorem Zby {hs:FuncId→Nat} {o:Op} {c:FuncId × List TypeId × List Operand} (h:Qw o=some c):cls tt hs o=if hs c.1=0 then 1 else 4:=by
 unfold Qw at h
 split at h
 ·simp only [Option.some.injEq] at h;rw [←h];rfl
 ·simp at h
theorem Zke {o:Op} {c:Nat × List TypeId × List Operand} (h:Xr o=some c):∃args ts,o=.call ⟨.value (.tmp c.1),args,ts⟩∧c.2.1=ts.toList∧c.2.2=args.toList:=by
 unfold Xr at h
 split at h
 ·rename_i s args ts
  simp only [Option.some.injEq] at h
  rw [←h]
  exact ⟨args,ts,rfl,rfl,rfl⟩
 ·simp at h
theorem Zi9 [NW] {hs:FuncId→Nat} {o:Op} {c:Nat × List TypeId × List Operand} (h:Xr o=some c):cls tt hs o=4:=by
 obtain ⟨args,ts,rfl,_⟩:=Zke h
 rfl
theorem Zpg [NW] (hU:∀t x,svU U (st.ev tt t x)) {all:List Oper} {o:Oper} {v:SV} {u:List (Nat × Ob)} (h:opR tt S all key o st v u):(cls tt S.hd o.op=0→u=[])∧(cls tt S.hd o.op≤2→∀p∈u,key≤p.1∧p.1<key+16)∧(cls tt S.hd o.op≤3→∀p∈u,(key≤p.1∧p.1<key+16)∨(U p.1∧p.2=Ym (st.ob p.1))):=by
 have nil:u=[]→(cls tt S.hd o.op=0→u=[])∧(cls tt S.hd o.op≤2→∀p∈u,key≤p.1∧p.1<key+16)∧(cls tt S.hd o.op≤3→∀p∈u,(key≤p.1∧p.1<key+16)∨(U p.1∧p.2=Ym (st.ob p.1))):=fun e=>⟨fun _=>e,fun _ p hp=>by simp [e] at hp,fun _ p hp=>by simp [e] at hp⟩
 have hRS:ZhN tt S key o st v u→(cls tt S.hd o.op=0→u=[])∧(cls tt S.hd o.op≤2→∀p∈u,key≤p.1∧p.1<key+16)∧(cls tt S.hd o.op≤3→∀p∈u,(key≤p.1∧p.1<key+16)∨(U p.1∧p.2=Ym (st.ob p.1))):=fun h=>by
  unfold ZhN at h
  split at h
  ·rename_i c hc
   by_cases h0:S.hd c.1=0
   ·rw [h0] at h
    obtain ⟨l,res,_,_,_,h3,_,rfl⟩:=h
    have hp:∀p∈(ZD key res).2.1,key≤p.1∧p.1<key+16:=fun p hp=>by
     have:=(Zi1 res key).2 p hp
     omega
    exact ⟨fun e=>by rw [Zby hc,if_pos h0] at e;simp at e,fun _=>hp,fun _ p m=>.inl (hp p m)⟩
   ·refine ⟨fun e=>by rw [Zby hc,if_neg h0] at e;simp at e,fun e=>by rw [Zby hc,if_neg h0] at e;simp at e,fun e=>by rw [Zby hc,if_neg h0] at e;simp at e⟩
  ·split at h
   ·rename_i c hc
    have h4:=Zi9 (tt:=tt) (hs:=S.hd) hc
    exact ⟨fun e=>by rw [h4] at e;simp at e,fun e=>by rw [h4] at e;simp at e,fun e=>by rw [h4] at e;simp at e⟩
   ·exact ZsV hU h
 unfold opR at h
 split at h
 ·exact hRS h
 ·exact nil h.2
 ·unfold gK at h
  split at h
  ·split at h
   ·exact hRS h
   ·exact nil h.2
  ·split at h
   ·exact nil h.2
   ·exact h.elim
theorem Zgb (h:st.ob=st'.ob):∀ks:List Nat,ZP st ks=ZP st' ks
 | []=>rfl
 | k::r=>by simp only [ZP,Zgb h r,h]
theorem ZyG (s:SV):svU (fun _=>True) s:=by
 cases s<;>first | trivial | (intro y my;cases y<;>trivial) | (intro y my z mz;cases z<;>trivial)
theorem Zq7 [NW] (h:st.ob=st'.ob) (v:SV):ZfR st v=ZfR st' v:=by
 have ha:∀cs,Y2 st cs=Y2 st' cs:=fun cs=>Zf5 (U:=fun _=>True) (fun k _=>.inl (by rw [h])) (fun x _=>by cases x<;>trivial)
 unfold ZfR
 split
 ·rw [h]
  split
  ·rw [ha]
  ·rfl
 ·rw [h]
 ·rfl
theorem Zkz [NW] (h:st.ob=st'.ob) {f:FuncId} {n:Nat} {vs:List SV} {v:SV} {u:List (Nat × Ob)}:ZdC S f n key st vs v u↔ZdC S f n key st' vs v u:=by
 have hs:∀xs,Yc st xs=Yc st' xs:=fun xs=>Zfu (U:=fun _=>True) (fun k _=>.inl (by rw [h])) (fun x _=>ZyG x)
 unfold ZdC
 split
 ·simp only [hs]
 ·simp only [hs,Zq7 h,Zgb h]
 ·simp only [hs,Zgb h]
 ·simp only [hs,Zgb h]
theorem Zq0 [NW] {o:Oper} {v:SV} {u:List (Nat × Ob)} (hl:∀x∈o.op.operands,∀t,st.ev tt t x=st'.ev tt t x)
  (hob:cls tt S.hd o.op=0∨st.ob=st'.ob∨(∀t x,svU U (st.ev tt t x))∧((cls tt S.hd o.op≤3∧∀k,U k→st.ob k=st'.ob k)∨(cls tt S.hd o.op≤1∧Wk st st' U))):ZhN tt S key o st v u↔ZhN tt S key o st' v u:=by
 cases hc:Qw o.op with
 | some c=>
  simp only [ZhN,hc]
  have hop:∃args ts,o.op=.call ⟨.value (.func c.1),args,ts⟩∧c.2.1=ts.toList∧c.2.2=args.toList:=by
   unfold Qw at hc
   split at hc
   ·rename_i f args ts he
    simp only [Option.some.injEq] at hc
    rw [←hc]
    exact ⟨args,ts,he,rfl,rfl⟩
   ·simp at hc
  obtain ⟨args,ts,ho,e1,e2⟩:=hop
  have hev:evs tt st c.2.1 c.2.2=evs tt st' c.2.1 c.2.2:=ZhW fun x m t=>hl x (by rw [ho];rw [e2] at m;simp [Op.operands,Call.operands];exact .inr (by simpa using m)) t
  rw [←hev]
  rcases hob with hc0 | hob | ⟨hu,hob⟩
  ·rw [Zby hc] at hc0
   split at hc0<;>simp at hc0
  ·exact Zkz hob
  ·have hc1:cls tt S.hd o.op≤3:=by rcases hob with h | h<;>omega
   have hwk:Wk st st' U:=by
    rcases hob with h | h
    ·exact .of h.2
    ·exact h.2
   have h0:S.hd c.1=0:=by
    rw [Zby hc] at hc1
    split at hc1
    ·assumption
    ·simp at hc1
   have hsv:Yc st (evs tt st c.2.1 c.2.2)=Yc st' (evs tt st c.2.1 c.2.2):=Zfu (U:=U) hwk (fun x hx=>by
     obtain ⟨p,_,rfl⟩:=List.mem_map.1 hx
     exact hu _ _)
   rw [h0]
   simp only [ZdC,hsv]
 | none=>
  simp only [ZhN,hc]
  have:opE tt key o st=opE tt key o st':=by
   obtain ⟨sl,ob,n⟩:=st
   obtain ⟨sl',ob',n'⟩:=st'
   have s1:opE tt key o ⟨sl',ob',n'⟩=opE tt key o ⟨sl,ob',n⟩:=Zrq fun x m t=>by
    rw [←hl x m t];exact Zux _ _ _ _ _ _ _
   rw [s1]
   rcases hob with hc | hob | ⟨hu,⟨hc,hob⟩ | ⟨hc,hob⟩⟩
   ·exact Znf (U:=U) (.inl hc)
   ·simp only at hob;subst hob;rfl
   ·exact Znf (U:=U) (.inr (.inl ⟨hc,hob,hu⟩))
   ·exact Znf (U:=U) (.inr (.inr ⟨hc,hob,hu⟩))
  cases hd:Xr o.op with
  | none=>simp only [this]
  | some c=>
   simp only
   obtain ⟨args,ts,ho,e1,e2⟩:=Zke hd
   have hev:evs tt st c.2.1 c.2.2=evs tt st' c.2.1 c.2.2:=ZhW fun x m t=>hl x (by rw [ho];rw [e2] at m;simp [Op.operands,Call.operands];exact .inr (by simpa using m)) t
   have hsl:st.sl c.1=st'.sl c.1:=hl (.tmp c.1) (by rw [ho];simp [Op.operands,Call.operands]) 0
   have h4:=Zi9 (tt:=tt) (hs:=S.hd) hd
   rcases hob with h0 | h0 | ⟨_,⟨h0,_⟩ | ⟨h0,_⟩⟩
   ·omega
   ·rw [hev,hsl]
    constructor
    ·rintro ⟨fc,f1,f2,f3⟩;exact ⟨fc,f1,f2,(Zkz h0).1 f3⟩
    ·rintro ⟨fc,f1,f2,f3⟩;exact ⟨fc,f1,f2,(Zkz h0).2 f3⟩
   ·omega
   ·omega
theorem ZoQ [NW] {ops:Array Oper} {o:Oper} {v:SV} {u:List (Nat × Ob)} (hl:∀s∈o.looksAt ops,st.sl s=st'.sl s)
  (hob:cls tt S.hd o.op=0∨st.ob=st'.ob∨(∀t x,svU U (st.ev tt t x))∧((cls tt S.hd o.op≤3∧∀k,U k→st.ob k=st'.ob k)∨(cls tt S.hd o.op≤1∧Wk st st' U))):opR tt S ops.toList key o st v u↔opR tt S ops.toList key o st' v u:=by
 have hl':∀x∈o.op.operands,∀t,st.ev tt t x=st'.ev tt t x:=fun x m t=>by
  cases x with
  | tmp s=>exact hl s (by
    unfold Oper.looksAt
    refine List.mem_append.2 (.inl (List.mem_filterMap.2 ⟨.tmp s,by simpa using m,rfl⟩)))
  | _=>rfl
 have h1:=Zq0 (S:=S) (key:=key) (v:=v) (u:=u) hl' hob
 unfold opR
 cases hg:Zbk ops.toList o with
 | none=>exact h1
 | some q=>
  obtain ⟨q,want⟩:=q
  cases q with
  | none=>rfl
  | some t=>
   have ht:st.sl t=st'.sl t:=hl t (by
    unfold Zbk at hg
    split at hg
    ·simp at hg
    ·rename_i g hgd
     simp only [Option.some.injEq,Prod.mk.injEq] at hg
     unfold Oper.looksAt
     refine List.mem_append.2 (.inr ?_)
     rw [hgd]
     have:(ops[g.1]?).bind (·.dst)=some t:=by simpa using hg.1
     simp [this])
   simp only [gK,ht,h1]
theorem ZzX [NW] (hU:StU U st) (t:Nat) (x:Operand):svU U (st.ev tt t x):=by
 cases x with
 | tmp s=>exact hU.sl s
 | const v=>
  show svU U (cvT (tt t) v)
  unfold cvT
  split
  ·exact Xt _
  ·exact Xt _
  ·split
   ·exact Xt _
   ·trivial
  ·split
   ·intro y m;simp at m;subst m;trivial
   ·trivial
  ·trivial
 | global _=>trivial
 | func _=>trivial
theorem Qo [NW]:∀{u:List (Nat × Ob)} {ob:Nat→Ob} {k:Nat},(∀p∈u,p.1≠k)→Zk ob u k=ob k
 | [],_,_,_=>rfl
 | p::r,ob,k,h=>by
  rw [Zk,Qo fun q m=>h q (by simp [m])]
  exact ZI _ _ fun e=>h p (by simp) e.symm
theorem ZiJ [NW]:∀{u:List (Nat × Ob)} {ob ob':Nat→Ob} {k:Nat},(∃p∈u,p.1=k)→Zk ob u k=Zk ob' u k
 | [],_,_,_,h=>by simp at h
 | p::r,ob,ob',k,h=>by
  rw [Zk,Zk]
  by_cases hr:∃q∈r,q.1=k
  ·exact ZiJ hr
  ·have hn:∀q∈r,q.1≠k:=fun q m e=>hr ⟨q,m,e⟩
   rw [Qo hn,Qo hn]
   obtain ⟨q,mq,e⟩:=h
   rcases List.mem_cons.1 mq with rfl | mq
   ·rw [←e,Zw,Zw]
   ·exact absurd e (hn q mq)
theorem Zfv [NW] {u1 u2:List (Nat × Ob)} {ob:Nat→Ob} (h:∀p∈u1,∀q∈u2,p.1≠q.1):Zk (Zk ob u1) u2=Zk (Zk ob u2) u1:=by
 funext k
 by_cases h1:∃p∈u1,p.1=k
 ·obtain ⟨p,mp,rfl⟩:=h1
  rw [Qo fun q mq e=>h p mp q mq e.symm]
  exact ZiJ ⟨p,mp,rfl⟩
 ·have hn:∀q∈u1,q.1≠k:=fun q m e=>h1 ⟨q,m,e⟩
  rw [Qo (ob:=Zk ob u2) hn]
  by_cases h2:∃p∈u2,p.1=k
  ·exact ZiJ h2
  ·have hn2:∀q∈u2,q.1≠k:=fun q m e=>h2 ⟨q,m,e⟩
   rw [Qo hn2,Qo hn2,Qo hn]
theorem ZoD [NW] (st:St) (d:Option Nat) (v:SV) (s:Nat) (h:∀t,d=some t→s≠t):(st.put d v).sl s=st.sl s:=by
 cases d with
 | none=>rfl
 | some t=>exact ZI _ _ (h t rfl)
theorem ZiO (st:St) (d:Option Nat) (v:SV):(st.put d v).ob=st.ob:=by cases d<;>rfl
theorem Zqw (st:St) (d:Option Nat) (v:SV):(st.put d v).n=st.n:=by cases d<;>rfl
theorem Zrk (st:St) (d e:Option Nat) (v u:SV) (h:∀t,d=some t→e≠some t):((st.put d v).put e u).sl=((st.put e u).put d v).sl:=by
 cases d with
 | none=>rfl
 | some t=>cases e with
  | none=>rfl
  | some s=>
   have hne:t≠s:=fun e=>h t rfl (e ▸ rfl)
   funext k
   show upd (upd st.sl t v) s u k=upd (upd st.sl s u) t v k
   unfold upd
   by_cases h1:k=s
   ·by_cases h2:k=t
    ·exact absurd (h2.symm.trans h1) hne
    ·have hst:¬s=t:=fun e=>hne e.symm
     simp [h1,hst]
   ·simp [h1]
def Zmr (tt:Nat→Option TI) (hs:FuncId→Nat) (x y:Op):Bool:=cls tt hs x==0||cls tt hs y==0||(Nat.ble (cls tt hs x) 2&&Nat.ble (cls tt hs y) 2)||(Nat.ble (cls tt hs x) 1&&Nat.ble (cls tt hs y) 3)||(Nat.ble (cls tt hs x) 3&&Nat.ble (cls tt hs y) 1)
theorem comm [NW] {ops:Array Oper} {oi oj:Oper} {ki kj:Nat} {vi vj:SV} {ui uj:List (Nat × Ob)} (hap:oi.apart ops oj=true) (hc:Zmr tt S.hd oi.op oj.op=true) (hU:StU U st) (hki:∀k,ki≤k→k<ki+16→¬U k) (hkj:∀k,kj≤k→k<kj+16→¬U k) (hdis:ki+16≤kj∨kj+16≤ki)
  (h:opR tt S ops.toList ki oi st vi ui) (h':opR tt S ops.toList kj oj ((st.put oi.dst vi).app ui) vj uj):
  opR tt S ops.toList kj oj st vj uj∧opR tt S ops.toList ki oi ((st.put oj.dst vj).app uj) vi ui∧((((st.put oi.dst vi).app ui).put oj.dst vj).app uj)=((((st.put oj.dst vj).app uj).put oi.dst vi).app ui):=by
 obtain ⟨a1,a2,a3⟩:=Oper.apart_spec hap
 have hev:∀t x,svU U (st.ev tt t x):=fun t x=>ZzX hU t x
 obtain ⟨i1,i2,i3⟩:=Zpg (U:=U) hev h
 have hcl:cls tt S.hd oi.op=0∨cls tt S.hd oj.op=0∨(cls tt S.hd oi.op≤2∧cls tt S.hd oj.op≤2)∨(cls tt S.hd oi.op≤1∧cls tt S.hd oj.op≤3)∨(cls tt S.hd oi.op≤3∧cls tt S.hd oj.op≤1):=by
  unfold Zmr at hc
  simp only [Bool.or_eq_true,beq_iff_eq,Bool.and_eq_true] at hc
  rcases hc with (((hc | hc) | hc) | hc) | hc
  ·exact .inl hc
  ·exact .inr (.inl hc)
  ·exact .inr (.inr (.inl ⟨Nat.le_of_ble_eq_true hc.1,Nat.le_of_ble_eq_true hc.2⟩))
  ·exact .inr (.inr (.inr (.inl ⟨Nat.le_of_ble_eq_true hc.1,Nat.le_of_ble_eq_true hc.2⟩)))
  ·exact .inr (.inr (.inr (.inr ⟨Nat.le_of_ble_eq_true hc.1,Nat.le_of_ble_eq_true hc.2⟩)))
 have agree:∀{u:List (Nat × Ob)} {q:Nat},(∀p∈u,q≤p.1∧p.1<q+16)→(∀k,q≤k→k<q+16→¬U k)→∀k,U k→st.ob k=Zk st.ob u k:=fun hu hq k hk=>(Qo fun p mp e=>hq p.1 (hu p mp).1 (hu p mp).2 (e ▸ hk)).symm
 have weak:∀{u:List (Nat × Ob)} {q:Nat},(∀p∈u,(q≤p.1∧p.1<q+16)∨(U p.1∧p.2=Ym (st.ob p.1)))→(∀k,q≤k→k<q+16→¬U k)→∀k,U k→Zk st.ob u k=st.ob k∨Zk st.ob u k=Ym (st.ob k):=fun {u q} hu hq k hk=>by
  have gen:∀(u:List (Nat × Ob)) (ob:Nat→Ob),(∀p∈u,(q≤p.1∧p.1<q+16)∨(U p.1∧p.2=Ym (st.ob p.1)))→(ob k=st.ob k∨ob k=Ym (st.ob k))→(Zk ob u k=st.ob k∨Zk ob u k=Ym (st.ob k)):=by
   intro u
   induction u with
   | nil=>intro ob _ h;exact h
   | cons p u ih=>
    intro ob hp h
    refine ih _ (fun x mx=>hp x (by simp [mx])) ?_
    by_cases hpk:k=p.1
    ·rcases hp p (by simp) with h1 | h1
     ·exact absurd (hpk ▸ hk) (hq p.1 h1.1 h1.2)
     ·right;rw [hpk,Zw];exact h1.2
    ·rw [ZI _ _ hpk];exact h
  exact gen u st.ob hu (.inl rfl)
 have hA:opR tt S ops.toList kj oj st vj uj:=by
  refine (ZoQ (U:=U) (st:=st) (st':=(st.put oi.dst vi).app ui) (fun s ms=>(ZoD st oi.dst vi s fun t ht e=>a1 t ht (e ▸ ms)).symm) ?_).2 h'
  show cls tt S.hd oj.op=0∨st.ob=Zk (st.put oi.dst vi).ob ui∨_∧((cls tt S.hd oj.op≤3∧∀k,U k→st.ob k=Zk (st.put oi.dst vi).ob ui k)∨(cls tt S.hd oj.op≤1∧∀k,U k→Zk (st.put oi.dst vi).ob ui k=st.ob k∨Zk (st.put oi.dst vi).ob ui k=Ym (st.ob k)))
  rw [ZiO]
  rcases hcl with hcl | hcl | ⟨c1,c2⟩ | ⟨c1,c2⟩ | ⟨c1,c2⟩
  ·right;left;rw [i1 hcl];rfl
  ·left;exact hcl
  ·right;right;exact ⟨hev,.inl ⟨by omega,agree (i2 c1) hki⟩⟩
  ·right;right;exact ⟨hev,.inl ⟨c2,agree (i2 (by omega)) hki⟩⟩
  ·right;right;exact ⟨hev,.inr ⟨c2,weak (i3 c1) hki⟩⟩
 obtain ⟨j1',j2',j3'⟩:=Zpg (U:=U) hev hA
 refine ⟨hA,?_,?_⟩
 ·refine (ZoQ (U:=U) (st:=st) (st':=(st.put oj.dst vj).app uj) (fun s ms=>(ZoD st oj.dst vj s fun t ht e=>a3 t ht (e ▸ ms)).symm) ?_).1 h
  show cls tt S.hd oi.op=0∨st.ob=Zk (st.put oj.dst vj).ob uj∨_∧((cls tt S.hd oi.op≤3∧∀k,U k→st.ob k=Zk (st.put oj.dst vj).ob uj k)∨(cls tt S.hd oi.op≤1∧∀k,U k→Zk (st.put oj.dst vj).ob uj k=st.ob k∨Zk (st.put oj.dst vj).ob uj k=Ym (st.ob k)))
  rw [ZiO]
  rcases hcl with hcl | hcl | ⟨c1,c2⟩ | ⟨c1,c2⟩ | ⟨c1,c2⟩
  ·left;exact hcl
  ·right;left;rw [j1' hcl];rfl
  ·right;right;exact ⟨hev,.inl ⟨by omega,agree (j2' c2) hkj⟩⟩
  ·right;right;exact ⟨hev,.inr ⟨c1,weak (j3' c2) hkj⟩⟩
  ·right;right;exact ⟨hev,.inl ⟨c1,agree (j2' (by omega)) hkj⟩⟩
 ·have hsl:((((st.put oi.dst vi).app ui).put oj.dst vj).app uj).sl=((((st.put oj.dst vj).app uj).put oi.dst vi).app ui).sl:=by
   have e1:∀(s:St) (u:List (Nat × Ob)) (d:Option Nat) (v:SV),((s.app u).put d v).sl=(s.put d v).sl:=fun s u d v=>by cases d<;>rfl
   show (((st.put oi.dst vi).app ui).put oj.dst vj).sl=(((st.put oj.dst vj).app uj).put oi.dst vi).sl
   rw [e1,e1]
   exact Zrk st _ _ _ _ fun t ht=>a2 t ht
  have hobs:((((st.put oi.dst vi).app ui).put oj.dst vj).app uj).ob=((((st.put oj.dst vj).app uj).put oi.dst vi).app ui).ob:=by
   show Zk (((st.put oi.dst vi).app ui).put oj.dst vj).ob uj=Zk (((st.put oj.dst vj).app uj).put oi.dst vi).ob ui
   rw [ZiO,ZiO]
   show Zk (Zk (st.put oi.dst vi).ob ui) uj=Zk (Zk (st.put oj.dst vj).ob uj) ui
   rw [ZiO,ZiO]
   rcases hcl with hcl | hcl | ⟨c1,c2⟩ | ⟨c1,c2⟩ | ⟨c1,c2⟩
   ·rw [i1 hcl];rfl
   ·rw [j1' hcl];rfl
   ·refine Zfv fun p mp q mq e=>?_
    have:=i2 c1 p mp
    have:=j2' c2 q mq
    omega
   ·refine Zfv fun p mp q mq e=>?_
    have h1:=i2 (by omega) p mp
    rcases j3' c2 q mq with h2 | h2
    ·omega
    ·exact hki p.1 h1.1 h1.2 (e ▸ h2.1)
   ·refine Zfv fun p mp q mq e=>?_
    have h1:=j2' (by omega) q mq
    rcases i3 c1 p mp with h2 | h2
    ·omega
    ·exact hkj q.1 h1.1 h1.2 (e ▸ h2.1)
  have hn:((((st.put oi.dst vi).app ui).put oj.dst vj).app uj).n=((((st.put oj.dst vj).app uj).put oi.dst vi).app ui).n:=by
   show (((st.put oi.dst vi).app ui).put oj.dst vj).n=(((st.put oj.dst vj).app uj).put oi.dst vi).n
   rw [Zqw,Zqw]
   show (st.put oi.dst vi).n=(st.put oj.dst vj).n
   rw [Zqw,Zqw]
  generalize ((((st.put oi.dst vi).app ui).put oj.dst vj).app uj)=s1 at hsl hobs hn ⊢
  generalize ((((st.put oj.dst vj).app uj).put oi.dst vi).app ui)=s2 at hsl hobs hn ⊢
  cases s1;cases s2
  simp only at hsl hobs hn
  subst hsl hobs hn
  rfl
end
end Go.Proofs.YtojnhepgnbhaaaaGreatDoor
namespace Go.Proofs.YtojnhepgnbhaaaaGreatDoor
open Go.RowKit
section
variable {P:Program} {J:World→Prop} {JF:Nat→Prop} {W:Q8} {U:Nat→Prop} {key:Nat} {st st':St} {w w':World} {a:Act} {tt:Nat→Option TI} {hds:FuncId→Nat} {Q:Exit→Act→World→Prop}
def Zr3 [NW] (W:Q8) (N:Nat) (U:Nat→Prop) (st:St):Prop:=∃a w,Inv W U st a w∧a.tmps.size=N
theorem ZrY [NW] (htt:MOk P J JF W tt) {N:Nat} {all:List Oper} {o:Oper} {v:SV} {u:List (Nat × Ob)} (h:opR tt (SC P J JF hds) all key o st v u) (hR:Zr3 W N U st) (hkey:∀k,key≤k→k<key+16→¬U k) (hd:∀t,o.dst=some t→t<N∧(W.hv=none∨t≠0)):
  Zr3 W N (Uk U key) ((st.put o.dst v).app u):=by
 obtain ⟨a,w,hI,hN⟩:=hR
 have hd':∀t,o.dst=some t→t<a.tmps.size∧(W.hv=none∨t≠0):=fun t ht=>hN ▸ hd t ht
 have und:v=.und∧u=[]→Zr3 W N (Uk U key) ((st.put o.dst v).app u):=fun ⟨e1,e2⟩=>by
  subst e1 e2
  exact ⟨_,w,Zqt hI _ hd',by rw [Zb2];exact hN⟩
 have run:ZhN tt (SC P J JF hds) key o st v u→Zr3 W N (Uk U key) ((st.put o.dst v).app u):=fun h=>by
  obtain ⟨⟨g,hH,hS⟩,hU,hdef,hh⟩:=hI
  have evals:∀(ts:List TypeId) (args:List Operand),ZH (SVR g w) (evs tt st ts args) (args.map a.eval)∧∀x∈evs tt st ts args,svU U x:=fun ts args=>by
   have he:args.map a.eval=(ZhK ts args).map fun p=>a.eval p.2:=by
    have:=congrArg (List.map a.eval) (Zet ts args)
    rw [←this,List.map_map];rfl
   refine ⟨?_,fun x mx=>?_⟩
   ·rw [he]
    exact ZH.of_map _ _ fun p _=>(Zjj htt.tt hS hU p.1 p.2).1
   ·obtain ⟨p,_,rfl⟩:=List.mem_map.1 mx
    exact (Zjj htt.tt hS hU p.1 p.2).2
  cases hc:Qw o.op with
  | some c=>
   simp only [ZhN,hc] at h
   obtain ⟨_,hcall⟩:=ZfU htt h hH hU hkey (evals c.2.1 c.2.2).1 (evals c.2.1 c.2.2).2
   obtain ⟨e,w',fr,⟨rv,_,g',t1,t2,t3,t4,t5,t6⟩,_⟩:=hcall []
   exact ⟨_,_,ZeJ hS hU hdef hh hd' t1 t2 t3 t4 t5 t6,by rw [Zb2];exact hN⟩
  | none=>
   simp only [ZhN,hc] at h
   cases hd2:Xr o.op with
   | some c=>
    rw [hd2] at h
    simp only at h
    obtain ⟨fc,h1,_,h⟩:=h
    obtain ⟨cs,_,hcs⟩:=Zn4 h1 (hS c.1)
    obtain ⟨_,hcall⟩:=ZfU htt h hH hU hkey ((evals c.2.1 c.2.2).1.append hcs) (fun x mx=>by
     rcases List.mem_append.1 mx with m | m
     ·exact (evals c.2.1 c.2.2).2 x m
     ·obtain ⟨c,_,rfl⟩:=List.mem_map.1 m
      exact Xt _)
    obtain ⟨e,w',fr,⟨rv,_,g',t1,t2,t3,t4,t5,t6⟩,_⟩:=hcall []
    exact ⟨_,_,ZeJ hS hU hdef hh hd' t1 t2 t3 t4 t5 t6,by rw [Zb2];exact hN⟩
   | none=>
    rw [hd2] at h
    simp only at h
    obtain ⟨g',cv,w',_,t1,t2,t3,t4,t5,t6⟩:=Zms (P:=P) (W:=W) (a:=a) htt.tt o h hH hS hU (hkey key (Nat.le_refl _) (by omega))
    exact ⟨_,_,ZeJ hS hU hdef hh hd' t1 t2 t3 t4 t5 t6,by rw [Zb2];exact hN⟩
 unfold opR at h
 split at h
 ·exact run h
 ·exact und h
 ·unfold gK at h
  split at h
  ·split at h
   ·exact run h
   ·exact und h
  ·split at h
   ·exact und h
   ·exact h.elim
def Znr (tt:Nat→Option TI) (S:Ctx) (all:List Oper) (base:Nat):List Nat→(St→Prop)→St→Prop
 | [],K,st=>K st
 | i::r,K,st=>match all[i]? with
  | some o=>opG tt S all (base+16 * i) o (Znr tt S all base r K) st
  | none=>Znr tt S all base r K st
theorem Zga {S:Ctx} {all:List Oper} {base i:Nat} {r:List Nat} {K:St→Prop} {o:Oper} (ho:all[i]?=some o):Znr tt S all base (i::r) K st=opG tt S all (base+16 * i) o (Znr tt S all base r K) st:=by simp only [Znr,ho]
theorem ZqV [NW] {S:Ctx} {all:List Oper} {base:Nat} {K:St→Prop}:∀(r:List Oper) (i:Nat) (st:St),all.drop i=r→Z3 tt S all (base+16 * i) r K st→Znr tt S all base (List.range' i r.length) K st
 | [],_,_,_,h=>h
 | o::r,i,st,hr,h=>by
  have hi:all[i]?=some o:=by
   have:=congrArg (fun l=>l[0]?) hr
   simpa using this
  have hr':all.drop (i+1)=r:=by
   have:=congrArg List.tail hr
   simpa using this
  rw [List.length_cons,List.range'_succ,Zga hi]
  obtain ⟨v,u,h1,h2⟩:=Zgg.1 h
  refine Zgg.2 ⟨v,u,h1,ZqV r (i+1) _ hr' ?_⟩
  rw [show base+16 * (i+1)=base+16 * i+16 by omega]
  exact h2
theorem Zuy [NW] (htt:MOk P J JF W tt) {ops:Array Oper} {N base i:Nat} {o:Oper} (ho:ops.toList[i]?=some o) (hN:∀o∈ops.toList,∀t,o.dst=some t→t<N∧(W.hv=none∨t≠0)) {K:St→Prop} {R2:List Nat}:∀(R1:List Nat) (U:Nat→Prop) (st:St),(R1++i::R2).Nodup→
  (∀j∈R1,∃oj,ops.toList[j]?=some oj∧oj.apart ops o=true∧Zmr tt hds oj.op o.op=true)→(∀j∈R1++i::R2,∀k,base+16 * j≤k→k<base+16 * j+16→¬U k)→Zr3 W N U st→
  Znr tt (SC P J JF hds) ops.toList base (R1++i::R2) K st→opG tt (SC P J JF hds) ops.toList (base+16 * i) o (Znr tt (SC P J JF hds) ops.toList base (R1++R2) K) st
 | [],U,st,_,_,_,_,h=>by rw [List.nil_append,Zga ho] at h;exact h
 | j::R1,U,st,hnd,hcomp,hk,hR,h=>by
  obtain ⟨oj,hj,hap,hcl⟩:=hcomp j (by simp)
  rw [List.cons_append,Zga hj] at h
  obtain ⟨vj,uj,h1,h2⟩:=Zgg.1 h
  have hkj:=hk j (by simp)
  have hki:=hk i (by simp)
  rw [List.cons_append,List.nodup_cons] at hnd
  have hij:i≠j:=fun e=>hnd.1 (by simp [e])
  have hR1:=ZrY htt h1 hR hkj (hN oj (List.mem_of_getElem? hj))
  have h3:=Zuy htt ho hN R1 (Uk U (base+16 * j)) _ hnd.2 (fun q mq=>hcomp q (by simp [mq])) (fun q mq k a b hU=>by
   rcases hU with hU | ⟨c,d⟩
   ·exact hk q (by simp;simp at mq;exact .inr mq) k a b hU
   ·have:q=j:=by omega
    subst this
    exact hnd.1 mq) hR1 h2
  obtain ⟨vi,ui,h4,h5⟩:=Zgg.1 h3
  obtain ⟨_,_,hIn,_⟩:=hR
  obtain ⟨c1,c2,c3⟩:=comm hap hcl hIn.wf hkj hki (by omega) h1 h4
  refine Zgg.2 ⟨vi,ui,c1,?_⟩
  rw [List.cons_append,Zga hj]
  exact Zgg.2 ⟨vj,uj,c2,c3 ▸ h5⟩
def anc (ops:Array Oper):Nat→Nat→List Nat
 | 0,_=>[]
 | n+1,j=>match ops[j]? with
  | some o=>(o.after.toList.filter (Region.binds .any)).flatMap fun e=>e.on::anc ops n e.on
  | none=>[]
def ZpS (tt:Nat→Option TI) (hds:FuncId→Nat) (ops:Array Oper):Bool:=
 (List.range ops.size).all fun j=>match ops[j]? with
  | some oj=>(oj.after.toList.all fun e=>!Region.binds .any e||Nat.blt e.on j)&&
   (List.range j).all fun i=>(anc ops ops.size j).contains i||match ops[i]? with
    | some oi=>oi.apart ops oj&&Zmr tt hds oi.op oj.op
    | none=>true
  | none=>true
theorem Zk9 {ops:Array Oper} {listed:Array Bool} (hcl:∀i o,ops[i]?=some o→listed.getD i false=true→∀e∈o.after,Region.binds .any e=true→listed.getD e.on false=true):
  ∀(n j:Nat) (o:Oper),ops[j]?=some o→(∀e∈o.after,Region.binds .any e=true→listed.getD e.on false=true)→∀i∈anc ops n j,listed.getD i false=true
 | 0,j,o,_,_,i,mi=>by simp [anc] at mi
 | n+1,j,o,ho,he,i,mi=>by
  simp only [anc,ho,List.mem_flatMap,List.mem_filter] at mi
  obtain ⟨e,⟨me,hb⟩,mi⟩:=mi
  have hl:=he e (by simpa using me) hb
  rcases List.mem_cons.1 mi with rfl | mi
  ·exact hl
  ·cases ho':ops[e.on]? with
   | none=>cases n<;>simp [anc,ho'] at mi
   | some o'=>exact Zk9 hcl n e.on o' ho' (fun e' me' hb'=>hcl e.on o' ho' hl e' me' hb') i mi
theorem ZrQ [NW] (htt:MOk P J JF W tt) {ops:Array Oper} {N base:Nat} (hN:∀o∈ops.toList,∀t,o.dst=some t→t<N∧(W.hv=none∨t≠0)) (hok:ZpS tt hds ops=true) {K:St→Prop}
  (hQ:∀U' st' a' w',Inv W U' st' a' w'→(∀k,base+16 * ops.size≤k→¬U' k)→a'.tmps.size=N→K st'→Q .normal a' w'):
  ∀(fuel:Nat) (R:List Nat) (listed:Array Bool) (U:Nat→Prop) (st:St) (a:Act) (w:World),R.length≤fuel→R.Pairwise (·<·)→listed.size=ops.size→(∀i,i∈R↔(i<ops.size∧listed.getD i true=false))→
   (∀i o,ops[i]?=some o→listed.getD i false=true→∀e∈o.after,Region.binds .any e=true→listed.getD e.on false=true)→
   Znr tt (SC P J JF hds) ops.toList base R K st→Inv W U st a w→(∀j∈R,∀k,base+16 * j≤k→k<base+16 * j+16→¬U k)→(∀k,base+16 * ops.size≤k→¬U k)→a.tmps.size=N→wpAny P .any ops Q fuel listed a w:=by
 have hall:∀j oj,ops[j]?=some oj→(∀e∈oj.after,Region.binds .any e=true→e.on<j)∧∀i oi,i<j→ops[i]?=some oi→i∉anc ops ops.size j→oi.apart ops oj=true∧Zmr tt hds oi.op oj.op=true:=fun j oj hj=>by
  have hjn:j<ops.size:=(Array.getElem?_eq_some_iff.1 hj).1
  have h1:=List.all_eq_true.1 hok j (by simpa using hjn)
  simp only [hj,Bool.and_eq_true,List.all_eq_true] at h1
  refine ⟨fun e me hb=>?_,fun i oi hij hi hn=>?_⟩
  ·have:=h1.1 e (by simpa using me)
   simp only [hb,Bool.not_true,Bool.false_or] at this
   exact Nat.le_of_ble_eq_true this
  ·have:=h1.2 i (by simpa using hij)
   simp only [hi,Bool.or_eq_true,Bool.and_eq_true] at this
   rcases this with this | this
   ·exact absurd (by simpa using this) hn
   ·exact this
 intro fuel
 induction fuel with
 | zero=>
  intro R listed U st a w hlen _ hsz hmem _ h hI _ hU hs
  have hR:R=[]:=List.eq_nil_of_length_eq_zero (by omega)
  subst hR
  refine ⟨?_,hQ U st a w hI hU hs h⟩
  rw [List.eq_nil_iff_forall_not_mem]
  intro i mi
  obtain ⟨h1,o,h2,_⟩:=mem_ready.1 mi
  exact absurd ((hmem i).2 ⟨(Array.getElem?_eq_some_iff.1 h2).1,h1⟩) (by simp)
 | succ fuel ih=>
  intro R listed U st a w hlen hso hsz hmem hcl h hI hk hU hs
  refine ⟨fun hr=>?_,fun i mi=>?_⟩
  ·cases R with
   | nil=>exact hQ U st a w hI hU hs h
   | cons r0 R=>
    exfalso
    obtain ⟨m1,m2⟩:=(hmem r0).1 (by simp)
    have:r0∈Region.ready .any ops listed:=mem_ready.2 ⟨m2,ops[r0],by simp [m1],fun e me hb=>by
     have hlt:=(hall r0 ops[r0] (by simp [m1])).1 e me hb
     by_cases hl:listed.getD e.on true=false
     ·have mR:=(hmem e.on).2 ⟨by omega,hl⟩
      rcases List.mem_cons.1 mR with e1 | mR
      ·omega
      ·have:=(List.pairwise_cons.1 hso).1 _ mR;omega
     ·have hlt2:e.on<listed.size:=by omega
      simp only [Array.getD_eq_getD_getElem?,hlt2,getElem?_pos,Option.getD_some,Bool.not_eq_false] at hl ⊢
      exact hl⟩
    rw [hr] at this
    simp at this
  ·obtain ⟨i1,o,i2,i3⟩:=mem_ready.1 mi
   have hin:i<ops.size:=(Array.getElem?_eq_some_iff.1 i2).1
   have miR:i∈R:=(hmem i).2 ⟨hin,i1⟩
   obtain ⟨R1,R2,rfl⟩:=List.append_of_mem miR
   have hnd:(R1++i::R2).Nodup:=hso.imp fun h=>Nat.ne_of_lt h
   have ho:ops.toList[i]?=some o:=by simpa using i2
   have hanc:=Zk9 hcl ops.size i o i2 i3
   have hcomp:∀j∈R1,∃oj,ops.toList[j]?=some oj∧oj.apart ops o=true∧Zmr tt hds oj.op o.op=true:=fun j mj=>by
    obtain ⟨j1,j2⟩:=(hmem j).1 (by simp [mj])
    have hji:j<i:=(List.pairwise_append.1 hso).2.2 j mj i (by simp)
    have hj:ops[j]?=some ops[j]:=by simp [j1]
    refine ⟨ops[j],by simp [j1],(hall i o i2).2 j _ hji hj fun ma=>?_⟩
    have:=hanc j ma
    have hlt:j<listed.size:=by omega
    simp only [Array.getD_eq_getD_getElem?,hlt,getElem?_pos,Option.getD_some] at this j2
    rw [this] at j2;simp at j2
   have hfr:=Zuy htt ho hN R1 U st hnd hcomp hk ⟨a,w,hI,hs⟩ h
   refine wpOp_mono ?_ (Zmk htt i2 hfr hI (hk i (by simp)) (fun t ht=>by rw [hs];exact hN o (List.mem_of_getElem? ho) t ht))
   rintro a' w' ⟨st',hI',hs',hK'⟩
   have hset:∀q,(listed.setIfInBounds i true).getD q true=if q=i then true else listed.getD q true:=fun q=>by
    by_cases e:q=i
    ·subst e;simp [Array.getD_eq_getD_getElem?,Array.getElem?_setIfInBounds,hsz,hin]
    ·simp [Array.getD_eq_getD_getElem?,Array.getElem?_setIfInBounds_ne (fun e':i=q=>e e'.symm),e]
   have hset':∀q,(listed.setIfInBounds i true).getD q false=if q=i then true else listed.getD q false:=fun q=>by
    by_cases e:q=i
    ·subst e;simp [Array.getD_eq_getD_getElem?,Array.getElem?_setIfInBounds,hsz,hin]
    ·simp [Array.getD_eq_getD_getElem?,Array.getElem?_setIfInBounds_ne (fun e':i=q=>e e'.symm),e]
   have hnotin:i∉R1++R2:=by
    rw [List.nodup_append] at hnd
    intro m
    rcases List.mem_append.1 m with m | m
    ·exact hnd.2.2 i m i (by simp) rfl
    ·exact (List.nodup_cons.1 hnd.2.1).1 m
   refine ih (R1++R2) _ (Uk U (base+16 * i)) st' a' w' (by simp at hlen ⊢;omega) (hso.sublist (List.Sublist.append (List.Sublist.refl _) (List.sublist_cons_self i R2))) (by simp [hsz]) (fun q=>?_) (fun q oq hq hl e me hb=>?_) hK' hI' (fun q mq k c d hU'=>?_) (fun k hk' hU'=>?_) (by omega)
   ·rw [hset q]
    by_cases e:q=i
    ·subst e;simp only [if_true,Bool.true_eq_false,and_false,iff_false];exact hnotin
    ·rw [if_neg e,←hmem q];simp [e]
   ·rw [hset'] at hl ⊢
    by_cases e1:e.on=i
    ·simp [e1]
    ·rw [if_neg e1]
     by_cases e2:q=i
     ·subst e2
      rw [i2] at hq
      simp only [Option.some.injEq] at hq
      subst hq
      exact i3 e me hb
     ·rw [if_neg e2] at hl
      exact hcl q oq hq hl e me hb
   ·have mq':q∈R1++i::R2:=by simp at mq ⊢;rcases mq with mq | mq<;>simp [mq]
    rcases hU' with hU' | ⟨c',d'⟩
    ·exact hk q mq' k c d hU'
    ·have:q=i:=by omega
     subst this
     exact hnotin mq
   ·rcases hU' with hU' | ⟨c',d'⟩
    ·exact hU k hk' hU'
    ·omega
end
end Go.Proofs.YtojnhepgnbhaaaaGreatDoor
namespace Go.Proofs.YtojnhepgnbhaaaaGreatDoor
open Go.RowKit
theorem ZqB:∀{ρ:List Nat} {k i j:Nat},ZnN ρ k i=some j→i≤j∧ρ[j - i]?=some k
 | [],_,_,_,h=>by simp [ZnN] at h
 | x::r,k,i,j,h=>by
  simp only [ZnN] at h
  split at h
  ·rename_i e
   simp only [Option.some.injEq] at h
   subst h e
   exact ⟨Nat.le_refl _,by simp⟩
  ·obtain ⟨h1,h2⟩:=ZqB h
   refine ⟨by omega,?_⟩
   rw [show j - i=(j - (i+1))+1 by omega]
   simpa using h2
theorem Zcv [NW] {ρ:List Nat} {k j:Nat} (h:ZnN ρ k 0=some j):ρ[j]?=some k:=by simpa using (ZqB h).2
theorem ZmR {α:Type}:∀{l:List α},l.Nodup→∀{i j:Nat} (hi:i<l.length) (hj:j<l.length),l[i]=l[j]→i=j
 | [],_,_,_,hi,_,_=>by simp at hi
 | x::l,h,0,0,_,_,_=>rfl
 | x::l,h,0,j+1,_,hj,e=>by
  rw [List.nodup_cons] at h
  exact absurd (by simp at e;rw [e];exact List.getElem_mem _) h.1
 | x::l,h,i+1,0,hi,_,e=>by
  rw [List.nodup_cons] at h
  exact absurd (by simp at e;rw [←e];exact List.getElem_mem _) h.1
 | x::l,h,i+1,j+1,hi,hj,e=>by
  rw [List.nodup_cons] at h
  have:=ZmR h.2 (i:=i) (j:=j) (by simpa using hi) (by simpa using hj) (by simpa using e)
  omega
section
variable {P:Program} {J:World→Prop} {JF:Nat→Prop} {W:Q8} {U:Nat→Prop} {st st':St} {w w':World} {a:Act} {tt:Nat→Option TI} {S:Ctx}
theorem Zwz [NW] {g g':Gh} {ρ:List Nat} (hv:∀j k,ρ[j]?=some k→g'.val j=g.val k) (ho:Xs g' g) {x:AV} {v:Value} (h:AVR g w x v):AVR g' w (rAV ρ x) v:=by
 cases x with
 | c x=>obtain ⟨L,h1,h2⟩:=h;exact ⟨L,h1,fun b m o=>h2 b m (ho.own b o)⟩
 | n x=>exact NR.move h (fun _ _ _=>rfl) (ho.grow _)
 | row k=>
  simp only [rAV]
  split
  ·rename_i j hj
   exact ⟨by rw [hv j k (Zcv hj)];exact h.1,h.2⟩
  ·exact h.2
 | nil e m=>exact h
 | dead=>exact h
theorem ZH.map_left {α β γ:Type} {R:α→γ→Prop} {R':β→γ→Prop} (f:α→β) (h:∀a c,R a c→R' (f a) c):∀{l:List α} {r:List γ},ZH R l r→ZH R' (l.map f) r
 | [],[],_=>trivial
 | _::_,_::_,hh=>⟨h _ _ hh.1,hh.2.map_left f h⟩
 | [],_::_,h=>h.elim
 | _::_,[],h=>h.elim
theorem ZsJ [NW] (ρ:List Nat) (x:AV):avU (fun j=>j<ρ.length) (rAV ρ x):=by
 cases x with
 | row k=>
  simp only [rAV]
  split
  ·rename_i j hj
   exact (List.getElem?_eq_some_iff.1 (Zcv hj)).1
  ·trivial
 | _=>trivial
theorem ZqD [NW] (hI:Inv W U st a w) {ρ:List Nat} (hρ:ρ.Nodup):Inv W (fun j=>j<ρ.length) (st.ren ρ) a w:=by
 obtain ⟨⟨g,hH,hS⟩,hU,hdef,hh⟩:=hI
 let g':Gh:=⟨fun j=>match ρ[j]? with | some k=>g.val k | none=>undef,fun j=>match ρ[j]? with | some k=>g.O k | none=>[],fun j=>match ρ[j]? with | some k=>g.D k | none=>[],g.Z⟩
 have gs:∀j k,ρ[j]?=some k→g'.val j=g.val k∧g'.O j=g.O k∧g'.D j=g.D k:=fun j k h=>by simp [g',h]
 have gn:∀j,ρ[j]?=none→g'.O j=[]∧g'.D j=[]:=fun j h=>by simp [g',h]
 have ho:∀b,g'.own b→g.own b:=fun b hb=>by
  rcases hb with ⟨j,mj⟩ | hz
  ·cases h:ρ[j]? with
   | none=>rw [(gn j h).1] at mj;simp at mj
   | some k=>rw [(gs j k h).2.1] at mj;exact .inl ⟨k,mj⟩
  ·exact .inr hz
 have hless:Xs g' g:=.of ho fun j b mb=>by
  cases h:ρ[j]? with
  | none=>rw [(gn j h).2] at mb;simp at mb
  | some k=>rw [(gs j k h).2.2] at mb;exact ⟨k,mb⟩
 have hAV:∀x v,AVR g w x v→AVR g' w (rAV ρ x) v:=fun x v h=>Zwz (fun j k hjk=>(gs j k hjk).1) hless h
 have hAVs:∀xs vs,ZH (AVR g w) xs vs→ZH (AVR g' w) (xs.map (rAV ρ)) vs:=fun xs vs h=>h.map_left _ hAV
 have hPV:∀ag cs v,PVR g w ag cs v→PVR g' w ag (cs.map (rAV ρ)) v:=fun ag cs v h=>by
  cases ag with
  | true=>obtain ⟨vs,h1,h2⟩:=h;exact ⟨vs,h1,hAVs _ _ h2⟩
  | false=>obtain ⟨x,rfl,h2⟩:=h;exact ⟨_,rfl,hAV _ _ h2⟩
 refine ⟨⟨g',⟨hH.below,fun j=>?_,fun j=>?_,fun j i hji b mb=>?_,fun j b mb=>?_,hH.gz,hH.zx,hH.nw⟩,fun t=>?_⟩,⟨fun t=>?_,fun j=>?_,fun j hj=>?_⟩,hdef,hh⟩
 ·show ObR g' w j (match ρ[j]? with | some k=>rOb ρ (st.ob k) | none=>.gone)
  cases h:ρ[j]? with
  | none=>exact gn j h
  | some k=>
   obtain ⟨e1,e2,e3⟩:=gs j k h
   have hob:=hH.obs k
   show ObR g' w j (rOb ρ (st.ob k))
   cases hok:st.ob k with
   | gone=>rw [hok] at hob;exact ⟨e2.trans hob.1,e3.trans hob.2⟩
   | box t cs=>
    rw [hok] at hob
    obtain ⟨b,vs,h1,h2,h3,h4,h5⟩:=hob
    exact ⟨b,vs,e1.trans h1,e2.trans h2,e3.trans h3,h4,hAVs _ _ h5⟩
   | map kk vk kv=>
    rw [hok] at hob
    obtain ⟨b,es,c,h1,h2,h3,h4⟩:=hob
    exact ⟨b,es,c,e1.trans h1,e2.trans h2,e3.trans h3,h4⟩
   | row e m xs d=>
    rw [hok] at hob
    obtain ⟨hm,cs,L,h1,h2,h4⟩:=hob
    refine ⟨hm,cs,L,by rw [e1];exact h1,h2,?_⟩
    rw [e1,e2,e3]
    rcases h4 with h4 | ⟨hd,h3,h4,h5⟩ | ⟨hd,h3,h4,h5⟩
    ·exact .inl h4
    ·exact .inr (.inl ⟨hd,h3,h4,fun b mb o=>h5 b mb (ho b o)⟩)
    ·exact .inr (.inr ⟨hd,h3,h4,fun b mb o=>h5 b mb (ho b o)⟩)
 ·cases h:ρ[j]? with
  | none=>rw [(gn j h).1,(gn j h).2];simp
  | some k=>rw [(gs j k h).2.1,(gs j k h).2.2];exact hH.nodup k
 ·cases h:ρ[j]? with
  | none=>rw [(gn j h).1,(gn j h).2] at mb;simp at mb
  | some k=>
   rw [(gs j k h).2.1,(gs j k h).2.2] at mb
   cases h':ρ[i]? with
   | none=>rw [(gn i h').1,(gn i h').2];simp
   | some q=>
    rw [(gs i q h').2.1,(gs i q h').2.2]
    refine hH.apart k q (fun e=>hji ?_) b mb
    subst e
    obtain ⟨l1,e1⟩:=List.getElem?_eq_some_iff.1 h
    obtain ⟨l2,e2⟩:=List.getElem?_eq_some_iff.1 h'
    exact ZmR hρ l1 l2 (e1.trans e2.symm)
 ·cases h:ρ[j]? with
  | none=>rw [(gn j h).1,(gn j h).2] at mb;simp at mb
  | some k=>
   rw [(gs j k h).2.1,(gs j k h).2.2] at mb
   refine ⟨(hH.plain k b mb).1,(hH.plain k b mb).2.of ?_⟩
   show Zis (match ρ[j]? with | some k=>rOb ρ (st.ob k) | none=>.gone)=_
   rw [h]
   show Zis (rOb ρ (st.ob k))=_
   cases st.ob k<;>rfl
 ·have hs:=hS t
  show SVR g' w (rSV ρ (st.sl t)) _
  cases hsl:st.sl t with
  | any=>trivial
  | und=>rw [hsl] at hs;exact hs
  | p ag cs=>rw [hsl] at hs;exact hPV _ _ _ hs
  | tup xs=>
   rw [hsl] at hs
   obtain ⟨vs,h1,h2⟩:=hs
   exact ⟨vs,h1,h2.map_left (fun x:Bool × List AV=>(x.1,x.2.map (rAV ρ))) fun x v h=>hPV x.1 x.2 v h⟩
  | bp k off=>
   rw [hsl] at hs
   simp only [rSV]
   split
   ·rename_i j hj
    obtain ⟨b,h1,h2⟩:=hs
    exact ⟨b,((gs j k (Zcv hj)).1).trans h1,h2⟩
   ·trivial
  | rp k m i off=>
   rw [hsl] at hs
   simp only [rSV]
   split
   ·rename_i j hj
    obtain ⟨b,o,n,c,h1,h2⟩:=hs
    exact ⟨b,o,n,c,((gs j k (Zcv hj)).1).trans h1,h2⟩
   ·trivial
  | ep e off=>
   rw [hsl] at hs
   obtain ⟨b,lo,cs,L,h1,h2,h3,h4,h5⟩:=hs
   exact ⟨b,lo,cs,L,h1,h2,h3,fun x m o=>h4 x m (ho x o),h5⟩
  | fn f=>rw [hsl] at hs;exact hs
 ·show svU _ (rSV ρ (st.sl t))
  cases st.sl t with
  | p ag cs=>intro y my;obtain ⟨x,_,rfl⟩:=List.mem_map.1 my;exact ZsJ ρ x
  | tup xs=>
   intro y my
   obtain ⟨x,_,rfl⟩:=List.mem_map.1 my
   intro z mz
   obtain ⟨q,_,rfl⟩:=List.mem_map.1 mz
   exact ZsJ ρ q
  | bp k off=>
   simp only [rSV]
   split
   ·rename_i j hj;exact (List.getElem?_eq_some_iff.1 (Zcv hj)).1
   ·trivial
  | rp k m i off=>
   simp only [rSV]
   split
   ·rename_i j hj;exact (List.getElem?_eq_some_iff.1 (Zcv hj)).1
   ·trivial
  | _=>trivial
 ·show obU _ (match ρ[j]? with | some k=>rOb ρ (st.ob k) | none=>.gone)
  split
  ·rename_i k _
   cases st.ob k with
   | box t cs=>intro y my;obtain ⟨x,_,rfl⟩:=List.mem_map.1 my;exact ZsJ ρ x
   | _=>trivial
  ·trivial
 ·show (match ρ[j]? with | some k=>rOb ρ (st.ob k) | none=>.gone)=.gone
  have:ρ[j]?=none:=List.getElem?_eq_none (by omega)
  rw [this]
theorem Zuf [NW] {g:Gh} {ob:Nat→Ob} (hI:HI W g ob w) {k e m d d':Nat} {xs:List (List CT)} (hk:ob k=.row e m xs d) (hd:d'<d):∃g1:Gh,HI W g1 (upd ob k (.row e m xs d')) w∧g1.val=g.val∧Xs g1 g:=by
 by_cases h0:d'=0
 ·obtain ⟨g1,h1,h2,h3,_⟩:=ZhP hI k
  rw [hk] at h1
  exact ⟨g1,by rw [h0];exact h1,h2,h3⟩
 ·have ho:=hI.obs k
  rw [hk] at ho
  obtain ⟨hm,cs,L,o1,o2,o3⟩:=ho
  have h2:d=2∧g.O k=(g.val k).ownBlock.toList∧g.D k=L:=by
   rcases o3 with o3 | ⟨q,_⟩ | ⟨q,_⟩
   ·exact o3
   ·omega
   ·omega
  obtain ⟨rfl,q1,q2⟩:=h2
  obtain rfl:d'=1:=by omega
  let g1:Gh:=⟨g.val,g.O,upd g.D k [],g.Z⟩
  have hown:∀b,g1.own b↔g.own b:=fun b=>Iff.rfl
  have hless:Xs g1 g:=.of (fun b hb=>hb) fun j b mb=>by
   by_cases hj:j=k
   ·subst hj;simp [g1,upd] at mb
   ·exact ⟨j,by simpa [g1,upd,hj] using mb⟩
  have hsub:∀j b,b∈g1.O j++g1.D j→b∈g.O j++g.D j:=fun j b mb=>by
   by_cases hj:j=k
   ·subst hj;simp [g1,upd] at mb;simp [mb]
   ·simpa [g1,upd,hj] using mb
  refine ⟨g1,⟨hI.below,fun j=>?_,fun j=>?_,fun i j hij b mb mj=>hI.apart i j hij b (hsub i b mb) (hsub j b mj),fun j b mb=>⟨(hI.plain j b (hsub j b mb)).1,(hI.plain j b (hsub j b mb)).2.of (by
   by_cases hj:j=k
   ·subst hj;rw [Zw,hk];rfl
   ·rw [ZI _ _ hj])⟩,hI.gz,hI.zx,hI.nw⟩,rfl,hless⟩
  ·by_cases hj:j=k
   ·subst hj
    rw [Zw]
    refine ⟨hm,cs,L,o1,o2,.inr (.inl ⟨rfl,q1,by simp [g1,upd],fun b mb hb=>?_⟩)⟩
    have mk:b∈g.D j:=by rw [q2];exact mb
    rcases hb with ⟨i,mi⟩ | hz
    ·by_cases hij:i=j
     ·subst hij
      have:=hI.nodup i
      rw [List.nodup_append] at this
      exact this.2.2 b mi b mk rfl
     ·exact hI.apart i j hij b (by simp;exact .inl mi) (by simp [mk])
    ·exact hI.nz (k:=j) (b:=b) (by simp [mk]) hz
   ·rw [ZI _ _ hj]
    have hoj:=hI.obs j
    cases hh:ob j with
    | gone=>rw [hh] at hoj;exact ⟨hoj.1,by simpa [g1,upd,hj] using hoj.2⟩
    | box t ds=>
     rw [hh] at hoj
     obtain ⟨b,vs,h1,h2,h3,h4,h5⟩:=hoj
     exact ⟨b,vs,h1,h2,by simpa [g1,upd,hj] using h3,h4,h5.mono fun x u _ hx=>AVR.less hx rfl hless⟩
    | map kk vk kv=>
     rw [hh] at hoj
     obtain ⟨b,es,c,h1,h2,h3,h4⟩:=hoj
     exact ⟨b,es,c,h1,h2,by simpa [g1,upd,hj] using h3,h4⟩
    | row e' m' xs' d2=>
     rw [hh] at hoj
     obtain ⟨hm',cs',L',p1,p2,p3⟩:=hoj
     refine ⟨hm',cs',L',p1,p2,?_⟩
     have e2:g1.D j=g.D j:=by simp [g1,upd,hj]
     rw [e2]
     exact p3
  ·by_cases hj:j=k
   ·subst hj
    have:=hI.nodup j
    rw [List.nodup_append] at this
    simpa [g1,upd] using this.1
   ·have:=hI.nodup j
    simpa [g1,upd,hj] using this
theorem Zue [NW] (m:Bool × Nat × Nat) (hI:Inv W U st a w) (hk:∀k,st.n≤k→¬U k):∃U',Inv W U' (st.mat m) a w∧∀k,(st.mat m).n≤k→¬U' k:=by
 have same:∃U',Inv W U' st a w∧∀k,st.n≤k→¬U' k:=⟨U,hI,hk⟩
 have hk0:¬U st.n:=hk st.n (Nat.le_refl _)
 have hU'n:∀k,st.n+1≤k→¬(U k∨k=st.n):=fun k hk' h=>by
  rcases h with h | h
  ·exact hk k (by omega) h
  ·omega
 have new:∀(e q:Nat),0<q→∀g,HI W g st.ob w→∃g',HI W g' (upd st.ob st.n (.row e q [] 2)) w∧(∀x u,svU U x→SVR g w x u→SVR g' w x u)∧g'.val st.n=.slice none 0 0∧(∀x u,avU U x→AVR g w x u→AVR g' w x u):=fun e q hq g hH=>by
  obtain ⟨t1,t2⟩:=hH.turn (key:=st.n) (U:=U) (w':=w) (v:=.slice none 0 0) (O:=[]) (D:=[]) (o:=.row e q [] 2) hI.wf.ob hk0 [] (by simp) hH.below (Nat.le_refl _) (fun _ _ _=>rfl) (by simp) (by simp) (by simp) (by simp)
   (fun _=>⟨hq,[],[],by simpa [Gh.turn,upd] using ZiI _ _ _ _,⟨rfl,rfl⟩,.inl ⟨rfl,by simp [Gh.turn,upd,Value.ownBlock],by simp [Gh.turn]⟩⟩)
  refine ⟨_,t1,t2,by simp [Gh.turn,upd],fun x u hx hu=>hu.move hx (fun k hk'=>ZI _ _ fun e=>hk0 (e ▸ hk')) (fun _ _ _=>rfl) (ZmC (by simp) (by simp))⟩
 have up:∀k,U k→(U k∨k=st.n):=fun _ h=>.inl h
 obtain ⟨⟨g,hH,hS⟩,hU,hdef,hh⟩:=hI
 have tree:∀k e q xs d,st.ob k=.row e q xs d→∃g1:Gh,HI W g1 (upd st.ob k (.row e q xs 0)) w∧g1.val=g.val∧Xs g1 g∧U k∧∀v,AVR g w (.row k) v→AVR g1 w (.c (.sl e q xs)) v:=fun k e q xs d hob=>by
  obtain ⟨g1,i1,i2,i3,_⟩:=ZhP hH k
  rw [hob] at i1
  obtain ⟨L,t1,t2⟩:=Zpy i1 (Zw st.ob k (.row e q xs 0))
  exact ⟨g1,i1,i2,i3,Classical.byContradiction fun hn=>by have:=hU.gone _ hn;rw [hob] at this;simp at this,fun v hv=>⟨L,by rw [hv.1,←i2];exact t1,t2⟩⟩
 have sets:∀{gg:Gh} {cs:List AV} {vs:List Value} {j:Nat} {y:AV} {v:Value},ZH (AVR gg w) cs vs→vs[j]?=some v→AVR gg w y v→ZH (AVR gg w) (cs.set j y) vs:=fun {gg cs vs j y v} h1 h2 h3=>by
  have:=h1.set (i:=j) h3
  obtain ⟨hl,he⟩:=List.getElem?_eq_some_iff.1 h2
  rw [←he,List.set_getElem_self hl] at this
  exact this
 have pset:∀{gg:Gh} {ag:Bool} {cs:List AV} {v:Value} {j:Nat} {x y:AV},PVR gg w ag cs v→cs[j]?=some x→(∀u,AVR gg w x u→AVR gg w y u)→PVR gg w ag (cs.set j y) v:=fun {gg ag cs v j x y} h1 h2 h3=>by
  cases ag with
  | true=>
   obtain ⟨vs,rfl,h4⟩:=h1
   obtain ⟨u,u1,u2⟩:=h4.at h2
   exact ⟨vs,rfl,sets h4 u1 (h3 u u2)⟩
  | false=>
   obtain ⟨z,rfl,h4⟩:=h1
   cases j with
   | zero=>simp at h2;subst h2;exact ⟨y,rfl,h3 v h4⟩
   | succ j=>simp at h2
 have uset:∀{V:Nat→Prop} {cs:List AV} {j:Nat} {y:AV},Qz V cs→avU V y→Qz V (cs.set j y):=fun {V cs j y} h1 h2 z mz=>by
  rcases List.mem_or_eq_of_mem_set mz with mz | mz
  ·exact h1 z mz
  ·subst mz;exact h2
 unfold St.mat
 split
 ·split
  ·rename_i ag cs hsl
   have hcu:Qz U cs:=by have:=hU.sl m.2.1;rw [hsl] at this;exact this
   have hs:=hS m.2.1
   rw [hsl] at hs
   split
   ·rename_i e q hcs
    split
    ·rename_i hq
     obtain ⟨g',t1,t2,t3,t4⟩:=new e q hq g hH
     refine ⟨fun k=>U k∨k=st.n,⟨⟨g',t1,fun t=>?_⟩,⟨fun t=>?_,fun k=>?_,fun k hk'=>?_⟩,hdef,hh⟩,hU'n⟩
     ·show SVR g' w (upd st.sl m.2.1 (.p ag (cs.set m.2.2 (.row st.n))) t) _
      by_cases ht:t=m.2.1
      ·subst ht
       rw [Zw]
       have h1:PVR g' w ag cs (a.tmps.getD m.2.1 undef):=t2 (.p ag cs) _ hcu hs
       refine pset h1 hcs fun u hu=>?_
       have hu':u=.slice none 0 0:=hu
       rw [hu']
       exact ⟨t3.symm,rfl⟩
      ·rw [ZI _ _ ht];exact t2 _ _ (hU.sl t) (hS t)
     ·show svU _ (upd st.sl m.2.1 (.p ag (cs.set m.2.2 (.row st.n))) t)
      by_cases ht:t=m.2.1
      ·subst ht;rw [Zw];exact uset (hcu.mono up) (.inr rfl)
      ·rw [ZI _ _ ht];exact (hU.sl t).mono up
     ·show obU _ (upd st.ob st.n _ k)
      by_cases hk':k=st.n
      ·subst hk';rw [Zw];trivial
      ·rw [ZI _ _ hk'];exact (hU.ob k).mono up
     ·show upd st.ob st.n _ k=_
      rw [ZI _ _ fun e=>hk' (.inr e)];exact hU.gone k fun h=>hk' (.inl h)
    ·exact same
   ·rename_i k hcs
    split
    ·rename_i e q xs d hob
     obtain ⟨g1,i1,i2,i3,hUk,i4⟩:=tree k e q xs d hob
     refine ⟨U,⟨⟨g1,i1,fun t=>?_⟩,⟨fun t=>?_,fun j=>?_,fun j hj=>?_⟩,hdef,hh⟩,hk⟩
     ·show SVR g1 w (upd st.sl m.2.1 (.p ag (cs.set m.2.2 (.c (.sl e q xs)))) t) _
      by_cases ht:t=m.2.1
      ·subst ht
       rw [Zw]
       have h1:PVR g1 w ag cs (a.tmps.getD m.2.1 undef):=(show SVR g w (.p ag cs) _ from hs).less i2 i3
       exact pset h1 hcs fun u hu=>i4 u ⟨hu.1.trans (by rw [i2]),hu.2⟩
      ·rw [ZI _ _ ht];exact (hS t).less i2 i3
     ·show svU _ (upd st.sl m.2.1 (.p ag (cs.set m.2.2 (.c (.sl e q xs)))) t)
      by_cases ht:t=m.2.1
      ·subst ht;rw [Zw];exact uset hcu trivial
      ·rw [ZI _ _ ht];exact hU.sl t
     ·show obU U (upd st.ob k (.row e q xs 0) j)
      by_cases h1:j=k
      ·subst h1;rw [Zw];trivial
      ·rw [ZI _ _ h1];exact hU.ob j
     ·show upd st.ob k (.row e q xs 0) j=_
      rw [ZI _ _ (show j≠k from fun e'=>hj (e' ▸ hUk))];exact hU.gone j hj
    ·exact same
   ·exact same
  ·exact same
 ·split
  ·rename_i ty cs hob
   split
   ·rename_i e q hcs
    split
    ·rename_i hq
     obtain ⟨g',t1,t2,t3,t4⟩:=new e q hq g hH
     have hUk:U m.2.1:=Classical.byContradiction fun hn=>by have:=hU.gone _ hn;rw [hob] at this;simp at this
     have hne:m.2.1≠st.n:=fun e=>hk0 (e ▸ hUk)
     have hcu:Qz U cs:=by have:=hU.ob m.2.1;rw [hob] at this;exact this
     have hbox:=t1.obs m.2.1
     rw [ZI _ _ hne,hob] at hbox
     obtain ⟨b,vs,b1,b2,b3,b4,b5⟩:=hbox
     obtain ⟨u,u1,u2⟩:=b5.at hcs
     have u2':u=.slice none 0 0:=u2
     have hvs:vs.set m.2.2 u=vs:=by
      obtain ⟨hl,he⟩:=List.getElem?_eq_some_iff.1 u1
      rw [←he];exact List.set_getElem_self hl
     have hbox':ObR g' w m.2.1 (.box ty (cs.set m.2.2 (.row st.n))):=by
      refine ⟨b,vs,b1,b2,b3,b4,?_⟩
      have:=b5.set (i:=m.2.2) (a:=AV.row st.n) (b:=u) ⟨by rw [u2',t3],by rw [u2'];rfl⟩
      rw [hvs] at this
      exact this
     have hob':∀k,(upd (upd st.ob m.2.1 (.box ty (cs.set m.2.2 (.row st.n)))) st.n (.row e q [] 2)) k=if k=m.2.1 then .box ty (cs.set m.2.2 (.row st.n)) else (upd st.ob st.n (.row e q [] 2)) k:=fun k=>by
      by_cases h1:k=st.n
      ·have h2:¬k=m.2.1:=fun e'=>hne (e'.symm.trans h1)
       have h3:¬st.n=m.2.1:=fun e'=>hne e'.symm
       simp [upd,h1,h3]
      ·by_cases h2:k=m.2.1
       ·simp [upd,h2,hne]
       ·simp [upd,h1,h2]
     refine ⟨fun k=>U k∨k=st.n,⟨⟨g',⟨t1.below,fun k=>?_,t1.nodup,t1.apart,fun k b mb=>⟨(t1.plain k b mb).1,(t1.plain k b mb).2.of (by
       show Zis ((upd (upd st.ob m.2.1 (.box ty (cs.set m.2.2 (.row st.n)))) st.n (.row e q [] 2)) k)=_
       rw [hob' k]
       split
       ·rename_i h1;subst h1;rw [ZI _ _ hne,hob];rfl
       ·rfl)⟩,t1.gz,t1.zx,t1.nw⟩,fun t=>t2 _ _ (hU.sl t) (hS t)⟩,⟨fun t=>(hU.sl t).mono up,fun k=>?_,fun k hk'=>?_⟩,hdef,hh⟩,hU'n⟩
     ·show ObR g' w k ((upd (upd st.ob m.2.1 (.box ty (cs.set m.2.2 (.row st.n)))) st.n (.row e q [] 2)) k)
      rw [hob' k]
      split
      ·rename_i h1;subst h1;exact hbox'
      ·exact t1.obs k
     ·show obU _ ((upd (upd st.ob m.2.1 (.box ty (cs.set m.2.2 (.row st.n)))) st.n (.row e q [] 2)) k)
      rw [hob' k]
      split
      ·intro y my
       rcases List.mem_or_eq_of_mem_set my with my | my
       ·exact (hcu y my).mono up
       ·subst my;exact .inr rfl
      ·by_cases h1:k=st.n
       ·subst h1;rw [Zw];trivial
       ·rw [ZI _ _ h1];exact (hU.ob k).mono up
     ·show (upd (upd st.ob m.2.1 (.box ty (cs.set m.2.2 (.row st.n)))) st.n (.row e q [] 2)) k=_
      rw [hob' k,if_neg (show ¬k=m.2.1 from fun e'=>hk' (.inl (e' ▸ hUk))),ZI _ _ (show k≠st.n from fun e'=>hk' (.inr e'))]
      exact hU.gone k fun h=>hk' (.inl h)
    ·exact same
   ·rename_i k hcs
    split
    ·rename_i e q xs d hob2
     obtain ⟨g1,i1,i2,i3,hUk,i4⟩:=tree k e q xs d hob2
     have hUm:U m.2.1:=Classical.byContradiction fun hn=>by have:=hU.gone _ hn;rw [hob] at this;simp at this
     have hne:k≠m.2.1:=fun e'=>by rw [e',hob] at hob2;simp at hob2
     have hcu:Qz U cs:=by have:=hU.ob m.2.1;rw [hob] at this;exact this
     have hbox:=i1.obs m.2.1
     rw [ZI _ _ (fun e'=>hne e'.symm),hob] at hbox
     obtain ⟨b,vs,b1,b2,b3,b4,b5⟩:=hbox
     obtain ⟨u,u1,u2⟩:=b5.at hcs
     have hbox':ObR g1 w m.2.1 (.box ty (cs.set m.2.2 (.c (.sl e q xs)))):=⟨b,vs,b1,b2,b3,b4,sets b5 u1 (i4 u ⟨u2.1.trans (by rw [i2]),u2.2⟩)⟩
     refine ⟨U,⟨⟨g1,⟨i1.below,fun j=>?_,i1.nodup,i1.apart,fun j b mb=>⟨(i1.plain j b mb).1,(i1.plain j b mb).2.of (by
       show Zis (upd (upd st.ob k (.row e q xs 0)) m.2.1 (.box ty (cs.set m.2.2 (.c (.sl e q xs)))) j)=_
       by_cases h1:j=m.2.1
       ·subst h1;rw [Zw,ZI _ _ (fun e'=>hne e'.symm),hob];rfl
       ·rw [ZI _ _ h1])⟩,i1.gz,i1.zx,i1.nw⟩,fun t=>(hS t).less i2 i3⟩,⟨hU.sl,fun j=>?_,fun j hj=>?_⟩,hdef,hh⟩,hk⟩
     ·show ObR g1 w j (upd (upd st.ob k (.row e q xs 0)) m.2.1 (.box ty (cs.set m.2.2 (.c (.sl e q xs)))) j)
      by_cases h1:j=m.2.1
      ·subst h1;rw [Zw];exact hbox'
      ·rw [ZI _ _ h1];exact i1.obs j
     ·show obU U (upd (upd st.ob k (.row e q xs 0)) m.2.1 (.box ty (cs.set m.2.2 (.c (.sl e q xs)))) j)
      by_cases h1:j=m.2.1
      ·subst h1;rw [Zw];exact uset hcu trivial
      ·rw [ZI _ _ h1]
       by_cases h2:j=k
       ·subst h2;rw [Zw];trivial
       ·rw [ZI _ _ h2];exact hU.ob j
     ·show upd (upd st.ob k (.row e q xs 0)) m.2.1 (.box ty (cs.set m.2.2 (.c (.sl e q xs)))) j=_
      rw [ZI _ _ (show j≠m.2.1 from fun e'=>hj (e' ▸ hUm)),ZI _ _ (show j≠k from fun e'=>hj (e' ▸ hUk))];exact hU.gone j hj
    ·exact same
   ·exact same
  ·rename_i e q xs d hob
   split
   ·rename_i hlt
    have hUk:U m.2.1:=Classical.byContradiction fun hn=>by have:=hU.gone _ hn;rw [hob] at this;simp at this
    obtain ⟨g1,t1,t2,t3⟩:=Zuf hH hob hlt
    refine ⟨U,⟨⟨g1,t1,fun t=>(hS t).less t2 t3⟩,⟨hU.sl,fun k=>?_,fun k hk'=>?_⟩,hdef,hh⟩,hk⟩
    ·show obU U (upd st.ob m.2.1 (.row e q xs m.2.2) k)
     by_cases h1:k=m.2.1
     ·subst h1;rw [Zw];trivial
     ·rw [ZI _ _ h1];exact hU.ob k
    ·show upd st.ob m.2.1 (.row e q xs m.2.2) k=_
     rw [ZI _ _ (show k≠m.2.1 from fun e'=>hk' (e' ▸ hUk))];exact hU.gone k hk'
   ·exact same
  ·exact same
theorem Zsv [NW] (m:Bool × Nat × Nat) (hI:Inv W U st a w) (hk:∀k,st.n≤k→¬U k):∃U',Inv W U' (st.matN m) a w∧∀k,(st.matN m).n≤k→¬U' k:=by
 have same:∃U',Inv W U' st a w∧∀k,st.n≤k→¬U' k:=⟨U,hI,hk⟩
 obtain ⟨⟨g,hH,hS⟩,hU,hdef,hh⟩:=hI
 unfold St.matN
 split
 ·rename_i ag cs hsl
  have hcu:Qz U cs:=by have:=hU.sl m.2.1;rw [hsl] at this;exact this
  have hs:=hS m.2.1
  rw [hsl] at hs
  split
  ·rename_i k hcs
   split
   ·rename_i e q xs d hob
    split
    ·rename_i hd
     subst hd
     obtain ⟨g1,i1,i2,i3,i5⟩:=ZhP hH k
     rw [hob] at i1
     obtain ⟨hm,cs0,L,o1,o2,o3,o5⟩:=hH.deep hob
     have i4:∀v,AVR g w (.row k) v→AVR g1 w (.n (.sl e q xs)) v:=fun v hv=>by
      rcases o5 with ⟨_,q1,q2⟩ | ⟨q1,_⟩ | ⟨q1,_⟩
      ·have hN:=hH.nodup k
       have hP:=hH.plain k
       have hF:=i5 ⟨_,_,_,_,hob⟩
       rw [q1,q2] at hN hP hF
       rw [hob] at hP
       refine ⟨e,q,xs,cs0,L,rfl,hm,by rw [hv.1];exact o1,o2,by rw [hv.1];exact hN,fun b mb=>?_⟩
       rw [hv.1] at mb
       exact ⟨hF b mb,hH.nw b (hP b mb).1,(hP b mb).2⟩
      ·omega
      ·omega
     have hUk:U k:=Classical.byContradiction fun hn=>by have:=hU.gone _ hn;rw [hob] at this;simp at this
     refine ⟨U,⟨⟨g1,i1,fun t=>?_⟩,⟨fun t=>?_,fun j=>?_,fun j hj=>?_⟩,hdef,hh⟩,hk⟩
     ·show SVR g1 w (upd st.sl m.2.1 (.p ag (cs.set (m.2.2 - 4096) (.n (.sl e q xs)))) t) _
      by_cases ht:t=m.2.1
      ·subst ht
       rw [Zw]
       have h0:PVR g w ag cs (a.tmps.getD m.2.1 undef):=hs
       have h1:PVR g1 w ag cs (a.tmps.getD m.2.1 undef):=(show SVR g w (.p ag cs) _ from hs).less i2 i3
       cases ag with
       | true=>
        obtain ⟨vs,e1,h4⟩:=h0
        obtain ⟨vs',e1',h4'⟩:=h1
        have ev:vs=vs':=by rw [e1] at e1';simpa using e1'
        subst ev
        obtain ⟨u,u1,u2⟩:=h4.at hcs
        refine ⟨vs,e1,?_⟩
        have:=h4'.set (i:=m.2.2 - 4096) (i4 u u2)
        obtain ⟨hl,he⟩:=List.getElem?_eq_some_iff.1 u1
        rw [←he,List.set_getElem_self hl] at this
        exact this
       | false=>
        obtain ⟨z,rfl,h4⟩:=h0
        cases hj:m.2.2 - 4096 with
        | zero=>rw [hj] at hcs;simp at hcs;subst hcs;exact ⟨_,rfl,i4 _ h4⟩
        | succ j=>rw [hj] at hcs;simp at hcs
      ·rw [ZI _ _ ht];exact (hS t).less i2 i3
     ·show svU U (upd st.sl m.2.1 (.p ag (cs.set (m.2.2 - 4096) (.n (.sl e q xs)))) t)
      by_cases ht:t=m.2.1
      ·subst ht;rw [Zw]
       intro z mz
       rcases List.mem_or_eq_of_mem_set mz with mz | mz
       ·exact hcu z mz
       ·subst mz;trivial
      ·rw [ZI _ _ ht];exact hU.sl t
     ·show obU U (upd st.ob k (.row e q xs 0) j)
      by_cases h1:j=k
      ·subst h1;rw [Zw];trivial
      ·rw [ZI _ _ h1];exact hU.ob j
     ·show upd st.ob k (.row e q xs 0) j=_
      rw [ZI _ _ (show j≠k from fun e'=>hj (e' ▸ hUk))];exact hU.gone j hj
    ·exact same
   ·exact same
  ·exact same
 ·exact same
theorem Zle [NW]:∀(ms:List (Bool × Nat × Nat)) {U:Nat→Prop} {st:St},Inv W U st a w→(∀k,st.n≤k→¬U k)→∃U',Inv W U' (st.mats ms) a w
 | [],U,st,hI,_=>⟨U,hI⟩
 | m::r,U,st,hI,hk=>by
  simp only [St.mats]
  split
  ·obtain ⟨U',h1,h2⟩:=Zsv m hI hk
   exact Zle r h1 h2
  ·obtain ⟨U',h1,h2⟩:=Zue m hI hk
   exact Zle r h1 h2
theorem least {p:Nat→Prop} (h:∃n,p n):∃n,p n∧∀m,m<n→¬p m:=by
 obtain ⟨n,hn⟩:=h
 induction n using Nat.strongRecOn with
 | _ n ih=>
  by_cases hm:∃m,m<n∧p m
  ·obtain ⟨m,h1,h2⟩:=hm;exact ih m h1 h2
  ·exact ⟨n,hn,fun m h1 h2=>hm ⟨m,h1,h2⟩⟩
theorem ZrN [NW] {c:Code} {Q:Exit→Act→World→Prop} (J:Nat→Act→World→Prop) (n:Nat) (h₀:J n a w) (round:∀n a w,J n a w→c.wp P (Exit.then (fun a' w'=>∃m,m<n∧J m a' w') Q) a w):(Code.loop c).wp P Q a w:=by
 classical
 let μ:Act→World→Nat:=fun a w=>if h:∃n,J n a w then Classical.choose (least h) else 0
 have hμ:∀a w (h:∃n,J n a w),J (μ a w) a w∧∀m,m<μ a w→¬J m a w:=fun a w h=>by
  simp only [μ,dif_pos h]
  exact Classical.choose_spec (least h)
 refine wp_loop (fun a w=>∃n,J n a w) μ ⟨n,h₀⟩ fun a w h=>?_
 refine wp_mono (round (μ a w) a w (hμ a w h).1) fun e a' w' he=>?_
 cases e with
 | normal=>
  obtain ⟨m,h1,h2⟩:=he
  refine ⟨⟨m,h2⟩,?_⟩
  have h3:=hμ a' w' ⟨m,h2⟩
  rcases Nat.lt_or_ge m (μ a' w') with h4 | h4
  ·exact absurd h2 (h3.2 m h4)
  ·omega
 | _=>exact he
mutual
theorem RC.deep {w:World}:∀{x:CT} {v:Value} {L:List Nat},RC w x v L→ctD x
 | .int _ _,_,_,_=>trivial
 | .bool _,_,_,_=>trivial
 | .str _,_,_,h=>h.2.2
 | .sl _ _ _,_,_,⟨A,cap,cs,L0,L1,h1,h2,h3,h4,h5,h6,h7⟩=>⟨by unfold maxLen at h3;omega,h7.deep⟩
 | .pt _,_,_,⟨_,_,_,_,_,_,_,h⟩=>h.deep
 | .fn _ _,_,_,⟨_,_,h⟩=>h.deep
 | .mp _ _ _,_,_,_=>trivial
 | .ifc _,_,_,_=>trivial
 | .any,_,_,_=>trivial
theorem RCs.deep {w:World}:∀{x:List CT} {v:List Value} {L:List Nat},RCs w x v L→ctsD x
 | [],_,_,_=>trivial
 | _::_,_,_,⟨v,cs,L1,L2,h1,h2,h3,h4⟩=>⟨h3.deep,h4.deep⟩
theorem REs.deep {w:World} {m:Nat}:∀{x:List (List CT)} {v:List Value} {L:List Nat},REs w m x v L→essD x
 | [],_,_,_=>trivial
 | _::_,_,_,⟨c1,c2,L1,L2,h1,h2,h3,h4⟩=>⟨h3.1.deep,h4.deep⟩
end
theorem AVR.deep [NW] {g:Gh} {w:World}:∀{x:AV} {v:Value},AVR g w x v→avD x
 | .c _,_,⟨_,h,_⟩=>h.deep
 | .n _,_,h=>by obtain ⟨_,h1,_⟩:=NR.toC h;exact h1.deep
 | .row _,_,_=>trivial
 | .nil _ _,_,_=>trivial
 | .dead,_,_=>trivial
theorem AVRs.deep [NW] {g:Gh} {w:World}:∀{x:List AV} {v:List Value},ZH (AVR g w) x v→Zsw x
 | [],[],_=>trivial
 | _::_,_::_,h=>⟨h.1.deep,AVRs.deep h.2⟩
 | [],_::_,h=>h.elim
 | _::_,[],h=>h.elim
theorem Inv.deep [NW] (hI:Inv W U st a w):WF st:=by
 obtain ⟨⟨g,hH,hS⟩,hU,hdef,hh⟩:=hI
 refine ⟨fun t b cs ht=>?_,fun k t cs hk=>?_,fun k e m xs d hk=>?_⟩
 ·have h:=hS t
  rw [ht] at h
  cases b with
  | true=>obtain ⟨vs,_,h2⟩:=h;exact AVRs.deep h2
  | false=>obtain ⟨x,rfl,h2⟩:=h;exact ⟨h2.deep,trivial⟩
 ·have h:=hH.obs k
  rw [hk] at h
  obtain ⟨b,vs,_,_,_,_,h2⟩:=h
  exact AVRs.deep h2
 ·have h:=hH.obs k
  rw [hk] at h
  obtain ⟨_,cs,L,h1,h2,_⟩:=h
  refine ⟨?_,h2.deep⟩
  rcases h1.2 with ⟨_,h3⟩ | ⟨_,_,cap,_,_,_,_,h3,h4,_⟩
  ·omega
  ·unfold maxLen at h4;omega
def Zxc:Ex→Exit
 | .normal=>.normal
 | .exit id=>.exit id
 | .ret=>.ret
def XT (tt:Nat→Option TI) (hs:FuncId→Nat) (k0:Bool) (N:Nat):Code→Bool
 | .skip=>true
 | .region _ ops d=>(ops.toList.all fun o=>match o.dst with | some t=>Nat.blt t N&&(!k0||Nat.blt 0 t) | none=>true)&&(!d||ZpS tt hs ops)
 | .seq x y=>XT tt hs k0 N x&&XT tt hs k0 N y
 | .cond _ x y=>XT tt hs k0 N x&&XT tt hs k0 N y
 | .block _ x=>XT tt hs k0 N x
 | .loop x=>XT tt hs k0 N x
 | .exit _=>true
 | .ret=>true
 | _=>false
theorem Q4 [NW] (htt:MOk P J JF W tt) (hmix:P.follows .mixedOrders=true) {hds:FuncId→Nat} {k0:Bool} (hk0:W.hv=none∨k0=true) {N:Nat}:∀(c:Code),XT tt hds k0 N c=true→∀(Qs:Ex→St→Prop) (Q:Exit→Act→World→Prop),
  (∀ex U' st' a' w',Inv W U' st' a' w'→(∀k,st'.n≤k→¬U' k)→a'.tmps.size=N→Qs ex st'→Q (Zxc ex) a' w')→
  ∀U st a w,Inv W U st a w→(∀k,st.n≤k→¬U k)→a.tmps.size=N→swp tt (SC P J JF hds) c Qs st→c.wp P Q a w
 | .skip,_,Qs,Q,hQ,U,st,a,w,hI,hk,hs,h=>wp_skip (hQ .normal U st a w hI hk hs h)
 | .exit id,_,Qs,Q,hQ,U,st,a,w,hI,hk,hs,h=>wp_exit (hQ (.exit id) U st a w hI hk hs h)
 | .ret,_,Qs,Q,hQ,U,st,a,w,hI,hk,hs,h=>wp_ret (hQ .ret U st a w hI hk hs h)
 | .region id ops d,hok,Qs,Q,hQ,U,st,a,w,hI,hk,hs,h=>by
  simp only [XT,Bool.and_eq_true,List.all_eq_true] at hok
  have hN:∀o∈ops.toList,∀t,o.dst=some t→t<N∧(W.hv=none∨t≠0):=fun o mo t ht=>by
   have:=hok.1 o mo
   rw [ht] at this
   simp only [Bool.and_eq_true,Bool.or_eq_true] at this
   refine ⟨Nat.le_of_ble_eq_true this.1,hk0.imp (fun h=>h) fun h=>?_⟩
   rcases this.2 with h2 | h2
   ·rw [h] at h2;simp at h2
   ·have h3:0<t:=Nat.le_of_ble_eq_true h2
    exact Nat.ne_of_gt h3
  have hend:∀U' st' a' w',Inv W U' st' a' w'→(∀k,st.n+16 * ops.toList.length≤k→¬U' k)→a'.tmps.size=N→Zrw (st.n+16 * ops.toList.length) (Qs .normal) st'→Q .normal a' w':=fun U' st' a' w' h1 h2 h3 h4=>
   hQ .normal U' { st' with n:=st.n+16 * ops.toList.length } a' w' ⟨h1.ex,⟨h1.wf.sl,h1.wf.ob,h1.wf.gone⟩,h1.defers,h1.hand⟩ h2 h3 h4
  have h':Z3 tt (SC P J JF hds) ops.toList st.n ops.toList (Zrw (st.n+16 * ops.toList.length) (Qs .normal)) st:=h
  cases d with
  | false=>
   refine wp_region ?_
   have:=Zm1 (Q:=Q) htt hN ops.toList 0 st.n U st a w (by simp) h' hI hk hs hend
   rw [List.range_eq_range']
   simpa using this
  | true=>
   have hdr:ZpS tt hds ops=true:=by simpa using hok.2
   refine wp_region_any hmix ?_
   have h2:=ZqV (tt:=tt) (S:=SC P J JF hds) (all:=ops.toList) (base:=st.n) (K:=Zrw (st.n+16 * ops.toList.length) (Qs .normal)) ops.toList 0 st (by simp) (by simpa using h')
   rw [←List.range_eq_range'] at h2
   have hI':Inv W U st a { w with drawn:=w.drawn+1 }:=by
    obtain ⟨⟨g,hH,hS⟩,hU,hdef,hh⟩:=hI
    have hw:∀b,b<w.heap.size→¬g.own b→({ w with drawn:=w.drawn+1 }:World).heap[b]?=w.heap[b]?:=fun _ _ _=>rfl
    refine ⟨⟨g,hH.step (U:=U) (fun _=>False) ⟨hH.below.os,hH.below.tape,hH.below.output,hH.below.size,hH.below.block⟩ rfl (fun _ _ _=>rfl) (fun _ _=>⟨rfl,rfl,rfl,rfl⟩) hU.ob (fun _ _=>rfl) (Qt.refl _ _) (fun _ h=>h.elim),fun t=>?_⟩,hU,hdef,hh⟩
    exact (hS t).move (hU.sl t) (fun _ _=>rfl) hw (Qt.refl _ _) (Nat.le_refl _)
   refine ZrQ (base:=st.n) htt hN hdr (fun U' st' a' w' h1 h2 h3 h4=>hend U' st' a' w' h1 (by simpa using h2) h3 h4) ops.size (List.range ops.toList.length) (Array.replicate ops.size false) U st a _ (by simp) (List.pairwise_lt_range) (by simp) (fun i=>?_) (fun i o ho hl=>?_) h2 hI' (fun j _ k hk' _=>hk k (by omega)) (fun k hk'=>hk k (by omega)) hs
   ·simp only [List.mem_range,Array.length_toList]
    constructor
    ·intro hi;exact ⟨hi,by simp [Array.getD_eq_getD_getElem?,hi]⟩
    ·exact fun hi=>hi.1
   ·exfalso
    have hi:i<ops.size:=(Array.getElem?_eq_some_iff.1 ho).1
    simp [Array.getD_eq_getD_getElem?,hi] at hl
 | .seq x y,hok,Qs,Q,hQ,U,st,a,w,hI,hk,hs,h=>by
  simp only [XT,Bool.and_eq_true] at hok
  refine wp_seq (Q4 htt hmix hk0 x hok.1 (Zfq (swp tt (SC P J JF hds) y Qs) Qs) _ ?_ U st a w hI hk hs h)
  intro ex U' st' a' w' h1 h2 h3 h4
  cases ex with
  | normal=>exact Q4 htt hmix hk0 y hok.2 Qs Q hQ U' st' a' w' h1 h2 h3 h4
  | exit id=>exact hQ (.exit id) U' st' a' w' h1 h2 h3 h4
  | ret=>exact hQ .ret U' st' a' w' h1 h2 h3 h4
 | .cond c x y,hok,Qs,Q,hQ,U,st,a,w,hI,hk,hs,h=>by
  simp only [XT,Bool.and_eq_true] at hok
  simp only [swp,Zmj] at h
  split at h
  ·rename_i hb
   obtain ⟨b,hb'⟩:∃b,st.ev tt 0 c=.p false [.c (.bool b)]:=by
    unfold QO at hb
    split at hb
    ·rename_i b he;exact ⟨b,he⟩
    ·simp at hb
   obtain ⟨g,hH,hS⟩:=hI.ex
   have hv:=(Zjj (P:=P) htt.tt hS hI.wf 0 c).1
   rw [hb'] at hv
   have hv':=ZeZ hv
   refine wp_cond hv' ?_
   cases b with
   | true=>rw [if_pos (by rw [hb'];rfl)] at h;exact Q4 htt hmix hk0 x hok.1 Qs Q hQ U st a w hI hk hs h
   | false=>rw [if_neg (by rw [hb'];simp [X0])] at h;exact Q4 htt hmix hk0 y hok.2 Qs Q hQ U st a w hI hk hs h
  ·exact h.elim
 | .block id x,hok,Qs,Q,hQ,U,st,a,w,hI,hk,hs,h=>by
  refine wp_block (Q4 htt hmix hk0 x hok (ZfP id Qs) _ ?_ U st a w hI hk hs h)
  intro ex U' st' a' w' h1 h2 h3 h4
  cases ex with
  | normal=>exact hQ .normal U' st' a' w' h1 h2 h3 h4
  | exit j=>
   show Exit.inBlock id Q (.exit j) a' w'
   simp only [ZfP] at h4
   simp only [Exit.inBlock]
   split
   ·rename_i e;rw [if_pos e] at h4;exact hQ .normal U' st' a' w' h1 h2 h3 h4
   ·rename_i e;rw [if_neg e] at h4;exact hQ (.exit j) U' st' a' w' h1 h2 h3 h4
  | ret=>exact hQ .ret U' st' a' w' h1 h2 h3 h4
 | .loop x,hok,Qs,Q,hQ,U,st,a,w,hI,hk,hs,h=>by
  obtain ⟨n,hn⟩:=h
  refine ZrN (fun n a w=>∃U st,Inv W U st a w∧(∀k,st.n≤k→¬U k)∧a.tmps.size=N∧ZiX (swp tt (SC P J JF hds) x) Qs n st) n ⟨U,st,hI,hk,hs,hn⟩ ?_
  rintro n a w ⟨U,st,hI,hk,hs,hn⟩
  cases n with
  | zero=>exact hn.elim
  | succ n=>
   obtain ⟨ms,ρ,hρ,hb⟩:=hn
   obtain ⟨U2,hI2⟩:=Zle ms hI hk
   refine Q4 htt hmix hk0 x hok (Zfq (ZiX (swp tt (SC P J JF hds) x) Qs n) Qs) _ ?_ _ ((st.mats ms).ren ρ) a w (ZqD hI2 hρ) (fun k hk' hU=>by simp only [St.ren] at hk';omega) hs (hb (ZqD hI2 hρ).deep)
   intro ex U' st' a' w' h1 h2 h3 h4
   cases ex with
   | normal=>exact ⟨n,by omega,U',st',h1,h2,h3,h4⟩
   | exit id=>exact hQ (.exit id) U' st' a' w' h1 h2 h3 h4
   | ret=>exact hQ .ret U' st' a' w' h1 h2 h3 h4
 | .rangeFunc _ _ _ _,hok,_,_,_,_,_,_,_,_,_,_,_=>by simp [XT] at hok
 | .scope _,hok,_,_,_,_,_,_,_,_,_,_,_=>by simp [XT] at hok
 | .label _,hok,_,_,_,_,_,_,_,_,_,_,_=>by simp [XT] at hok
 | .goto _,hok,_,_,_,_,_,_,_,_,_,_,_=>by simp [XT] at hok
 | .refuse _,hok,_,_,_,_,_,_,_,_,_,_,_=>by simp [XT] at hok
end
end Go.Proofs.YtojnhepgnbhaaaaGreatDoor
namespace Go.Proofs.YtojnhepgnbhaaaaGreatDoor
open Go.RowKit
section
variable {P:Program} {J:World→Prop} {JF:Nat→Prop} {W:Q8} {U:Nat→Prop} {st:St} {w w':World} {a:Act} {tt:Nat→Option TI} {g:Gh}
def nK (g:Gh) (K:Nat→Prop) (b:Nat):Prop:=g.Z b∨∃k,K k∧b∈g.O k
theorem Zr0 {k e m n B:Nat} {cs:List Value} (h:w.ownsV 0 e m (g.val k) n cs) (hB:∀b∈(g.val k).ownBlock.toList,B≤b):w.ownsV B e m (g.val k) n cs:=by
 refine ⟨h.1,?_⟩
 rcases h.2 with h0 | ⟨q,o,cap,cur,hv,hg,r⟩
 ·exact .inl h0
 ·exact .inr ⟨q,o,cap,cur,hv,hB q (by simp [hv,Value.ownBlock]),r⟩
variable {K:Nat→Prop}
theorem ZoG [NW] (hI:HI W g st.ob w) (hK:∀k,K k→Zis (st.ob k)=false∧∀e m xs d,st.ob k=.row e m xs d→d=2) {x:AV} {ct:Bool × CT} {ks:List Nat} {v:Value} (h:ZeA st x=some (ct,ks)) (hks:∀k∈ks,K k∧∀b∈g.O k++g.D k,W.heap.size≤b) (hx:AVR g w x v):OC w W.heap.size (nK g K) ct v (g.F ks):=by
 have hsub:∀b,nK g K b→g.own b:=fun b hb=>by
  rcases hb with hz | ⟨k,_,mk⟩
  ·exact .inr hz
  ·exact .inl ⟨k,mk⟩
 cases x with
 | c y=>
  obtain ⟨L,h1,h2⟩:=hx
  cases y<;>simp only [ZeA,Option.some.injEq,Prod.mk.injEq] at h<;>obtain ⟨rfl,rfl⟩:=h
  ·exact ⟨⟨h1.1,rfl⟩,by simp [Gh.F]⟩
  ·exact ⟨⟨h1.1,rfl⟩,by simp [Gh.F]⟩
  ·exact ⟨⟨h1.1,rfl,h1.2.2⟩,by simp [Gh.F]⟩
  ·exact ⟨by simp [Gh.F],L,h1,fun b mb hb=>h2 b mb (hsub b hb)⟩
  ·exact ⟨by simp [Gh.F],L,h1,fun b mb hb=>h2 b mb (hsub b hb)⟩
  ·exact ⟨by simp [Gh.F],L,h1,fun b mb hb=>h2 b mb (hsub b hb)⟩
  ·exact ⟨by simp [Gh.F],L,h1,fun b mb hb=>h2 b mb (hsub b hb)⟩
  ·exact ⟨⟨rfl,h1.2⟩,by simp [Gh.F]⟩
  ·exact ⟨by simp [Gh.F],L,h1,fun b mb hb=>h2 b mb (hsub b hb)⟩
 | row k=>
  simp only [ZeA] at h
  split at h
  ·rename_i e m xs d hk
   obtain ⟨hm,cs,L,o1,o2,o3,o5⟩:=hI.deep hk
   split at h
   ·rename_i hd
    simp only [Option.some.injEq,Prod.mk.injEq] at h
    obtain ⟨rfl,rfl⟩:=h
    have hKk:=hks k (by simp)
    rcases o5 with ⟨_,q1,q2⟩ | ⟨q,_⟩ | ⟨q,_⟩
    ·refine ⟨hm,cs,L,by rw [hx.1];exact Zr0 o1 fun b mb=>hKk.2 b (by simp [q1,mb]),o2,by simp [Gh.F,q1,q2,hx.1],fun b mb=>.inr ⟨k,hKk.1,by rw [q1];rw [hx.1] at mb;exact mb⟩⟩
    ·omega
    ·omega
   ·rename_i hd
    simp only [Option.some.injEq,Prod.mk.injEq] at h
    obtain ⟨rfl,rfl⟩:=h
    have hnK:¬K k:=fun h=>hd ((hK k h).2 e m xs d hk)
    obtain ⟨A,cap,L0,s1,s2,s3,s4,s5⟩:=Sl.row o1
    refine ⟨by simp [Gh.F],L0++L,⟨A,cap,cs,L0,L,by rw [hx.1,s1],s2,s3,rfl,hm,s4,o2⟩,fun b mb hb=>?_⟩
    rcases List.mem_append.1 mb with m1 | m1
    ·have m2:=s5.subset m1
     rcases o5 with ⟨q,_⟩ | ⟨_,q1,q2⟩ | ⟨_,_,_,q⟩
     ·exact hd q
     ·have mk:b∈g.O k++g.D k:=by simp [q1,m2]
      rcases hb with hz | ⟨j,hj,mj⟩
      ·exact hI.nz mk hz
      ·exact hI.apart k j (fun e=>hnK (e ▸ hj)) b mk (by simp [mj])
     ·exact q b m2 (hsub b hb)
    ·exact o3 b m1 (hsub b hb)
  ·rename_i kk vk kv hk
   simp only [Option.some.injEq,Prod.mk.injEq] at h
   obtain ⟨rfl,rfl⟩:=h
   have ho:=hI.obs k
   rw [hk] at ho
   obtain ⟨b,es,c,q1,q2,q3,q4,q5,q6⟩:=ho
   have hnK:¬K k:=fun h=>by have:=(hK k h).1;rw [hk] at this;simp [Zis] at this
   refine ⟨by simp [Gh.F],[b],⟨b,es,c,by rw [hx.1,q1],q4,q5,q6,rfl⟩,fun x mx hb=>?_⟩
   simp at mx;subst mx
   have mk:x∈g.O k++g.D k:=by simp [q2]
   rcases hb with hz | ⟨j,hj,mj⟩
   ·exact hI.nz mk hz
   ·exact hI.apart k j (fun e=>hnK (e ▸ hj)) x mk (by simp [mj])
  ·simp at h
 | nil e m=>
  simp only [ZeA] at h
  split at h
  ·rename_i hm
   simp only [Option.some.injEq,Prod.mk.injEq] at h
   obtain ⟨rfl,rfl⟩:=h
   have hx':v=.slice none 0 0:=hx
   subst hx'
   exact ⟨hm,[],[],ZiI _ _ _ _,⟨rfl,rfl⟩,by simp [Gh.F,Value.ownBlock],by simp [Value.ownBlock]⟩
  ·simp at h
 | n y=>
  obtain ⟨L,h1,h2⟩:=NR.toC hx
  simp only [ZeA,Option.some.injEq,Prod.mk.injEq] at h
  obtain ⟨rfl,rfl⟩:=h
  exact ⟨by simp [Gh.F],L,h1,fun b mb hb=>h2 b mb (hsub b hb)⟩
 | dead=>
  simp only [ZeA,Option.some.injEq,Prod.mk.injEq] at h
  obtain ⟨rfl,rfl⟩:=h
  exact ⟨by simp [Gh.F],[],⟨rfl,hx⟩,by simp⟩
theorem Zmt [NW] (hI:HI W g st.ob w) (hK:∀k,K k→Zis (st.ob k)=false∧∀e m xs d,st.ob k=.row e m xs d→d=2):∀{xs:List AV} {cts:List (Bool × CT)} {ks:List Nat} {vs:List Value},Zce st xs=some (cts,ks)→(∀k∈ks,K k∧∀b∈g.O k++g.D k,W.heap.size≤b)→ZH (AVR g w) xs vs→OCs w W.heap.size (nK g K) cts vs (g.F ks)
 | [],_,_,[],h,_,_=>by
  simp only [Zce,Option.some.injEq,Prod.mk.injEq] at h
  obtain ⟨rfl,rfl⟩:=h
  exact ⟨rfl,by simp [Gh.F]⟩
 | [],_,_,_::_,_,_,h=>h.elim
 | _::_,_,_,[],_,_,h=>h.elim
 | x::r,cts,ks,v::vs,h,hks,hr=>by
  simp only [Zce] at h
  obtain ⟨⟨c1,k1⟩,h1,h⟩:=Option.bind_eq_some_iff.1 h
  obtain ⟨⟨c2,k2⟩,h2,h⟩:=Option.map_eq_some_iff.1 h
  simp only [Prod.mk.injEq] at h
  obtain ⟨rfl,rfl⟩:=h
  exact ⟨v,vs,g.F k1,g.F k2,rfl,by simp [Gh.F],ZoG hI hK h1 (fun k mk=>hks k (by simp [mk])) hr.1,Zmt hI hK h2 (fun k mk=>hks k (by simp [mk])) hr.2⟩
theorem Zph [NW] (hI:HI W g st.ob w) (hK:∀k,K k→Zis (st.ob k)=false∧∀e m xs d,st.ob k=.row e m xs d→d=2) {ag:Bool} {cs:List AV} {cts:List (Bool × CT)} {ks:List Nat} {v:Value} (h:Zce st cs=some (cts,ks)) (hks:∀k∈ks,K k∧∀b∈g.O k++g.D k,W.heap.size≤b) (hx:PVR g w ag cs v):OP w W.heap.size (nK g K) (ag,cts) v (g.F ks):=by
 cases ag with
 | true=>obtain ⟨vs,rfl,h2⟩:=hx;exact .inl ⟨rfl,vs,rfl,Zmt hI hK h hks h2⟩
 | false=>
  obtain ⟨x,rfl,h2⟩:=hx
  simp only [Zce] at h
  obtain ⟨⟨c1,k1⟩,h1,h⟩:=Option.bind_eq_some_iff.1 h
  simp at h
  obtain ⟨rfl,rfl⟩:=h
  exact .inr ⟨rfl,c1,rfl,ZoG hI hK h1 hks h2⟩
theorem OC.one {B:Nat} {n:Nat→Prop} {x:Bool × CT} {v:Value} {F:List Nat} (h:OC w B n x v F):v.oneCell'=true:=by
 obtain ⟨b,x⟩:=x
 cases b with
 | true=>obtain ⟨_,L,h1,_⟩:=h;exact h1.one
 | false=>
  cases x with
  | sl e q xs=>
   obtain ⟨_,cs,L,o1,_⟩:=h
   obtain ⟨A,cap,hv⟩:=Zct o1
   rw [hv];rfl
  | int k i=>exact h.1.one
  | bool b=>exact h.1.one
  | str s=>exact h.1.one
  | ifc s=>exact h.1.one
  | any=>exact h.1.one
  | _=>exact h.elim
/- what is given is said to be lent -/
theorem ZnO [NW] {B:Nat} {n:Nat→Prop}:∀{r res:List (Bool × CT)} {vs:List Value} {F:List Nat},OCs w B n r vs F→wkC r res→F.Nodup→∃F',F'.Sublist F∧∀m:Nat→Prop,(∀b∈F',n b→m b)→(∀b,m b→n b)→(∀b∈F,m b→b∈F')→OCs w B m res vs F'
 | [],[],vs,F,h,_,_=>⟨[],by simp,fun m _ _ _=>⟨h.1,rfl⟩⟩
 | [],_::_,_,_,_,h,_=>h.elim
 | _::_,[],_,_,_,h,_=>h.elim
 | x::r,y::res,_,_,⟨v,vs,F1,F2,rfl,rfl,h1,h2⟩,hw0,hnd=>by
  rw [List.nodup_append] at hnd
  have hw0:wk1 x y (wkC r res):=hw0
  unfold wk1 at hw0
  by_cases hany:ZqC y.2=true
  ·rw [if_pos hany] at hw0
   obtain ⟨F2',s2,h2'⟩:=ZnO h2 hw0 hnd.2.1
   refine ⟨F2',s2.trans (List.sublist_append_right _ _),fun m m1 m2 m3=>⟨v,vs,[],F2',rfl,rfl,?_,h2' m m1 m2 fun b mb hb=>m3 b (by simp [mb]) hb⟩⟩
   have h1':=h1.one
   obtain ⟨b2,y⟩:=y
   cases y<;>simp [ZqC] at hany
   cases b2 with
   | true=>exact ⟨rfl,[],⟨rfl,h1'⟩,by simp⟩
   | false=>exact ⟨⟨rfl,h1'⟩,rfl⟩
  rw [if_neg hany] at hw0
  obtain ⟨e1,e2,hw⟩:=hw0
  obtain ⟨F2',s2,h2'⟩:=ZnO h2 hw hnd.2.1
  have key:∃F1',F1'.Sublist F1∧∀m:Nat→Prop,(∀b∈F1',n b→m b)→(∀b,m b→n b)→(∀b∈F1,m b→b∈F1')→OC w B m y v F1':=by
   obtain ⟨b1,x⟩:=x
   obtain ⟨b2,y⟩:=y
   simp only at e1 e2
   subst e1
   cases b1 with
   | true=>
    have:b2=true:=by rcases e2 with e | e<;>simp_all
    subst this
    obtain ⟨rfl,L,q1,q2⟩:=h1
    exact ⟨[],by simp,fun m _ m2 _=>⟨rfl,L,q1,fun b mb hb=>q2 b mb (m2 b hb)⟩⟩
   | false=>
    cases b2 with
    | false=>
     refine ⟨F1,List.Sublist.refl _,fun m m1 _ _=>?_⟩
     cases x with
     | sl e q xs=>
      obtain ⟨hm,cs,L,o1,o2,o3,o4⟩:=h1
      exact ⟨hm,cs,L,o1,o2,o3,fun b mb=>m1 b (by simp [o3,mb]) (o4 b mb)⟩
     | int k i=>exact h1
     | bool b=>exact h1
     | str s=>exact h1
     | ifc s=>exact h1
     | any=>exact h1
     | _=>exact h1.elim
    | true=>
     refine ⟨[],by simp,fun m _ _ m3=>⟨rfl,?_⟩⟩
     cases x with
     | sl e q xs=>
      obtain ⟨hm,cs,L,o1,o2,o3,o4⟩:=h1
      obtain ⟨A,cap,L0,s1,s2,s3,s4,s5⟩:=Sl.row o1
      refine ⟨L0++L,⟨A,cap,cs,L0,L,s1,s2,s3,rfl,hm,s4,o2⟩,fun b mb hb=>?_⟩
      have:b∈F1:=by
       rw [o3]
       rcases List.mem_append.1 mb with m1 | m1
       ·exact List.mem_append.2 (.inl (s5.subset m1))
       ·exact List.mem_append.2 (.inr m1)
      have:=m3 b this hb
      simp at this
     | int k i=>exact ⟨[],h1.1,by simp⟩
     | bool b=>exact ⟨[],h1.1,by simp⟩
     | str s=>exact ⟨[],h1.1,by simp⟩
     | ifc s=>exact ⟨[],h1.1,by simp⟩
     | any=>exact ⟨[],h1.1,by simp⟩
     | _=>exact h1.elim
  obtain ⟨F1',s1,h1'⟩:=key
  refine ⟨F1'++F2',List.Sublist.append s1 s2,fun m m1 m2 m3=>⟨v,vs,F1',F2',rfl,rfl,h1' m (fun b mb=>m1 b (by simp [mb])) m2 (fun b mb hb=>?_),h2' m (fun b mb=>m1 b (by simp [mb])) m2 (fun b mb hb=>?_)⟩⟩
  ·rcases List.mem_append.1 (m3 b (by simp [mb]) hb) with h | h
   ·exact h
   ·exact absurd rfl (hnd.2.2 b mb b (s2.subset h))
  ·rcases List.mem_append.1 (m3 b (by simp [mb]) hb) with h | h
   ·exact absurd rfl (hnd.2.2 b (s1.subset h) b mb)
   ·exact h
theorem ZxC [NW] {B:Nat} {n:Nat→Prop} {x y:RT} {v:Value} {F:List Nat} (h:OP w B n x v F) (e1:x.1=y.1) (hw:wkC x.2 y.2) (hnd:F.Nodup):∃F',F'.Sublist F∧∀m:Nat→Prop,(∀b∈F',n b→m b)→(∀b,m b→n b)→(∀b∈F,m b→b∈F')→OP w B m y v F':=by
 rcases h with ⟨h1,vs,rfl,h2⟩ | ⟨h1,ct,h2,h3⟩
 ·obtain ⟨F',s,h⟩:=ZnO h2 hw hnd
  exact ⟨F',s,fun m a b c=>.inl ⟨e1 ▸ h1,vs,rfl,h m a b c⟩⟩
 ·obtain ⟨F',s,h⟩:=ZnO (r:=x.2) (vs:=[v]) (F:=F) (by rw [h2];exact ⟨v,[],F,[],rfl,by simp,h3,rfl,rfl⟩) hw hnd
  refine ⟨F',s,fun m p1 p2 p3=>.inr ⟨e1 ▸ h1,?_⟩⟩
  have h4:=h m p1 p2 p3
  generalize y.2=l at h4 hw
  cases l with
  | nil=>rw [h2] at hw;exact hw.elim
  | cons c l=>
   cases l with
   | nil=>
    obtain ⟨v',vs',F1,F2,q1,rfl,q3,q4⟩:=h4
    simp only [List.cons.injEq] at q1
    obtain ⟨rfl,rfl⟩:=q1
    obtain ⟨_,rfl⟩:=q4
    exact ⟨c,rfl,by simpa using q3⟩
   | cons _ _=>
    rw [h2] at hw
    have hw:wk1 _ _ False:=hw
    unfold wk1 at hw
    split at hw
    ·exact hw.elim
    ·exact hw.2.2.elim
theorem ZsI [NW] {B:Nat} {n:Nat→Prop}:∀{r res:List RT} {vs:List Value} {F:List Nat},OPs w B n r vs F→wkR r res→F.Nodup→∃F',F'.Sublist F∧∀m:Nat→Prop,(∀b∈F',n b→m b)→(∀b,m b→n b)→(∀b∈F,m b→b∈F')→OPs w B m res vs F'
 | [],[],vs,F,h,_,_=>⟨[],by simp,fun m _ _ _=>⟨h.1,rfl⟩⟩
 | [],_::_,_,_,_,h,_=>h.elim
 | _::_,[],_,_,_,h,_=>h.elim
 | x::r,y::res,_,_,⟨v,vs,F1,F2,rfl,rfl,h1,h2⟩,⟨e1,e2,hw⟩,hnd=>by
  rw [List.nodup_append] at hnd
  obtain ⟨F2',s2,h2'⟩:=ZsI h2 hw hnd.2.1
  obtain ⟨F1',s1,h1'⟩:=ZxC h1 e1 e2 hnd.1
  refine ⟨F1'++F2',List.Sublist.append s1 s2,fun m m1 m2 m3=>⟨v,vs,F1',F2',rfl,rfl,h1' m (fun b mb=>m1 b (by simp [mb])) m2 (fun b mb hb=>?_),h2' m (fun b mb=>m1 b (by simp [mb])) m2 (fun b mb hb=>?_)⟩⟩
  ·rcases List.mem_append.1 (m3 b (by simp [mb]) hb) with h | h
   ·exact h
   ·exact absurd rfl (hnd.2.2 b mb b (s2.subset h))
  ·rcases List.mem_append.1 (m3 b (by simp [mb]) hb) with h | h
   ·exact absurd rfl (hnd.2.2 b (s1.subset h) b mb)
   ·exact h
def ZeV (tmps:Array Value):ResultVar→Sem Value
 | .tmp t=>pure (tmps.getD t undef)
 | .cell b t=>do loadVar t (←asAddr (tmps.getD b undef))
theorem Zhc (fn:Func) (tmps:Array Value):results fn tmps=(do let vs ←fn.results.mapM (ZeV tmps);pure (if h:vs.size=1 then vs[0] else .tuple vs)):=by
 unfold results
 congr 1
theorem Zki [NW] (htt:∀t i,tt t=some i→TOk P t i) (hI:HI W g st.ob w) (hS:∀t,SVR g w (st.sl t) (a.tmps.getD t undef)) (hU:StU U st) (hK:∀k,K k→Zis (st.ob k)=false∧∀e m xs d,st.ob k=.row e m xs d→d=2):∀{rs:List ResultVar} {res:List RT} {ks:List Nat},Zb9 tt st rs=some (res,ks)→(∀k∈ks,K k∧∀b∈g.O k++g.D k,W.heap.size≤b)→
  ∃vs:List Value,(rs.mapM (ZeV a.tmps)).run P w=.ok vs w∧OPs w W.heap.size (nK g K) res vs (g.F ks)
 | [],res,ks,h,_=>by
  simp only [Zb9,Option.some.injEq,Prod.mk.injEq] at h
  obtain ⟨rfl,rfl⟩:=h
  exact ⟨[],by simp,rfl,by simp [Gh.F]⟩
 | .tmp t::r,res,ks,h,hks=>by
  simp only [Zb9] at h
  split at h
  ·rename_i ag cs hsl
   obtain ⟨⟨c1,k1⟩,h1,h⟩:=Option.bind_eq_some_iff.1 h
   obtain ⟨⟨c2,k2⟩,h2,h⟩:=Option.map_eq_some_iff.1 h
   simp only [Prod.mk.injEq] at h
   obtain ⟨rfl,rfl⟩:=h
   obtain ⟨vs,i1,i2⟩:=Zki htt hI hS hU hK h2 (fun k mk=>hks k (by simp [mk]))
   have hs:=hS t
   rw [hsl] at hs
   refine ⟨a.tmps.getD t undef::vs,?_,_,vs,g.F k1,g.F k2,rfl,by simp [Gh.F],Zph hI hK h1 (fun k mk=>hks k (by simp [mk])) hs,i2⟩
   simp only [List.mapM_cons,ZeV,Sem.run_bind,Sem.run_pure,Result.andThen_ok,i1]
  ·simp at h
 | .cell t ty::r,res,ks,h,hks=>by
  simp only [Zb9] at h
  split at h
  ·rename_i ag cs hsl
   obtain ⟨⟨c1,k1⟩,h1,h⟩:=Option.bind_eq_some_iff.1 h
   obtain ⟨⟨c2,k2⟩,h2,h⟩:=Option.map_eq_some_iff.1 h
   simp only [Prod.mk.injEq] at h
   obtain ⟨rfl,rfl⟩:=h
   obtain ⟨vs,i1,i2⟩:=Zki htt hI hS hU hK h2 (fun k mk=>hks k (by simp [mk]))
   obtain ⟨cv,l1,l2,_⟩:=ZqM (P:=P) (U:=U) htt hI hU hsl (hS t)
   have hl:(do loadVar ty (←asAddr (a.tmps.getD t undef)):Sem Value).run P w=.ok cv w:=by
    have:∃b,a.tmps.getD t undef=.pointer (some b):=by
     have hs:=hS t
     cases hsl':st.sl t with
     | bp k off=>rw [hsl'] at hs;obtain ⟨b,_,hv⟩:=hs;exact ⟨_,hv⟩
     | rp k m i off=>rw [hsl'] at hs;obtain ⟨b,_,_,_,_,hv⟩:=hs;exact ⟨_,hv⟩
     | ep e off=>rw [hsl'] at hs;obtain ⟨b,_,_,_,hv,_⟩:=hs;exact ⟨_,hv⟩
     | p ag2 cs2=>
      rw [hsl'] at hs hsl
      cases ag2 with
      | true=>simp [ZbW] at hsl
      | false=>
       cases cs2 with
       | nil=>simp [ZbW] at hsl
       | cons y q=>
        cases q with
        | cons _ _=>cases y<;>first | (simp [ZbW] at hsl;done) | (rename_i z;cases z<;>simp [ZbW] at hsl)
        | nil=>cases y with
         | c z=>cases z with
          | pt e=>obtain ⟨b,_,_,hv,_⟩:=Zqv hs;exact ⟨_,hv⟩
          | _=>simp [ZbW] at hsl
         | _=>simp [ZbW] at hsl
     | _=>rw [hsl'] at hsl;simp [ZbW] at hsl
    obtain ⟨b,hb⟩:=this
    rw [hb] at l1 ⊢
    simpa [Instr.loadAt,Instr.sureAddr,asAddr] using l1
   refine ⟨cv::vs,?_,_,vs,g.F k1,g.F k2,rfl,by simp [Gh.F],Zph hI hK h1 (fun k mk=>hks k (by simp [mk])) l2,i2⟩
   have hl':(ZeV a.tmps (.cell t ty)).run P w=.ok cv w:=hl
   simp only [List.mapM_cons,Sem.run_bind,hl',i1,Sem.run_pure,Result.andThen_ok]
  ·simp at h
theorem Zqf:∀{xs:List AV} {cts:List (Bool × CT)} {ks:List Nat},Zce st xs=some (cts,ks)→∀k∈ks,∃e m xs,st.ob k=.row e m xs 2
 | [],_,_,h,k,mk=>by
  simp only [Zce,Option.some.injEq,Prod.mk.injEq] at h
  rw [←h.2] at mk;simp at mk
 | x::r,cts,ks,h,k,mk=>by
  simp only [Zce] at h
  obtain ⟨⟨c1,k1⟩,h1,h⟩:=Option.bind_eq_some_iff.1 h
  obtain ⟨⟨c2,k2⟩,h2,h⟩:=Option.map_eq_some_iff.1 h
  simp only [Prod.mk.injEq] at h
  obtain ⟨rfl,rfl⟩:=h
  rcases List.mem_append.1 mk with mk | mk
  ·cases x with
   | c y=>cases y<;>simp only [ZeA,Option.some.injEq,Prod.mk.injEq] at h1<;>(rw [←h1.2] at mk;simp at mk)
   | row j=>
    simp only [ZeA] at h1
    split at h1
    ·rename_i e m xs d hk
     split at h1
     ·rename_i hd
      simp only [Option.some.injEq,Prod.mk.injEq] at h1
      rw [←h1.2] at mk
      simp at mk
      subst mk
      exact ⟨e,m,xs,by rw [hk,hd]⟩
     ·simp only [Option.some.injEq,Prod.mk.injEq] at h1
      rw [←h1.2] at mk;simp at mk
    ·simp only [Option.some.injEq,Prod.mk.injEq] at h1
     rw [←h1.2] at mk;simp at mk
    ·simp at h1
   | nil e m=>
    simp only [ZeA] at h1
    split at h1
    ·simp only [Option.some.injEq,Prod.mk.injEq] at h1
     rw [←h1.2] at mk;simp at mk
    ·simp at h1
   | n y=>
    simp only [ZeA,Option.some.injEq,Prod.mk.injEq] at h1
    rw [←h1.2] at mk;simp at mk
   | dead=>
    simp only [ZeA,Option.some.injEq,Prod.mk.injEq] at h1
    rw [←h1.2] at mk;simp at mk
  ·exact Zqf h2 k mk
theorem ZjW [NW]:∀{rs:List ResultVar} {res:List RT} {ks:List Nat},Zb9 tt st rs=some (res,ks)→∀k∈ks,∃e m xs,st.ob k=.row e m xs 2
 | [],_,_,h,k,mk=>by
  simp only [Zb9,Option.some.injEq,Prod.mk.injEq] at h
  rw [←h.2] at mk;simp at mk
 | .tmp t::r,res,ks,h,k,mk=>by
  simp only [Zb9] at h
  split at h
  ·obtain ⟨⟨c1,k1⟩,h1,h⟩:=Option.bind_eq_some_iff.1 h
   obtain ⟨⟨c2,k2⟩,h2,h⟩:=Option.map_eq_some_iff.1 h
   simp only [Prod.mk.injEq] at h
   obtain ⟨rfl,rfl⟩:=h
   rcases List.mem_append.1 mk with mk | mk
   ·exact Zqf h1 k mk
   ·exact ZjW h2 k mk
  ·simp at h
 | .cell t ty::r,res,ks,h,k,mk=>by
  simp only [Zb9] at h
  split at h
  ·obtain ⟨⟨c1,k1⟩,h1,h⟩:=Option.bind_eq_some_iff.1 h
   obtain ⟨⟨c2,k2⟩,h2,h⟩:=Option.map_eq_some_iff.1 h
   simp only [Prod.mk.injEq] at h
   obtain ⟨rfl,rfl⟩:=h
   rcases List.mem_append.1 mk with mk | mk
   ·exact Zqf h1 k mk
   ·exact ZjW h2 k mk
  ·simp at h
theorem ZnE [NW] {z:Nat→Prop} {x:Bool × List CT} {v:Value} (hg:∀b,g.own b→z b) (h:Zkk w z x v):SVR g w (.p x.1 (x.2.map .c)) v:=by
 rcases h with ⟨h1,vs,L,rfl,h2,h4⟩ | ⟨h1,ct,L,h2,h3,h4⟩
 ·rw [h1];exact ⟨vs,rfl,h2.avr fun b mb hb=>h4 b mb (hg b hb)⟩
 ·rw [h1,h2];exact ⟨_,rfl,L,h3,fun b mb hb=>h4 b mb (hg b hb)⟩
theorem Zsx [NW] (htt:∀t i,tt t=some i→TOk P t i) {fn:Func} {res:List RT} (hI:Inv W U st a w) (hH:HI W g st.ob w) (hS:∀t,SVR g w (st.sl t) (a.tmps.getD t undef)) {r:List RT} {ks:List Nat} (hx:Zb9 tt st fn.results.toList=some (r,ks)) (hnd:ks.Nodup) (hw:wkR r res)
  (hB:∀k∈ks,∀b∈g.O k++g.D k,W.heap.size≤b) (K0:Nat→Prop) (hK0:∀k,K0 k→Zis (st.ob k)=false∧∀e m xs d,st.ob k=.row e m xs d→d=2):
  ∃v m,(results fn a.tmps).run P w=.ok v w∧Zma w W.heap.size m res v∧(∀b,m b→g.own b)∧(∀b,m b→g.Z b∨(∃k,(k∈ks∨K0 k)∧b∈g.O k))∧∀b,b∉g.F ks→(g.Z b∨∃k,K0 k∧b∈g.O k)→m b:=by
 obtain ⟨us,r1,r2⟩:=Zki (K:=fun k=>k∈ks∨K0 k) htt hH hS hI.wf (fun k hk=>by
  rcases hk with hk | hk
  ·obtain ⟨e',m',xs',h'⟩:=ZjW hx k hk
   refine ⟨by rw [h'];rfl,fun e m xs d he=>?_⟩
   rw [he] at h'
   simp only [Ob.row.injEq] at h'
   exact h'.2.2.2
  ·exact hK0 k hk) hx (fun k mk=>⟨.inl mk,hB k mk⟩)
 have hndF:=hH.nodupF hnd
 obtain ⟨F',s,hF⟩:=ZsI r2 hw hndF
 have hge:∀b∈g.F ks,W.heap.size≤b:=fun b mb=>by
  obtain ⟨k,hk,mk⟩:=Zjp mb
  exact hB k hk b mk
 refine ⟨(if h:us.toArray.size=1 then us.toArray[0] else .tuple us.toArray),fun b=>nK g (fun k=>k∈ks∨K0 k) b∧(b∈g.F ks→b∈F'),?_,⟨us,F',hF _ (fun b mb hb=>⟨hb,fun _=>mb⟩) (fun b hb=>hb.1) (fun b mb hb=>hb.2 mb),⟨hndF.sublist s,fun b mb=>hge b (s.subset mb),fun b mb=>?_⟩,rfl⟩,fun b hb=>?_,fun b hb=>hb.1,fun b hb hn=>⟨?_,fun mb=>absurd mb hb⟩⟩
 ·rw [Zhc]
  have e:fn.results.mapM (ZeV a.tmps)=List.toArray <$> fn.results.toList.mapM (ZeV a.tmps):=by
   rw [←List.mapM_toArray]
  have e2:(List.toArray <$> fn.results.toList.mapM (ZeV a.tmps)).run P w=.ok us.toArray w:=by
   rw [map_eq_pure_bind]
   simp only [Sem.run_bind,r1,Result.andThen_ok,Sem.run_pure]
  rw [e]
  simp only [Sem.run_bind,e2,Result.andThen_ok,Sem.run_pure]
 ·obtain ⟨k,hk,mk⟩:=Zjp (s.subset mb)
  obtain ⟨e',m',xs',h'⟩:=ZjW hx k hk
  have:=(hH.plain k b mk).2
  rw [h'] at this
  exact this
 ·rcases hb.1 with hz | ⟨k,_,mk⟩
  ·exact .inr hz
  ·exact .inl ⟨k,mk⟩
 ·rcases hn with hz | ⟨k,hk,mk⟩
  ·exact .inl hz
  ·exact .inr ⟨k,.inr hk,mk⟩
theorem Zow [NW] {g':Gh} (hv:∀k e m xs,st.ob k=.row e m xs 2→g'.val k=g.val k∧U k) {x:AV} {v:Value} (h:AVR g w x v):AVR g' w (ZhB st x) v∧avU U (ZhB st x):=by
 have one:=h.one
 unfold ZhB
 split
 ·obtain ⟨L,⟨h1,_⟩,_⟩:=h
  exact ⟨⟨[],⟨h1,rfl⟩,by simp⟩,trivial⟩
 ·obtain ⟨L,⟨h1,_⟩,_⟩:=h
  exact ⟨⟨[],⟨h1,rfl⟩,by simp⟩,trivial⟩
 ·obtain ⟨L,⟨h1,_,h3⟩,_⟩:=h
  exact ⟨⟨[],⟨h1,rfl,h3⟩,by simp⟩,trivial⟩
 ·rename_i k
  cases hk:st.ob k with
  | row e m xs d=>
   simp only [ZqR]
   split
   ·rename_i hd
    subst hd
    obtain ⟨e1,e2⟩:=hv k e m xs hk
    exact ⟨⟨h.1.trans e1.symm,one⟩,e2⟩
   ·exact ⟨one,trivial⟩
  | gone=>exact ⟨one,trivial⟩
  | box _ _=>exact ⟨one,trivial⟩
  | map _ _ _=>exact ⟨one,trivial⟩
 ·exact ⟨one,trivial⟩
theorem ZiN [NW] {g':Gh} (hv:∀k e m xs,st.ob k=.row e m xs 2→g'.val k=g.val k∧U k):∀{cs:List AV} {vs:List Value},ZH (AVR g w) cs vs→ZH (AVR g' w) (cs.map (ZhB st)) vs
 | [],[],_=>trivial
 | _::_,_::_,h=>⟨(Zow hv h.1).1,ZiN hv h.2⟩
 | [],_::_,h=>h.elim
 | _::_,[],h=>h.elim
theorem ZsO [NW] {x:SV} {v:Value} {g':Gh} (hv:∀k e m xs,st.ob k=.row e m xs 2→g'.val k=g.val k∧U k) (hu:svU U x) (hvu:∀k,U k→g'.val k=g.val k) (h:SVR g w x v):SVR g' w (ZmN st x) v:=by
 cases x with
 | p ag cs=>
  cases ag with
  | true=>obtain ⟨vs,e,h⟩:=h;exact ⟨vs,e,ZiN hv h⟩
  | false=>obtain ⟨y,rfl,h⟩:=h;exact ⟨_,rfl,(Zow hv h).1⟩
 | bp k off=>obtain ⟨b,h1,h2⟩:=h;exact ⟨b,(hvu k hu).trans h1,h2⟩
 | _=>trivial
theorem Zqo (hv:∀k e m xs,st.ob k=.row e m xs 2→U k) (x:AV):avU U (ZhB st x):=by
 unfold ZhB
 split
 ·trivial
 ·trivial
 ·trivial
 ·rename_i k
  cases hk:st.ob k with
  | row e m xs d=>
   simp only [ZqR]
   split
   ·rename_i hd
    subst hd
    exact hv k e m xs hk
   ·trivial
  | gone=>trivial
  | box _ _=>trivial
  | map _ _ _=>trivial
 ·trivial
theorem ZtN (hv:∀k e m xs,st.ob k=.row e m xs 2→U k) (x:SV) (hu:svU U x):svU U (ZmN st x):=by
 cases x with
 | p ag cs=>
  intro y my
  obtain ⟨x,mx,rfl⟩:=List.mem_map.1 my
  exact Zqo hv x
 | bp k off=>exact hu
 | _=>trivial
theorem ZkV {o:Ob} (h:Zaa st o≠.gone):(∃e m xs,o=.row e m xs 2)∨∃t cs,o=.box t cs:=by
 cases o with
 | row e m xs d=>
  simp only [Zaa] at h
  split at h
  ·rename_i hd
   subst hd
   exact .inl ⟨e,m,xs,rfl⟩
  ·exact absurd rfl h
 | gone=>exact absurd rfl h
 | box t cs=>exact .inr ⟨t,cs,rfl⟩
 | map _ _ _=>exact absurd rfl h
theorem Zti [NW] (hB:W.heap.size≤NW.B0) (t:Nat) (hI:Inv W U st a w) (hkn:∀k,st.n≤k→¬U k):∃U',Inv W U' (st.thaw t) a w:=by
 obtain ⟨⟨g,hH,hS⟩,hU,hdef,hh⟩:=hI
 unfold St.thaw
 cases hv:st.sl t with
 | p ag cs=>
  by_cases hc:∃e m xs,ag=false∧cs=[.n (.sl e m xs)]
  ·obtain ⟨e,m,xs,rfl,rfl⟩:=hc
   have hs:=hS t
   rw [hv] at hs
   obtain ⟨_,_,_,cs,L,h1,h2,h3,h4,h5,h6⟩:=Zx9 hs
   simp only [CT.sl.injEq] at h1
   obtain ⟨rfl,rfl,rfl⟩:=h1
   let v:=a.tmps.getD t undef
   have hn:st.ob st.n=.gone:=hU.gone _ (hkn _ (Nat.le_refl _))
   have hrow:∀k e m xs,st.ob k=.row e m xs 2→k≠st.n∧U k:=fun k e m xs hk=>⟨fun e=>by rw [e,hn] at hk;simp at hk,Classical.byContradiction fun h=>by rw [hU.gone k h] at hk;simp at hk⟩
   let g':Gh:=⟨fun k=>if k=st.n then v else g.val k,fun k=>if k=st.n then v.ownBlock.toList else (match Zaa st (st.ob k) with | .gone=>[] | _=>g.O k),fun k=>if k=st.n then L else (match Zaa st (st.ob k) with | .gone=>[] | _=>g.D k),g.Z⟩
   have gn:g'.val st.n=v∧g'.O st.n=v.ownBlock.toList∧g'.D st.n=L:=⟨if_pos rfl,if_pos rfl,if_pos rfl⟩
   have gk:∀k,k≠st.n→Zaa st (st.ob k)≠.gone→g'.O k=g.O k∧g'.D k=g.D k:=fun k hk ho=>by
    rcases ZkV ho with ⟨e',m',xs',e1⟩ | ⟨t',cs',e1⟩
    ·simp [g',if_neg hk,e1,Zaa]
    ·simp [g',if_neg hk,e1,Zaa]
   have gg:∀k,k≠st.n→Zaa st (st.ob k)=.gone→g'.O k=[]∧g'.D k=[]:=fun k hk ho=>by
    simp only [g',if_neg hk,ho]
    exact ⟨trivial,trivial⟩
   have hOD:∀k b,b∈g'.O k++g'.D k→(k=st.n∧b∈v.ownBlock.toList++L)∨(k≠st.n∧Zaa st (st.ob k)≠.gone∧b∈g.O k++g.D k):=fun k b mb=>by
    by_cases hk:k=st.n
    ·subst hk;rw [gn.2.1,gn.2.2] at mb;exact .inl ⟨rfl,mb⟩
    ·by_cases ho:Zaa st (st.ob k)=.gone
     ·rw [(gg k hk ho).1,(gg k hk ho).2] at mb;simp at mb
     ·rw [(gk k hk ho).1,(gk k hk ho).2] at mb;exact .inr ⟨hk,ho,mb⟩
   have hlow:∀k b,b∈g.O k++g.D k→g.low b:=fun k b mb=>by
    rcases List.mem_append.1 mb with m1 | m1
    ·exact .inl (.inl ⟨k,m1⟩)
    ·exact .inr ⟨k,m1⟩
   refine ⟨fun k=>U k∨k=st.n,⟨g',⟨hH.below,fun k=>?_,fun k=>?_,fun k j hkj b mb mj=>?_,fun k b mb=>?_,hH.gz,hH.zx,hH.nw⟩,fun s=>?_⟩,⟨fun s=>?_,fun k=>?_,fun k hk=>?_⟩,hdef,hh⟩
   ·show ObR g' w k (if k=st.n then .row e m xs 2 else Zaa st (st.ob k))
    by_cases hk:k=st.n
    ·subst hk
     rw [if_pos rfl]
     exact ⟨h2,cs,L,by rw [gn.1];exact h3,h4,.inl ⟨rfl,by rw [gn.2.1,gn.1],gn.2.2⟩⟩
    ·rw [if_neg hk]
     by_cases ho:Zaa st (st.ob k)=.gone
     ·rw [ho];exact gg k hk ho
     ·have hob:=hH.obs k
      have ev:g'.val k=g.val k:=if_neg hk
      obtain ⟨eO,eD⟩:=gk k hk ho
      rcases ZkV ho with ⟨e',m',xs',e1⟩ | ⟨t',cs',e1⟩
      ·rw [e1] at hob ⊢
       obtain ⟨p1,cs',L',p2,p3,p4⟩:=hob
       rw [show Zaa st (.row e' m' xs' 2)=.row e' m' xs' 2 from by simp [Zaa]]
       refine ⟨p1,cs',L',by rw [ev];exact p2,p3,?_⟩
       rw [ev,eO,eD]
       rcases p4 with p4 | ⟨q,_⟩ | ⟨q,_⟩
       ·exact .inl p4
       ·omega
       ·omega
      ·rw [e1] at hob ⊢
       obtain ⟨b,vs,p1,p2,p3,p4,p5⟩:=hob
       exact ⟨b,vs,ev.trans p1,eO.trans p2,eD.trans p3,p4,ZiN (U:=U) (fun k e m xs hk=>⟨if_neg (hrow k e m xs hk).1,(hrow k e m xs hk).2⟩) p5⟩
   ·by_cases hk:k=st.n
    ·subst hk;rw [gn.2.1,gn.2.2];exact h5
    ·by_cases ho:Zaa st (st.ob k)=.gone
     ·rw [(gg k hk ho).1,(gg k hk ho).2];simp
     ·rw [(gk k hk ho).1,(gk k hk ho).2];exact hH.nodup k
   ·rcases hOD k b mb with ⟨rfl,m1⟩ | ⟨k1,k2,m1⟩
    ·rcases hOD j b mj with ⟨rfl,m2⟩ | ⟨j1,j2,m2⟩
     ·exact hkj rfl
     ·exact (h6 b m1).1 (hlow j b m2)
    ·rcases hOD j b mj with ⟨rfl,m2⟩ | ⟨j1,j2,m2⟩
     ·exact (h6 b m2).1 (hlow k b m1)
     ·exact hH.apart k j hkj b m1 m2
   ·show _∧XZ w (if k=st.n then .row e m xs 2 else Zaa st (st.ob k)) b
    rcases hOD k b mb with ⟨rfl,m1⟩ | ⟨k1,k2,m1⟩
    ·rw [if_pos rfl]
     exact ⟨.inl (Nat.le_trans hB (h6 b m1).2.1),(h6 b m1).2.2⟩
    ·obtain ⟨q1,q2⟩:=hH.plain k b m1
     rw [if_neg k1]
     refine ⟨q1,q2.of ?_⟩
     rcases ZkV k2 with ⟨e',m',xs',e1⟩ | ⟨t',cs',e1⟩
     ·rw [e1];rfl
     ·rw [e1];rfl
   ·show SVR g' w (if s=t then .p false [.row st.n] else ZmN st (st.sl s)) _
    by_cases hs':s=t
    ·subst hs'
     rw [if_pos rfl]
     obtain ⟨A,cap,hval⟩:=Zct h3
     exact ⟨_,rfl,gn.1.symm,by rw [hval];rfl⟩
    ·rw [if_neg hs']
     exact ZsO (U:=U) (fun k e m xs hk=>⟨if_neg (hrow k e m xs hk).1,(hrow k e m xs hk).2⟩) (hU.sl s) (fun k hk=>if_neg fun e=>hkn k (by omega) hk) (hS s)
   ·show svU _ (if s=t then .p false [.row st.n] else ZmN st (st.sl s))
    by_cases hs':s=t
    ·rw [if_pos hs'];intro y my;simp at my;subst my;exact .inr rfl
    ·rw [if_neg hs'];exact ZtN (fun k e m xs hk=>.inl (hrow k e m xs hk).2) _ ((hU.sl s).mono fun _=>.inl)
   ·show obU _ (if k=st.n then .row e m xs 2 else Zaa st (st.ob k))
    split
    ·trivial
    ·cases hk:st.ob k with
     | row e' m' xs' d'=>simp only [Zaa];split<;>trivial
     | box t' cs'=>
      intro y my
      obtain ⟨x,mx,rfl⟩:=List.mem_map.1 my
      exact Zqo (fun k e m xs hk=>.inl (hrow k e m xs hk).2) x
     | _=>trivial
   ·show (if k=st.n then .row e m xs 2 else Zaa st (st.ob k))=.gone
    rw [if_neg fun e=>hk (.inr e),hU.gone k fun h=>hk (.inl h)]
    rfl
  ·have e:Zo9 st t (.p ag cs)=st:=by
    unfold Zo9
    split
    ·rename_i h
     simp only [SV.p.injEq] at h
     exact absurd ⟨_,_,_,h.1,h.2⟩ hc
    ·rfl
   rw [e]
   exact ⟨U,⟨g,hH,hS⟩,hU,hdef,hh⟩
 | _=>exact ⟨U,⟨g,hH,hS⟩,hU,hdef,hh⟩
end
abbrev nw0:NW:=⟨0⟩
section
variable {P:Program} {J:World→Prop} {JF:Nat→Prop} {W:Q8} {U:Nat→Prop} {st:St} {w w':World} {a:Act} {tt:Nat→Option TI} {g:Gh}
structure JOk (J:World→Prop) (JF:Nat→Prop):Prop where
 below:∀(x:Nat→Prop) (w w':World),J w→(∀b,x b→JF b)→w'.os=w.os→w'.tape=w.tape→w'.output=w.output→w.heap.size≤w'.heap.size→(∀k,k<w.heap.size→¬x k→w'.heap[k]?=w.heap[k]?)→J w'
 new:∀(w:World) b,J w→w.heap.size≤b→JF b
theorem Zkb {args:List (Bool × List CT)} {vs:List Value} {N t o:Nat} (h:vs.length≤N) (v:Value) (hv:vs[t]?=some v):(vs.toArray++Array.replicate (N - vs.toArray.size) undef).getD t undef=v:=by
 have hl:t<vs.length:=(List.getElem?_eq_some_iff.1 hv).1
 simp only [Array.getD_eq_getD_getElem?,Array.getElem?_append,List.size_toArray,hl,if_true,List.getElem?_toArray,hv,Option.getD_some]
theorem ZkF {vs:List Value} {N t:Nat} (ht:vs.length≤t):(vs.toArray++Array.replicate (N - vs.toArray.size) undef).getD t undef=undef:=by
 simp only [Array.getD_eq_getD_getElem?,Array.getElem?_append,List.size_toArray,show ¬t<vs.length by omega,if_false,Array.getElem?_replicate]
 split<;>rfl
theorem ZsL (htt : ∀ t i, tt t = some i → TOk P t i) (hJ : JOk J JF) (hmix : P.follows .mixedOrders = true) {hds : FuncId → Nat} {f : FuncId} {fn : Func} {c : Code} {args : List (Bool × List CT)} {res : List RT} (hf : P.funcs[f]? = some fn) (hname : (fn.name == "runtime.NumGoroutine") = false) (hb : fn.body = some c)
  (hok:XT tt hds false fn.ntmps c=true) (hlen:Nat.ble args.length fn.ntmps=true) (h:fnS tt (SC P J JF hds) fn.results.toList c args res):Zn P J f args res:=by
 letI:NW:=nw0
 refine ⟨⟨fn,hf,hname,by rw [hb];rfl⟩,fun w z vs hj hz hargs=>?_⟩
 have hlen':args.length≤fn.ntmps:=Nat.le_of_ble_eq_true hlen
 have hvl:=hargs.len
 refine calls_of_wp hf hb ?_
 let W:Q8:={ w with z:=z,x:=fun _=>False,hv:=none }
 let g0:Gh:=⟨fun _=>undef,fun _=>[],fun _=>[],z⟩
 have hg0:∀b,g0.own b→z b:=fun b hb=>by
  rcases hb with ⟨k,m⟩ | h
  ·simp [g0] at m
  ·exact h
 have hI0:Inv W (fun _=>False) (Zo args) { tmps:=vs.toArray++Array.replicate (fn.ntmps - vs.toArray.size) undef,defers:=[] } w:=by
  refine ⟨⟨g0,⟨⟨rfl,rfl,rfl,Nat.le_refl _,fun _ _ _=>rfl⟩,fun k=>⟨rfl,rfl⟩,fun k=>by simp [g0],fun k j _ b m=>by simp [g0] at m,fun k b m=>by simp [g0] at m,rfl,fun b hb=>⟨hz b hb,fun h=>h⟩,fun _ _=>Nat.zero_le _⟩,fun t=>?_⟩,⟨fun t=>?_,fun k=>trivial,fun k _=>rfl⟩,rfl,fun v hv=>by simp [W] at hv⟩
  ·show SVR g0 w (match args[t]? with | some x=>.p x.1 (x.2.map .c) | none=>.und) _
   cases ht:args[t]? with
   | none=>exact ZkF (by have:args.length≤t:=(by simpa using ht);omega)
   | some x=>
    obtain ⟨v,hv,hr⟩:=hargs.at ht
    show SVR g0 w (.p x.1 (x.2.map .c)) ((vs.toArray++Array.replicate (fn.ntmps - vs.toArray.size) undef).getD t undef)
    rw [Zkb (args:=args) (o:=0) (by omega) v hv]
    exact ZnE hg0 hr
  ·show svU _ (match args[t]? with | some x=>.p x.1 (x.2.map .c) | none=>.und)
   split
   ·exact ZiE true _
   ·trivial
 have hM:MOk P J JF W tt:=⟨htt,fun w' hb=>hJ.below (fun _=>False) w w' hj (fun _ h=>h.elim) hb.os hb.tape hb.output hb.size (fun k hk hx=>hb.block k hk hx),fun b hb=>hJ.new w b hj hb,fun b h=>h.elim⟩
 refine Q4 (W:=W) hM hmix (.inl rfl) c hok (Zq4 tt fn.results.toList fun _ r _=>wkR r res) _ ?_ _ (Zo args) _ w hI0 (fun _ _ h=>h) (by simp;omega) h
 intro ex U' st' a' w' hI' _ _ hK
 have fin:(match Zb9 tt st' fn.results.toList with | some x=>x.2.Nodup∧wkR x.1 res | none=>False)→a'.defers=[]∧∃v,(results fn a'.tmps).run P w'=.ok v w'∧∃u n,Ending.returned v=.returned u∧Zma w' w.heap.size n res u∧(∀b,z b→n b)∧Below w.heap.size w w':=fun hK=>by
  split at hK
  ·rename_i x hx
   obtain ⟨r,ks⟩:=x
   obtain ⟨hnd,hw⟩:=hK
   obtain ⟨g,hH,hS⟩:=hI'.ex
   have hBg:∀k∈ks,∀b∈g.O k++g.D k,W.heap.size≤b:=fun k _ b mb=>(hH.plain k b mb).1.resolve_right fun h=>h
   obtain ⟨v,m,e1,e2,_,_,e4⟩:=Zsx htt hI' hH hS hx hnd hw hBg (fun _=>False) (fun _ h=>h.elim)
   have hbel:=hH.below
   exact ⟨hI'.defers,v,e1,v,m,rfl,e2,fun b hb=>e4 b (fun mb=>by obtain ⟨k,hk,mk⟩:=Zjp mb;have:=hBg k hk b mk;have:=hz b hb;have e:W.heap.size=w.heap.size:=rfl;omega) (.inl (by rw [hH.gz];exact hb)),hbel.os,hbel.tape,hbel.output,hbel.size,fun k hk=>hbel.block k hk fun h=>h⟩
  ·exact hK.elim
 cases ex with
 | normal=>exact fin hK
 | exit id=>exact hK.elim
 | ret=>exact fin hK
theorem ZrO (htt : ∀ t i, tt t = some i → TOk P t i) (hJ : JOk J JF) (hmix : P.follows .mixedOrders = true) {hds : FuncId → Nat} {f : FuncId} {fn : Func} {c : Code} {args : List (Bool × List CT)} {res : List RT} (hf : P.funcs[f]? = some fn) (hname : (fn.name == "runtime.NumGoroutine") = false) (hb : fn.body = some c)
  (hok:XT tt hds false fn.ntmps c=true) (hlen:Nat.ble args.length fn.ntmps=true) (t0:Nat) (h:fnN tt (SC P J JF hds) fn.results.toList t0 c args res):Zn P J f args res:=by
 refine ⟨⟨fn,hf,hname,by rw [hb];rfl⟩,fun w z vs hj hz hargs=>?_⟩
 letI:NW:=⟨w.heap.size⟩
 have hlen':args.length≤fn.ntmps:=Nat.le_of_ble_eq_true hlen
 have hvl:=hargs.len
 refine calls_of_wp hf hb ?_
 let W:Q8:={ w with z:=z,x:=fun _=>False,hv:=none }
 let g0:Gh:=⟨fun _=>undef,fun _=>[],fun _=>[],z⟩
 have hg0:∀b,g0.own b→z b:=fun b hb=>by
  rcases hb with ⟨k,m⟩ | h
  ·simp [g0] at m
  ·exact h
 have hI0:Inv W (fun _=>False) (Zo args) { tmps:=vs.toArray++Array.replicate (fn.ntmps - vs.toArray.size) undef,defers:=[] } w:=by
  refine ⟨⟨g0,⟨⟨rfl,rfl,rfl,Nat.le_refl _,fun _ _ _=>rfl⟩,fun k=>⟨rfl,rfl⟩,fun k=>by simp [g0],fun k j _ b m=>by simp [g0] at m,fun k b m=>by simp [g0] at m,rfl,fun b hb=>⟨hz b hb,fun h=>h⟩,fun b hb=>hb.elim (fun h=>h) fun h=>h.elim⟩,fun t=>?_⟩,⟨fun t=>?_,fun k=>trivial,fun k _=>rfl⟩,rfl,fun v hv=>by simp [W] at hv⟩
  ·show SVR g0 w (match args[t]? with | some x=>.p x.1 (x.2.map .c) | none=>.und) _
   cases ht:args[t]? with
   | none=>exact ZkF (by have:args.length≤t:=(by simpa using ht);omega)
   | some x=>
    obtain ⟨v,hv,hr⟩:=hargs.at ht
    show SVR g0 w (.p x.1 (x.2.map .c)) ((vs.toArray++Array.replicate (fn.ntmps - vs.toArray.size) undef).getD t undef)
    rw [Zkb (args:=args) (o:=0) (by omega) v hv]
    exact ZnE hg0 hr
  ·show svU _ (match args[t]? with | some x=>.p x.1 (x.2.map .c) | none=>.und)
   split
   ·exact ZiE true _
   ·trivial
 have hM:MOk P J JF W tt:=⟨htt,fun w' hb=>hJ.below (fun _=>False) w w' hj (fun _ h=>h.elim) hb.os hb.tape hb.output hb.size (fun k hk hx=>hb.block k hk hx),fun b hb=>hJ.new w b hj hb,fun b h=>h.elim⟩
 refine Q4 (W:=W) hM hmix (.inl rfl) c hok (ZtC t0 (Zq4 tt fn.results.toList fun _ r _=>wkR r res)) _ ?_ _ (Zo args) _ w hI0 (fun _ _ h=>h) (by simp;omega) h
 intro ex U1 st1 a' w' hI1 hn1 _ hK
 obtain ⟨U',hI'⟩:=Zti (Nat.le_refl _) t0 hI1 hn1
 generalize hst:st1.thaw t0=st' at hI'
 simp only [ZtC,hst] at hK
 have fin:(match Zb9 tt st' fn.results.toList with | some x=>x.2.Nodup∧wkR x.1 res | none=>False)→a'.defers=[]∧∃v,(results fn a'.tmps).run P w'=.ok v w'∧∃u n,Ending.returned v=.returned u∧Zma w' w.heap.size n res u∧(∀b,z b→n b)∧Below w.heap.size w w':=fun hK=>by
  split at hK
  ·rename_i x hx
   obtain ⟨r,ks⟩:=x
   obtain ⟨hnd,hw⟩:=hK
   obtain ⟨g,hH,hS⟩:=hI'.ex
   have hBg:∀k∈ks,∀b∈g.O k++g.D k,W.heap.size≤b:=fun k _ b mb=>(hH.plain k b mb).1.resolve_right fun h=>h
   obtain ⟨v,m,e1,e2,_,_,e4⟩:=Zsx htt hI' hH hS hx hnd hw hBg (fun _=>False) (fun _ h=>h.elim)
   have hbel:=hH.below
   exact ⟨hI'.defers,v,e1,v,m,rfl,e2,fun b hb=>e4 b (fun mb=>by obtain ⟨k,hk,mk⟩:=Zjp mb;have:=hBg k hk b mk;have:=hz b hb;have e:W.heap.size=w.heap.size:=rfl;omega) (.inl (by rw [hH.gz];exact hb)),hbel.os,hbel.tape,hbel.output,hbel.size,fun k hk=>hbel.block k hk fun h=>h⟩
  ·exact hK.elim
 cases ex with
 | normal=>exact fin hK
 | exit id=>exact hK.elim
 | ret=>exact fin hK
theorem Zro (htt : ∀ t i, tt t = some i → TOk P t i) (hJ : JOk J JF) (hmix : P.follows .mixedOrders = true) {hds : FuncId → Nat} {f : FuncId} {fn : Func} {c : Code} {args : List (Bool × List CT)} {nb : NB} (hf : P.funcs[f]? = some fn) (hname : (fn.name == "runtime.NumGoroutine") = false) (hb : fn.body = some c)
  (hok:XT tt hds false fn.ntmps c=true) (hlen:Nat.ble args.length fn.ntmps=true) (h:fnB tt (SC P J JF hds) fn.results.toList c args nb):ZnF P J f args nb:=by
 letI:NW:=nw0
 refine ⟨⟨fn,hf,hname,by rw [hb];rfl⟩,fun w z vs hj hz hargs=>?_⟩
 have hlen':args.length≤fn.ntmps:=Nat.le_of_ble_eq_true hlen
 have hvl:=hargs.len
 refine calls_of_wp hf hb ?_
 let W:Q8:={ w with z:=z,x:=fun _=>False,hv:=none }
 let g0:Gh:=⟨fun _=>undef,fun _=>[],fun _=>[],z⟩
 have hg0:∀b,g0.own b→z b:=fun b hb=>by
  rcases hb with ⟨k,m⟩ | h
  ·simp [g0] at m
  ·exact h
 have hI0:Inv W (fun _=>False) (Zo args) { tmps:=vs.toArray++Array.replicate (fn.ntmps - vs.toArray.size) undef,defers:=[] } w:=by
  refine ⟨⟨g0,⟨⟨rfl,rfl,rfl,Nat.le_refl _,fun _ _ _=>rfl⟩,fun k=>⟨rfl,rfl⟩,fun k=>by simp [g0],fun k j _ b m=>by simp [g0] at m,fun k b m=>by simp [g0] at m,rfl,fun b hb=>⟨hz b hb,fun h=>h⟩,fun _ _=>Nat.zero_le _⟩,fun t=>?_⟩,⟨fun t=>?_,fun k=>trivial,fun k _=>rfl⟩,rfl,fun v hv=>by simp [W] at hv⟩
  ·show SVR g0 w (match args[t]? with | some x=>.p x.1 (x.2.map .c) | none=>.und) _
   cases ht:args[t]? with
   | none=>exact ZkF (by have:args.length≤t:=(by simpa using ht);omega)
   | some x=>
    obtain ⟨v,hv,hr⟩:=hargs.at ht
    show SVR g0 w (.p x.1 (x.2.map .c)) ((vs.toArray++Array.replicate (fn.ntmps - vs.toArray.size) undef).getD t undef)
    rw [Zkb (args:=args) (o:=0) (by omega) v hv]
    exact ZnE hg0 hr
  ·show svU _ (match args[t]? with | some x=>.p x.1 (x.2.map .c) | none=>.und)
   split
   ·exact ZiE true _
   ·trivial
 have hM:MOk P J JF W tt:=⟨htt,fun w' hb=>hJ.below (fun _=>False) w w' hj (fun _ h=>h.elim) hb.os hb.tape hb.output hb.size (fun k hk hx=>hb.block k hk hx),fun b hb=>hJ.new w b hj hb,fun b h=>h.elim⟩
 refine Q4 (W:=W) hM hmix (.inl rfl) c hok (Zt3 fn.results.toList nb) _ ?_ _ (Zo args) _ w hI0 (fun _ _ h=>h) (by simp;omega) h
 intro ex U' st' a' w' hI' _ _ hK
 have fin:Ze2 st' fn.results.toList nb→a'.defers=[]∧∃v,(results fn a'.tmps).run P w'=.ok v w'∧∃(b:Nat) (n:Nat→Prop),Ending.returned v=.returned (Zm0 b nb)∧w.heap.size≤b∧nbR w' n b nb∧n b∧(∀x,z x→n x)∧Below w.heap.size w w':=fun hK=>by
  unfold Ze2 at hK
  split at hK
  ·rename_i s hrs
   have er:fn.results=#[.tmp s]:=by
    have:=congrArg List.toArray hrs
    simpa using this
   obtain ⟨g,hH,hS⟩:=hI'.ex
   have hs:=hS s
   have hbel:=hH.below
   cases nb with
   | box t cs=>
    obtain ⟨k,ds,k1,k2,k3,k4⟩:=hK
    rw [k1] at hs
    obtain ⟨b,b1,b2⟩:=hs
    have hob:=hH.obs k
    rw [k2] at hob
    obtain ⟨b',us,o1,o2,o3,o4,o5⟩:=hob
    have hbb:b'=b:=by rw [b1] at o1;simpa using o1.symm
    subst hbb
    obtain ⟨L,hL,hL2⟩:=Zf9 hH k4 o5
    have hno:=hL2 fun y my=>by
     have:=List.all_eq_true.1 k3 y my
     cases y<;>simp [ZaX] at this<;>trivial
    refine ⟨hI'.defers,_,?_,b',fun x=>g.own x,rfl,(hH.plain k b' (by simp [o2])).1.resolve_right fun h=>h,⟨us,L,o4,hL,hno⟩,.inl ⟨k,by simp [o2]⟩,fun x hx=>.inr (by rw [hH.gz];exact hx),hbel.os,hbel.tape,hbel.output,hbel.size,fun k hk=>hbel.block k hk fun h=>h⟩
    rw [Zhc,er]
    simp [ZeV,b2,Zm0]
   | map kk vk kv=>
    obtain ⟨k,k1,k2⟩:=hK
    rw [k1] at hs
    obtain ⟨x,hx,hx3⟩:=hs
    simp only [List.cons.injEq,and_true] at hx
    subst hx
    obtain ⟨hx2,_⟩:=hx3
    have hob:=hH.obs k
    rw [k2] at hob
    obtain ⟨b,es,c,o1,o2,o3,o4,o5⟩:=hob
    refine ⟨hI'.defers,_,?_,b,fun x=>g.own x,rfl,(hH.plain k b (by simp [o2])).1.resolve_right fun h=>h,⟨es,c,o4,o5⟩,.inl ⟨k,by simp [o2]⟩,fun x hx=>.inr (by rw [hH.gz];exact hx),hbel.os,hbel.tape,hbel.output,hbel.size,fun k hk=>hbel.block k hk fun h=>h⟩
    rw [Zhc,er]
    simp [ZeV,hx2,o1,Zm0]
  ·exact hK.elim
 cases ex with
 | normal=>exact fin hK
 | exit id=>exact hK.elim
 | ret=>exact fin hK
end
instance nwD:NW:=nw0
end Go.Proofs.YtojnhepgnbhaaaaGreatDoor
namespace Go.Proofs.YtojnhepgnbhaaaaGreatDoor
open Go.RowKit
def Zi0 {α β:Type} (f:α→β→Bool):List α→List β→Bool
 | [],[]=>true
 | a::l,b::r=>f a b&&Zi0 f l r
 | _,_=>false
theorem Zh7 {α β:Type} {f:α→β→Bool} {R:α→β→Prop} (h:∀a b,f a b=true→R a b):∀{l:List α} {r:List β},Zi0 f l r=true→ZH R l r
 | [],[],_=>trivial
 | a::l,b::r,hh=>by
  simp only [Zi0,Bool.and_eq_true] at hh
  exact ⟨h a b hh.1,Zh7 h hh.2⟩
 | [],_::_,hh=>by simp [Zi0] at hh
 | _::_,[],hh=>by simp [Zi0] at hh
def Zs4 (P:Program) (fi:FI) (f:Field):Bool:=
 f.offset==fi.off&&!(fi.size==0)&&match P.info? f.type,P.underlying f.type with
  | some j,some d=>j.size==fi.size&&(Zos d==fi.agg)
  | _,_=>false
def Zw9:Value→Bool
 | .slice none 0 0=>true
 | _=>false
def Zq8 (P:Program):List PK→List Field→Nat→Bool
 | [],[],_=>true
 | k :: ks, f :: fs, n => (f.name != "_") && (f.offset == n) && (match P.underlying f.type with | some d => Zdk k d | none => false) && Zq8 P ks fs (n + 1)
 | _,_,_=>false
theorem ZqI {P:Program}:∀{ks:List PK} {fs:List Field} {n:Nat},Zq8 P ks fs n=true→EqF P ks fs n
 | [],[],_,_=>trivial
 | k::ks,f::fs,n,h=>by
  simp only [Zq8,Bool.and_eq_true,bne_iff_ne,beq_iff_eq] at h
  obtain ⟨⟨⟨h1,h2⟩,h3⟩,h4⟩:=h
  split at h3
  ·rename_i d hd;exact ⟨h1,h2,⟨d,hd,h3⟩,ZqI h4⟩
  ·simp at h3
 | [],_::_,_,h=>by simp [Zq8] at h
 | _::_,[],_,h=>by simp [Zq8] at h
def ZmT:Option TypeDesc→Bool
 | some (.struct _)=>true
 | _=>false
def ZwH (P:Program) (t:TypeId) (ks:List PK):Bool:=
 Nat.ble 4000 t&&ZmT (P.underlying (t - 4000))&&!(P.stoodInHeld (t - 4000))&&!(P.eqGuardType P.depth (t - 4000))&&Zq8 P ks (P.fieldsOf (t - 4000)).toList 0
theorem Ztw {P:Program} {t:TypeId} {ks:List PK} (h:ZwH P t ks=true):TOk P t (.eqs ks):=by
 simp only [ZwH,Bool.and_eq_true,Bool.not_eq_true'] at h
 obtain ⟨⟨⟨⟨h1,h2⟩,h3⟩,h4⟩,h5⟩:=h
 refine ⟨t - 4000,?_,?_,h3,h4,ZqI h5⟩
 ·have:4000≤t:=Nat.le_of_ble_eq_true h1
  exact (Nat.sub_add_cancel this).symm
 ·unfold ZmT at h2
  split at h2
  ·rename_i fs e
   unfold Program.fieldsOf
   rw [e]
  ·simp at h2
def tOk (P:Program) (t:TypeId) (ti:TI):Bool:=
 match ti with
 | .eqs ks=>ZwH P t ks
 | _=>
 match P.underlying t,P.info? t with
 | some d,some i=>match ti with
  | .atom z=>ZgA d z&&i.size==1&&match i.zero with | some zv=>Q7 z zv | none=>false
  | .strct fs n z=>match d with
   | .struct fields=>i.size==n&&(match i.zero with | some (.agg zvs)=>Zi0 Q7 z zvs.toList | _=>false)&&Zi0 (Zs4 P) fs fields.toList
   | _=>false
  | .slice e m bytes z=>match d with
   | .slice e'=>e==e'&&Nat.blt 0 m&&Nat.ble bytes 131072&&(match P.info? e with
     | some ie=>ie.size==m&&ie.bytes==bytes&&(match ie.zero with | some zv=>Zi0 Q7 z zv.cells.toList | none=>false)
     | none=>false)&&z.length==m&&i.size==1&&(match i.zero with | some zv=>Zw9 zv | none=>false)
   | _=>false
  | .map kk vk=>match d with
   | .map kt et=>(match P.underlying kt with | some dk=>Zdk kk dk | none=>false)&&(match P.underlying et with | some dv=>Zdk vk dv | none=>false)&&(match P.info? et with | some ie=>(match ie.zero with | some zv=>Q7 (ZdT vk) zv | none=>false) | none=>false)
   | _=>false
  | .ifc=>match d with
   | .interface _=>true
   | _=>false
  | .eqs _=>false
 | _,_=>false
theorem ZtS {v:Value} (h:Zw9 v=true):v=.slice none 0 0:=by
 unfold Zw9 at h
 split at h
 ·rfl
 ·simp at h
theorem ZvC {P:Program} {t:TypeId} {ti:TI} (h:tOk P t ti=true):TOk P t ti:=by
 unfold tOk at h
 split at h
 ·exact Ztw h
 split at h
 ·rename_i d i hd hi
  cases ti with
  | eqs ks=>simp at h
  | ifc=>
   simp only at h
   split at h
   ·exact ⟨_,hd⟩
   ·simp at h
  | map kk vk=>
   simp only at h
   split at h
   ·rename_i kt et
    simp only [Bool.and_eq_true] at h
    obtain ⟨⟨h1,h2⟩,h3⟩:=h
    split at h1
    ·rename_i dk hdk
     split at h2
     ·rename_i dv hdv
      split at h3
      ·rename_i ie hie
       split at h3
       ·rename_i zv hz
        exact ⟨kt,et,dk,dv,ie,zv,hd,hdk,h1,hdv,h2,hie,hz,h3⟩
       ·simp at h3
      ·simp at h3
     ·simp at h2
    ·simp at h1
   ·simp at h
  | atom z=>
   simp only [Bool.and_eq_true,beq_iff_eq] at h
   obtain ⟨⟨h1,h2⟩,h3⟩:=h
   split at h3
   ·rename_i zv hz;exact ⟨d,zv,i,hd,h1,hi,hz,h2,h3⟩
   ·simp at h3
  | strct fs n z=>
   simp only at h
   split at h
   ·rename_i fields
    simp only [Bool.and_eq_true,beq_iff_eq] at h
    obtain ⟨⟨h1,h2⟩,h3⟩:=h
    split at h2
    ·rename_i zvs hz
     refine ⟨fields,i,zvs,hd,hi,h1,hz,Zh7 (fun _ _ h=>h) h2,Zh7 (fun fi f hf=>?_) h3⟩
     unfold Zs4 at hf
     simp only [Bool.and_eq_true,beq_iff_eq,Bool.not_eq_true',beq_eq_false_iff_ne] at hf
     obtain ⟨⟨f1,f2⟩,f3⟩:=hf
     split at f3
     ·rename_i j d' hj hd'
      simp only [Bool.and_eq_true,beq_iff_eq] at f3
      exact ⟨f1,f2,j,d',hj,f3.1,hd',f3.2⟩
     ·simp at f3
    ·simp at h2
   ·simp at h
  | slice e m bytes z=>
   simp only at h
   split at h
   ·rename_i e'
    simp only [Bool.and_eq_true,beq_iff_eq] at h
    obtain ⟨⟨⟨⟨⟨⟨h1,h2⟩,h3⟩,h4⟩,h5⟩,h6⟩,h7⟩:=h
    subst h1
    split at h4
    ·rename_i ie hie
     simp only [Bool.and_eq_true,beq_iff_eq] at h4
     obtain ⟨⟨k1,k2⟩,k3⟩:=h4
     split at k3
     ·rename_i zv hz
      split at h7
      ·rename_i zv' hz'
       exact ⟨hd,Nat.le_of_ble_eq_true h2,Nat.le_of_ble_eq_true h3,⟨ie,zv,hie,k1,k2,hz,Zh7 (fun _ _ h=>h) k3,h5⟩,i,hi,h6,by rw [hz',ZtS h7]⟩
      ·simp at h7
     ·simp at k3
    ·simp at h4
   ·simp at h
 ·simp at h
def ZrU:List (Nat × TI)→Nat→Option TI
 | [],_=>none
 | p::r,t=>if p.1=t then some p.2 else ZrU r t
theorem Zsg {P:Program}:∀(l:List (Nat × TI)),(l.all fun p=>tOk P p.1 p.2)=true→∀t i,ZrU l t=some i→TOk P t i
 | [],_,t,i,h=>by simp [ZrU] at h
 | p::r,ha,t,i,h=>by
  simp only [List.all_cons,Bool.and_eq_true] at ha
  simp only [ZrU] at h
  split at h
  ·rename_i e
   simp only [Option.some.injEq] at h
   subst h e
   exact ZvC ha.1
  ·exact Zsg r ha.2 t i h
end Go.Proofs.YtojnhepgnbhaaaaGreatDoor
namespace Go.Proofs.YtojnhepgnbhaaaaGreatDoor
open Go.RowKit
def Zuu (P:Program) (L:List (String × (Array Value→Prop))) (w:World):Prop:=∀x∈L,∃cs,w.var? P x.1=some cs∧x.2 cs
def Zuv (P:Program) (L:List (String × (Array Value→Prop))) (b:Nat):Prop:=∀x∈L,¬P.globalNamed x.1=some b
theorem Zug (P:Program) (L:List (String × (Array Value→Prop))):JOk (Zuu P L) (Zuv P L) where
 below:=fun x w w' hj hx _ _ _ hs hb y my=>by
  obtain ⟨cs,h1,h2⟩:=hj y my
  refine ⟨cs,?_,h2⟩
  unfold World.var? at h1 ⊢
  obtain ⟨g,hg,h1⟩:=Option.bind_eq_some_iff.1 h1
  rw [hg,Option.bind_some]
  have hlt:g<w.heap.size:=by
   rcases Nat.lt_or_ge g w.heap.size with h | h
   ·exact h
   ·rw [Array.getElem?_eq_none h] at h1;simp at h1
  rw [hb g hlt (fun h=>hx g h y my hg)]
  exact h1
 new:=fun w b hj hb y my hg=>by
  obtain ⟨cs,h1,_⟩:=hj y my
  unfold World.var? at h1
  rw [hg,Option.bind_some,Array.getElem?_eq_none hb] at h1
  simp at h1
theorem ZiG {J:World→Prop} {JF:Nat→Prop} (h:JOk J JF) {w w':World} (hj:J w) (hb:Below w.heap.size w w'):J w':=
 h.below (fun _=>False) w w' hj (fun _ h=>h.elim) hb.os hb.tape hb.output hb.size fun k hk _=>hb.block k hk
theorem ZnY {w:World} {B:Nat} {n:Nat→Prop} {ct:CT} {v:Value} (h:OC w B n (false,ct) v []):Zma w B n [(false,[(false,ct)])] v:=
 ⟨[v],[],⟨v,[],[],[],rfl,rfl,.inr ⟨rfl,_,rfl,h⟩,rfl,rfl⟩,Own.nil _ _,by simp⟩
theorem Zps {w:World} {B:Nat} {n:Nat→Prop} {c1 c2:CT} {v1 v2:Value} (h1:OC w B n (false,c1) v1 []) (h2:OC w B n (false,c2) v2 []):Zma w B n [(false,[(false,c1)]),(false,[(false,c2)])] (.tuple #[v1,v2]):=
 ⟨[v1,v2],[],⟨v1,[v2],[],[],rfl,rfl,.inr ⟨rfl,_,rfl,h1⟩,v2,[],[],[],rfl,rfl,.inr ⟨rfl,_,rfl,h2⟩,rfl,rfl⟩,Own.nil _ _,by simp⟩
theorem ZqP {w:World} {z:Nat→Prop} {c:CT} {v:Value} (h:Zkk w z (false,[c]) v):∃L,RC w c v L:=by
 rcases h with ⟨h,_⟩ | ⟨_,ct,L,h,hr,_⟩
 ·simp at h
 ·simp only [List.cons.injEq,and_true] at h
  subst h
  exact ⟨L,hr⟩
theorem Zk3 {w:World} {z:Nat→Prop} {c:CT} {vs:List Value} (h:ZH (Zkk w z) [(false,[c])] vs):∃v L,vs=[v]∧RC w c v L:=by
 cases vs with
 | nil=>exact h.elim
 | cons v r=>
  cases r with
  | nil=>obtain ⟨L,hr⟩:=ZqP h.1;exact ⟨v,L,rfl,hr⟩
  | cons _ _=>exact h.2.elim
theorem Zs1 {w:World} {z:Nat→Prop} {c d:CT} {vs:List Value} (h:ZH (Zkk w z) [(false,[c]),(false,[d])] vs):∃v u L M,vs=[v,u]∧RC w c v L∧RC w d u M:=by
 cases vs with
 | nil=>exact h.elim
 | cons v r=>
  obtain ⟨u,M,rfl,hu⟩:=Zk3 h.2
  obtain ⟨L,hr⟩:=ZqP h.1
  exact ⟨v,u,L,M,rfl,hr,hu⟩
end Go.Proofs.YtojnhepgnbhaaaaGreatDoor
namespace Go.Proofs.YtojnhepgnbhaaaaGreatDoor
open Go.RowKit
def ttL:List (Nat × TI):=[
 (2,.atom (.c (.int .i64 0))),
 (3,.atom (.c (.int .i64 0))),
 (4,.atom (.c (.bool false))),
 (5,.atom (.c (.int .u8 0))),
 (9,.atom (.c (.str ⟨#[]⟩))),
 (12,.atom (.c (.int .u64 0))),
 (14,.strct [⟨0,1,false⟩,⟨1,1,false⟩] 2 [.c (.str ⟨#[]⟩),.c (.int .u64 0)]),
 (20,.ifc),
 (21,.atom (.c (.int .i32 0))),
 (22,.slice 75 4 72 [.c (.str ⟨#[]⟩),.c (.int .i64 0),.nil 158 5,.nil 161 3]),
 (23,.slice 54 2 40 [.c (.str ⟨#[]⟩),.nil 9 1]),
 (26,.slice 57 2 40 [.c (.str ⟨#[]⟩),.nil 9 1]),
 (27,.slice 114 3 56 [.c (.int .i64 0),.nil 3 1,.nil 3 1]),
 (29,.strct [⟨0,1,false⟩,⟨1,1,false⟩] 2 [.c (.int .i64 0),.nil 114 3]),
 (32,.slice 82 4 72 [.c (.str ⟨#[]⟩),.c (.int .i64 0),.nil 130 5,.nil 134 3]),
 (44,.slice 9 1 16 [.c (.str ⟨#[]⟩)]),
 (46,.strct [⟨0,1,false⟩,⟨1,1,false⟩] 2 [.c (.str ⟨#[]⟩),.nil 9 1]),
 (49,.strct [⟨0,1,false⟩,⟨1,1,false⟩] 2 [.c (.str ⟨#[]⟩),.nil 9 1]),
 (54,.strct [⟨0,1,false⟩,⟨1,1,false⟩] 2 [.c (.str ⟨#[]⟩),.nil 9 1]),
 (57,.strct [⟨0,1,false⟩,⟨1,1,false⟩] 2 [.c (.str ⟨#[]⟩),.nil 9 1]),
 (62,.slice 104 4 80 [.c (.str ⟨#[]⟩),.nil 9 1,.c (.str ⟨#[]⟩),.nil 3 1]),
 (65,.slice 107 4 80 [.c (.str ⟨#[]⟩),.nil 9 1,.c (.str ⟨#[]⟩),.nil 3 1]),
 (72,.slice 158 5 80 [.c (.int .i64 0),.c (.str ⟨#[]⟩),.nil 9 1,.c (.str ⟨#[]⟩),.c (.str ⟨#[]⟩)]),
 (73,.slice 161 3 48 [.c (.int .i64 0),.c (.str ⟨#[]⟩),.nil 9 1]),
 (75,.strct [⟨0,1,false⟩,⟨1,1,false⟩,⟨2,1,false⟩,⟨3,1,false⟩] 4 [.c (.str ⟨#[]⟩),.c (.int .i64 0),.nil 158 5,.nil 161 3]),
 (76,.slice 119 3 64 [.c (.str ⟨#[]⟩),.nil 57 2,.nil 192 2]),
 (79,.slice 130 5 80 [.c (.int .i64 0),.c (.str ⟨#[]⟩),.nil 9 1,.c (.str ⟨#[]⟩),.c (.str ⟨#[]⟩)]),
 (80,.slice 134 3 48 [.c (.int .i64 0),.c (.str ⟨#[]⟩),.nil 9 1]),
 (82,.strct [⟨0,1,false⟩,⟨1,1,false⟩,⟨2,1,false⟩,⟨3,1,false⟩] 4 [.c (.str ⟨#[]⟩),.c (.int .i64 0),.nil 130 5,.nil 134 3]),
 (84,.slice 128 2 40 [.c (.str ⟨#[]⟩),.nil 57 2]),
 (101,.slice 3 1 8 [.c (.int .i64 0)]),
 (104,.strct [⟨0,2,true⟩,⟨2,1,false⟩,⟨3,1,false⟩] 4 [.c (.str ⟨#[]⟩),.nil 9 1,.c (.str ⟨#[]⟩),.nil 3 1]),
 (107,.strct [⟨0,2,true⟩,⟨2,1,false⟩,⟨3,1,false⟩] 4 [.c (.str ⟨#[]⟩),.nil 9 1,.c (.str ⟨#[]⟩),.nil 3 1]),
 (114,.strct [⟨0,1,false⟩,⟨1,1,false⟩,⟨2,1,false⟩] 3 [.c (.int .i64 0),.nil 3 1,.nil 3 1]),
 (115,.slice 192 2 32 [.c (.str ⟨#[]⟩),.c (.str ⟨#[]⟩)]),
 (117,.strct [⟨0,1,false⟩,⟨1,1,false⟩] 2 [.nil 57 2,.nil 192 2]),
 (119,.strct [⟨0,1,false⟩,⟨1,2,true⟩] 3 [.c (.str ⟨#[]⟩),.nil 57 2,.nil 192 2]),
 (120,.slice 117 2 48 [.nil 57 2,.nil 192 2]),
 (128,.strct [⟨0,1,false⟩,⟨1,1,false⟩] 2 [.c (.str ⟨#[]⟩),.nil 57 2]),
 (130,.strct [⟨0,1,false⟩,⟨1,2,true⟩,⟨3,1,false⟩,⟨4,1,false⟩] 5 [.c (.int .i64 0),.c (.str ⟨#[]⟩),.nil 9 1,.c (.str ⟨#[]⟩),.c (.str ⟨#[]⟩)]),
 (134,.strct [⟨0,1,false⟩,⟨1,2,true⟩] 3 [.c (.int .i64 0),.c (.str ⟨#[]⟩),.nil 9 1]),
 (140,.slice 5 1 1 [.c (.int .u8 0)]),
 (142,.slice 4 1 1 [.c (.bool false)]),
 (158,.strct [⟨0,1,false⟩,⟨1,2,true⟩,⟨3,1,false⟩,⟨4,1,false⟩] 5 [.c (.int .i64 0),.c (.str ⟨#[]⟩),.nil 9 1,.c (.str ⟨#[]⟩),.c (.str ⟨#[]⟩)]),
 (161,.strct [⟨0,1,false⟩,⟨1,2,true⟩] 3 [.c (.int .i64 0),.c (.str ⟨#[]⟩),.nil 9 1]),
 (187,.map .str .bool),
 (192,.strct [⟨0,1,false⟩,⟨1,1,false⟩] 2 [.c (.str ⟨#[]⟩),.c (.str ⟨#[]⟩)]),
 (207,.atom (.c (.int .u64 0))),
 (216,.ifc),
 (217,.ifc),
 (229,.atom (.c (.int .u32 0))),
 (231,.atom (.c (.int .u64 0))),
 (269,.strct [⟨0,1,false⟩] 1 [.c (.str ⟨#[]⟩)])]
def tt (t:Nat):Option TI:=ZrU ttL t
theorem htt:∀t i,tt t=some i→TOk Tryz.prog t i:=Zsg ttL (by kernel_rfl)
theorem hmix:Tryz.prog.follows .mixedOrders=true:=by kernel_rfl
def Zub : List (String × (Array Value → Prop)) := [("internal/strconv.uint64pow10", fun cs => cs = (Lib.pow10Tab.map fun z => Value.int .u64 z).toArray), ("strconv.ErrSyntax", fun cs => ∃ tp p, cs = #[.iface tp p])]
def J0:World→Prop:=Zuu Tryz.prog Zub
def JF0:Nat→Prop:=Zuv Tryz.prog Zub
theorem hJ0:JOk J0 JF0:=Zug _ _
theorem Zu5 (w : World) (h : J0 w) : Lib.TabIs Tryz.prog w "internal/strconv.uint64pow10" .u64 Lib.pow10Tab := by
 obtain ⟨cs,h1,h2⟩:=h _ (List.mem_cons_self ..)
 rw [h2] at h1
 exact h1
theorem ZwG (w : World) (h : J0 w) : ∃ tp p, w.var? Tryz.prog "strconv.ErrSyntax" = some #[.iface tp p] := by
 obtain ⟨cs, h1, tp, p, h2⟩ := h ("strconv.ErrSyntax", fun cs => ∃ tp p, cs = #[.iface tp p]) (by simp [Zub])
 rw [h2] at h1
 exact ⟨tp,p,h1⟩
def hdL:List (Nat × Nat):=[(81,2),(87,2),(88,2),(115,2),(119,2),(139,1),(166,2),(178,3),(234,1)]
def Zur:List (Nat × Nat)→Nat→Nat
 | [],_=>0
 | p::r,f=>match Nat.beq p.1 f with | true=>p.2 | false=>Zur r f
def hds (f:FuncId):Nat:=Zur hdL f
theorem Zyh:(SC Tryz.prog J0 JF0 hds).hd 11=0:=_root_.id (by kernel_rfl)
theorem Zzg:(SC Tryz.prog J0 JF0 hds).hd 14=0:=_root_.id (by kernel_rfl)
theorem Zyz:(SC Tryz.prog J0 JF0 hds).hd 23=0:=_root_.id (by kernel_rfl)
theorem Zzq:(SC Tryz.prog J0 JF0 hds).hd 24=0:=_root_.id (by kernel_rfl)
theorem Zy0:(SC Tryz.prog J0 JF0 hds).hd 26=0:=_root_.id (by kernel_rfl)
theorem Zys:(SC Tryz.prog J0 JF0 hds).hd 28=0:=_root_.id (by kernel_rfl)
theorem ZyZ:(SC Tryz.prog J0 JF0 hds).hd 32=0:=_root_.id (by kernel_rfl)
theorem ZyQ:(SC Tryz.prog J0 JF0 hds).hd 34=0:=_root_.id (by kernel_rfl)
theorem ZyC:(SC Tryz.prog J0 JF0 hds).hd 38=0:=_root_.id (by kernel_rfl)
theorem ZyP:(SC Tryz.prog J0 JF0 hds).hd 40=0:=_root_.id (by kernel_rfl)
theorem Zzj:(SC Tryz.prog J0 JF0 hds).hd 42=0:=_root_.id (by kernel_rfl)
theorem Zyn:(SC Tryz.prog J0 JF0 hds).hd 43=0:=_root_.id (by kernel_rfl)
theorem Zyo:(SC Tryz.prog J0 JF0 hds).hd 45=0:=_root_.id (by kernel_rfl)
theorem Zyk:(SC Tryz.prog J0 JF0 hds).hd 47=0:=_root_.id (by kernel_rfl)
theorem Zy1:(SC Tryz.prog J0 JF0 hds).hd 57=0:=_root_.id (by kernel_rfl)
theorem ZyB:(SC Tryz.prog J0 JF0 hds).hd 58=0:=_root_.id (by kernel_rfl)
theorem Zym:(SC Tryz.prog J0 JF0 hds).hd 60=0:=_root_.id (by kernel_rfl)
theorem Zyb:(SC Tryz.prog J0 JF0 hds).hd 61=0:=_root_.id (by kernel_rfl)
theorem ZyM:(SC Tryz.prog J0 JF0 hds).hd 63=0:=_root_.id (by kernel_rfl)
theorem Zyc:(SC Tryz.prog J0 JF0 hds).hd 64=0:=_root_.id (by kernel_rfl)
theorem ZyS:(SC Tryz.prog J0 JF0 hds).hd 66=0:=_root_.id (by kernel_rfl)
theorem Zx4:(SC Tryz.prog J0 JF0 hds).hd 67=0:=_root_.id (by kernel_rfl)
theorem ZyI:(SC Tryz.prog J0 JF0 hds).hd 68=0:=_root_.id (by kernel_rfl)
theorem ZyK:(SC Tryz.prog J0 JF0 hds).hd 69=0:=_root_.id (by kernel_rfl)
theorem Zx8:(SC Tryz.prog J0 JF0 hds).hd 71=0:=_root_.id (by kernel_rfl)
theorem Zzb:(SC Tryz.prog J0 JF0 hds).hd 73=0:=_root_.id (by kernel_rfl)
theorem ZyW:(SC Tryz.prog J0 JF0 hds).hd 75=0:=_root_.id (by kernel_rfl)
theorem Zyq:(SC Tryz.prog J0 JF0 hds).hd 76=0:=_root_.id (by kernel_rfl)
theorem Zyw:(SC Tryz.prog J0 JF0 hds).hd 79=0:=_root_.id (by kernel_rfl)
theorem Zx3:(SC Tryz.prog J0 JF0 hds).hd 80=0:=_root_.id (by kernel_rfl)
theorem Zy8:(SC Tryz.prog J0 JF0 hds).hd 81=2:=_root_.id (by kernel_rfl)
theorem Zyg:(SC Tryz.prog J0 JF0 hds).hd 82=0:=_root_.id (by kernel_rfl)
theorem ZyY:(SC Tryz.prog J0 JF0 hds).hd 83=0:=_root_.id (by kernel_rfl)
theorem Zzs:(SC Tryz.prog J0 JF0 hds).hd 86=0:=_root_.id (by kernel_rfl)
theorem Zyl:(SC Tryz.prog J0 JF0 hds).hd 87=2:=_root_.id (by kernel_rfl)
theorem ZxY:(SC Tryz.prog J0 JF0 hds).hd 88=2:=_root_.id (by kernel_rfl)
theorem Zzo:(SC Tryz.prog J0 JF0 hds).hd 89=0:=_root_.id (by kernel_rfl)
theorem Zya:(SC Tryz.prog J0 JF0 hds).hd 90=0:=_root_.id (by kernel_rfl)
theorem ZyT:(SC Tryz.prog J0 JF0 hds).hd 91=0:=_root_.id (by kernel_rfl)
theorem Zyy:(SC Tryz.prog J0 JF0 hds).hd 97=0:=_root_.id (by kernel_rfl)
theorem Zyu:(SC Tryz.prog J0 JF0 hds).hd 98=0:=_root_.id (by kernel_rfl)
theorem ZyE:(SC Tryz.prog J0 JF0 hds).hd 99=0:=_root_.id (by kernel_rfl)
theorem ZvD:(SC Tryz.prog J0 JF0 hds).hd 100=0:=_root_.id (by kernel_rfl)
theorem ZwV:(SC Tryz.prog J0 JF0 hds).hd 101=0:=_root_.id (by kernel_rfl)
theorem Zxm:(SC Tryz.prog J0 JF0 hds).hd 102=0:=_root_.id (by kernel_rfl)
theorem Zxw:(SC Tryz.prog J0 JF0 hds).hd 103=0:=_root_.id (by kernel_rfl)
theorem ZwD:(SC Tryz.prog J0 JF0 hds).hd 104=0:=_root_.id (by kernel_rfl)
theorem Zvx:(SC Tryz.prog J0 JF0 hds).hd 105=0:=_root_.id (by kernel_rfl)
theorem Zvf:(SC Tryz.prog J0 JF0 hds).hd 106=0:=_root_.id (by kernel_rfl)
theorem Zxe:(SC Tryz.prog J0 JF0 hds).hd 107=0:=_root_.id (by kernel_rfl)
theorem ZvF:(SC Tryz.prog J0 JF0 hds).hd 108=0:=_root_.id (by kernel_rfl)
theorem ZwB:(SC Tryz.prog J0 JF0 hds).hd 109=0:=_root_.id (by kernel_rfl)
theorem Zxx:(SC Tryz.prog J0 JF0 hds).hd 110=0:=_root_.id (by kernel_rfl)
theorem Zvm:(SC Tryz.prog J0 JF0 hds).hd 111=0:=_root_.id (by kernel_rfl)
theorem Zv9:(SC Tryz.prog J0 JF0 hds).hd 113=0:=_root_.id (by kernel_rfl)
theorem Zxr:(SC Tryz.prog J0 JF0 hds).hd 114=0:=_root_.id (by kernel_rfl)
theorem ZwX:(SC Tryz.prog J0 JF0 hds).hd 115=2:=_root_.id (by kernel_rfl)
theorem Zwd:(SC Tryz.prog J0 JF0 hds).hd 116=0:=_root_.id (by kernel_rfl)
theorem Zw5:(SC Tryz.prog J0 JF0 hds).hd 118=0:=_root_.id (by kernel_rfl)
theorem ZuL:(SC Tryz.prog J0 JF0 hds).hd 119=2:=_root_.id (by kernel_rfl)
theorem Zvg:(SC Tryz.prog J0 JF0 hds).hd 123=0:=_root_.id (by kernel_rfl)
theorem Zxh:(SC Tryz.prog J0 JF0 hds).hd 124=0:=_root_.id (by kernel_rfl)
theorem ZuN:(SC Tryz.prog J0 JF0 hds).hd 125=0:=_root_.id (by kernel_rfl)
theorem ZxJ:(SC Tryz.prog J0 JF0 hds).hd 126=0:=_root_.id (by kernel_rfl)
theorem ZxV:(SC Tryz.prog J0 JF0 hds).hd 127=0:=_root_.id (by kernel_rfl)
theorem Zwk:(SC Tryz.prog J0 JF0 hds).hd 128=0:=_root_.id (by kernel_rfl)
theorem Zwi:(SC Tryz.prog J0 JF0 hds).hd 129=0:=_root_.id (by kernel_rfl)
theorem Zvz:(SC Tryz.prog J0 JF0 hds).hd 132=0:=_root_.id (by kernel_rfl)
theorem ZvZ:(SC Tryz.prog J0 JF0 hds).hd 133=0:=_root_.id (by kernel_rfl)
theorem ZxD:(SC Tryz.prog J0 JF0 hds).hd 134=0:=_root_.id (by kernel_rfl)
theorem ZwM:(SC Tryz.prog J0 JF0 hds).hd 135=0:=_root_.id (by kernel_rfl)
theorem ZuF:(SC Tryz.prog J0 JF0 hds).hd 136=0:=_root_.id (by kernel_rfl)
theorem Zv8:(SC Tryz.prog J0 JF0 hds).hd 137=0:=_root_.id (by kernel_rfl)
theorem ZuH:(SC Tryz.prog J0 JF0 hds).hd 138=0:=_root_.id (by kernel_rfl)
theorem ZxL:(SC Tryz.prog J0 JF0 hds).hd 139=1:=_root_.id (by kernel_rfl)
theorem ZwK:(SC Tryz.prog J0 JF0 hds).hd 140=0:=_root_.id (by kernel_rfl)
theorem ZwW:(SC Tryz.prog J0 JF0 hds).hd 143=0:=_root_.id (by kernel_rfl)
theorem Zvo:(SC Tryz.prog J0 JF0 hds).hd 144=0:=_root_.id (by kernel_rfl)
theorem ZxK:(SC Tryz.prog J0 JF0 hds).hd 145=0:=_root_.id (by kernel_rfl)
theorem ZvM:(SC Tryz.prog J0 JF0 hds).hd 146=0:=_root_.id (by kernel_rfl)
theorem Zvc:(SC Tryz.prog J0 JF0 hds).hd 147=0:=_root_.id (by kernel_rfl)
theorem ZvR:(SC Tryz.prog J0 JF0 hds).hd 148=0:=_root_.id (by kernel_rfl)
theorem Zvb:(SC Tryz.prog J0 JF0 hds).hd 149=0:=_root_.id (by kernel_rfl)
theorem Zw3:(SC Tryz.prog J0 JF0 hds).hd 150=0:=_root_.id (by kernel_rfl)
theorem ZwL:(SC Tryz.prog J0 JF0 hds).hd 151=0:=_root_.id (by kernel_rfl)
theorem Zxg:(SC Tryz.prog J0 JF0 hds).hd 152=0:=_root_.id (by kernel_rfl)
theorem Zvt:(SC Tryz.prog J0 JF0 hds).hd 153=0:=_root_.id (by kernel_rfl)
theorem Zv1:(SC Tryz.prog J0 JF0 hds).hd 154=0:=_root_.id (by kernel_rfl)
theorem ZwC:(SC Tryz.prog J0 JF0 hds).hd 155=0:=_root_.id (by kernel_rfl)
theorem ZvS:(SC Tryz.prog J0 JF0 hds).hd 156=0:=_root_.id (by kernel_rfl)
theorem Zxb:(SC Tryz.prog J0 JF0 hds).hd 157=0:=_root_.id (by kernel_rfl)
theorem Zvn:(SC Tryz.prog J0 JF0 hds).hd 158=0:=_root_.id (by kernel_rfl)
theorem ZuA:(SC Tryz.prog J0 JF0 hds).hd 159=0:=_root_.id (by kernel_rfl)
theorem Zwm:(SC Tryz.prog J0 JF0 hds).hd 160=0:=_root_.id (by kernel_rfl)
theorem Zxp:(SC Tryz.prog J0 JF0 hds).hd 161=0:=_root_.id (by kernel_rfl)
theorem Zv3:(SC Tryz.prog J0 JF0 hds).hd 162=0:=_root_.id (by kernel_rfl)
theorem Zu3:(SC Tryz.prog J0 JF0 hds).hd 163=0:=_root_.id (by kernel_rfl)
theorem Zvi:(SC Tryz.prog J0 JF0 hds).hd 164=0:=_root_.id (by kernel_rfl)
theorem ZxT:(SC Tryz.prog J0 JF0 hds).hd 165=0:=_root_.id (by kernel_rfl)
theorem ZxE:(SC Tryz.prog J0 JF0 hds).hd 166=2:=_root_.id (by kernel_rfl)
theorem Zxs:(SC Tryz.prog J0 JF0 hds).hd 167=0:=_root_.id (by kernel_rfl)
theorem ZxP:(SC Tryz.prog J0 JF0 hds).hd 168=0:=_root_.id (by kernel_rfl)
theorem Zvs:(SC Tryz.prog J0 JF0 hds).hd 169=0:=_root_.id (by kernel_rfl)
theorem ZwN:(SC Tryz.prog J0 JF0 hds).hd 170=0:=_root_.id (by kernel_rfl)
theorem ZuB:(SC Tryz.prog J0 JF0 hds).hd 171=0:=_root_.id (by kernel_rfl)
theorem Zws:(SC Tryz.prog J0 JF0 hds).hd 172=0:=_root_.id (by kernel_rfl)
theorem ZwF:(SC Tryz.prog J0 JF0 hds).hd 173=0:=_root_.id (by kernel_rfl)
theorem Zvp:(SC Tryz.prog J0 JF0 hds).hd 174=0:=_root_.id (by kernel_rfl)
theorem ZvO:(SC Tryz.prog J0 JF0 hds).hd 175=0:=_root_.id (by kernel_rfl)
theorem Zvu:(SC Tryz.prog J0 JF0 hds).hd 176=0:=_root_.id (by kernel_rfl)
theorem ZuJ:(SC Tryz.prog J0 JF0 hds).hd 177=0:=_root_.id (by kernel_rfl)
theorem Zxy:(SC Tryz.prog J0 JF0 hds).hd 178=3:=_root_.id (by kernel_rfl)
theorem ZxW:(SC Tryz.prog J0 JF0 hds).hd 179=0:=_root_.id (by kernel_rfl)
theorem Zwo:(SC Tryz.prog J0 JF0 hds).hd 180=0:=_root_.id (by kernel_rfl)
theorem Zv0:(SC Tryz.prog J0 JF0 hds).hd 181=0:=_root_.id (by kernel_rfl)
theorem ZvB:(SC Tryz.prog J0 JF0 hds).hd 182=0:=_root_.id (by kernel_rfl)
theorem ZxQ:(SC Tryz.prog J0 JF0 hds).hd 184=0:=_root_.id (by kernel_rfl)
theorem ZwO:(SC Tryz.prog J0 JF0 hds).hd 185=0:=_root_.id (by kernel_rfl)
theorem ZuX:(SC Tryz.prog J0 JF0 hds).hd 186=0:=_root_.id (by kernel_rfl)
theorem Zwa:(SC Tryz.prog J0 JF0 hds).hd 187=0:=_root_.id (by kernel_rfl)
theorem ZvI:(SC Tryz.prog J0 JF0 hds).hd 188=0:=_root_.id (by kernel_rfl)
theorem Zw7:(SC Tryz.prog J0 JF0 hds).hd 189=0:=_root_.id (by kernel_rfl)
theorem Zwu:(SC Tryz.prog J0 JF0 hds).hd 190=0:=_root_.id (by kernel_rfl)
theorem Zw8:(SC Tryz.prog J0 JF0 hds).hd 191=0:=_root_.id (by kernel_rfl)
theorem ZxG:(SC Tryz.prog J0 JF0 hds).hd 192=0:=_root_.id (by kernel_rfl)
theorem ZuG:(SC Tryz.prog J0 JF0 hds).hd 193=0:=_root_.id (by kernel_rfl)
theorem ZwS:(SC Tryz.prog J0 JF0 hds).hd 194=0:=_root_.id (by kernel_rfl)
theorem Zxi:(SC Tryz.prog J0 JF0 hds).hd 195=0:=_root_.id (by kernel_rfl)
theorem ZuD:(SC Tryz.prog J0 JF0 hds).hd 196=0:=_root_.id (by kernel_rfl)
theorem ZwT:(SC Tryz.prog J0 JF0 hds).hd 197=0:=_root_.id (by kernel_rfl)
theorem ZvQ:(SC Tryz.prog J0 JF0 hds).hd 198=0:=_root_.id (by kernel_rfl)
theorem Zu4:(SC Tryz.prog J0 JF0 hds).hd 199=0:=_root_.id (by kernel_rfl)
theorem ZuY:(SC Tryz.prog J0 JF0 hds).hd 200=0:=_root_.id (by kernel_rfl)
theorem ZwZ:(SC Tryz.prog J0 JF0 hds).hd 201=0:=_root_.id (by kernel_rfl)
theorem ZxF:(SC Tryz.prog J0 JF0 hds).hd 202=0:=_root_.id (by kernel_rfl)
theorem ZvP:(SC Tryz.prog J0 JF0 hds).hd 203=0:=_root_.id (by kernel_rfl)
theorem Zvj:(SC Tryz.prog J0 JF0 hds).hd 204=0:=_root_.id (by kernel_rfl)
theorem ZvN:(SC Tryz.prog J0 JF0 hds).hd 205=0:=_root_.id (by kernel_rfl)
theorem Zxf:(SC Tryz.prog J0 JF0 hds).hd 206=0:=_root_.id (by kernel_rfl)
theorem ZwR:(SC Tryz.prog J0 JF0 hds).hd 207=0:=_root_.id (by kernel_rfl)
theorem ZuS:(SC Tryz.prog J0 JF0 hds).hd 208=0:=_root_.id (by kernel_rfl)
theorem Zv7:(SC Tryz.prog J0 JF0 hds).hd 209=0:=_root_.id (by kernel_rfl)
theorem ZwP:(SC Tryz.prog J0 JF0 hds).hd 210=0:=_root_.id (by kernel_rfl)
theorem Zw6:(SC Tryz.prog J0 JF0 hds).hd 211=0:=_root_.id (by kernel_rfl)
theorem Zwp:(SC Tryz.prog J0 JF0 hds).hd 212=0:=_root_.id (by kernel_rfl)
theorem Zu2:(SC Tryz.prog J0 JF0 hds).hd 213=0:=_root_.id (by kernel_rfl)
theorem Zvd:(SC Tryz.prog J0 JF0 hds).hd 214=0:=_root_.id (by kernel_rfl)
theorem Zxa:(SC Tryz.prog J0 JF0 hds).hd 215=0:=_root_.id (by kernel_rfl)
theorem ZuV:(SC Tryz.prog J0 JF0 hds).hd 218=0:=_root_.id (by kernel_rfl)
theorem Zu9:(SC Tryz.prog J0 JF0 hds).hd 219=0:=_root_.id (by kernel_rfl)
theorem Zwe:(SC Tryz.prog J0 JF0 hds).hd 220=0:=_root_.id (by kernel_rfl)
theorem ZvK:(SC Tryz.prog J0 JF0 hds).hd 221=0:=_root_.id (by kernel_rfl)
theorem ZvL:(SC Tryz.prog J0 JF0 hds).hd 222=0:=_root_.id (by kernel_rfl)
theorem ZvU:(SC Tryz.prog J0 JF0 hds).hd 223=0:=_root_.id (by kernel_rfl)
theorem ZvG:(SC Tryz.prog J0 JF0 hds).hd 224=0:=_root_.id (by kernel_rfl)
theorem Zxj:(SC Tryz.prog J0 JF0 hds).hd 225=0:=_root_.id (by kernel_rfl)
theorem ZxB:(SC Tryz.prog J0 JF0 hds).hd 226=0:=_root_.id (by kernel_rfl)
theorem ZvY:(SC Tryz.prog J0 JF0 hds).hd 227=0:=_root_.id (by kernel_rfl)
theorem Zxq:(SC Tryz.prog J0 JF0 hds).hd 228=0:=_root_.id (by kernel_rfl)
theorem ZxU:(SC Tryz.prog J0 JF0 hds).hd 229=0:=_root_.id (by kernel_rfl)
theorem ZxR:(SC Tryz.prog J0 JF0 hds).hd 230=0:=_root_.id (by kernel_rfl)
theorem ZuQ:(SC Tryz.prog J0 JF0 hds).hd 231=0:=_root_.id (by kernel_rfl)
theorem Zww:(SC Tryz.prog J0 JF0 hds).hd 232=0:=_root_.id (by kernel_rfl)
theorem ZuI:(SC Tryz.prog J0 JF0 hds).hd 233=0:=_root_.id (by kernel_rfl)
theorem Zw1:(SC Tryz.prog J0 JF0 hds).hd 234=1:=_root_.id (by kernel_rfl)
theorem ZuE:(SC Tryz.prog J0 JF0 hds).hd 236=0:=_root_.id (by kernel_rfl)
theorem Zu6:(SC Tryz.prog J0 JF0 hds).hd 237=0:=_root_.id (by kernel_rfl)
theorem Zvy:(SC Tryz.prog J0 JF0 hds).hd 249=0:=_root_.id (by kernel_rfl)
theorem Zva:(SC Tryz.prog J0 JF0 hds).hd 250=0:=_root_.id (by kernel_rfl)
theorem Zxv:(SC Tryz.prog J0 JF0 hds).hd 251=0:=_root_.id (by kernel_rfl)
theorem ZxM:(SC Tryz.prog J0 JF0 hds).hd 256=0:=_root_.id (by kernel_rfl)
theorem tt2:tt 2=some (.atom (.c (.int .i64 0))):=_root_.id rfl
theorem tt3:tt 3=some (.atom (.c (.int .i64 0))):=_root_.id rfl
theorem tt4:tt 4=some (.atom (.c (.bool false))):=_root_.id rfl
theorem tt5:tt 5=some (.atom (.c (.int .u8 0))):=_root_.id rfl
theorem tt9:tt 9=some (.atom (.c (.str ⟨#[]⟩))):=_root_.id rfl
theorem Zz6:tt 12=some (.atom (.c (.int .u64 0))):=_root_.id rfl
theorem ZzY:tt 14=some (.strct [⟨0,1,false⟩,⟨1,1,false⟩] 2 [.c (.str ⟨#[]⟩),.c (.int .u64 0)]):=_root_.id rfl
theorem ZzH:tt 20=some (.ifc):=_root_.id rfl
theorem ZzS:tt 21=some (.atom (.c (.int .i32 0))):=_root_.id rfl
theorem ZzF:tt 22=some (.slice 75 4 72 [.c (.str ⟨#[]⟩),.c (.int .i64 0),.nil 158 5,.nil 161 3]):=_root_.id rfl
theorem ZzU:tt 23=some (.slice 54 2 40 [.c (.str ⟨#[]⟩),.nil 9 1]):=_root_.id rfl
theorem Zz0:tt 26=some (.slice 57 2 40 [.c (.str ⟨#[]⟩),.nil 9 1]):=_root_.id rfl
theorem ZzI:tt 27=some (.slice 114 3 56 [.c (.int .i64 0),.nil 3 1,.nil 3 1]):=_root_.id rfl
theorem ZzE:tt 29=some (.strct [⟨0,1,false⟩,⟨1,1,false⟩] 2 [.c (.int .i64 0),.nil 114 3]):=_root_.id rfl
theorem ZzB:tt 32=some (.slice 82 4 72 [.c (.str ⟨#[]⟩),.c (.int .i64 0),.nil 130 5,.nil 134 3]):=_root_.id rfl
theorem ZAa:tt 44=some (.slice 9 1 16 [.c (.str ⟨#[]⟩)]):=_root_.id rfl
theorem Zzx:tt 46=some (.strct [⟨0,1,false⟩,⟨1,1,false⟩] 2 [.c (.str ⟨#[]⟩),.nil 9 1]):=_root_.id rfl
theorem Zz7:tt 49=some (.strct [⟨0,1,false⟩,⟨1,1,false⟩] 2 [.c (.str ⟨#[]⟩),.nil 9 1]):=_root_.id rfl
theorem Zz1:tt 54=some (.strct [⟨0,1,false⟩,⟨1,1,false⟩] 2 [.c (.str ⟨#[]⟩),.nil 9 1]):=_root_.id rfl
theorem ZzN:tt 57=some (.strct [⟨0,1,false⟩,⟨1,1,false⟩] 2 [.c (.str ⟨#[]⟩),.nil 9 1]):=_root_.id rfl
theorem ZzM:tt 62=some (.slice 104 4 80 [.c (.str ⟨#[]⟩),.nil 9 1,.c (.str ⟨#[]⟩),.nil 3 1]):=_root_.id rfl
theorem ZzV:tt 65=some (.slice 107 4 80 [.c (.str ⟨#[]⟩),.nil 9 1,.c (.str ⟨#[]⟩),.nil 3 1]):=_root_.id rfl
theorem ZzL:tt 72=some (.slice 158 5 80 [.c (.int .i64 0),.c (.str ⟨#[]⟩),.nil 9 1,.c (.str ⟨#[]⟩),.c (.str ⟨#[]⟩)]):=_root_.id rfl
theorem Zz5:tt 73=some (.slice 161 3 48 [.c (.int .i64 0),.c (.str ⟨#[]⟩),.nil 9 1]):=_root_.id rfl
theorem Zz8:tt 75=some (.strct [⟨0,1,false⟩,⟨1,1,false⟩,⟨2,1,false⟩,⟨3,1,false⟩] 4 [.c (.str ⟨#[]⟩),.c (.int .i64 0),.nil 158 5,.nil 161 3]):=_root_.id rfl
theorem Zz3:tt 76=some (.slice 119 3 64 [.c (.str ⟨#[]⟩),.nil 57 2,.nil 192 2]):=_root_.id rfl
theorem Zzw:tt 79=some (.slice 130 5 80 [.c (.int .i64 0),.c (.str ⟨#[]⟩),.nil 9 1,.c (.str ⟨#[]⟩),.c (.str ⟨#[]⟩)]):=_root_.id rfl
theorem ZzK:tt 80=some (.slice 134 3 48 [.c (.int .i64 0),.c (.str ⟨#[]⟩),.nil 9 1]):=_root_.id rfl
theorem ZzT:tt 82=some (.strct [⟨0,1,false⟩,⟨1,1,false⟩,⟨2,1,false⟩,⟨3,1,false⟩] 4 [.c (.str ⟨#[]⟩),.c (.int .i64 0),.nil 130 5,.nil 134 3]):=_root_.id rfl
theorem Zz9:tt 84=some (.slice 128 2 40 [.c (.str ⟨#[]⟩),.nil 57 2]):=_root_.id rfl
theorem Zy4:tt 101=some (.slice 3 1 8 [.c (.int .i64 0)]):=_root_.id rfl
theorem Zyr:tt 104=some (.strct [⟨0,2,true⟩,⟨2,1,false⟩,⟨3,1,false⟩] 4 [.c (.str ⟨#[]⟩),.nil 9 1,.c (.str ⟨#[]⟩),.nil 3 1]):=_root_.id rfl
theorem Zyj:tt 107=some (.strct [⟨0,2,true⟩,⟨2,1,false⟩,⟨3,1,false⟩] 4 [.c (.str ⟨#[]⟩),.nil 9 1,.c (.str ⟨#[]⟩),.nil 3 1]):=_root_.id rfl
theorem ZyR:tt 114=some (.strct [⟨0,1,false⟩,⟨1,1,false⟩,⟨2,1,false⟩] 3 [.c (.int .i64 0),.nil 3 1,.nil 3 1]):=_root_.id rfl
theorem Zx6:tt 115=some (.slice 192 2 32 [.c (.str ⟨#[]⟩),.c (.str ⟨#[]⟩)]):=_root_.id rfl
theorem Zy5:tt 117=some (.strct [⟨0,1,false⟩,⟨1,1,false⟩] 2 [.nil 57 2,.nil 192 2]):=_root_.id rfl
theorem Zzc:tt 119=some (.strct [⟨0,1,false⟩,⟨1,2,true⟩] 3 [.c (.str ⟨#[]⟩),.nil 57 2,.nil 192 2]):=_root_.id rfl
theorem Zx7:tt 120=some (.slice 117 2 48 [.nil 57 2,.nil 192 2]):=_root_.id rfl
theorem ZyJ:tt 128=some (.strct [⟨0,1,false⟩,⟨1,1,false⟩] 2 [.c (.str ⟨#[]⟩),.nil 57 2]):=_root_.id rfl
theorem Zzh:tt 130=some (.strct [⟨0,1,false⟩,⟨1,2,true⟩,⟨3,1,false⟩,⟨4,1,false⟩] 5 [.c (.int .i64 0),.c (.str ⟨#[]⟩),.nil 9 1,.c (.str ⟨#[]⟩),.c (.str ⟨#[]⟩)]):=_root_.id rfl
theorem Zzk:tt 134=some (.strct [⟨0,1,false⟩,⟨1,2,true⟩] 3 [.c (.int .i64 0),.c (.str ⟨#[]⟩),.nil 9 1]):=_root_.id rfl
theorem ZyF:tt 140=some (.slice 5 1 1 [.c (.int .u8 0)]):=_root_.id rfl
theorem Zyd:tt 142=some (.slice 4 1 1 [.c (.bool false)]):=_root_.id rfl
theorem Zy3:tt 158=some (.strct [⟨0,1,false⟩,⟨1,2,true⟩,⟨3,1,false⟩,⟨4,1,false⟩] 5 [.c (.int .i64 0),.c (.str ⟨#[]⟩),.nil 9 1,.c (.str ⟨#[]⟩),.c (.str ⟨#[]⟩)]):=_root_.id rfl
theorem ZyA:tt 161=some (.strct [⟨0,1,false⟩,⟨1,2,true⟩] 3 [.c (.int .i64 0),.c (.str ⟨#[]⟩),.nil 9 1]):=_root_.id rfl
theorem ZxZ:tt 187=some (.map .str .bool):=_root_.id rfl
theorem Zza:tt 192=some (.strct [⟨0,1,false⟩,⟨1,1,false⟩] 2 [.c (.str ⟨#[]⟩),.c (.str ⟨#[]⟩)]):=_root_.id rfl
theorem Zx5:tt 207=some (.atom (.c (.int .u64 0))):=_root_.id rfl
theorem ZyH:tt 216=some (.ifc):=_root_.id rfl
theorem Zye:tt 217=some (.ifc):=_root_.id rfl
theorem ZyO:tt 229=some (.atom (.c (.int .u32 0))):=_root_.id rfl
theorem Zzm:tt 231=some (.atom (.c (.int .u64 0))):=_root_.id rfl
theorem Zzl:tt 269=some (.strct [⟨0,1,false⟩] 1 [.c (.str ⟨#[]⟩)]):=_root_.id rfl
theorem fnk {f : FuncId} {fn : Func} {c : Code} {args : List (Bool × List CT)} {res : List RT} (hf : Tryz.prog.funcs[f]? = some fn) (hname : (fn.name == "runtime.NumGoroutine") = false) (hb : fn.body = some c) (hok : XT tt hds false fn.ntmps c = true) (hlen : Nat.ble args.length fn.ntmps = true) (h : fnS tt (SC Tryz.prog J0 JF0 hds) fn.results.toList c args res) : Zn Tryz.prog J0 f args res := ZsL htt hJ0 hmix hf hname hb hok hlen h
theorem fnb {f : FuncId} {fn : Func} {c : Code} {args : List (Bool × List CT)} {nb : NB} (hf : Tryz.prog.funcs[f]? = some fn) (hname : (fn.name == "runtime.NumGoroutine") = false) (hb : fn.body = some c) (hok : XT tt hds false fn.ntmps c = true) (hlen : Nat.ble args.length fn.ntmps = true) (h : fnB tt (SC Tryz.prog J0 JF0 hds) fn.results.toList c args nb) : ZnF Tryz.prog J0 f args nb := Zro htt hJ0 hmix hf hname hb hok hlen h
theorem fnn (t0 : Nat) {f : FuncId} {fn : Func} {c : Code} {args : List (Bool × List CT)} {res : List RT} (hf : Tryz.prog.funcs[f]? = some fn) (hname : (fn.name == "runtime.NumGoroutine") = false) (hb : fn.body = some c) (hok : XT tt hds false fn.ntmps c = true) (hlen : Nat.ble args.length fn.ntmps = true) (h : fnN tt (SC Tryz.prog J0 JF0 hds) fn.results.toList t0 c args res) : Zn Tryz.prog J0 f args res := ZrO htt hJ0 hmix hf hname hb hok hlen t0 h
def Yn (x:Zh):List CT:=[.int .i64 x.for_,.sl 3 1 (List.map Qv x.inn),.sl 3 1 (List.map Qv x.outs)]
theorem ZpN (x:Zh):Yn x=[.int .i64 x.for_,.sl 3 1 (List.map Qv x.inn),.sl 3 1 (List.map Qv x.outs)]:=_root_.id rfl
def Zff (x:ZK):List CT:=[.int .i64 x.nodes,.sl 114 3 (List.map Yn x.reasons)]
theorem ZnZ (x:ZK):Zff x=[.int .i64 x.nodes,.sl 114 3 (List.map Yn x.reasons)]:=_root_.id rfl
def QQ (x:Zv):List CT:=[.str x.rel,.sl 9 1 (List.map Zu x.args)]
theorem ZnW (x:Zv):QQ x=[.str x.rel,.sl 9 1 (List.map Zu x.args)]:=_root_.id rfl
def Zq (x:Zc):List CT:=[.str x.rel,.sl 9 1 (List.map Zu x.args)]
theorem Ztg (x:Zc):Zq x=[.str x.rel,.sl 9 1 (List.map Zu x.args)]:=_root_.id rfl
def ZM (x:Zm):List CT:=[.int .i64 x.kind,.str x.pattern.rel,.sl 9 1 (List.map Zu x.pattern.args),.str x.left,.str x.right]
theorem Ztc (x:Zm):ZM x=[.int .i64 x.kind,.str x.pattern.rel,.sl 9 1 (List.map Zu x.pattern.args),.str x.left,.str x.right]:=_root_.id rfl
def ZA (x:Zr):List CT:=[.int .i64 x.kind,.str x.pattern.rel,.sl 9 1 (List.map Zu x.pattern.args)]
theorem ZpP (x:Zr):ZA x=[.int .i64 x.kind,.str x.pattern.rel,.sl 9 1 (List.map Zu x.pattern.args)]:=_root_.id rfl
def ZB (x:Zf):List CT:=[.str x.name,.int .i64 x.priority,.sl 130 5 (List.map ZM x.cond),.sl 134 3 (List.map ZA x.thn)]
theorem Zs3 (x:Zf):ZB x=[.str x.name,.int .i64 x.priority,.sl 130 5 (List.map ZM x.cond),.sl 134 3 (List.map ZA x.thn)]:=_root_.id rfl
def ZyU (x:Zuw):List CT:=[.str x.fact.rel,.sl 9 1 (List.map Zu x.fact.args),.str x.rule,.sl 3 1 (List.map Qv x.uses)]
theorem ZsP (x:Zuw):ZyU x=[.str x.fact.rel,.sl 9 1 (List.map Zu x.fact.args),.str x.rule,.sl 3 1 (List.map Qv x.uses)]:=_root_.id rfl
def Z6 (x:Zl):List CT:=[.str x.var,.str x.value]
theorem Zsh (x:Zl):Z6 x=[.str x.var,.str x.value]:=_root_.id rfl
theorem Zp6 (l:List Zl):Zaz (l.map Z6)=true:=ZbB (fun _=>rfl) l
def YZ (x:Zt):List CT:=[.sl 57 2 (List.map Zq x.facts),.sl 192 2 (List.map Z6 x.binding)]
theorem Zrg (x:Zt):YZ x=[.sl 57 2 (List.map Zq x.facts),.sl 192 2 (List.map Z6 x.binding)]:=_root_.id rfl
def Zeo (x:Xx):List CT:=[.str x.rule,.sl 57 2 (List.map Zq x.token.facts),.sl 192 2 (List.map Z6 x.token.binding)]
theorem Znn (x:Xx):Zeo x=[.str x.rule,.sl 57 2 (List.map Zq x.token.facts),.sl 192 2 (List.map Z6 x.token.binding)]:=_root_.id rfl
def Zgf (x:Zaj):List CT:=[.str x.rule,.sl 57 2 (List.map Zq x.facts)]
theorem ZpC (x:Zaj):Zgf x=[.str x.rule,.sl 57 2 (List.map Zq x.facts)]:=_root_.id rfl
attribute [go_sem] tt2 tt3 tt4 tt5 tt9 Zz6 ZzY ZzH ZzS ZzF ZzU Zz0 ZzI ZzE ZzB ZAa Zzx Zz7 Zz1 ZzN ZzM ZzV ZzL Zz5 Zz8 Zz3 Zzw ZzK ZzT Zz9 Zy4 Zyr Zyj ZyR Zx6 Zy5 Zzc Zx7 ZyJ Zzh
attribute [go_sem] Zzk ZyF Zyd Zy3 ZyA ZxZ Zza Zx5 ZyH Zye ZyO Zzm Zzl Zyh Zzg Zyz Zzq Zy0 Zys ZyZ ZyQ ZyC ZyP Zzj Zyn Zyo Zyk Zy1 ZyB Zym Zyb ZyM Zyc ZyS Zx4 ZyI ZyK Zx8 Zzb ZyW
attribute [go_sem] Zyq Zyw Zx3 Zy8 Zyg ZyY Zzs Zyl ZxY Zzo Zya ZyT Zyy Zyu ZyE ZvD ZwV Zxm Zxw ZwD Zvx Zvf Zxe ZvF ZwB Zxx Zvm Zv9 Zxr ZwX Zwd Zw5 ZuL Zvg Zxh ZuN ZxJ ZxV Zwk Zwi
attribute [go_sem] Zvz ZvZ ZxD ZwM ZuF Zv8 ZuH ZxL ZwK ZwW Zvo ZxK ZvM Zvc ZvR Zvb Zw3 ZwL Zxg Zvt Zv1 ZwC ZvS Zxb Zvn ZuA Zwm Zxp Zv3 Zu3 Zvi ZxT ZxE Zxs ZxP Zvs ZwN ZuB Zws ZwF
attribute [go_sem] Zvp ZvO Zvu ZuJ Zxy ZxW Zwo Zv0 ZvB ZxQ ZwO ZuX Zwa ZvI Zw7 Zwu Zw8 ZxG ZuG ZwS Zxi ZuD ZwT ZvQ Zu4 ZuY ZwZ ZxF ZvP Zvj ZvN Zxf ZwR ZuS Zv7 ZwP Zw6 Zwp Zu2 Zvd
attribute [go_sem] Zxa ZuV Zu9 Zwe ZvK ZvL ZvU ZvG Zxj ZxB ZvY Zxq ZxU ZxR ZuQ Zww ZuI Zw1 ZuE Zu6 Zvy Zva Zxv ZxM ZpN ZnZ ZnW Ztg Ztc ZpP Zs3 ZsP Zp6 Zsh Zrg Znn ZpC
end Go.Proofs.YtojnhepgnbhaaaaGreatDoor
namespace Go.Proofs
open Go.Shelf
def Tryz.lays106_ren:Go.Shelf.Ren:=⟨fun | 106=>210 | 213=>235 | 265=>253 | n=>n,fun | 9=>9 | 3=>3 | n=>n,fun | n=>n⟩
theorem Tryz.lays106:Go.Proofs.Lays.n106 Tryz.prog Tryz.lays106_ren:={
 mixed:=by kernel_rfl
 f106:=Tryz.func210.trans (congrArg some (by kernel_rfl))
 f213:=Tryz.func235.trans (congrArg some (by kernel_rfl))
 f265:=Tryz.func253.trans (congrArg some (by kernel_rfl))
 t3:=Tryz.underlying3
 a3:=Tryz.isAgg3
 z3:=Tryz.sizeOf3
 v3:=Tryz.zeroValue3
 t9:=Tryz.underlying9
 a9:=Tryz.isAgg9
 z9:=Tryz.sizeOf9
 v9:=Tryz.zeroValue9 }
open Go.RowKit in
theorem Tryz.strings_Compare (a b:ByteArray) (w:World):
  Calls Tryz.prog 210 #[.string a,.string b] w fun e w'=>e=.returned (.int .i64 (Lib.compareBytes a.data.toList b.data.toList))∧w'=w:=Any.strings_Compare Tryz.lays106 a b w
def Tryz.lays172_ren:Go.Shelf.Ren:=⟨fun | 172=>236 | 244=>254 | 245=>255 | 247=>264 | 279=>265 | 280=>266 | 281=>267 | 282=>268 | 287=>280 | 316=>281 | 171=>256 | 205=>282 | 321=>288 | 322=>289 | 243=>269 | 246=>283 | 283=>290 | 284=>291 | 285=>292 | 286=>293 | 129=>248 | 317=>295 | 318=>296 | 319=>297 | 320=>298 | 337=>299 | 338=>300 | n=>n,fun | 9=>9 | 3=>3 | 75=>217 | 76=>218 | 4=>4 | 5=>5 | 167=>241 | 37=>140 | 0=>0 | 85=>242 | 2=>2 | 168=>244 | 53=>231 | 175=>256 | 46=>207 | 210=>260 | 127=>266 | 145=>269 | 143=>267 | 21=>21 | 171=>270 | 173=>272 | 212=>277 | 51=>229 | 20=>20 | 213=>278 | 232=>279 | 233=>280 | 80=>281 | n=>n,fun | 15=>1 | 16=>2 | 17=>3 | 18=>4 | 19=>5 | n=>n⟩
theorem Tryz.lays172:Go.Proofs.Lays.n172 Tryz.prog Tryz.lays172_ren:={
 mixed:=by kernel_rfl
 f129:=Tryz.func248.trans (congrArg some (by kernel_rfl))
 f171:=Tryz.func256.trans (congrArg some (by kernel_rfl))
 f172:=Tryz.func236.trans (congrArg some (by kernel_rfl))
 f205:=Tryz.func282.trans (congrArg some (by kernel_rfl))
 f243:=Tryz.func269.trans (congrArg some (by kernel_rfl))
 f244:=Tryz.func254.trans (congrArg some (by kernel_rfl))
 f245:=Tryz.func255.trans (congrArg some (by kernel_rfl))
 f246:=Tryz.func283.trans (congrArg some (by kernel_rfl))
 f247:=Tryz.func264.trans (congrArg some (by kernel_rfl))
 f279:=Tryz.func265.trans (congrArg some (by kernel_rfl))
 f280:=Tryz.func266.trans (congrArg some (by kernel_rfl))
 f281:=Tryz.func267.trans (congrArg some (by kernel_rfl))
 f282:=Tryz.func268.trans (congrArg some (by kernel_rfl))
 f283:=Tryz.func290.trans (congrArg some (by kernel_rfl))
 f284:=Tryz.func291.trans (congrArg some (by kernel_rfl))
 f285:=Tryz.func292.trans (congrArg some (by kernel_rfl))
 f286:=Tryz.func293.trans (congrArg some (by kernel_rfl))
 f287:=Tryz.func280.trans (congrArg some (by kernel_rfl))
 f316:=Tryz.func281.trans (congrArg some (by kernel_rfl))
 f317:=Tryz.func295.trans (congrArg some (by kernel_rfl))
 f318:=Tryz.func296.trans (congrArg some (by kernel_rfl))
 f319:=Tryz.func297.trans (congrArg some (by kernel_rfl))
 f320:=Tryz.func298.trans (congrArg some (by kernel_rfl))
 f321:=Tryz.func288.trans (congrArg some (by kernel_rfl))
 f322:=Tryz.func289.trans (congrArg some (by kernel_rfl))
 f337:=Tryz.func299.trans (congrArg some (by kernel_rfl))
 f338:=Tryz.func300.trans (congrArg some (by kernel_rfl))
 t0:=Tryz.underlying0
 a0:=Tryz.isAgg0
 z0:=Tryz.sizeOf0
 v0:=Tryz.zeroValue0
 t2:=Tryz.underlying2
 a2:=Tryz.isAgg2
 z2:=Tryz.sizeOf2
 v2:=Tryz.zeroValue2
 t3:=Tryz.underlying3
 a3:=Tryz.isAgg3
 z3:=Tryz.sizeOf3
 v3:=Tryz.zeroValue3
 t4:=Tryz.underlying4
 a4:=Tryz.isAgg4
 z4:=Tryz.sizeOf4
 v4:=Tryz.zeroValue4
 t5:=Tryz.underlying5
 a5:=Tryz.isAgg5
 z5:=Tryz.sizeOf5
 v5:=Tryz.zeroValue5
 t9:=Tryz.underlying9
 a9:=Tryz.isAgg9
 z9:=Tryz.sizeOf9
 v9:=Tryz.zeroValue9
 t20:=Tryz.underlying20
 a20:=Tryz.isAgg20
 z20:=Tryz.sizeOf20
 v20:=Tryz.zeroValue20
 t21:=Tryz.underlying21
 a21:=Tryz.isAgg21
 z21:=Tryz.sizeOf21
 v21:=Tryz.zeroValue21
 t37:=Tryz.underlying140
 a37:=Tryz.isAgg140
 z37:=Tryz.sizeOf140
 v37:=Tryz.zeroValue140
 t46:=Tryz.underlying207
 a46:=Tryz.isAgg207
 z46:=Tryz.sizeOf207
 v46:=Tryz.zeroValue207
 t51:=Tryz.underlying229
 a51:=Tryz.isAgg229
 z51:=Tryz.sizeOf229
 v51:=Tryz.zeroValue229
 t53:=Tryz.underlying231
 a53:=Tryz.isAgg231
 z53:=Tryz.sizeOf231
 v53:=Tryz.zeroValue231
 t75:=Tryz.underlying217
 a75:=Tryz.isAgg217
 z75:=Tryz.sizeOf217
 v75:=Tryz.zeroValue217
 t76:=Tryz.underlying218
 a76:=Tryz.isAgg218
 z76:=Tryz.sizeOf218
 v76:=Tryz.zeroValue218
 t85:=Tryz.underlying242
 a85:=Tryz.isAgg242
 z85:=Tryz.sizeOf242
 v85:=Tryz.zeroValue242
 t127:=Tryz.underlying266
 a127:=Tryz.isAgg266
 z127:=Tryz.sizeOf266
 v127:=Tryz.zeroValue266
 t143:=Tryz.underlying267
 a143:=Tryz.isAgg267
 z143:=Tryz.sizeOf267
 v143:=Tryz.zeroValue267
 t145:=Tryz.underlying269
 a145:=Tryz.isAgg269
 z145:=Tryz.sizeOf269
 v145:=Tryz.zeroValue269
 t167:=Tryz.underlying241
 a167:=Tryz.isAgg241
 z167:=Tryz.sizeOf241
 v167:=Tryz.zeroValue241
 t168:=Tryz.underlying244
 a168:=Tryz.isAgg244
 z168:=Tryz.sizeOf244
 v168:=Tryz.zeroValue244
 t171:=Tryz.underlying270
 a171:=Tryz.isAgg270
 z171:=Tryz.sizeOf270
 v171:=Tryz.zeroValue270
 t173:=Tryz.underlying272
 a173:=Tryz.isAgg272
 z173:=Tryz.sizeOf272
 v173:=Tryz.zeroValue272
 t175:=Tryz.underlying256
 a175:=Tryz.isAgg256
 z175:=Tryz.sizeOf256
 v175:=Tryz.zeroValue256
 t210:=Tryz.underlying260
 a210:=Tryz.isAgg260
 z210:=Tryz.sizeOf260
 v210:=Tryz.zeroValue260
 t212:=Tryz.underlying277
 a212:=Tryz.isAgg277
 z212:=Tryz.sizeOf277
 v212:=Tryz.zeroValue277
 t213:=Tryz.underlying278
 a213:=Tryz.isAgg278
 z213:=Tryz.sizeOf278
 t232:=Tryz.underlying279
 a232:=Tryz.isAgg279
 z232:=Tryz.sizeOf279
 v232:=Tryz.zeroValue279
 t233:=Tryz.underlying280
 a233:=Tryz.isAgg280
 z233:=Tryz.sizeOf280
 v233:=Tryz.zeroValue280
 g15:=by kernel_rfl
 g16:=by kernel_rfl
 g17:=by kernel_rfl
 g18:=by kernel_rfl
 g19:=by kernel_rfl }
open Go.RowKit in
theorem Tryz.strconv_Atoi (s:ByteArray) (n:Int) (hl:s.size≤18) (h:Lib.atoi s.data.toList=some n) (w:World):
  Calls Tryz.prog 236 #[.string s] w fun e w'=>e=.returned (.tuple #[.int .i64 n,.nilIface])∧∃t,w'=Lib.bytesWorld w 5 t:=Any.strconv_Atoi Tryz.lays172 s n hl h w
def Tryz.laysM171_ren:Go.Shelf.Ren:=⟨fun | 171=>256 | 243=>269 | 246=>283 | 283=>290 | 284=>291 | 285=>292 | 286=>293 | 129=>248 | 317=>295 | 318=>296 | 319=>297 | 320=>298 | 337=>299 | 338=>300 | n=>n,fun | 3=>3 | 9=>9 | 2=>2 | 4=>4 | 171=>270 | 0=>0 | 53=>231 | 37=>140 | 5=>5 | 173=>272 | 212=>277 | 51=>229 | 20=>20 | 213=>278 | 46=>207 | 232=>279 | 233=>280 | n=>n,fun | 17=>3 | 18=>4 | 19=>5 | n=>n⟩
theorem Tryz.laysM171:Go.Proofs.LaysM.n171 Tryz.prog Tryz.laysM171_ren:={
 mixed:=by kernel_rfl
 f129:=Tryz.func248.trans (congrArg some (by kernel_rfl))
 f171:=Tryz.func256.trans (congrArg some (by kernel_rfl))
 f243:=Tryz.func269.trans (congrArg some (by kernel_rfl))
 f246:=Tryz.func283.trans (congrArg some (by kernel_rfl))
 f283:=Tryz.func290.trans (congrArg some (by kernel_rfl))
 f284:=Tryz.func291.trans (congrArg some (by kernel_rfl))
 f285:=Tryz.func292.trans (congrArg some (by kernel_rfl))
 f286:=Tryz.func293.trans (congrArg some (by kernel_rfl))
 f317:=Tryz.func295.trans (congrArg some (by kernel_rfl))
 f318:=Tryz.func296.trans (congrArg some (by kernel_rfl))
 f319:=Tryz.func297.trans (congrArg some (by kernel_rfl))
 f320:=Tryz.func298.trans (congrArg some (by kernel_rfl))
 f337:=Tryz.func299.trans (congrArg some (by kernel_rfl))
 f338:=Tryz.func300.trans (congrArg some (by kernel_rfl))
 t0:=Tryz.underlying0
 a0:=Tryz.isAgg0
 z0:=Tryz.sizeOf0
 v0:=Tryz.zeroValue0
 t2:=Tryz.underlying2
 a2:=Tryz.isAgg2
 z2:=Tryz.sizeOf2
 v2:=Tryz.zeroValue2
 t3:=Tryz.underlying3
 a3:=Tryz.isAgg3
 z3:=Tryz.sizeOf3
 v3:=Tryz.zeroValue3
 t4:=Tryz.underlying4
 a4:=Tryz.isAgg4
 z4:=Tryz.sizeOf4
 v4:=Tryz.zeroValue4
 t5:=Tryz.underlying5
 a5:=Tryz.isAgg5
 z5:=Tryz.sizeOf5
 v5:=Tryz.zeroValue5
 t9:=Tryz.underlying9
 a9:=Tryz.isAgg9
 z9:=Tryz.sizeOf9
 v9:=Tryz.zeroValue9
 t20:=Tryz.underlying20
 a20:=Tryz.isAgg20
 z20:=Tryz.sizeOf20
 v20:=Tryz.zeroValue20
 t37:=Tryz.underlying140
 a37:=Tryz.isAgg140
 z37:=Tryz.sizeOf140
 v37:=Tryz.zeroValue140
 t46:=Tryz.underlying207
 a46:=Tryz.isAgg207
 z46:=Tryz.sizeOf207
 v46:=Tryz.zeroValue207
 t51:=Tryz.underlying229
 a51:=Tryz.isAgg229
 z51:=Tryz.sizeOf229
 v51:=Tryz.zeroValue229
 t53:=Tryz.underlying231
 a53:=Tryz.isAgg231
 z53:=Tryz.sizeOf231
 v53:=Tryz.zeroValue231
 t171:=Tryz.underlying270
 a171:=Tryz.isAgg270
 z171:=Tryz.sizeOf270
 v171:=Tryz.zeroValue270
 t173:=Tryz.underlying272
 a173:=Tryz.isAgg272
 z173:=Tryz.sizeOf272
 v173:=Tryz.zeroValue272
 t212:=Tryz.underlying277
 a212:=Tryz.isAgg277
 z212:=Tryz.sizeOf277
 v212:=Tryz.zeroValue277
 t213:=Tryz.underlying278
 a213:=Tryz.isAgg278
 z213:=Tryz.sizeOf278
 t232:=Tryz.underlying279
 a232:=Tryz.isAgg279
 z232:=Tryz.sizeOf279
 v232:=Tryz.zeroValue279
 t233:=Tryz.underlying280
 a233:=Tryz.isAgg280
 z233:=Tryz.sizeOf280
 v233:=Tryz.zeroValue280
 g17:=by kernel_rfl
 g18:=by kernel_rfl
 g19:=by kernel_rfl
 i0:=by kernel_rfl
 i2:=by kernel_rfl
 i3:=by kernel_rfl
 i4:=by kernel_rfl
 i5:=by kernel_rfl
 i9:=by kernel_rfl
 i20:=by kernel_rfl
 i37:=by kernel_rfl
 i46:=by kernel_rfl
 i51:=by kernel_rfl
 i53:=by kernel_rfl
 i171:=by kernel_rfl
 i173:=by kernel_rfl
 i212:=by kernel_rfl
 i232:=by kernel_rfl
 i233:=by kernel_rfl
 m17:=by kernel_rfl
 m18:=by kernel_rfl
 m19:=by kernel_rfl }
open Go.RowKit Go.Sort Go.Lib in
theorem Tryz.strconv_Itoa (n : Int) (h0 : -9223372036854775808 ≤ n) (h1 : n ≤ 9223372036854775807) (w : World) (htab : Lib.TabIs Tryz.prog w "internal/strconv.uint64pow10" .u64 Lib.pow10Tab) :
  Calls Tryz.prog 256 #[.int .i64 n] w fun e w'=>e=.returned (.string ⟨(Lib.itoa n).toArray⟩)∧∃k os,w'=grow (w.drewN k) os:=Any.strconv_Itoa Tryz.laysM171 n h0 h1 w htab
def Tryz.laysC172_ren:Go.Shelf.Ren:=⟨fun | 172=>236 | 244=>254 | 245=>255 | 247=>264 | 279=>265 | 280=>266 | 281=>267 | 282=>268 | 287=>280 | 316=>281 | 171=>256 | 205=>282 | 321=>288 | 322=>289 | 243=>269 | 246=>283 | 283=>290 | 284=>291 | 285=>292 | 286=>293 | 129=>248 | 317=>295 | 318=>296 | 319=>297 | 320=>298 | 337=>299 | 338=>300 | n=>n,fun | 9=>9 | 3=>3 | 75=>217 | 76=>218 | 4=>4 | 5=>5 | 167=>241 | 37=>140 | 0=>0 | 85=>242 | 2=>2 | 168=>244 | 53=>231 | 175=>256 | 46=>207 | 210=>260 | 127=>266 | 145=>269 | 143=>267 | 21=>21 | 171=>270 | 173=>272 | 212=>277 | 51=>229 | 20=>20 | 213=>278 | 232=>279 | 233=>280 | 80=>281 | n=>n,fun | 15=>1 | 16=>2 | 17=>3 | 18=>4 | 19=>5 | n=>n⟩
theorem Tryz.laysC172:Go.Proofs.LaysC.n172 Tryz.prog Tryz.laysC172_ren:={
 mixed:=by kernel_rfl
 f129:=Tryz.func248.trans (congrArg some (by kernel_rfl))
 f171:=Tryz.func256.trans (congrArg some (by kernel_rfl))
 f172:=Tryz.func236.trans (congrArg some (by kernel_rfl))
 f205:=Tryz.func282.trans (congrArg some (by kernel_rfl))
 f243:=Tryz.func269.trans (congrArg some (by kernel_rfl))
 f244:=Tryz.func254.trans (congrArg some (by kernel_rfl))
 f245:=Tryz.func255.trans (congrArg some (by kernel_rfl))
 f246:=Tryz.func283.trans (congrArg some (by kernel_rfl))
 f247:=Tryz.func264.trans (congrArg some (by kernel_rfl))
 f279:=Tryz.func265.trans (congrArg some (by kernel_rfl))
 f280:=Tryz.func266.trans (congrArg some (by kernel_rfl))
 f281:=Tryz.func267.trans (congrArg some (by kernel_rfl))
 f282:=Tryz.func268.trans (congrArg some (by kernel_rfl))
 f283:=Tryz.func290.trans (congrArg some (by kernel_rfl))
 f284:=Tryz.func291.trans (congrArg some (by kernel_rfl))
 f285:=Tryz.func292.trans (congrArg some (by kernel_rfl))
 f286:=Tryz.func293.trans (congrArg some (by kernel_rfl))
 f287:=Tryz.func280.trans (congrArg some (by kernel_rfl))
 f316:=Tryz.func281.trans (congrArg some (by kernel_rfl))
 f317:=Tryz.func295.trans (congrArg some (by kernel_rfl))
 f318:=Tryz.func296.trans (congrArg some (by kernel_rfl))
 f319:=Tryz.func297.trans (congrArg some (by kernel_rfl))
 f320:=Tryz.func298.trans (congrArg some (by kernel_rfl))
 f321:=Tryz.func288.trans (congrArg some (by kernel_rfl))
 f322:=Tryz.func289.trans (congrArg some (by kernel_rfl))
 f337:=Tryz.func299.trans (congrArg some (by kernel_rfl))
 f338:=Tryz.func300.trans (congrArg some (by kernel_rfl))
 t0:=Tryz.underlying0
 a0:=Tryz.isAgg0
 z0:=Tryz.sizeOf0
 v0:=Tryz.zeroValue0
 t2:=Tryz.underlying2
 a2:=Tryz.isAgg2
 z2:=Tryz.sizeOf2
 v2:=Tryz.zeroValue2
 t3:=Tryz.underlying3
 a3:=Tryz.isAgg3
 z3:=Tryz.sizeOf3
 v3:=Tryz.zeroValue3
 t4:=Tryz.underlying4
 a4:=Tryz.isAgg4
 z4:=Tryz.sizeOf4
 v4:=Tryz.zeroValue4
 t5:=Tryz.underlying5
 a5:=Tryz.isAgg5
 z5:=Tryz.sizeOf5
 v5:=Tryz.zeroValue5
 t9:=Tryz.underlying9
 a9:=Tryz.isAgg9
 z9:=Tryz.sizeOf9
 v9:=Tryz.zeroValue9
 t20:=Tryz.underlying20
 a20:=Tryz.isAgg20
 z20:=Tryz.sizeOf20
 v20:=Tryz.zeroValue20
 t21:=Tryz.underlying21
 a21:=Tryz.isAgg21
 z21:=Tryz.sizeOf21
 v21:=Tryz.zeroValue21
 t37:=Tryz.underlying140
 a37:=Tryz.isAgg140
 z37:=Tryz.sizeOf140
 v37:=Tryz.zeroValue140
 t46:=Tryz.underlying207
 a46:=Tryz.isAgg207
 z46:=Tryz.sizeOf207
 v46:=Tryz.zeroValue207
 t51:=Tryz.underlying229
 a51:=Tryz.isAgg229
 z51:=Tryz.sizeOf229
 v51:=Tryz.zeroValue229
 t53:=Tryz.underlying231
 a53:=Tryz.isAgg231
 z53:=Tryz.sizeOf231
 v53:=Tryz.zeroValue231
 t75:=Tryz.underlying217
 a75:=Tryz.isAgg217
 z75:=Tryz.sizeOf217
 v75:=Tryz.zeroValue217
 t76:=Tryz.underlying218
 a76:=Tryz.isAgg218
 z76:=Tryz.sizeOf218
 v76:=Tryz.zeroValue218
 t85:=Tryz.underlying242
 a85:=Tryz.isAgg242
 z85:=Tryz.sizeOf242
 v85:=Tryz.zeroValue242
 t127:=Tryz.underlying266
 a127:=Tryz.isAgg266
 z127:=Tryz.sizeOf266
 v127:=Tryz.zeroValue266
 t143:=Tryz.underlying267
 a143:=Tryz.isAgg267
 z143:=Tryz.sizeOf267
 v143:=Tryz.zeroValue267
 t145:=Tryz.underlying269
 a145:=Tryz.isAgg269
 z145:=Tryz.sizeOf269
 v145:=Tryz.zeroValue269
 t167:=Tryz.underlying241
 a167:=Tryz.isAgg241
 z167:=Tryz.sizeOf241
 v167:=Tryz.zeroValue241
 t168:=Tryz.underlying244
 a168:=Tryz.isAgg244
 z168:=Tryz.sizeOf244
 v168:=Tryz.zeroValue244
 t171:=Tryz.underlying270
 a171:=Tryz.isAgg270
 z171:=Tryz.sizeOf270
 v171:=Tryz.zeroValue270
 t173:=Tryz.underlying272
 a173:=Tryz.isAgg272
 z173:=Tryz.sizeOf272
 v173:=Tryz.zeroValue272
 t175:=Tryz.underlying256
 a175:=Tryz.isAgg256
 z175:=Tryz.sizeOf256
 v175:=Tryz.zeroValue256
 t210:=Tryz.underlying260
 a210:=Tryz.isAgg260
 z210:=Tryz.sizeOf260
 v210:=Tryz.zeroValue260
 t212:=Tryz.underlying277
 a212:=Tryz.isAgg277
 z212:=Tryz.sizeOf277
 v212:=Tryz.zeroValue277
 t213:=Tryz.underlying278
 a213:=Tryz.isAgg278
 z213:=Tryz.sizeOf278
 t232:=Tryz.underlying279
 a232:=Tryz.isAgg279
 z232:=Tryz.sizeOf279
 v232:=Tryz.zeroValue279
 t233:=Tryz.underlying280
 a233:=Tryz.isAgg280
 z233:=Tryz.sizeOf280
 v233:=Tryz.zeroValue280
 g15:=by kernel_rfl
 g16:=by kernel_rfl
 g17:=by kernel_rfl
 g18:=by kernel_rfl
 g19:=by kernel_rfl
 t80:=Tryz.underlying281
 a80:=Tryz.isAgg281
 z80:=Tryz.sizeOf281
 v80:=Tryz.zeroValue281
 i0:=by kernel_rfl
 i2:=by kernel_rfl
 i3:=by kernel_rfl
 i4:=by kernel_rfl
 i5:=by kernel_rfl
 i9:=by kernel_rfl
 i20:=by kernel_rfl
 i21:=by kernel_rfl
 i37:=by kernel_rfl
 i46:=by kernel_rfl
 i51:=by kernel_rfl
 i53:=by kernel_rfl
 i75:=by kernel_rfl
 i76:=by kernel_rfl
 i80:=by kernel_rfl
 i85:=by kernel_rfl
 i127:=by kernel_rfl
 i143:=by kernel_rfl
 i145:=by kernel_rfl
 i167:=by kernel_rfl
 i168:=by kernel_rfl
 i171:=by kernel_rfl
 i173:=by kernel_rfl
 i175:=by kernel_rfl
 i210:=by kernel_rfl
 i212:=by kernel_rfl
 i232:=by kernel_rfl
 i233:=by kernel_rfl
 m15:=by kernel_rfl
 m16:=by kernel_rfl
 m17:=by kernel_rfl
 m18:=by kernel_rfl
 m19:=by kernel_rfl
 c0:=by kernel_rfl
 c2:=by kernel_rfl
 c3:=by kernel_rfl
 c4:=by kernel_rfl
 c5:=by kernel_rfl
 c9:=by kernel_rfl
 c20:=by kernel_rfl
 c21:=by kernel_rfl
 c37:=by kernel_rfl
 c46:=by kernel_rfl
 c51:=by kernel_rfl
 c53:=by kernel_rfl
 c75:=by kernel_rfl
 c76:=by kernel_rfl
 c80:=by kernel_rfl
 c85:=by kernel_rfl
 c127:=by kernel_rfl
 c143:=by kernel_rfl
 c145:=by kernel_rfl
 c167:=by kernel_rfl
 c168:=by kernel_rfl
 c171:=by kernel_rfl
 c173:=by kernel_rfl
 c175:=by kernel_rfl
 c210:=by kernel_rfl
 c212:=by kernel_rfl
 c213:=by kernel_rfl
 c232:=by kernel_rfl
 c233:=by kernel_rfl }
open Go.RowKit in
theorem Tryz.strconv_Atoi_err_var (s : ByteArray) (hl : s.size ≤ 18) (h : Lib.atoi s.data.toList = none) (tp : TypeId) (p : Value) (w : World) (hvar : w.var? Tryz.prog "strconv.ErrSyntax" = some #[.iface tp p]) :
  Calls Tryz.prog 236 #[.string s] w fun e w'=>∃N,e=.returned (.tuple #[.int .i64 0,.iface 244 (.pointer (some ⟨N,0,none⟩))])∧w.heap.size≤N∧w'.heap[N]?=some (.cells #[.string ⟨#[65,116,111,105]⟩,.string s,.iface tp p] 260 (0,0))∧Below w.heap.size w w':=Any.strconv_Atoi_err_var Tryz.laysC172 s hl h tp p w hvar
def Tryz.lays191_ren:Go.Shelf.Ren:=⟨fun | 191=>139 | 189=>183 | 125=>217 | 257=>216 | 128=>247 | 129=>248 | 294=>238 | 295=>239 | 296=>240 | 297=>241 | 298=>242 | 299=>243 | 216=>244 | 300=>245 | 301=>246 | 328=>257 | 329=>258 | 330=>259 | 331=>260 | 332=>261 | 215=>262 | 343=>270 | n=>n,fun | 28=>101 | 0=>0 | 3=>3 | 46=>207 | 51=>229 | 53=>231 | 4=>4 | 183=>222 | 182=>221 | 131=>203 | 5=>5 | 9=>9 | 218=>233 | 222=>237 | 228=>247 | 229=>248 | n=>n,fun | n=>n⟩
theorem Tryz.lays191:Go.Proofs.Lays.n191 Tryz.prog Tryz.lays191_ren:={
 mixed:=by kernel_rfl
 f125:=Tryz.func217.trans (congrArg some (by kernel_rfl))
 f128:=Tryz.func247.trans (congrArg some (by kernel_rfl))
 f129:=Tryz.func248.trans (congrArg some (by kernel_rfl))
 f189:=Tryz.func183.trans (congrArg some (by kernel_rfl))
 f191:=Tryz.func139.trans (congrArg some (by kernel_rfl))
 f215:=Tryz.func262.trans (congrArg some (by kernel_rfl))
 f216:=Tryz.func244.trans (congrArg some (by kernel_rfl))
 f257:=Tryz.func216.trans (congrArg some (by kernel_rfl))
 f294:=Tryz.func238.trans (congrArg some (by kernel_rfl))
 f295:=Tryz.func239.trans (congrArg some (by kernel_rfl))
 f296:=Tryz.func240.trans (congrArg some (by kernel_rfl))
 f297:=Tryz.func241.trans (congrArg some (by kernel_rfl))
 f298:=Tryz.func242.trans (congrArg some (by kernel_rfl))
 f299:=Tryz.func243.trans (congrArg some (by kernel_rfl))
 f300:=Tryz.func245.trans (congrArg some (by kernel_rfl))
 f301:=Tryz.func246.trans (congrArg some (by kernel_rfl))
 f328:=Tryz.func257.trans (congrArg some (by kernel_rfl))
 f329:=Tryz.func258.trans (congrArg some (by kernel_rfl))
 f330:=Tryz.func259.trans (congrArg some (by kernel_rfl))
 f331:=Tryz.func260.trans (congrArg some (by kernel_rfl))
 f332:=Tryz.func261.trans (congrArg some (by kernel_rfl))
 f343:=Tryz.func270.trans (congrArg some (by kernel_rfl))
 t0:=Tryz.underlying0
 a0:=Tryz.isAgg0
 z0:=Tryz.sizeOf0
 v0:=Tryz.zeroValue0
 t3:=Tryz.underlying3
 a3:=Tryz.isAgg3
 z3:=Tryz.sizeOf3
 v3:=Tryz.zeroValue3
 t4:=Tryz.underlying4
 a4:=Tryz.isAgg4
 z4:=Tryz.sizeOf4
 v4:=Tryz.zeroValue4
 t5:=Tryz.underlying5
 a5:=Tryz.isAgg5
 z5:=Tryz.sizeOf5
 v5:=Tryz.zeroValue5
 t9:=Tryz.underlying9
 a9:=Tryz.isAgg9
 z9:=Tryz.sizeOf9
 v9:=Tryz.zeroValue9
 t28:=Tryz.underlying101
 a28:=Tryz.isAgg101
 z28:=Tryz.sizeOf101
 v28:=Tryz.zeroValue101
 t46:=Tryz.underlying207
 a46:=Tryz.isAgg207
 z46:=Tryz.sizeOf207
 v46:=Tryz.zeroValue207
 t51:=Tryz.underlying229
 a51:=Tryz.isAgg229
 z51:=Tryz.sizeOf229
 v51:=Tryz.zeroValue229
 t53:=Tryz.underlying231
 a53:=Tryz.isAgg231
 z53:=Tryz.sizeOf231
 v53:=Tryz.zeroValue231
 t131:=Tryz.underlying203
 a131:=Tryz.isAgg203
 z131:=Tryz.sizeOf203
 v131:=Tryz.zeroValue203
 t182:=Tryz.underlying221
 a182:=Tryz.isAgg221
 z182:=Tryz.sizeOf221
 v182:=Tryz.zeroValue221
 t183:=Tryz.underlying222
 a183:=Tryz.isAgg222
 z183:=Tryz.sizeOf222
 v183:=Tryz.zeroValue222
 t218:=Tryz.underlying233
 a218:=Tryz.isAgg233
 z218:=Tryz.sizeOf233
 v218:=Tryz.zeroValue233
 t222:=Tryz.underlying237
 a222:=Tryz.isAgg237
 z222:=Tryz.sizeOf237
 v222:=Tryz.zeroValue237
 t228:=Tryz.underlying247
 a228:=Tryz.isAgg247
 z228:=Tryz.sizeOf247
 v228:=Tryz.zeroValue247
 t229:=Tryz.underlying248
 a229:=Tryz.isAgg248
 z229:=Tryz.sizeOf248
 v229:=Tryz.zeroValue248 }
open Go.Sort Go.RowKit in
theorem Tryz.sort_Ints (blk off cap:Nat) (zs:List Int) (w:World) (hH:Holds (Value.int .i64) w blk off zs.toArray) (hblk:blk<w.heap.size) (hsz:zs.length<4611686018427387904):
  Calls Tryz.prog 139 #[.slice (some ⟨blk,off,none⟩) zs.length cap] w fun e w'=>
   e=.returned (.tuple #[])∧∃n os,w'=grow (putRow (Value.int .i64) (Sort.ahead w n) blk off (zs.mergeSort fun x y=>decide (x≤y)).toArray) os:=Any.sort_Ints Tryz.lays191 blk off cap zs w hH hblk hsz
def Tryz.lays192_ren:Go.Shelf.Ren:=⟨fun | 192=>234 | 190=>252 | 125=>217 | 258=>263 | 128=>247 | 129=>248 | 302=>271 | 303=>272 | 304=>273 | 305=>274 | 306=>275 | 307=>276 | 308=>277 | 309=>278 | 310=>279 | 333=>284 | 329=>258 | 330=>259 | 334=>285 | 335=>286 | 336=>287 | 344=>294 | n=>n,fun | 31=>44 | 0=>0 | 9=>9 | 3=>3 | 46=>207 | 51=>229 | 53=>231 | 4=>4 | 183=>222 | 182=>221 | 131=>203 | 5=>5 | 218=>233 | 222=>237 | 228=>247 | 229=>248 | n=>n,fun | n=>n⟩
theorem Tryz.lays192:Go.Proofs.Lays.n192 Tryz.prog Tryz.lays192_ren:={
 mixed:=by kernel_rfl
 f125:=Tryz.func217.trans (congrArg some (by kernel_rfl))
 f128:=Tryz.func247.trans (congrArg some (by kernel_rfl))
 f129:=Tryz.func248.trans (congrArg some (by kernel_rfl))
 f190:=Tryz.func252.trans (congrArg some (by kernel_rfl))
 f192:=Tryz.func234.trans (congrArg some (by kernel_rfl))
 f258:=Tryz.func263.trans (congrArg some (by kernel_rfl))
 f302:=Tryz.func271.trans (congrArg some (by kernel_rfl))
 f303:=Tryz.func272.trans (congrArg some (by kernel_rfl))
 f304:=Tryz.func273.trans (congrArg some (by kernel_rfl))
 f305:=Tryz.func274.trans (congrArg some (by kernel_rfl))
 f306:=Tryz.func275.trans (congrArg some (by kernel_rfl))
 f307:=Tryz.func276.trans (congrArg some (by kernel_rfl))
 f308:=Tryz.func277.trans (congrArg some (by kernel_rfl))
 f309:=Tryz.func278.trans (congrArg some (by kernel_rfl))
 f310:=Tryz.func279.trans (congrArg some (by kernel_rfl))
 f329:=Tryz.func258.trans (congrArg some (by kernel_rfl))
 f330:=Tryz.func259.trans (congrArg some (by kernel_rfl))
 f333:=Tryz.func284.trans (congrArg some (by kernel_rfl))
 f334:=Tryz.func285.trans (congrArg some (by kernel_rfl))
 f335:=Tryz.func286.trans (congrArg some (by kernel_rfl))
 f336:=Tryz.func287.trans (congrArg some (by kernel_rfl))
 f344:=Tryz.func294.trans (congrArg some (by kernel_rfl))
 t0:=Tryz.underlying0
 a0:=Tryz.isAgg0
 z0:=Tryz.sizeOf0
 v0:=Tryz.zeroValue0
 t3:=Tryz.underlying3
 a3:=Tryz.isAgg3
 z3:=Tryz.sizeOf3
 v3:=Tryz.zeroValue3
 t4:=Tryz.underlying4
 a4:=Tryz.isAgg4
 z4:=Tryz.sizeOf4
 v4:=Tryz.zeroValue4
 t5:=Tryz.underlying5
 a5:=Tryz.isAgg5
 z5:=Tryz.sizeOf5
 v5:=Tryz.zeroValue5
 t9:=Tryz.underlying9
 a9:=Tryz.isAgg9
 z9:=Tryz.sizeOf9
 v9:=Tryz.zeroValue9
 t31:=Tryz.underlying44
 a31:=Tryz.isAgg44
 z31:=Tryz.sizeOf44
 v31:=Tryz.zeroValue44
 t46:=Tryz.underlying207
 a46:=Tryz.isAgg207
 z46:=Tryz.sizeOf207
 v46:=Tryz.zeroValue207
 t51:=Tryz.underlying229
 a51:=Tryz.isAgg229
 z51:=Tryz.sizeOf229
 v51:=Tryz.zeroValue229
 t53:=Tryz.underlying231
 a53:=Tryz.isAgg231
 z53:=Tryz.sizeOf231
 v53:=Tryz.zeroValue231
 t131:=Tryz.underlying203
 a131:=Tryz.isAgg203
 z131:=Tryz.sizeOf203
 v131:=Tryz.zeroValue203
 t182:=Tryz.underlying221
 a182:=Tryz.isAgg221
 z182:=Tryz.sizeOf221
 v182:=Tryz.zeroValue221
 t183:=Tryz.underlying222
 a183:=Tryz.isAgg222
 z183:=Tryz.sizeOf222
 v183:=Tryz.zeroValue222
 t218:=Tryz.underlying233
 a218:=Tryz.isAgg233
 z218:=Tryz.sizeOf233
 v218:=Tryz.zeroValue233
 t222:=Tryz.underlying237
 a222:=Tryz.isAgg237
 z222:=Tryz.sizeOf237
 v222:=Tryz.zeroValue237
 t228:=Tryz.underlying247
 a228:=Tryz.isAgg247
 z228:=Tryz.sizeOf247
 v228:=Tryz.zeroValue247
 t229:=Tryz.underlying248
 a229:=Tryz.isAgg248
 z229:=Tryz.sizeOf248
 v229:=Tryz.zeroValue248 }
open Go.Sort Go.RowKit in
theorem Tryz.sort_Strings (blk off cap:Nat) (ss:List (List UInt8)) (w:World) (hH:Holds encStr w blk off ss.toArray) (hblk:blk<w.heap.size) (hsz:ss.length<4611686018427387904):
  Calls Tryz.prog 234 #[.slice (some ⟨blk,off,none⟩) ss.length cap] w fun e w'=>
   e=.returned (.tuple #[])∧∃n os,w'=grow (putRow encStr (Sort.ahead w n) blk off (ss.mergeSort fun x y=>decide (x≤y)).toArray) os:=Any.sort_Strings Tryz.lays192 blk off cap ss w hH hblk hsz
open Go.RowKit Go.Sort in
theorem Tryz.sort_Strings_none (p:Option Addr) (cap:Nat) (w:World):
  Calls Tryz.prog 234 #[.slice p 0 cap] w fun e w'=>e=.returned (.tuple #[])∧w'=w:=Any.sort_Strings_none Tryz.lays192 p cap w
open Go.RowKit Go.Sort in
theorem Tryz.sort_Ints_none (p:Option Addr) (cap:Nat) (w:World):
  Calls Tryz.prog 139 #[.slice p 0 cap] w fun e w'=>e=.returned (.tuple #[])∧w'=w:=Any.sort_Ints_none Tryz.lays191 p cap w
end Go.Proofs
namespace Go.Proofs.YtojnhepgnbhaaaaGreatDoor
open Go.RowKit Go.Sort
theorem ZmP {α:Type} [Inhabited α] {P:Program} {J:World→Prop} {JF:Nat→Prop} (enc:α→Value) (el:α→List CT) (hel:∀(w:World) x v L,RCs w (el x) v L→v=[enc x]) (hmv:∀(w w':World) x,RCs w (el x) [enc x] []→RCs w' (el x) [enc x] []) (hflat:∀l:List α,Zaz (l.map el)=true) {f:FuncId} {e:TypeId} {zs d:List α} (hc:Zej P f) (hd:d.length=zs.length) (hsub:∀x∈d,x∈zs)
  (hN:∀p cap w,Calls P f #[.slice p 0 cap] w fun e w'=>e=.returned (.tuple #[])∧w'=w)
  (hC:∀blk off cap w,Holds enc w blk off zs.toArray→blk<w.heap.size→Calls P f #[.slice (some ⟨blk,off,none⟩) zs.length cap] w fun e w'=>e=.returned (.tuple #[])∧∃n os,w'=grow (putRow enc (Sort.ahead w n) blk off d.toArray) os):
  ZiM P J JF f (.row e 1 (zs.map el)) [] [] (.row e 1 (d.map el)):=by
 refine ⟨hc,fun w z q v0 vs hj hqf hz hh ha=>?_⟩
 cases vs with
 | cons _ _=>exact ha.elim
 | nil=>
 obtain ⟨hfl,hm,hq,cs,hown,hre⟩:=hh
 have hcs:∀(l:List α) (cs:List Value) (L:List Nat),REs w 1 (l.map el) cs L→cs=l.map enc∧(L=[]→∀x∈l,RCs w (el x) [enc x] []):=by
  intro l
  induction l with
  | nil=>intro cs L h;exact ⟨h.1,fun _ x mx=>by simp at mx⟩
  | cons x l ih=>
   rintro cs L ⟨c1,c2,L1,L2,rfl,rfl,h3,h4⟩
   obtain ⟨i1,i2⟩:=ih _ _ h4
   have e1:=hel _ _ _ _ h3.1
   refine ⟨by rw [e1,i1];rfl,fun hL y my=>?_⟩
   obtain ⟨l1,l2⟩:=List.append_eq_nil_iff.1 hL
   rcases List.mem_cons.1 my with rfl | my
   ·rw [←e1,←l1];exact h3.1
   ·exact i2 l2 y my
 obtain ⟨e1,e2⟩:=hcs zs cs [] hre
 have e2:=e2 rfl
 subst e1
 have hre':∀(w':World) (l:List α),(∀x∈l,x∈zs)→REs w' 1 (l.map el) (l.map enc) []:=by
  intro w' l
  induction l with
  | nil=>intro _;exact ⟨rfl,rfl⟩
  | cons x l ih=>intro hl;exact ⟨[enc x],l.map enc,[],[],rfl,rfl,⟨hmv w w' x (e2 x (hl x (by simp))),rfl⟩,ih fun y my=>hl y (by simp [my])⟩
 have hzl:(zs.map el).length=zs.length:=by simp
 rw [hzl] at hown
 have done:∀w':World,w'.os=w.os→w'.tape=w.tape→w'.output=w.output→w.heap.size≤w'.heap.size→(∀k,k<w.heap.size→¬q=some k→w'.heap[k]?=w.heap[k]?)→w'.ownsV 0 e 1 v0 d.length (d.map enc)→∃v n,Ending.returned (.tuple #[])=.returned v∧Zma w' w.heap.size n [] v∧(∀b,inQ z q b→n b)∧ZqG w' n q (.row e 1 (d.map el)) v0∧ZyD q w w':=
  fun w' h1 h2 h3 h4 h5 h6=>⟨_,inQ z q,rfl,⟨[],[],⟨rfl,rfl⟩,Own.nil _ _,rfl⟩,fun _ h=>h,⟨hflat d,by omega,hq,d.map enc,by simpa using h6,hre' w' d hsub⟩,⟨h1,h2,h3,h4,h5⟩⟩
 rcases Nat.eq_zero_or_pos zs.length with h0 | h0
 ·have hz0:zs=[]:=List.eq_nil_of_length_eq_zero h0
  have hd0:d=[]:=List.eq_nil_of_length_eq_zero (hd.trans h0)
  obtain ⟨A,cap,hv⟩:=Zct hown
  rw [h0] at hv
  subst hv
  refine (hN A cap w).mono ?_
  rintro e' w' ⟨rfl,rfl⟩
  exact done w' rfl rfl rfl (Nat.le_refl _) (fun _ _ _=>rfl) (by rw [hd0];rw [hz0] at hown;exact hown)
 ·rcases hown.2 with ⟨h',hl0⟩ | ⟨g,o,cap,cur,h',hb,hg,hnc,hcm,hcsz,htake⟩
  ·omega
  ·subst h'
   have hlt:g<w.heap.size:=(Array.getElem?_eq_some_iff.1 hg).1
   have hcur:∀j,j<zs.length→cur[o+j]?=some (enc zs[j]!):=fun j hj=>by
    have:=congrArg (fun l=>l[j]?) htake
    simp only [Nat.mul_one,List.getElem?_take,hj,if_true,List.getElem?_drop,Array.getElem?_toList,List.getElem?_map] at this
    rw [this]
    simp [List.getElem!_eq_getElem?_getD,hj]
   refine (hC g o cap w (fun j hj=>?_) hlt).mono ?_
   ·have hj':j<zs.length:=by simpa using hj
    refine ⟨?_,by simp [World.frozen?,hg]⟩
    simp only [World.cell?,hg,Option.isSome_none,Bool.false_eq_true,if_false]
    rw [hcur j hj']
    simp [hj']
   ·rintro e' w' ⟨rfl,n,os,rfl⟩
    have hh:(putRow enc (Sort.ahead w n) g o d.toArray).heap[g]?=some (.cells (putCells enc o d.toArray cur) e (0,0)):=by
     simp only [putRow,mapBlock,heap_ahead,Array.getElem?_modify,if_true,hg,Option.map_some,onCells]
    refine done _ rfl rfl rfl (by simp) (fun k hk hqk=>?_) ⟨by simp,.inr ⟨g,o,cap,putCells enc o d.toArray cur,by rw [hd],by omega,?_,by omega,hcm,by simpa [putCells] using hcsz,?_⟩⟩
    ·rw [heap_grow_old _ _ (by simpa using hk)]
     simp only [putRow,mapBlock,heap_ahead,Array.getElem?_modify]
     rw [if_neg (fun e=>hqk (by rw [←hq];simp [Value.ownBlock,e]))]
    ·rw [heap_grow_old _ _ (by simpa using hlt)];exact hh
    ·apply List.ext_getElem?
     intro j
     simp only [Nat.mul_one,List.getElem?_take,List.getElem?_drop,List.getElem?_map,Array.getElem?_toList,putCells,Array.getElem?_mapIdx,List.size_toArray]
     by_cases hj:j<d.length
     ·have hjc:o+j<cur.size:=by omega
      simp [hj,hjc]
     ·simp [hj]
end Go.Proofs.YtojnhepgnbhaaaaGreatDoor
namespace Go.Proofs.YtojnhepgnbhaaaaGreatDoor
open Go.RowKit Go.Sort
theorem ZpI {J:World→Prop} {JF:Nat→Prop} {l r:List Int} (h:ZeM l=some r):ZiM Tryz.prog J JF 139 (.row 3 1 (l.map Qv)) [] [] (.row 3 1 (r.map Qv)):=by
 obtain ⟨h1,h2⟩:=Zx h
 obtain rfl:=Option.some.inj h2
 refine ZmP (Value.int .i64) Qv (fun w x v L h=>?_) (fun w w' x h=>h) ZmS ⟨Tryz.f139,Tryz.func139,by kernel_rfl,by kernel_rfl⟩ (by simp [Zi5]) (fun x hx=>by simpa [Zi5] using hx) (fun p cap w=>Tryz.sort_Ints_none p cap w) (fun blk off cap w hH hb=>Tryz.sort_Ints blk off cap l w hH hb (by omega))
 obtain ⟨u,vs,L1,L2,rfl,rfl,q1,rfl,rfl⟩:=h
 rw [q1.1]
end Go.Proofs.YtojnhepgnbhaaaaGreatDoor
namespace Go.Proofs.YtojnhepgnbhaaaaGreatDoor
open Go.RowKit
theorem ZrC {J:World→Prop} {a b:ByteArray} {r:Int} (h:Zeg a b=some r):Zn Tryz.prog J 210 [(false,[.str a]),(false,[.str b])] [(false,[(false,.int .i64 r)])]:=by
 obtain rfl:=Option.some.inj h
 refine ⟨⟨Tryz.f210,Tryz.func210,by kernel_rfl,by kernel_rfl⟩,fun w z vs hj hz hargs=>?_⟩
 obtain ⟨v,u,L,M,rfl,⟨rfl,_⟩,rfl,_⟩:=Zs1 hargs
 refine (Tryz.strings_Compare a b w).mono ?_
 rintro e w' ⟨rfl,rfl⟩
 exact ⟨_,z,rfl,ZnY ⟨⟨rfl,rfl⟩,rfl⟩,fun b h=>h,Below.refl _ _⟩
end Go.Proofs.YtojnhepgnbhaaaaGreatDoor
namespace Go.Proofs.YtojnhepgnbhaaaaGreatDoor
open Go.RowKit Go.Sort
theorem Zlz {J:World→Prop} {JF:Nat→Prop} {l r:List ByteArray} (h:ZbI l=some r):ZiM Tryz.prog J JF 234 (.row 9 1 (l.map Zu)) [] [] (.row 9 1 (r.map Zu)):=by
 obtain ⟨h1,h2⟩:=Zx h
 obtain rfl:=Option.some.inj h2
 have e1:l.map Zu=(l.map toL).map fun x=>Zu (ofL x):=by rw [List.map_map];exact List.map_congr_left fun x _=>by simp [Zid]
 have e2:(Zes l).map Zu=((l.map toL).mergeSort fun x y=>decide (x≤y)).map fun x=>Zu (ofL x):=by simp [Zes,List.map_map,Function.comp_def]
 rw [e1,e2]
 refine ZmP encStr (fun x=>Zu (ofL x)) (fun w x v L h=>?_) (fun w w' x h=>h) (fun l=>ZbB (fun _=>rfl) l) ⟨Tryz.f234,Tryz.func234,by kernel_rfl,by kernel_rfl⟩ (by simp) (fun x hx=>by simpa using hx) (fun p cap w=>Tryz.sort_Strings_none p cap w) (fun blk off cap w hH hb=>Tryz.sort_Strings blk off cap (l.map toL) w hH hb (by simp;omega))
 obtain ⟨u,vs,L1,L2,rfl,rfl,q1,rfl,rfl⟩:=h
 rw [q1.1]
 rfl
end Go.Proofs.YtojnhepgnbhaaaaGreatDoor
namespace Go.Proofs.YtojnhepgnbhaaaaGreatDoor
open Go.RowKit
theorem Zv6 {J : World → Prop} (hJ : ∀ w, J w → ∃ tp p, w.var? Tryz.prog "strconv.ErrSyntax" = some #[.iface tp p]) {s : ByteArray} {r : Int × Bool} (h : ZkL s = some r) : Zn Tryz.prog J 236 [(false, [.str s])] [(false, [(false, .int .i64 r.1)]), (false, [(false, .ifc r.2)])] := by
 obtain ⟨h1,h2⟩:=Zx h
 refine ⟨⟨Tryz.f236,Tryz.func236,by kernel_rfl,by kernel_rfl⟩,fun w z vs hj hz hargs=>?_⟩
 obtain ⟨v,L,rfl,rfl,_⟩:=Zk3 hargs
 cases ha:Lib.atoi (toL s) with
 | some n=>
  rw [ha] at h2
  obtain rfl:=Option.some.inj h2
  refine (Tryz.strconv_Atoi s n h1 ha w).mono ?_
  rintro e w' ⟨rfl,t,rfl⟩
  exact ⟨_,z,rfl,Zps ⟨⟨rfl,rfl⟩,rfl⟩ ⟨⟨rfl,rfl,rfl⟩,rfl⟩,fun b h=>h,Lib.bytesWorld_below _ _ _⟩
 | none=>
  rw [ha] at h2
  obtain rfl:=Option.some.inj h2
  obtain ⟨tp,p,hv⟩:=hJ w hj
  refine (Tryz.strconv_Atoi_err_var s h1 ha tp p w hv).mono ?_
  rintro e w' ⟨N,rfl,_,_,hb⟩
  exact ⟨_,z,rfl,Zps ⟨⟨rfl,rfl⟩,rfl⟩ ⟨⟨rfl,rfl,_,_,rfl⟩,rfl⟩,fun b h=>h,hb⟩
end Go.Proofs.YtojnhepgnbhaaaaGreatDoor
namespace Go.Proofs.YtojnhepgnbhaaaaGreatDoor
open Go.RowKit Go.Sort Go.Lib
theorem Zw4 {J : World → Prop} (hJ : ∀ w, J w → Lib.TabIs Tryz.prog w "internal/strconv.uint64pow10" .u64 Lib.pow10Tab) {n : Int} {r : ByteArray} (h : Zm7 n = some r) : Zn Tryz.prog J 256 [(false, [.int .i64 n])] [(false, [(false, .str r)])] := by
 obtain ⟨h1,h2⟩:=Zx h
 obtain rfl:=Option.some.inj h2
 refine ⟨⟨Tryz.f256,Tryz.func256,by kernel_rfl,by kernel_rfl⟩,fun w z vs hj hz hargs=>?_⟩
 obtain ⟨v,L,rfl,rfl,_⟩:=Zk3 hargs
 refine (Tryz.strconv_Itoa n h1.1 h1.2 w (hJ w hj)).mono ?_
 rintro e w' ⟨rfl,k,os,rfl⟩
 refine ⟨_,z,rfl,ZnY ⟨⟨rfl,rfl,?_⟩,rfl⟩,fun b h=>h,below_grow _ _ (Nat.le_refl _) _ _⟩
 have:=Lib.itoa_length_le n h1.1 h1.2
 show (Lib.itoa n).toArray.size≤_
 rw [List.size_toArray]
 omega
end Go.Proofs.YtojnhepgnbhaaaaGreatDoor
namespace Go.Proofs.YtojnhepgnbhaaaaGreatDoor
theorem Zl1 {l r:List Int} (h:ZeM l=some r):ZiM Tryz.prog J0 JF0 139 (.row 3 1 (l.map Qv)) [] [] (.row 3 1 (r.map Qv)):=ZpI h
theorem Zh6 {a b:ByteArray} {r:Int} (h:Zeg a b=some r):Zn Tryz.prog J0 210 [(false,[.str a]),(false,[.str b])] [(false,[(false,.int .i64 r)])]:=ZrC h
theorem ZiP {l r:List ByteArray} (h:ZbI l=some r):ZiM Tryz.prog J0 JF0 234 (.row 9 1 (l.map Zu)) [] [] (.row 9 1 (r.map Zu)):=Zlz h
theorem Zrz {s:ByteArray} {r:Int × Bool} (h:ZkL s=some r):Zn Tryz.prog J0 236 [(false,[.str s])] [(false,[(false,.int .i64 r.1)]),(false,[(false,.ifc r.2)])]:=Zv6 ZwG h
theorem ZrM {n:Int} {r:ByteArray} (h:Zm7 n=some r):Zn Tryz.prog J0 256 [(false,[.int .i64 n])] [(false,[(false,.str r)])]:=Zw4 Zu5 h
end Go.Proofs.YtojnhepgnbhaaaaGreatDoor
