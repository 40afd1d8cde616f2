/- Parts of this proof, joined; what they hold is said at the theorems. -/
import Derived.Test.YtnacpkmpdlodoaaGreatDoorTrimmedQ5
import Derived.Orders
import Derived.Test.YtnacpkmpdlodoaaGreatDoorTrimmedQ1
import GoSem.Claims
import Derived.Test.YtnacpkmpdlodoaaGreatDoorTrimmedQ2
import Derived.Test.YtnacpkmpdlodoaaGreatDoorProg
import Derived.Lib.LaidTab
import Derived.Lib.ItoaNum
open Array renaming getD_eq_getD_getElem?→AJ,replicate→AL,getElem?_setIfInBounds_ne→Ab,getElem?_eq_some_iff→Ad,getElem?_setIfInBounds→Ae,getElem?_eq_none→Am,getElem?_append→BC
open Bool renaming and_eq_true→AC,or_eq_true→AU,not_eq_true'→BE
open List renaming map→AA,mem_append→AB,mem_map→AD,mem_cons→AM,all_eq_true→AN,getElem?_eq_some_iff→AP,map_congr_left→AW,not_mem_nil→AX,nodup_cons→AZ,nodup_append→Aa,range→Ac,mem_of_getElem?→Ah,cons_append→Aj,set_getElem_self→Aq,mem_or_eq_of_mem_set→As,toArray→Aw,map_map→Ay,length_cons→Az,range'_succ→B3,mem_filterMap→B4,getElem_mem→B9,range_eq_range'→BA,mapM_cons→BB,size_toArray→BD
open List.Sublist renaming append→Ap,refl→B5
open List.cons renaming injEq→AY
open Nat renaming le_of_ble_eq_true→AH,le_refl→AK,lt_or_ge→Ak,zero_le→Ax
open Option renaming map_eq_some_iff→AE,bind_eq_some_iff→AI,bind_some→AQ,map_none→AS,map_some→AT,getD_some→An
open Option.some renaming injEq→A0
open Prod.mk renaming injEq→A9
open Go.Proofs.Tryz
set_option linter.unusedSimpArgs false
set_option linter.unusedVariables false
set_option maxRecDepth 1000000
set_option maxHeartbeats 4000000
namespace Go.Proofs.YtnacpkmpdlodoaaGreatDoor
open Go.IntKind
section
open Go.RowKit
section
variable {P:Program} {J:World->Prop} {JF:Nat->Prop} {W:Zbb} {U:Nat->Prop} {key:Nat} {st:St} {w w':World} {a:Act} {tt:Nat->Option TI} {hs:FuncId->Nat} {Q:Exit->Act->World->Prop}
theorem ZdA(a:Act)(d:Option Nat)(v:Value):(a.put d v).tmps.size=a.tmps.size:=by cases d<;>simp [Act.put]
theorem ZgV[NW]{g B:Gh}{d:Option Nat}{v:SV}{u:List (Nat×Ob)}{cv:Value}(G:∀t,SVR g w (st.sl t) (a.tmps.getD t undef))(C:StU U st)(b:a.defers=[])(E:∀v,W.hv=some v->a.tmps.getD 0 undef=v)(F:∀t,d=some t->t<a.tmps.size/\(W.hv=none\/t≠0))
  (K:HI W B (Zv st.ob u) w') (M:SVR B w' v cv) (J:∀x c,svU U x->SVR g w x c->SVR B w' x c) (L:svU (Uk U key) v) (I:∀k,obU (Uk U key) (Zv st.ob u k)) (H:∀k,¬Uk U key k->Zv st.ob u k=.gone):
  Inv W (Uk U key) ((st.put d v).app u) (a.put d cv) w':=by
 cases d with
 |none=>
  refine ⟨⟨B,K,fun t=>J _ _ (C.sl t) (G t)⟩,⟨fun t=>(C.sl t).mono fun _=>.inl,I,H⟩,b,E⟩
 |some d=>
  have f:=(F d rfl).1;refine ⟨⟨B,K,fun t=>?_⟩,⟨fun t=>?_,I,H⟩,b,fun u D=>?_⟩
  .show SVR B w' (upd st.sl d v t) ((a.tmps.setIfInBounds d cv).getD t undef)
   by_cases A:t=d
   .subst A;rw [ZN];simpa [AJ,Ae,f]using M
   .rw [ZZ _ _ A];have:(a.tmps.setIfInBounds d cv).getD t undef=a.tmps.getD t undef:=by
     simp [AJ,Ab (fun e:d=t=>A e.symm)]
    rw [this];exact J _ _ (C.sl t) (G t)
  .show svU (Uk U key) (upd st.sl d v t)
   by_cases A:t=d
   .subst A;rw [ZN];exact L
   .rw [ZZ _ _ A];exact (C.sl t).mono fun _=>.inl
  .show (a.tmps.setIfInBounds d cv).getD 0 undef=u
   have i:d≠0:=by
    rcases (F d rfl).2 with h|h
    .rw [h]at D;simp at D
    .exact h
   rw [<-E u D];simp [AJ,Ab i]
theorem ZtD[NW]{g:Gh}{x:SV}{v:Value}{B:FuncId×List CT}(a:ZqU x=some B)(hs:SVR g w x v):∃cs:List Value,v=.func (.func B.1) #[] cs.toArray/\ZW (SVR g w) (B.2.map Zmi) cs:=by
 unfold ZqU at a;split at a
 .rename_i f A;simp only[A0]at a;subst a;obtain ⟨y,C,hs⟩:=hs;simp at C;subst C;obtain ⟨L,⟨vs,F,E⟩,D⟩:=hs;refine ⟨vs,F,?_⟩;have:=E.avr (g:=g) D;have b:∀(A:List CT) (vs:List Value),ZW (AVR g w) (A.map AV.c) vs->ZW (SVR g w) (A.map Zmi) vs:=by
   intro A;induction A with
   |nil=>intro vs h;cases vs with
    |nil=>trivial
    |cons _ _=>exact h.elim
   |cons e A ih=>intro vs h;cases vs with
    |nil=>exact h.elim
    |cons v vs=>exact ⟨⟨_,rfl,h.1⟩,ih vs h.2⟩
  exact b _ _ this
 .rename_i f;simp only[A0]at a;subst a;exact ⟨[],hs,trivial⟩
 .simp at a
theorem Zqh[NW](htt:MOk P J JF W tt){o:Oper}{K:St->Prop}(h:opS tt (SC P J JF hs) key o K st)(hI:Inv W U st a w)(hkey:∀k,key<=k->k<key+16->¬U k)(hd:∀t,o.dst=some t->t<a.tmps.size/\(W.hv=none\/t≠0)):
  o.wp P a w (fun a' w'=>∃st',Inv W (Uk U key) st' a' w'/\a'.tmps.size=a.tmps.size/\K st') Q:=by
 obtain ⟨⟨g,hH,hS⟩,hU,hdef,hh⟩:=hI
 have evals:∀(args:Array Operand) (ts:Array TypeId),ZW (SVR g w) (evs tt st ts.toList args.toList) (args.toList.map a.eval)/\∀x∈evs tt st ts.toList args.toList,svU U x:=fun args ts=>by
  have he:args.toList.map a.eval=(Zlg ts.toList args.toList).map fun p=>a.eval p.2:=by
   have:=congrArg (AA a.eval) (Zgj ts.toList args.toList)
   rw [<-this,Ay];rfl
  refine ⟨?_,fun x mx=>?_⟩
  .rw [he]
   exact ZW.of_map _ _ fun p _=>(ZmP htt.tt hS hU p.1 p.2).1
  .obtain ⟨p,_,rfl⟩:=AD.1 mx
   exact (ZmP htt.tt hS hU p.1 p.2).2
 have arm:∀(f:FuncId) (n:Nat) (vs:List SV) (cvs:List Value),spK (SC P J JF hs) f n key o.dst K st vs->ZW (SVR g w) vs cvs->(∀x∈vs,svU U x)->(ZdI P f->(execOp a.eval o).run P w=.ok (.enter f cvs.toArray) w)->
   o.wp P a w (fun a' w'=>∃st',Inv W (Uk U key) st' a' w'/\a'.tmps.size=a.tmps.size/\K st') Q:=fun f n vs cvs h hargs hargU hrun=>by
  obtain ⟨v,u,hr,hK⟩:=Znh.1 h
  obtain ⟨hc,hcall⟩:=ZiH htt hr hH hU hkey hargs hargU
  unfold Oper.wp
  rw [hrun hc,Oper.upon_enter]
  refine hcall.mono ?_
  rintro e w' ⟨cv,rfl,g',t1,t2,t3,t4,t5,t6⟩
  exact ⟨_,ZgV hS hU hdef hh hd t1 t2 t3 t4 t5 t6,ZdA _ _ _,hK⟩
 unfold opS at h
 split at h
 .rename_i c hc
  obtain ⟨f,l1,l2⟩:=c
  have hop:∃args ts,o.op=.call ⟨.value (.func f),args,ts⟩/\l1=ts.toList/\l2=args.toList:=by
   unfold Xe at hc
   split at hc
   .rename_i f' args ts he
    simp only[A0,A9]at hc
    obtain ⟨rfl,rfl,rfl⟩:=hc
    exact ⟨args,ts,he,rfl,rfl⟩
   .simp at hc
  obtain ⟨args,ts,hop,rfl,rfl⟩:=hop
  refine arm f _ _ _ h (evals args ts).1 (evals args ts).2 ?_
  rintro ⟨fn,f1,f2,f3⟩
  have f2' : ¬ fn.name = "runtime.NumGoroutine" := by simpa using f2
  have f3':¬fn.body=none:=fun e=>by rw [e]at f3;simp at f3
  have e1:(args.toList.map a.eval).toArray=args.map a.eval:=by
   apply Array.ext'
   simp
  rw [e1]
  simp [execOp,hop,resolve,Act.eval,Deferred.ofValue,invoke,callFunc,program,Sem.run,f1,f2',f3']
 .split at h
  .rename_i c hc
   obtain ⟨s,l1,l2⟩:=c
   have hop:∃args ts,o.op=.call ⟨.value (.tmp s),args,ts⟩/\l1=ts.toList/\l2=args.toList:=by
    unfold XA at hc
    split at hc
    .rename_i s' args ts he
     simp only[A0,A9]at hc
     obtain ⟨rfl,rfl,rfl⟩:=hc
     exact ⟨args,ts,he,rfl,rfl⟩
    .simp at hc
   obtain ⟨args,ts,hop,rfl,rfl⟩:=hop
   unfold Y8 at h
   split at h
   .rename_i fc hfc
    obtain ⟨_,h⟩:=h
    have hval:=ZtD hfc (hS s)
    obtain ⟨cs,hv',hcs⟩:=hval
    have hv:a.eval (.tmp s)=.func (.func fc.1) #[] cs.toArray:=hv'
    refine arm fc.1 0 _ (args.toList.map a.eval++cs) h ((evals args ts).1.append hcs) (fun x mx=>?_) ?_
    .rcases AB.1 mx with m|m
     .exact (evals args ts).2 x m
     .obtain ⟨c,_,rfl⟩:=AD.1 m
      exact X5 _
    .rintro ⟨fn,f1,f2,f3⟩
     have f2' : ¬ fn.name = "runtime.NumGoroutine" := by simpa using f2
     have f3':¬fn.body=none:=fun e=>by rw [e]at f3;simp at f3
     have e1:(args.toList.map a.eval++cs).toArray=args.map a.eval++cs.toArray:=by
      apply Array.ext'
      simp
     rw [e1]
     simp [execOp,hop,resolve,hv,Deferred.ofValue,invoke,callFunc,program,Sem.run,f1,f2',f3']
   .exact h.elim
  .unfold Y8 at h
   split at h
   .rename_i r hr
    obtain ⟨g',cv,w',hrun,t1,t2,t3,t4,t5,t6⟩:=Zru (P:=P) (W:=W) (a:=a) htt.tt o hr hH hS hU (hkey key (AK _) yE)
    unfold Oper.wp
    rcases hrun with hrun|⟨hrun,rfl⟩
    .rw [hrun]
     exact ⟨_,ZgV hS hU hdef hh hd t1 t2 t3 t4 t5 t6,ZdA _ _ _,h⟩
    .rw [hrun]
     exact ⟨_,ZgV hS hU hdef hh hd t1 t2 t3 t4 t5 t6,ZdA _ _ _,h⟩
   .exact h.elim
theorem Zxi[NW](F:Inv W U st a w)(d:Option Nat)(D:∀t,d=some t->t<a.tmps.size/\(W.hv=none\/t≠0)):Inv W (Uk U key) (st.put d .und) (a.put d undef) w:=by
 obtain ⟨⟨g,G,E⟩,A,b,C⟩:=F;exact ZgV (u:=[]) (key:=key) E A b C D G rfl (fun _ _ _ h=>h) trivial (fun k=>(A.ob k).mono fun _=>.inl) (fun k B=>A.gone k fun h=>B (.inl h))
theorem Zqq[NW](B:MOk P J JF W tt){d:Array Oper}{i:Nat}{o:Oper}{K:St->Prop}(M:d[i]?=some o)(h:opG tt (SC P J JF hs) d.toList key o K st)(H:Inv W U st a w)(v:∀k,key<=k->k<key+16->¬U k)(F:∀t,o.dst=some t->t<a.tmps.size/\(W.hv=none\/t≠0)):
  wpOp P d Q i (fun L w'=>∃st',Inv W (Uk U key) st' L w'/\L.tmps.size=a.tmps.size/\K st') a w:=by
 have f:K (st.put o.dst .und)->∃st',Inv W (Uk U key) st' (a.put o.dst undef) w/\(a.put o.dst undef).tmps.size=a.tmps.size/\K st':=fun R=>⟨_,Zxi H _ F,ZdA _ _ _,R⟩
 unfold wpOp;simp only[M];unfold opG Zbo at h;cases hg:o.guard with
 |none=>
  rw [hg]at h;rw [yp (by simp [Region.wanted,hg])];exact .inl (Zqh B h H v F)
 |some jw=>
  obtain ⟨j,l⟩:=jw;rw [hg]at h;simp only at h;cases hj:(d.toList[j]?).bind (·.dst) with
  |none=>
   rw [hj]at h;have m:(d[j]?).bind (·.dst)=none:=by simpa using hj
   rw [yn (by simp [Region.wanted,hg,yielded,m])];exact f h
  |some t=>
   rw [hj]at h;have m:(d[j]?).bind (·.dst)=some t:=by simpa using hj
   obtain ⟨⟨g,S,I⟩,O,y,N⟩:=H;have u:=I t;simp only at h;unfold gK at h;split at h
   .rename_i G;have:∃b,st.sl t=.p false [.c (.bool b)]:=by
     unfold ZaY at G;split at G
     .rename_i b A;exact ⟨b,A⟩
     .simp at G
    obtain ⟨b,x⟩:=this;rw [x]at u h;have hv:=ZgL u;have C:yielded d a.tmps j=some b:=by
     unfold yielded;rw [m,AQ];have:a.tmps[t]?=some (.bool b):=by
      rw [AJ]at hv;cases A:a.tmps[t]? with
      |none=>rw [A]at hv;simp [undef]at hv
      |some q=>rw [A]at hv;simpa using hv
     rw [this]
    by_cases D:(b==l)=true
    .rw [yp (show (QC (.p false [.c (.bool b)])==l)=true from D)]at h;rw [yp (by simpa [Region.wanted,hg,C]using D)];exact .inl (Zqh B h ⟨⟨g,S,I⟩,O,y,N⟩ v F)
    .rw [yn (show ¬(QC (.p false [.c (.bool b)])==l)=true from D)]at h;rw [yn (by simpa [Region.wanted,hg,C]using D)];exact f h
   .split at h
    .rename_i E;have x:st.sl t=.und:=by
      unfold ZuD at E;split at E
      .rename_i A;exact A
      .simp at E
     rw [x]at u;have e:a.tmps.getD t undef=undef:=u;have C:yielded d a.tmps j=none:=by
      unfold yielded;rw [m,AQ];rw [AJ]at e;cases A:a.tmps[t]? with
      |none=>rfl
      |some q=>rw [A]at e;simp at e;rw [e];rfl
     rw [yn (by simp [Region.wanted,hg,C])];exact f h
    .exact h.elim
theorem Zqi[NW](A:MOk P J JF W tt){b:Array Oper}{N:Nat}(D:∀o∈b.toList,∀t,o.dst=some t->t<N/\(W.hv=none\/t≠0)){K:St->Prop}:∀(r:List Oper) (i key:Nat) (U:Nat->Prop) (st:St) (a:Act) (w:World),b.toList.drop i=r->Yp tt (SC P J JF hs) b.toList key r K st->Inv W U st a w->(∀k,key<=k->¬U k)->a.tmps.size=N->
  (∀U' st' B w',Inv W U' st' B w'->(∀k,key+16*r.length<=k->¬U' k)->B.tmps.size=N->K st'->Q .normal B w')->wpOps P b Q (List.range' i r.length) a w
 | [],i,key,U,st,a,w,_,h,hI,hk,hs,hQ=>hQ U st a w hI (by simpa using hk) hs h
 |o::r,i,key,U,st,a,w,hr,h,hI,hk,hs,hQ=>by
  have hi:b.toList[i]?=some o:=by
   have:=congrArg (fun l=>l[0]?) hr;simpa using this
  have d:b.toList.drop (i+1)=r:=by
   have:=congrArg List.tail hr;simpa using this
  rw [Az,B3,wpOps_cons];refine wpOp_mono ?_ (Zqq A (by simpa using hi) h hI (fun k a _=>hk k a) (fun t F=>by rw [hs];exact D o (Ah hi) t F));rintro B w' ⟨st',e,G,f⟩;refine Zqi A D r (i+1) (key+16) _ st' B w' d f e (fun k c C=>?_) yE (fun U' g O E M L I H=>hQ U' g O E M (fun k c=>L k (by simp at c;omega)) I H);rcases C with C|C
  .exact hk k yE C
  .omega
end
end
section
open Go.RowKit
def Zzq:Option TI->Bool
 |some (.slice _ _ _ z)=>z.all Zma
 |_=>false
def cls(tt:Nat->Option TI)(hs:FuncId->Nat):Op->Nat
 |.move _=>0
 |.assign _=>0
 |.pick _ _ _=>0
 |.build _ _=>0
 |.nilCheck _=>0
 |.binOp _ _ _ _ _=>0
 |.unOp _ _ _=>0
 |.convert _ t _=>if Zdu (tt t)=true then 1 else 0
 |.slice t _ lo hi _=>if Zdu (tt t)=true then 0 else if lo.isSome&&hi.isNone then 4 else 3
 |.fieldAddr _ _ _=>0
 |.field _ _ _=>0
 |.index _ _ _=>0
 |.extract _ _=>0
 |.alloc _=>1
 |.box _ _=>1
 |.load _ _=>1
 |.makeMap _ _=>1
 |.lookup _ _ _ _=>1
 |.makeSlice _ _ _=>1
 |.indexAddr _ _ _=>1
 |.buildSlice t _ ps=>if ps.size=0\/Zzq (tt t)=true then 2 else 3
 |.call ⟨.builtin .len,_,_⟩=>1
 |.call ⟨.builtin .max,_,_⟩=>0
 |.call ⟨.builtin .min,_,_⟩=>0
 |.call ⟨.value (.func f),_,_⟩=>if hs f=0\/hs f=4 then 1 else 4
 |_=>4
section
variable {P:Program} {W:Zbb} {U:Nat->Prop} {key:Nat} {st st':St} {w w':World} {a:Act} {tt:Nat->Option TI} {S:Ctx} {Q:Exit->Act->World->Prop}
def Zbu(tt:Nat->Option TI)(S:Ctx)(key:Nat)(o:Oper)(st:St)(v:SV)(u:List (Nat×Ob)):Prop:=
 match Xe o.op with
 |some c=>Zca S c.1 (S.hd c.1) key st (evs tt st c.2.1 c.2.2) v u
 |none=>match XA o.op with
  |some c=>∃fc,ZqU (st.sl c.1)=some fc/\S.hd fc.1=0/\Zca S fc.1 0 key st (evs tt st c.2.1 c.2.2++fc.2.map Zmi) v u
  |none=>opE tt key o st=some (v,u)
def opR(tt:Nat->Option TI)(S:Ctx)(all:List Oper)(key:Nat)(o:Oper)(st:St)(v:SV)(u:List (Nat×Ob)):Prop:=
 match Zbo all o with
 |none=>Zbu tt S key o st v u
 |some (none,_)=>v=.und/\u=[]
 |some (some t,want)=>gK (st.sl t) want (Zbu tt S key o st v u) (v=.und/\u=[])
theorem ZxC[NW]{o:Oper}{K:St->Prop}:opS tt S key o K st↔∃v u,Zbu tt S key o st v u/\K ((st.put o.dst v).app u):=by
 cases hc:Xe o.op with
 |some c=>
  simp only[opS,Zbu,hc];exact Znh
 |none=>
  simp only[opS,Zbu,hc];cases hd:XA o.op with
  |some c=>
   simp only;constructor
   .intro h;unfold Y8 at h;split at h
    .rename_i D a;obtain ⟨C,h⟩:=h;obtain ⟨v,u,B,A⟩:=Znh.1 h;exact ⟨v,u,⟨D,a,C,B⟩,A⟩
    .exact h.elim
   .rintro ⟨v,u,⟨D,a,C,B⟩,A⟩;rw [a];exact ⟨C,Znh.2 ⟨v,u,B,A⟩⟩
  |none=>
   simp only;constructor
   .intro h;unfold Y8 at h;split at h
    .rename_i r E;exact ⟨r.1,r.2,E,h⟩
    .exact h.elim
   .rintro ⟨v,u,B,A⟩;rw [B];exact A
theorem Zi8[NW]{all:List Oper}{o:Oper}{K:St->Prop}:opG tt S all key o K st↔∃v u,opR tt S all key o st v u/\K ((st.put o.dst v).app u):=by
 have a:K (st.put o.dst .und)↔∃v u,(v=SV.und/\u=[])/\K ((st.put o.dst v).app u):=by
  constructor
  .intro h;exact ⟨.und,[],⟨rfl,rfl⟩,h⟩
  .rintro ⟨v,u,⟨rfl,rfl⟩,h⟩;exact h
 cases hg:Zbo all o with
 |none=>simp only[opG,opR,hg];exact ZxC
 |some q=>
  obtain ⟨q,b⟩:=q;cases q with
  |none=>simp only[opG,opR,hg];exact a
  |some t=>
   simp only[opG,opR,hg,gK];by_cases B:ZaY (st.sl t)=true
   .by_cases A:(QC (st.sl t)==b)=true
    .simp only[B,A,if_true];exact ZxC
    .simp only[B,A,if_true,if_false];exact a
   .by_cases A:ZuD (st.sl t)=true
    .simp only[B,A,if_true,if_false];exact a
    .simp only[B,A,if_false];simp
theorem Zeu[NW]{ts:List TypeId}{xs:List Operand}(h:∀x∈xs,∀t,st.ev tt t x=st'.ev tt t x):evs tt st ts xs=evs tt st' ts xs:=by
 unfold evs;refine AW fun p A=>h p.2 ?_ p.1;rw [<-Zgj ts xs];exact AD.2 ⟨p,A,rfl⟩
def Wk(st st':St)(U:Nat->Prop):Prop:=∀k,U k->st'.ob k=st.ob k\/st'.ob k=Yv (st.ob k)
theorem Wk.of(h:∀k,U k->st.ob k=st'.ob k):Wk st st' U:=fun k A=>.inl (h k A).symm
theorem ZiA(a:Wk st st' U):∀{xs:List AV},Zag U xs->Y9 st xs=Y9 st' xs
 | [],_=>rfl
 |x::r,h=>by
  have A:ZcK st x=ZcK st' x:=by
   cases x with
   |row k=>
    simp only[ZcK];rcases a k (h (.row k) yG) with e|e
    .rw [e]
    .rw [e];cases st.ob k<;>rfl
   |_=>rfl
  have hr:=ZiA a (xs:=r) (fun y m=>h y (by simp [m]));simp only[Y9,A,hr]
theorem Zfn[NW](a:Wk st st' U):∀{xs:List SV},(∀x∈xs,svU U x)->Yj st xs=Yj st' xs
 | [],_=>rfl
 |x::r,h=>by
  have A:ZdX st x=ZdX st' x:=by
   cases x with
   |p ag cs=>simp only[ZdX,ZiA a (h (.p ag cs) yG)]
   |_=>rfl
  have hr:=Zfn a (xs:=r) (fun y m=>h y (by simp [m]));simp only[Yj,A,hr]
theorem ZvN(a:Wk st st' U){t:Option TI}{x:SV}(A:svU U x):Zat st t x=Zat st' t x:=by
 cases x with
 |bp k off=>
  simp only[Zat];rcases a k A with e|e
  .rw [e]
  .rw [e];cases st.ob k<;>rfl
 |rp k m i off=>
  simp only[Zat];rcases a k A with e|e
  .rw [e]
  .rw [e];cases st.ob k<;>rfl
 |p ag cs=>cases ag with
  |true=>rfl
  |false=>cases cs with
   |nil=>rfl
   |cons y r=>cases r<;>cases y<;>first|rfl|(rename_i z;cases z<;>rfl)|(rename_i z _ _;cases z<;>rfl)
 |_=>rfl
theorem Zx6(a:Wk st st' U){t:Option TI}{x:SV}(A:svU U x):ZpB st t x=ZpB st' t x:=by
 unfold ZpB;split<;>try rfl
 rename_i k;rcases a k (A (.row k) yG) with e|e
 .rw [e]
 .rw [e];cases st.ob k<;>rfl
theorem ZsN(a:Wk st st' U){m:Nat}{x i:SV}(A:svU U x):Zcy st m x i=Zcy st' m x i:=by
 unfold Zcy;split<;>try rfl
 rename_i k _ _;rcases a k (A (.row k) yG) with e|e
 .rw [e]
 .rw [e];cases st.ob k<;>rfl
theorem ZyR(a:st.ob=st'.ob)(x:SV):ZlB st x=ZlB st' x:=by
 unfold ZlB;rw [a]
theorem Zov[NW](a:st.ob=st'.ob):∀xs:List SV,Zfr st xs=Zfr st' xs
 | []=>rfl
 |x::r=>by simp only[Zfr,ZyR a x,Zov a r]
theorem ZwC(a:Wk st st' U){t:Option TI}{x i:SV}{ok:Bool}(A:svU U x):ZhF st t x i ok=ZhF st' t x i ok:=by
 unfold ZhF;split<;>try rfl
 rename_i k;rcases a k (A (.row k) yG) with e|e
 .rw [e]
 .rw [e];cases st.ob k<;>rfl
theorem ZwP(a:Wk st st' U){x:SV}(A:svU U x):ZjB st x=ZjB st' x:=by
 unfold ZjB;split<;>try rfl
 rename_i k;rcases a k (A (.row k) yG) with e|e
 .rw [e]
 .rw [e];cases st.ob k<;>rfl
theorem ZwV[NW](a:Wk st st' U){s t:Nat}{x:SV}(A:svU U x):ZhW tt st s t x=ZhW tt st' s t x:=by
 unfold ZhW;rw [ZwP a A]
def Mk(st st':St)(U:Nat->Prop):Prop:=∀k,U k->st'.ob k=st.ob k\/st'.ob k=.gone
theorem ZmI(c:Mk st st' U):∀{xs:List AV}{r:List CT},Zag U xs->Y9 st' xs=some r->Y9 st xs=some r
 | [],_,_,h=>h
 |x::xs,r,hu,h=>by
  simp only[Y9]at h ⊢;obtain ⟨a,A,h⟩:=AI.1 h;obtain ⟨b,C,rfl⟩:=AE.1 h;have B:ZcK st x=some a:=by
   cases x with
   |row k=>
    simp only[ZcK]at A ⊢;rcases c k (hu (.row k) yG) with e|e
    .rwa [e]at A
    .rw [e]at A;simp at A
   |_=>exact A
  rw [B,AQ,ZmI c (fun y m=>hu y (by simp [m])) C];rfl
theorem Zid[NW](c:Mk st st' U):∀{xs:List SV}{r:List (Bool×List CT)},(∀x∈xs,svU U x)->Yj st' xs=some r->Yj st xs=some r
 | [],_,_,h=>h
 |x::xs,r,hu,h=>by
  simp only[Yj]at h ⊢;obtain ⟨a,A,h⟩:=AI.1 h;obtain ⟨b,D,rfl⟩:=AE.1 h;have B:ZdX st x=some a:=by
   cases x with
   |p ag cs=>
    simp only[ZdX]at A ⊢;obtain ⟨l,C,rfl⟩:=AE.1 A;rw [ZmI c (hu (.p ag cs) yG) C];rfl
   |_=>exact A
  rw [B,AQ,Zid c (fun y m=>hu y (by simp [m])) D];rfl
theorem Zv4(a:Mk st st' U){t:Option TI}{x r:SV}(A:svU U x)(h:Zat st' t x=some r):Zat st t x=some r:=by
 cases x with
 |bp k off=>
  simp only[Zat]at h ⊢;rcases a k A with e|e
  .rwa [e]at h
  .rw [e]at h;simp at h
 |rp k m i off=>
  simp only[Zat]at h ⊢;rcases a k A with e|e
  .rwa [e]at h
  .rw [e]at h;simp at h
 |p ag cs=>cases ag with
  |true=>exact h
  |false=>cases cs with
   |nil=>exact h
   |cons y r=>cases r<;>cases y<;>first|exact h|(rename_i z;cases z<;>exact h)|(rename_i z _ _;cases z<;>exact h)
 |_=>exact h
theorem Zy5(a:Mk st st' U){t:Option TI}{x r:SV}(A:svU U x)(h:ZpB st' t x=some r):ZpB st t x=some r:=by
 unfold ZpB at h ⊢;split at h<;>try exact h
 rename_i k;rcases a k (A (.row k) yG) with e|e
 .rwa [e]at h
 .rw [e]at h;simp at h
theorem ZsV(a:Mk st st' U){m:Nat}{x i r:SV}(A:svU U x)(h:Zcy st' m x i=some r):Zcy st m x i=some r:=by
 unfold Zcy at h ⊢;split at h<;>try exact h
 rename_i k _ _;rcases a k (A (.row k) yG) with e|e
 .rwa [e]at h
 .rw [e]at h;simp at h
theorem Zwf(a:Mk st st' U){t:Option TI}{x i r:SV}{A:Bool}(B:svU U x)(h:ZhF st' t x i A=some r):ZhF st t x i A=some r:=by
 unfold ZhF at h ⊢;split at h<;>try exact h
 rename_i k;rcases a k (B (.row k) yG) with e|e
 .rwa [e]at h
 .rw [e]at h;simp at h
theorem ZvT(a:Mk st st' U){x r:SV}(A:svU U x)(h:ZjB st' x=some r):ZjB st x=some r:=by
 unfold ZjB at h ⊢;split at h<;>try exact h
 rename_i k;rcases a k (A (.row k) yG) with e|e
 .rwa [e]at h
 .rw [e]at h;simp at h
theorem ZrF[NW]{o:Oper}{B a:Nat->SV}{ob:Nat->Ob}{n n':Nat}(A:∀x∈o.op.operands,∀t,St.ev tt ⟨B,ob,n⟩ t x=St.ev tt ⟨a,ob,n'⟩ t x):opE tt key o ⟨B,ob,n⟩=opE tt key o ⟨a,ob,n'⟩:=by
 obtain ⟨I,op,ty,E,K,J⟩:=o;cases op with
 |build t d=>
  have C:∀D z,d.toList.map (Zhs tt ⟨B,ob,n⟩ D z)=d.toList.map (Zhs tt ⟨a,ob,n'⟩ D z):=fun D z=>AW fun p C=>by
   have:=A p.2 (by simp [Op.operands];exact ⟨p.1,by simpa using C⟩) 0;unfold Zhs;split
   .rfl
   .rw [this]
  simp only[opE,C]
 |buildSlice t len d=>
  have C:∀e,(d.toList.map fun p=>St.ev tt ⟨B,ob,n⟩ e p.2)=d.toList.map fun p=>St.ev tt ⟨a,ob,n'⟩ e p.2:=fun e=>AW fun p C=>A p.2 (by simp [Op.operands];exact ⟨p.1,by simpa using C⟩) e;have G:∀m l,Xt ⟨B,ob,n⟩ m l=Xt ⟨a,ob,n'⟩ m l:=fun m l=>by
   have h1:∀x,avT ⟨B,ob,n⟩ x=avT ⟨a,ob,n'⟩ x:=fun x=>by cases x<;>rfl
   have h2:∀xs,ZhB ⟨B,ob,n⟩ xs=ZhB ⟨a,ob,n'⟩ xs:=fun xs=>by
    induction xs with
    |nil=>rfl
    |cons x xs ih=>simp only[ZhB,h1,ih]
   induction l with
   |nil=>rfl
   |cons x xs ih=>cases x<;>simp only[Xt,h2,ih]
  have F:∀ks,Z8 ⟨B,ob,n⟩ ks=Z8 ⟨a,ob,n'⟩ ks:=fun ks=>by
   induction ks with
   |nil=>rfl
   |cons k r ih=>simp only[Z8,ih]
  simp only[opE,C,G,F]
 |slice t x lo hi mx=>
  simp only[Op.operands]at A;cases mx with
  |some _=>rfl
  |none=>
   have hx:=fun t=>A x yG t;cases lo with
   |none=>cases hi with
    |none=>simp only[opE,hx,AS];rfl
    |some h=>have hh:=fun t=>A h yG t;simp only[opE,hx,hh,AS,AT];rfl
   |some l=>
    have q:=fun t=>A l yG t;cases hi with
    |none=>simp only[opE,hx,q,AS,AT];rfl
    |some h=>have hh:=fun t=>A h yG t;simp only[opE,hx,q,hh,AT];rfl
 |call c=>
  obtain ⟨g,args,ts⟩:=c;cases g with
  |builtin b=>
   have:=Zeu (tt:=tt) (st:=⟨B,ob,n⟩) (st':=⟨a,ob,n'⟩) (ts:=ts.toList) (xs:=args.toList) (fun x m t=>A x (by simp [Op.operands,Call.operands];simpa using m) t);simp only[opE,this];unfold Zg3;split<;>rfl
  |value f=>rfl
  |invoke r m=>rfl
 |move x=>have:=fun t=>A x (by simp [Op.operands]) t;simp only[opE,this]
 |assign x=>have:=fun t=>A x (by simp [Op.operands]) t;simp only[opE,this]
 |pick c x y=>have h1:=fun t=>A c (by simp [Op.operands]) t;have h2:=fun t=>A x (by simp [Op.operands]) t;have h3:=fun t=>A y (by simp [Op.operands]) t;simp only[opE,h1,h2,h3]
 |alloc t=>rfl
 |box t x=>have:=fun t=>A x (by simp [Op.operands]) t;simp only[opE,this]
 |load t x=>have:=fun t=>A x (by simp [Op.operands]) t;simp only[opE,this];rfl
 |store t x v=>have h1:=fun t=>A x (by simp [Op.operands]) t;have h2:=fun t=>A v (by simp [Op.operands]) t;simp only[opE,h1,h2];rfl
 |nilCheck x=>have:=fun t=>A x (by simp [Op.operands]) t;simp only[opE,this]
 |binOp op t x y t'=>have h1:=fun t=>A x (by simp [Op.operands]) t;have h2:=fun t=>A y (by simp [Op.operands]) t;simp only[opE,h1,h2]
 |unOp op t x=>have:=fun t=>A x (by simp [Op.operands]) t;simp only[opE,this]
 |convert s t x=>have:=fun t=>A x (by simp [Op.operands]) t;simp only[opE,this];rfl
 |makeFunc fn first j=>
  cases fn with
  |func f=>
   have H:j.toList.map (St.ev tt ⟨B,ob,n⟩ 0)=j.toList.map (St.ev tt ⟨a,ob,n'⟩ 0):=AW fun x hx=>A x (by simp [Op.operands];exact .inr (by simpa using hx)) 0;simp only[opE,H,Zov (st:=⟨B,ob,n⟩) (st':=⟨a,ob,n'⟩) rfl]
  |_=>rfl
 |makeMap t r=>cases r<;>rfl
 |lookup t x i ok=>have h1:=fun t=>A x (by simp [Op.operands]) t;have h2:=fun t=>A i (by simp [Op.operands]) t;simp only[opE,h1,h2];rfl
 |mapUpdate t x i v=>have h1:=fun t=>A x (by simp [Op.operands]) t;have h2:=fun t=>A i (by simp [Op.operands]) t;have h3:=fun t=>A v (by simp [Op.operands]) t;simp only[opE,h1,h2,h3];rfl
 |makeSlice t x y=>have h1:=fun t=>A x (by simp [Op.operands]) t;have h2:=fun t=>A y (by simp [Op.operands]) t;simp only[opE,h1,h2]
 |fieldAddr t x f=>have:=fun t=>A x (by simp [Op.operands]) t;simp only[opE,this]
 |field t x f=>have:=fun t=>A x (by simp [Op.operands]) t;simp only[opE,this]
 |indexAddr t x y=>have h1:=fun t=>A x (by simp [Op.operands]) t;have h2:=fun t=>A y (by simp [Op.operands]) t;simp only[opE,h1,h2];rfl
 |index t x y=>have h1:=fun t=>A x (by simp [Op.operands]) t;have h2:=fun t=>A y (by simp [Op.operands]) t;simp only[opE,h1,h2]
 |extract x i=>have:=fun t=>A x (by simp [Op.operands]) t;simp only[opE,this]
 |_=>rfl
theorem ZxF(A:Nat->SV)(ob ob':Nat->Ob)(n n' t:Nat)(x:Operand):St.ev tt ⟨A,ob,n⟩ t x=St.ev tt ⟨A,ob',n'⟩ t x:=by cases x<;>rfl
theorem ZAN{st st':St}(h:∀k,U k->st.ob k=st'.ob k){x:AV}(A:avU U x):avT st x=avT st' x:=by
 cases x with
 |row k=>simp only[avT];rw [h k A]
 |c x=>cases x<;>rfl
 |nil e m=>rfl
 |n x=>rfl
 |dead=>rfl
theorem Zqy[NW]{st st':St}(h:∀k,U k->st.ob k=st'.ob k):∀{xs:List AV},Zag U xs->ZhB st xs=ZhB st' xs
 | [],_=>rfl
 |x::r,hx=>by simp only[ZhB];rw [ZAN h (hx x yG),Zqy h fun y m=>hx y (by simp [m])]
theorem ZmS[NW]{st st':St}{m:Nat}(h:∀k,U k->st.ob k=st'.ob k):∀{xs:List SV},(∀v∈xs,svU U v)->Xt st m xs=Xt st' m xs
 | [],_=>rfl
 |.p a cs::r,hx=>by
  simp only[Xt];rw [Zqy h (hx (.p a cs) yG),ZmS h fun v A=>hx v (by simp [A])]
 |.any::r,_=>rfl
 |.und::r,_=>rfl
 |.tup _::r,_=>rfl
 |.bp _ _::r,_=>rfl
 |.rp _ _ _ _::r,_=>rfl
 |.ep _ _::r,_=>rfl
 |.fn _::r,_=>rfl
theorem Zyr{x:AV}{C:CT}{ks:List Nat}{d:Nat}(h:avT st x=some (C,ks,d))(B:avU U x):∀k∈ks,U k:=by
 intro k A;cases x with
 |c y=>cases y<;>simp only[avT,A0,A9]at h<;>(rw [<-h.2.1]at A;simp at A)
 |nil e m=>
  simp only[avT]at h;split at h<;>simp only[A0,A9,reduceCtorEq]at h
  rw [<-h.2.1]at A;simp at A
 |row j=>
  simp only[avT]at h;split at h
  .split at h<;>simp only[A0,A9]at h
   .rw [<-h.2.1]at A;simp at A
   .rw [<-h.2.1]at A;simp at A;subst A;exact B
  .simp at h
 |n x=>simp [avT]at h
 |dead=>simp [avT]at h
theorem ZoL[NW]:∀{xs:List AV}{cts:List CT}{ks:List Nat}{d:Nat},ZhB st xs=some (cts,ks,d)->Zag U xs->∀k∈ks,U k
 | [],_,_,_,h,_,k,A=>by simp only[ZhB,A0,A9]at h;rw [<-h.2.1]at A;simp at A
 |x::r,_,_,_,h,hu,k,A=>by
  simp only[ZhB]at h;obtain ⟨⟨J,F,H⟩,D,h⟩:=AI.1 h;obtain ⟨⟨I,E,G⟩,C,h⟩:=AE.1 h;simp only[A9]at h;rw [<-h.2.1]at A;rcases AB.1 A with A|A
  .exact Zyr D (hu x yG) k A
  .exact ZoL C (fun y B=>hu y (by simp [B])) k A
theorem Zhe[NW]{m:Nat}:∀{xs:List SV}{E:List (List CT)}{ks:List Nat}{d:Nat},Xt st m xs=some (E,ks,d)->(∀v∈xs,svU U v)->∀k∈ks,U k
 | [],_,_,_,h,_,k,A=>by simp only[Xt,A0,A9]at h;rw [<-h.2.1]at A;simp at A
 |x::r,_,_,_,h,hu,k,A=>by
  cases x with
  |p a cs=>
   simp only[Xt]at h;split at h
   .obtain ⟨⟨K,G,I⟩,D,h⟩:=AI.1 h;obtain ⟨⟨J,F,H⟩,C,h⟩:=AE.1 h;simp only[A9]at h;rw [<-h.2.1]at A;rcases AB.1 A with A|A
    .exact ZoL D (hu (.p a cs) yG) k A
    .exact Zhe C (fun v B=>hu v (by simp [B])) k A
   .simp at h
  |_=>simp [Xt]at h
theorem ZuS{st st':St}{ks:List Nat}(h:∀k∈ks,st.ob k=st'.ob k):Z8 st ks=Z8 st' ks:=by
 induction ks with
 |nil=>rfl
 |cons k r ih=>simp only[Z8,h k yG,ih fun j A=>h j (by simp [A])]
theorem Zpt{ks:List Nat}{p:Nat×Ob}(h:p∈Z8 st ks):p.1∈ks/\p.2=Yv (st.ob p.1):=by
 induction ks with
 |nil=>simp [Z8]at h
 |cons k r ih=>
  simp only[Z8,AM]at h;rcases h with rfl|h
  .exact ⟨yG,rfl⟩
  .exact ⟨by simp [(ih h).1],(ih h).2⟩
theorem Znj[NW]{hs:FuncId->Nat}{o:Oper}{D:Nat->SV}{ob ob':Nat->Ob}{n n':Nat}(h:cls tt hs o.op=0\/(cls tt hs o.op<=3/\(∀k,U k->ob k=ob' k)/\∀t x,svU U (St.ev tt ⟨D,ob,n⟩ t x))\/(cls tt hs o.op<=1/\Wk ⟨D,ob,n⟩ ⟨D,ob',n'⟩ U/\∀t x,svU U (St.ev tt ⟨D,ob,n⟩ t x))):opE tt key o ⟨D,ob,n⟩=opE tt key o ⟨D,ob',n'⟩:=by
 have he:=fun t x=>ZxF (tt:=tt) D ob ob' n n' t x;have q:cls tt hs o.op<=3:=by rcases h with h|h|h<;>omega
 have j:cls tt hs o.op=0\/(Wk ⟨D,ob,n⟩ ⟨D,ob',n'⟩ U/\∀t x,svU U (St.ev tt ⟨D,ob',n'⟩ t x)):=by
  rcases h with h|h|h
  .exact .inl h
  .exact .inr ⟨fun k hk=>.inl (h.2.1 k hk).symm,fun t x=>he t x ▸ h.2.2 t x⟩
  .exact .inr ⟨h.2.1,fun t x=>he t x ▸ h.2.2 t x⟩
 obtain ⟨S,op,ty,K,V,T⟩:=o;cases op with
 |build t d=>
  have J:∀I z,d.toList.map (Zhs tt ⟨D,ob,n⟩ I z)=d.toList.map (Zhs tt ⟨D,ob',n'⟩ I z):=fun I z=>AW fun p J=>by
   unfold Zhs;split
   .rfl
   .rw [he]
  simp only[opE,J]
 |buildSlice t len d=>
  have R:2<=cls tt hs (.buildSlice t len d):=by simp only[cls];split<;>omega
  have H:(∀k,U k->ob k=ob' k)/\∀t x,svU U (St.ev tt ⟨D,ob,n⟩ t x):=by
   rcases h with h|h|h
   .simp only at h;omega
   .exact h.2
   .simp only at h;omega
  obtain ⟨E,F⟩:=H;simp only[opE,he];split
  .rename_i e m _ z _;have G:∀v∈d.toList.map (fun p=>St.ev tt ⟨D,ob',n'⟩ e p.2),svU U v:=fun v L=>by obtain ⟨p,_,rfl⟩:=AD.1 L;rw [<-he];exact F _ _
   rw [ZmS (U:=U) (st:=⟨D,ob,n⟩) (st':=⟨D,ob',n'⟩) E G];cases hel:Xt ⟨D,ob',n'⟩ m (d.toList.map fun p=>St.ev tt ⟨D,ob',n'⟩ e p.2) with
   |none=>rfl
   |some a=>
    have hk:=Zhe (U:=U) hel G;have:=ZuS (st:=⟨D,ob,n⟩) (st':=⟨D,ob',n'⟩) (ks:=a.2.1) (fun k M=>E k (hk k M));simp only[AQ,this]
  .rfl
 |load t x=>
  obtain ⟨E,F⟩:=j.resolve_left (by simp [cls]);simp only[opE,he];rw [ZvN (U:=U) (st:=⟨D,ob,n⟩) (st':=⟨D,ob',n'⟩) E (F 0 x)]
 |indexAddr t x y=>
  obtain ⟨E,F⟩:=j.resolve_left (by simp [cls]);simp only[opE,he];split
  .rw [ZsN (U:=U) (st:=⟨D,ob,n⟩) (st':=⟨D,ob',n'⟩) E (F 0 x)]
  .rfl
 |call c=>
  obtain ⟨u,args,ts⟩:=c;cases u with
  |builtin b=>
   have A:evs tt ⟨D,ob,n⟩ ts.toList args.toList=evs tt ⟨D,ob',n'⟩ ts.toList args.toList:=Zeu fun x _ t=>he t x;simp only[opE,A];unfold Zg3;split
   .rename_i t _ v P B;obtain ⟨E,F⟩:=j.resolve_left (by simp [cls]);have G:svU U v:=by
     have O:v∈evs tt ⟨D,ob',n'⟩ ts.toList args.toList:=by simp [B]
     obtain ⟨p,_,rfl⟩:=AD.1 O;exact F _ _
    rw [Zx6 (U:=U) (st:=⟨D,ob,n⟩) (st':=⟨D,ob',n'⟩) E G]
   .simp [cls]at q
   .rfl
   .rfl
   .rfl
  |value f=>rfl
  |invoke r m=>rfl
 |store t x v=>simp [cls]at q
 |makeFunc fn first caps=>simp [cls]at q
 |mapUpdate t x i v=>simp [cls]at q
 |makeMap t r=>cases r<;>rfl
 |lookup t x i ok=>
  obtain ⟨E,F⟩:=j.resolve_left (by simp [cls]);simp only[opE,he];rw [ZwC (U:=U) (st:=⟨D,ob,n⟩) (st':=⟨D,ob',n'⟩) E (F 0 x)]
 |convert s t x=>
  simp only[opE,he];by_cases w:Zdu (tt t)=true
  .obtain ⟨E,F⟩:=j.resolve_left (by simp [cls,w]);rw [ZwV (U:=U) (st:=⟨D,ob,n⟩) (st':=⟨D,ob',n'⟩) E (F 0 x)]
  .have e:∀st:St,ZhW tt st s t (St.ev tt ⟨D,ob',n'⟩ 0 x)=Zuy (tt s) (tt t) (St.ev tt ⟨D,ob',n'⟩ 0 x):=fun st=>by
    unfold ZhW;rw [yn (by simp [w])]
   rw [e,e]
 |slice t x lo hi mx=>
  cases mx with
  |some _=>rfl
  |none=>
   by_cases g:Zdu (tt t)=true
   .have C:Zcs (tt t)=false:=by
     unfold Zdu at g;split at g
     .rename_i e;rw [e];rfl
     .simp at g
    have G:∀l h v,ZaE ⟨D,ob,n⟩ key (tt t) l h v=ZaE ⟨D,ob',n'⟩ key (tt t) l h v:=fun l h v=>by
     unfold ZaE;split
     .simp [C]
     .rfl
     .rfl
    cases lo<;>cases hi<;>simp only[opE,he,AS,AT,G]
   .have R:2<cls tt hs (.slice t x lo hi none):=by simp only[cls];rw [yn g];split<;>omega
    have H:(∀k,U k->ob k=ob' k)/\∀t x,svU U (St.ev tt ⟨D,ob,n⟩ t x):=by
     rcases h with h|h|h
     .simp only at h;omega
     .exact h.2
     .simp only at h;omega
    obtain ⟨E,F⟩:=H;have G:∀l h v,svU U v->ZaE ⟨D,ob,n⟩ key (tt t) l h v=ZaE ⟨D,ob',n'⟩ key (tt t) l h v:=fun l h v N=>by
     unfold ZaE;split
     .rename_i k;have hk:U k:=N (.row k) yG;simp only[E k hk]
     .rfl
     .rfl
    simp only[opE,he];exact G _ _ _ (he 0 x ▸ F 0 x)
 |_=>first|rfl|simp only[opE,he]
theorem Zfd{x y:Option SV}{r:SV×List (Nat×Ob)}(h:∀v,x=some v->y=some v)(A:Zce x=some r):Zce y=some r:=by
 obtain ⟨v,B,rfl⟩:=AE.1 A;rw [h v B];rfl
theorem ZBC[NW]{hs:FuncId->Nat}{o:Oper}{B:Nat->SV}{ob ob':Nat->Ob}{n n':Nat}{r:SV×List (Nat×Ob)}(C:cls tt hs o.op<=1)(a:Mk ⟨B,ob,n⟩ ⟨B,ob',n'⟩ U)(D:∀t x,svU U (St.ev tt ⟨B,ob,n⟩ t x))(h:opE tt key o ⟨B,ob',n'⟩=some r):opE tt key o ⟨B,ob,n⟩=some r:=by
 have he:=fun t x=>ZxF (tt:=tt) B ob ob' n n' t x;by_cases F:cls tt hs o.op=0
 .rw [Znj (U:=U) (n':=n') (ob':=ob') (.inl F)];exact h
 obtain ⟨L,op,ty,G,N,M⟩:=o;cases op with
 |load t x=>
  simp only[opE,he]at h ⊢;exact Zfd (fun v A=>Zv4 a (he 0 x ▸ D 0 x) A) h
 |indexAddr t x y=>
  simp only[opE,he]at h ⊢;split at h
  .exact Zfd (fun v A=>ZsV a (he 0 x ▸ D 0 x) A) h
  .simp at h
 |lookup t x i ok=>
  simp only[opE,he]at h ⊢;exact Zfd (fun v A=>Zwf a (he 0 x ▸ D 0 x) A) h
 |convert s t x=>
  simp only[opE,he]at h ⊢;refine Zfd (fun v A=>?_) h;unfold ZhW at A ⊢;split at A
  .rename_i E;rw [yp E];exact ZvT a (he 0 x ▸ D 0 x) A
  .rename_i E;rw [yn E];exact A
 |call c=>
  obtain ⟨d,args,ts⟩:=c;cases d with
  |builtin b=>
   have e:evs tt ⟨B,ob,n⟩ ts.toList args.toList=evs tt ⟨B,ob',n'⟩ ts.toList args.toList:=Zeu fun x _ t=>he t x;simp only[opE,e]at h ⊢;unfold Zg3 at h ⊢;split at h
   .rename_i t _ v K g;have j:svU U v:=by
     have J:v∈evs tt ⟨B,ob',n'⟩ ts.toList args.toList:=by simp [g]
     obtain ⟨p,_,rfl⟩:=AD.1 J;rw [<-he];exact D _ _
    exact Zfd (fun w H=>Zy5 a j H) h
   .simp [cls]at C
   .exact h
   .exact h
   .exact h
  |value f=>exact h
  |invoke r m=>exact h
 |slice t x lo hi mx=>simp only[cls]at C F;split at C<;>rename_i I<;>simp [I]at F<;>(split at C<;>omega)
 |buildSlice t len parts=>simp only[cls]at C;split at C<;>omega
 |store t x v=>simp [cls]at C
 |makeFunc fn first caps=>simp [cls]at C
 |mapUpdate t x i v=>simp [cls]at C
 |makeMap t r=>cases r<;>exact h
 |_=>first|exact h|(simp only[opE,he]at h ⊢;exact h)
theorem Y2:∀(cts:List (Bool×CT)) (key:Nat),key<=(Yr key cts).2.2/\∀p∈(Yr key cts).2.1,key<=p.1/\p.1<(Yr key cts).2.2
 | [],key=>by simp [Yr]
 |(true,x)::r,key=>Y2 r key
 |(false,ct)::r,key=>by
  cases ct with
  |sl e m xs=>
   obtain ⟨C,B⟩:=Y2 r (key+1);refine ⟨by simp only[Yr];omega,fun p A=>?_⟩;simp only[Yr,AM]at A ⊢;rcases A with rfl|A
   .exact ⟨AK _,by simp only;omega⟩
   .have:=B p A;omega
  |int k n=>exact Y2 r key
  |bool b=>exact Y2 r key
  |str s=>exact Y2 r key
  |ifc s=>exact Y2 r key
  |any=>exact Y2 r key
  |nl a b=>exact Y2 r key
  |pt s=>exact Y2 r key
  |fn f s=>exact Y2 r key
  |mp a b s=>exact Y2 r key
theorem Ziz[NW]:∀(a:List RT) (key:Nat),key<=(ZX key a).2.2/\∀p∈(ZX key a).2.1,key<=p.1/\p.1<(ZX key a).2.2
 | [],key=>by simp [ZX]
 |x::r,key=>by
  obtain ⟨E,C⟩:=Y2 x.2 key;obtain ⟨D,B⟩:=Ziz r (Yr key x.2).2.2;refine ⟨by simp only[ZX];omega,fun p A=>?_⟩;simp only[ZX,AB]at A ⊢;rcases A with A|A
  .have:=C p A;omega
  .have:=B p A;omega
theorem Xp{v:Option SV}{r:SV×List (Nat×Ob)}(h:Zce v=some r):r.2=[]:=by
 obtain ⟨u,_,rfl⟩:=AE.1 h;rfl
theorem ZBc[NW]{hs:FuncId->Nat}{o:Oper}{r:SV×List (Nat×Ob)}(G:∀t x,svU U (st.ev tt t x))(h:opE tt key o st=some r):(cls tt hs o.op=0->r.2=[])/\(cls tt hs o.op<=2->∀p∈r.2,key<=p.1/\p.1<key+16)/\(cls tt hs o.op<=3->∀p∈r.2,(key<=p.1/\p.1<key+16)\/(U p.1/\p.2=Yv (st.ob p.1))):=by
 have D:r.2=[]->(cls tt hs o.op=0->r.2=[])/\(cls tt hs o.op<=2->∀p∈r.2,key<=p.1/\p.1<key+16)/\(cls tt hs o.op<=3->∀p∈r.2,(key<=p.1/\p.1<key+16)\/(U p.1/\p.2=Yv (st.ob p.1))):=fun e=>⟨fun _=>e,fun _ p C=>by simp [e]at C,fun _ p C=>by simp [e]at C⟩
 obtain ⟨P,op,ty,H,V,T⟩:=o;cases op with
 |move x=>simp only[opE,A0]at h;exact D (by rw [<-h])
 |assign x=>simp only[opE,A0]at h;exact D (by rw [<-h])
 |pick c x y=>
  simp only[opE]at h;split at h
  .simp only[A0]at h;exact D (by rw [<-h])
  .simp at h
 |alloc t=>
  simp only[opE]at h;obtain ⟨z,_,rfl⟩:=AE.1 h;exact ⟨fun e=>by simp [cls]at e,fun _ p C=>by simp at C;subst C;simp,fun _ p C=>by simp at C;subst C;simp⟩
 |box t x=>
  simp only[opE]at h;split at h
  .simp only[A0]at h;subst h;exact ⟨fun e=>by simp [cls]at e,fun _ p C=>by simp at C;subst C;simp,fun _ p C=>by simp at C;subst C;simp⟩
  .simp at h
 |build t a=>
  simp only[opE]at h;split at h
  .obtain ⟨cs,_,rfl⟩:=AE.1 h;exact D rfl
  .simp at h
 |buildSlice t len a=>
  simp only[opE]at h;split at h
  .obtain ⟨⟨xs,ks,d⟩,F,h⟩:=AI.1 h;split at h
   .simp only[A0]at h;subst h;rename_i O _ _ z q l;have N:∀v∈a.toList.map (fun p=>st.ev tt O p.2),svU U v:=fun v K=>by obtain ⟨p,_,rfl⟩:=AD.1 K;exact G _ _
    have hk:=Zhe (U:=U) F N;refine ⟨fun e=>by simp only[cls]at e;split at e<;>simp at e,fun e p C=>?_,fun e p C=>?_⟩
    .by_cases hs:a.size=0
     .have:a=#[]:=by simpa using hs
      subst this;simp [Xt]at F;obtain ⟨_,rfl,_⟩:=F;simp [Z8]at C;subst C;simp
     .by_cases E:Zzq (tt t)=true
      .have L:z.all Zma=true:=by rw [q]at E;exact E
       have u:ks=[]:=by
        have h3:=l.2.2.2;rw [L]at h3;simpa using h3
       subst u;simp [Z8]at C;subst C;simp
      .simp [cls,hs,E]at e
    .rcases AB.1 C with C|C
     .obtain ⟨J,I⟩:=Zpt C;exact .inr ⟨hk _ J,I⟩
     .simp at C;subst C;simp
   .simp at h
  .simp at h
 |load t x=>exact D (Xp h)
 |store t x v=>exact ⟨fun e=>by simp [cls]at e,fun e=>by simp [cls]at e,fun e=>by simp [cls]at e⟩
 |makeFunc fn first caps=>exact ⟨fun e=>by simp [cls]at e,fun e=>by simp [cls]at e,fun e=>by simp [cls]at e⟩
 |mapUpdate t x i v=>exact ⟨fun e=>by simp [cls]at e,fun e=>by simp [cls]at e,fun e=>by simp [cls]at e⟩
 |lookup t x i ok=>exact D (Xp h)
 |makeMap t r=>
  cases r with
  |none=>
   simp only[opE,ZqV]at h;split at h
   .simp only[A0]at h;subst h;exact ⟨fun e=>by simp [cls]at e,fun _ p C=>by simp at C;subst C;simp,fun _ p C=>by simp at C;subst C;simp⟩
   .simp at h
  |some _=>simp [opE]at h
 |nilCheck x=>
  simp only[opE]at h;split at h<;>simp only[A0,reduceCtorEq]at h<;>exact D (by rw [<-h])
 |binOp op t x y t'=>exact D (Xp h)
 |unOp op t x=>exact D (Xp h)
 |convert s t x=>exact D (Xp h)
 |makeSlice t n c=>
  simp only[opE,Zuu]at h;split at h
  .split at h
   .obtain ⟨R,_,h⟩:=AI.1 h;split at h
    .simp only[A0]at h;subst h;exact ⟨fun e=>by simp [cls]at e,fun _ p C=>by simp at C;subst C;simp,fun _ p C=>by simp at C;subst C;simp⟩
    .simp at h
   .simp at h
  .simp at h
 |slice t x lo hi mx=>
  cases mx with
  |some _=>simp [opE]at h
  |none=>
   by_cases g:Zdu (tt t)=true
   .have w:Zcs (tt t)=false:=by
     unfold Zdu at g;split at g
     .rename_i e;rw [e];rfl
     .simp at g
    refine D ?_;simp only[opE,ZaE]at h;split at h
    .simp [w]at h
    .obtain ⟨v,_,rfl⟩:=AE.1 h;rfl
    .simp at h
   .have S:3<=cls tt hs (.slice t x lo hi none):=by simp only[cls];rw [yn g];split<;>omega
    refine ⟨fun e=>by simp only at e;omega,fun e=>by simp only at e;omega,fun e p C=>?_⟩;have A:∀d,mvS d (lo.map (st.ev tt 0)) (hi.map (st.ev tt 0))=false:=fun d=>by
     cases lo with
     |none=>rfl
     |some _=>cases hi with
      |none=>simp [cls,g]at e
      |some _=>rfl
    simp only[opE,ZaE]at h;split at h
    .rename_i k M;have hk:U k:=by
      have:=G 0 x;rw [M]at this;exact this (.row k) yG
     split at h
     .split at h
      .rename_i B;split at h
       .rw [A,yn yG]at h;obtain ⟨_,_,h⟩:=AI.1 h;obtain ⟨_,_,rfl⟩:=AE.1 h;simp at C;subst C;exact .inr ⟨hk,by rw [B];rfl⟩
       .simp at h
      .simp at h
     .simp at h
    .obtain ⟨v,_,rfl⟩:=AE.1 h;simp at C
    .simp at h
 |fieldAddr t x f=>
  simp only[opE]at h;split at h
  .exact D (Xp h)
  .simp at h
 |field t x f=>
  simp only[opE]at h;split at h
  .exact D (Xp h)
  .simp at h
 |indexAddr t x i=>
  simp only[opE]at h;split at h
  .exact D (Xp h)
  .simp at h
 |index t x i=>exact D (Xp h)
 |extract x i=>exact D (Xp h)
 |call c=>
  obtain ⟨j,args,ts⟩:=c;cases j with
  |builtin b=>
   simp only[opE,Zg3]at h;split at h
   .exact D (Xp h)
   .exact ⟨fun e=>by simp [cls]at e,fun e=>by simp [cls]at e,fun e=>by simp [cls]at e⟩
   .exact D (Xp h)
   .exact D (Xp h)
   .simp at h
  |value f=>simp [opE]at h
  |invoke r m=>simp [opE]at h
 |_=>simp [opE]at h
theorem ZbJ{hs:FuncId->Nat}{o:Op}{c:FuncId×List TypeId×List Operand}(h:Xe o=some c):cls tt hs o=if hs c.1=0\/hs c.1=4 then 1 else 4:=by
 unfold Xe at h;split at h
 .simp only[A0]at h;rw [<-h];rfl
 .simp at h
theorem Znm{o:Op}{c:Nat×List TypeId×List Operand}(h:XA o=some c):∃args ts,o=.call ⟨.value (.tmp c.1),args,ts⟩/\c.2.1=ts.toList/\c.2.2=args.toList:=by
 unfold XA at h;split at h
 .rename_i s args ts;simp only[A0]at h;rw [<-h];exact ⟨args,ts,rfl,rfl,rfl⟩
 .simp at h
theorem ZhZ[NW]{hs:FuncId->Nat}{o:Op}{c:Nat×List TypeId×List Operand}(h:XA o=some c):cls tt hs o=4:=by
 obtain ⟨args,ts,rfl,_⟩:=Znm h;rfl
theorem Zno[NW](F:∀t x,svU U (st.ev tt t x)){all:List Oper}{o:Oper}{v:SV}{u:List (Nat×Ob)}(h:opR tt S all key o st v u):(cls tt S.hd o.op=0->u=[])/\(cls tt S.hd o.op<=2->∀p∈u,key<=p.1/\p.1<key+16)/\(cls tt S.hd o.op<=3->∀p∈u,(key<=p.1/\p.1<key+16)\/(U p.1/\p.2=Yv (st.ob p.1))):=by
 have C:u=[]->(cls tt S.hd o.op=0->u=[])/\(cls tt S.hd o.op<=2->∀p∈u,key<=p.1/\p.1<key+16)/\(cls tt S.hd o.op<=3->∀p∈u,(key<=p.1/\p.1<key+16)\/(U p.1/\p.2=Yv (st.ob p.1))):=fun e=>⟨fun _=>e,fun _ p B=>by simp [e]at B,fun _ p B=>by simp [e]at B⟩
 have b:Zbu tt S key o st v u->(cls tt S.hd o.op=0->u=[])/\(cls tt S.hd o.op<=2->∀p∈u,key<=p.1/\p.1<key+16)/\(cls tt S.hd o.op<=3->∀p∈u,(key<=p.1/\p.1<key+16)\/(U p.1/\p.2=Yv (st.ob p.1))):=fun h=>by
  unfold Zbu at h;split at h
  .rename_i c D;by_cases A:S.hd c.1=0\/S.hd c.1=4
   .have G:∃a,(ZX key a).2.2<=key+16/\u=(ZX key a).2.1:=by
     rcases A with A|A
     .rw [A]at h;obtain ⟨l,a,_,_,_,E,_,e⟩:=h;exact ⟨a,E,e⟩
     .rw [A]at h;obtain ⟨l,a,_,_,_,E,_,e⟩:=h;exact ⟨a,E,e⟩
    obtain ⟨a,E,rfl⟩:=G;have B:∀p∈(ZX key a).2.1,key<=p.1/\p.1<key+16:=fun p B=>by
     have:=(Ziz a key).2 p B;omega
    exact ⟨fun e=>by rw [ZbJ D,yp A]at e;simp at e,fun _=>B,fun _ p m=>.inl (B p m)⟩
   .refine ⟨fun e=>by rw [ZbJ D,yn A]at e;simp at e,fun e=>by rw [ZbJ D,yn A]at e;simp at e,fun e=>by rw [ZbJ D,yn A]at e;simp at e⟩
  .split at h
   .rename_i c D;have h4:=ZhZ (tt:=tt) (hs:=S.hd) D;exact ⟨fun e=>by rw [h4]at e;simp at e,fun e=>by rw [h4]at e;simp at e,fun e=>by rw [h4]at e;simp at e⟩
   .exact ZBc F h
 unfold opR at h;split at h
 .exact b h
 .exact C h.2
 .unfold gK at h;split at h
  .split at h
   .exact b h
   .exact C h.2
  .split at h
   .exact C h.2
   .exact h.elim
theorem Zjc(h:st.ob=st'.ob):∀ks:List Nat,Z8 st ks=Z8 st' ks
 | []=>rfl
 |k::r=>by simp only[Z8,Zjc h r,h]
theorem ZHW(s:SV):svU (fun _=>True) s:=by
 cases s<;>first|trivial|(intro y A;cases y<;>trivial)|(intro y A z B;cases z<;>trivial)
theorem ZyB[NW](h:st.ob=st'.ob)(v:SV):ZgW st v=ZgW st' v:=by
 have ha:∀cs,Y9 st cs=Y9 st' cs:=fun cs=>ZiA (U:=fun _=>True) (fun k _=>.inl (by rw [h])) (fun x _=>by cases x<;>trivial)
 unfold ZgW;split
 .rw [h];split
  .rw [ha]
  .rfl
 .rw [h]
 .rfl
theorem Zoy[NW](h:st.ob=st'.ob){f:FuncId}{n:Nat}{vs:List SV}{v:SV}{u:List (Nat×Ob)}:Zca S f n key st vs v u↔Zca S f n key st' vs v u:=by
 have hs:∀xs,Yj st xs=Yj st' xs:=fun xs=>Zfn (U:=fun _=>True) (fun k _=>.inl (by rw [h])) (fun x _=>ZHW x);unfold Zca;split
 .simp only[hs]
 .simp only[hs,ZyB h,Zjc h]
 .simp only[hs,Zjc h]
 .simp only[hs]
 .simp only[hs,Zjc h]
theorem Zzf[NW]{o:Oper}{v:SV}{u:List (Nat×Ob)}(E:∀x∈o.op.operands,∀t,st.ev tt t x=st'.ev tt t x)
  (a:cls tt S.hd o.op=0\/st.ob=st'.ob\/(∀t x,svU U (st.ev tt t x))/\((cls tt S.hd o.op<=3/\∀k,U k->st.ob k=st'.ob k)\/(cls tt S.hd o.op<=1/\Wk st st' U))):Zbu tt S key o st v u↔Zbu tt S key o st' v u:=by
 cases A:Xe o.op with
 |some c=>
  simp only[Zbu,A];have l:∃args ts,o.op=.call ⟨.value (.func c.1),args,ts⟩/\c.2.1=ts.toList/\c.2.2=args.toList:=by
   unfold Xe at A;split at A
   .rename_i f args ts N;simp only[A0]at A;rw [<-A];exact ⟨args,ts,N,rfl,rfl⟩
   .simp at A
  obtain ⟨args,ts,D,O,K⟩:=l;have d:evs tt st c.2.1 c.2.2=evs tt st' c.2.1 c.2.2:=Zeu fun x m t=>E x (by rw [D];rw [K]at m;simp [Op.operands,Call.operands];exact .inr (by simpa using m)) t;rw [<-d];rcases a with e|a|⟨C,a⟩
  .rw [ZbJ A]at e;split at e<;>simp at e
  .exact Zoy a
  .have g:cls tt S.hd o.op<=3:=by rcases a with h|h<;>omega
   have j:Wk st st' U:=by
    rcases a with h|h
    .exact .of h.2
    .exact h.2
   have B:S.hd c.1=0\/S.hd c.1=4:=by
    rw [ZbJ A]at g;split at g
    .assumption
    .simp at g
   have b:∀x∈evs tt st c.2.1 c.2.2,svU U x:=fun x F=>by
    obtain ⟨p,_,rfl⟩:=AD.1 F;exact C _ _
   rcases B with B|B
   .have i:Yj st (evs tt st c.2.1 c.2.2)=Yj st' (evs tt st c.2.1 c.2.2):=Zfn (U:=U) j b;rw [B];simp only[Zca,i]
   .have i:Yj st ((evs tt st c.2.1 c.2.2).map nlS)=Yj st' ((evs tt st c.2.1 c.2.2).map nlS):=Zfn (U:=U) j (fun x F=>by
     obtain ⟨y,M,rfl⟩:=AD.1 F;exact ZAE (b y M))
    rw [B];simp only[Zca,i]
 |none=>
  simp only[Zbu,A];have:opE tt key o st=opE tt key o st':=by
   obtain ⟨sl,ob,n⟩:=st;obtain ⟨q,ob',n'⟩:=st';have L:opE tt key o ⟨q,ob',n'⟩=opE tt key o ⟨sl,ob',n⟩:=ZrF fun x m t=>by
    rw [<-E x m t];exact ZxF _ _ _ _ _ _ _
   rw [L];rcases a with A|a|⟨C,⟨A,a⟩|⟨A,a⟩⟩
   .exact Znj (U:=U) (.inl A)
   .simp only at a;subst a;rfl
   .exact Znj (U:=U) (.inr (.inl ⟨A,a,C⟩))
   .exact Znj (U:=U) (.inr (.inr ⟨A,a,C⟩))
  cases hd:XA o.op with
  |none=>simp only[this]
  |some c=>
   simp only;obtain ⟨args,ts,D,O,K⟩:=Znm hd;have d:evs tt st c.2.1 c.2.2=evs tt st' c.2.1 c.2.2:=Zeu fun x m t=>E x (by rw [D];rw [K]at m;simp [Op.operands,Call.operands];exact .inr (by simpa using m)) t;have w:st.sl c.1=st'.sl c.1:=E (.tmp c.1) (by rw [D];simp [Op.operands,Call.operands]) 0;have h4:=ZhZ (tt:=tt) (hs:=S.hd) hd;rcases a with B|B|⟨_,⟨B,_⟩|⟨B,_⟩⟩
   .omega
   .rw [d,w];constructor
    .rintro ⟨G,J,I,H⟩;exact ⟨G,J,I,(Zoy B).1 H⟩
    .rintro ⟨G,J,I,H⟩;exact ⟨G,J,I,(Zoy B).2 H⟩
   .omega
   .omega
theorem Zdr[NW]{a:Array Oper}{o:Oper}{v:SV}{u:List (Nat×Ob)}(B:∀s∈o.looksAt a,st.sl s=st'.sl s)
  (b:cls tt S.hd o.op=0\/st.ob=st'.ob\/(∀t x,svU U (st.ev tt t x))/\((cls tt S.hd o.op<=3/\∀k,U k->st.ob k=st'.ob k)\/(cls tt S.hd o.op<=1/\Wk st st' U))):opR tt S a.toList key o st v u↔opR tt S a.toList key o st' v u:=by
 have c:∀x∈o.op.operands,∀t,st.ev tt t x=st'.ev tt t x:=fun x m t=>by
  cases x with
  |tmp s=>exact B s (by
    unfold Oper.looksAt;refine AB.2 (.inl (B4.2 ⟨.tmp s,by simpa using m,rfl⟩)))
  |_=>rfl
 have h1:=Zzf (S:=S) (key:=key) (v:=v) (u:=u) c b;unfold opR;cases hg:Zbo a.toList o with
 |none=>exact h1
 |some q=>
  obtain ⟨q,A⟩:=q;cases q with
  |none=>rfl
  |some t=>
   have C:st.sl t=st'.sl t:=B t (by
    unfold Zbo at hg;split at hg
    .simp at hg
    .rename_i g d;simp only[A0,A9]at hg;unfold Oper.looksAt;refine AB.2 (.inr ?_);rw [d];have:(a[g.1]?).bind (·.dst)=some t:=by simpa using hg.1
     simp [this])
   simp only[gK,C,h1]
theorem ZIs[NW](A:StU U st)(t:Nat)(x:Operand):svU U (st.ev tt t x):=by
 cases x with
 |tmp s=>exact A.sl s
 |const v=>
  show svU U (cvT (tt t) v)
  unfold cvT;split
  .exact X5 _
  .exact X5 _
  .split
   .exact X5 _
   .trivial
  .split
   .intro y m;simp at m;subst m;trivial
   .trivial
  .trivial
 |global _=>trivial
 |func _=>trivial
theorem Qx[NW]:∀{u:List (Nat×Ob)}{ob:Nat->Ob}{k:Nat},(∀p∈u,p.1≠k)->Zv ob u k=ob k
 | [],_,_,_=>rfl
 |p::r,ob,k,h=>by
  rw [Zv,Qx fun q m=>h q (by simp [m])];exact ZZ _ _ fun e=>h p yG e.symm
theorem ZlI[NW]:∀{u:List (Nat×Ob)}{ob ob':Nat->Ob}{k:Nat},(∃p∈u,p.1=k)->Zv ob u k=Zv ob' u k
 | [],_,_,_,h=>by simp at h
 |p::r,ob,ob',k,h=>by
  rw [Zv,Zv];by_cases C:∃q∈r,q.1=k
  .exact ZlI C
  .have B:∀q∈r,q.1≠k:=fun q m e=>C ⟨q,m,e⟩;rw [Qx B,Qx B];obtain ⟨q,A,e⟩:=h;rcases AM.1 A with rfl|A
   .rw [<-e,ZN,ZN]
   .exact absurd e (B q A)
theorem ZuG[NW]{u1 u2:List (Nat×Ob)}{ob:Nat->Ob}(h:∀p∈u1,∀q∈u2,p.1≠q.1):Zv (Zv ob u1) u2=Zv (Zv ob u2) u1:=by
 funext k
 by_cases D:∃p∈u1,p.1=k
 .obtain ⟨p,A,rfl⟩:=D;rw [Qx fun q E e=>h p A q E e.symm];exact ZlI ⟨p,A,rfl⟩
 .have B:∀q∈u1,q.1≠k:=fun q m e=>D ⟨q,m,e⟩;rw [Qx (ob:=Zv ob u2) B];by_cases C:∃p∈u2,p.1=k
  .exact ZlI C
  .have a:∀q∈u2,q.1≠k:=fun q m e=>C ⟨q,m,e⟩;rw [Qx a,Qx a,Qx B]
theorem Zds[NW](st:St)(d:Option Nat)(v:SV)(s:Nat)(h:∀t,d=some t->s≠t):(st.put d v).sl s=st.sl s:=by
 cases d with
 |none=>rfl
 |some t=>exact ZZ _ _ (h t rfl)
theorem ZaA(st:St)(d:Option Nat)(v:SV):(st.put d v).ob=st.ob:=by cases d<;>rfl
theorem Zuq(st:St)(d:Option Nat)(v:SV):(st.put d v).n=st.n:=by cases d<;>rfl
theorem ZrE(st:St)(d e:Option Nat)(v u:SV)(h:∀t,d=some t->e≠some t):((st.put d v).put e u).sl=((st.put e u).put d v).sl:=by
 cases d with
 |none=>rfl
 |some t=>cases e with
  |none=>rfl
  |some s=>
   have a:t≠s:=fun e=>h t rfl (e ▸ rfl);funext k
   show upd (upd st.sl t v) s u k=upd (upd st.sl s u) t v k
   unfold upd;by_cases A:k=s
   .by_cases B:k=t
    .exact absurd (B.symm.trans A) a
    .have b:¬s=t:=fun e=>a e.symm;simp [A,b]
   .simp [A]
def ZyH(tt:Nat->Option TI):Op->Bool
 |.slice t _ (some _) none none=>!Zdu (tt t)
 |.call ⟨.builtin .append,_,_⟩=>true
 |_=>false
theorem Zje[NW]{a:Array Oper}{o:Oper}{v:SV}{u:List (Nat×Ob)}(E:∀s∈o.looksAt a,st.sl s=st'.sl s)(C:Zbu tt S key o st' v u->Zbu tt S key o st v u)(h:opR tt S a.toList key o st' v u):opR tt S a.toList key o st v u:=by
 unfold opR at h ⊢;cases hg:Zbo a.toList o with
 |none=>rw [hg]at h;exact C h
 |some q=>
  obtain ⟨q,B⟩:=q;rw [hg]at h;cases q with
  |none=>exact h
  |some t=>
   have D:st.sl t=st'.sl t:=E t (by
    unfold Zbo at hg;split at hg
    .simp at hg
    .rename_i g c;simp only[A0,A9]at hg;unfold Oper.looksAt;refine AB.2 (.inr ?_);rw [c];have:(a[g.1]?).bind (·.dst)=some t:=by simpa using hg.1
     simp [this])
   simp only[gK,D]at h ⊢;split at h
   .rename_i A;rw [yp A];split at h
    .rename_i b;rw [yp b];exact C h
    .rename_i b;rw [yn b];exact h
   .rename_i A;rw [yn A];exact h
theorem Zdy{a:Array Oper}{o:Oper}(A:∀s∈o.looksAt a,st.sl s=st'.sl s):∀x∈o.op.operands,∀t,st.ev tt t x=st'.ev tt t x:=fun x m t=>by
 cases x with
 |tmp s=>exact A s (by
   unfold Oper.looksAt;refine AB.2 (.inl (B4.2 ⟨.tmp s,by simpa using m,rfl⟩)))
 |_=>rfl
theorem ZyD[NW]{o:Oper}{v:SV}{u:List (Nat×Ob)}(G:∀x∈o.op.operands,∀t,st.ev tt t x=st'.ev tt t x)(a:cls tt S.hd o.op<=1)(F:∀t x,svU U (st.ev tt t x))(d:Mk st st' U)(h:Zbu tt S key o st' v u):Zbu tt S key o st v u:=by
 cases hc:Xe o.op with
 |some c=>
  simp only[Zbu,hc]at h ⊢;have g:∃args ts,o.op=.call ⟨.value (.func c.1),args,ts⟩/\c.2.1=ts.toList/\c.2.2=args.toList:=by
   unfold Xe at hc;split at hc
   .rename_i f args ts L;simp only[A0]at hc;rw [<-hc];exact ⟨args,ts,L,rfl,rfl⟩
   .simp at hc
  obtain ⟨args,ts,K,N,M⟩:=g;have i:evs tt st c.2.1 c.2.2=evs tt st' c.2.1 c.2.2:=Zeu fun x m t=>G x (by rw [K];rw [M]at m;simp [Op.operands,Call.operands];exact .inr (by simpa using m)) t;rw [<-i]at h;have A:S.hd c.1=0\/S.hd c.1=4:=by
   rw [ZbJ hc]at a;split at a
   .assumption
   .simp at a
  have b:∀x∈evs tt st c.2.1 c.2.2,svU U x:=fun x B=>by
   obtain ⟨p,_,rfl⟩:=AD.1 B;exact F _ _
  rcases A with A|A
  .rw [A]at h ⊢;simp only[Zca]at h ⊢;obtain ⟨E,e,D,C⟩:=h;exact ⟨E,e,Zid d b D,C⟩
  .rw [A]at h ⊢;simp only[Zca]at h ⊢;obtain ⟨E,e,D,C⟩:=h;exact ⟨E,e,Zid d (fun x B=>by
    obtain ⟨y,J,rfl⟩:=AD.1 B;exact ZAE (b y J)) D,C⟩
 |none=>
  simp only[Zbu,hc]at h ⊢;cases hd:XA o.op with
  |some c=>have h4:=ZhZ (tt:=tt) (hs:=S.hd) hd;omega
  |none=>
   rw [hd]at h;simp only at h ⊢;obtain ⟨H,ob,n⟩:=st;obtain ⟨j,ob',n'⟩:=st';have I:opE tt key o ⟨j,ob',n'⟩=opE tt key o ⟨H,ob',n⟩:=ZrF fun x m t=>by
    rw [<-G x m t];exact ZxF _ _ _ _ _ _ _
   rw [I]at h;exact ZBC a d F h
theorem ZDc{o:Op}(h:ZyH tt o=true):(∃t x A,o=.slice t x (some A) none none/\Zdu (tt t)=false)\/∃args ts,o=.call ⟨.builtin .append,args,ts⟩:=by
 unfold ZyH at h;split at h
 .exact .inl ⟨_,_,_,rfl,by simpa using h⟩
 .exact .inr ⟨_,_,rfl⟩
 .simp at h
theorem ZAj[NW]{s:SV}{a:List (List CT)×List Nat×Nat}(hs:svU U s)(h:Zha st s=some a):∀k∈a.2.1,U k:=by
 unfold Zha at h;split at h
 .simp only[A0]at h;rw [<-h];simp
 .split at h
  .split at h
   .simp at h
   .simp only[A0]at h;rw [<-h];intro k A;simp only[AM,AX,or_false]at A;subst A;exact hs (.row _) yG
  .simp at h
 .simp at h
theorem ZBr[NW]{B:Bool}{s:SV}{a:List (List CT)×List Nat×Nat}(hs:svU U s)(h:ZgX st B s=some a):∀k∈a.2.1,U k:=by
 unfold ZgX at h;split at h
 .simp only[A0]at h;rw [<-h];simp
 .simp only[A0]at h;rw [<-h];simp
 .split at h
  .split at h
   .simp only[A0]at h;rw [<-h];simp
   .simp only[A0]at h;rw [<-h];intro k A;simp only[AM,AX,or_false]at A;subst A;exact hs (.row _) yG
  .simp at h
 .simp at h
theorem ZyM[NW]{t:Option TI}{s x:SV}(hs:svU U s)(B:svU U x)(a:∀k,U k->st.ob k=st'.ob k):ZpD st key t s x=ZpD st' key t s x:=by
 have F:Zha st s=Zha st' s:=by
  unfold Zha;split
  .rfl
  .rename_i k;rw [a k (hs (.row k) yG)]
  .rfl
 have E:∀A,ZgX st A x=ZgX st' A x:=fun A=>by
  unfold ZgX;split
  .rfl
  .rfl
  .rename_i k;rw [a k (B (.row k) yG)]
  .rfl
 have D:∀e m,ZnV st e m s=ZnV st' e m s:=fun e m=>by
  unfold ZnV;split
  .rename_i k;rw [a k (hs (.row k) yG)]
  .rfl
  .rfl
 have C:∀m,Zmf st m x=Zmf st' m x:=fun m=>by
  unfold Zmf;split
  .rename_i k;rw [a k (B (.row k) yG)]
  .rfl
  .rfl
  .rfl
 unfold ZpD;split
 .simp only[F,E,D,C]
 .rfl
theorem Zw6{ts:List TypeId}{vs:List SV}{r:SV×List (Nat×Ob)}(h:Zg3 tt st key .append ts vs=some r):∃t s x,ts=[t,t]/\vs=[s,x]/\ZpD st key (tt t) s x=some r:=by
 match ts,vs,h with
 | [t,u],[s,x],h=>
  simp only[Zg3]at h;split at h
  .rename_i e;subst e;exact ⟨t,s,x,rfl,rfl,h⟩
  .simp at h
 | [],_,h=>simp [Zg3]at h
 | [_],_,h=>simp [Zg3]at h
 |_::_::_::_,_,h=>simp [Zg3]at h
 | [_,_],[],h=>simp [Zg3]at h
 | [_,_],[_],h=>simp [Zg3]at h
 | [_,_],_::_::_::_,h=>simp [Zg3]at h
theorem ZCj[NW]{o:Oper}{v:SV}{u:List (Nat×Ob)}(K:ZyH tt o.op=true)(G:∀t x,svU U (st.ev tt t x))(h:Zbu tt S key o st v u):(∀p∈u,(key<=p.1/\p.1<key+16)\/(U p.1/\(p.2=st.ob p.1\/p.2=.gone))):=by
 obtain ⟨g,op,ty,i,P,O⟩:=o;obtain ⟨t,x,I,D,hs⟩|⟨args,ts,D⟩:=ZDc K
 rotate_left
 .simp only at D;subst D;have A:Zg3 tt st key .append ts.toList (evs tt st ts.toList args.toList)=some (v,u):=h;obtain ⟨t,s,x,_,F,A⟩:=Zw6 A;have c:svU U s/\svU U x:=by
   have d:∀y∈evs tt st ts.toList args.toList,svU U y:=fun y H=>by
    obtain ⟨p,_,rfl⟩:=AD.1 H;exact G _ _
   exact ⟨d s (by rw [F];simp),d x (by rw [F];simp)⟩
  unfold ZpD at A;split at A
  .obtain ⟨a,N,A⟩:=AI.1 A;obtain ⟨b,M,A⟩:=AI.1 A;split at A
   .simp only[A0,A9]at A;rw [<-A.2];intro p B;rcases AB.1 B with B|B
    .obtain ⟨k,C,rfl⟩:=AD.1 B;refine .inr ⟨?_,.inr rfl⟩;rcases AB.1 C with C|C
     .exact ZAj c.1 N k C
     .exact ZBr c.2 M k C
    .simp only[AM,AX,or_false]at B;subst B;exact .inl ⟨AK _,by simp only;omega⟩
   .simp at A
  .simp at A
 simp only at D;subst D;have A:opE tt key ⟨g,.slice t x (some I) none none,ty,i,P,O⟩ st=some (v,u):=h;simp only[opE,ZaE,AT,AS]at A;intro p B;split at A
 .rename_i k J;have E:U k:=by
   have:=G 0 x;rw [J]at this;exact this (.row k) yG
  split at A
  .split at A
   .rename_i j;split at A
    .split at A
     .obtain ⟨l,_,e⟩:=AE.1 A;simp only[A9]at e;rw [<-e.2]at B;simp only[AM,AX,or_false]at B;rcases B with rfl|rfl
      .exact .inr ⟨E,.inr rfl⟩
      .exact .inl ⟨AK _,by simp only;omega⟩
     .rename_i f;obtain ⟨_,_,A⟩:=AI.1 A;obtain ⟨_,_,e⟩:=AE.1 A;simp only[A9]at e;rw [<-e.2]at B;simp only[AM,AX,or_false]at B;subst B;refine .inr ⟨E,.inl ?_⟩;simp only[mvS]at f;split at f
      .rename_i L;rw [j,L]
      .simp at f
    .simp at A
   .simp at A
  .simp at A
 .obtain ⟨_,_,e⟩:=AE.1 A;simp only[A9]at e;rw [<-e.2]at B;simp at B
 .simp at A
theorem ZCl[NW]{o:Oper}{v:SV}{u:List (Nat×Ob)}(K:ZyH tt o.op=true)(D:∀x∈o.op.operands,∀t,st.ev tt t x=st'.ev tt t x)(F:∀t x,svU U (st'.ev tt t x))(b:∀k,U k->st.ob k=st'.ob k)(h:Zbu tt S key o st' v u):Zbu tt S key o st v u:=by
 obtain ⟨c,op,ty,d,H,G⟩:=o;obtain ⟨t,x,C,B,hs⟩|⟨args,ts,B⟩:=ZDc K
 rotate_left
 .simp only at B;subst B;have A:Zg3 tt st' key .append ts.toList (evs tt st' ts.toList args.toList)=some (v,u):=h;show Zg3 tt st key .append ts.toList (evs tt st ts.toList args.toList)=some (v,u)
  have e:evs tt st ts.toList args.toList=evs tt st' ts.toList args.toList:=Zeu fun x m t=>D x (by simpa [Op.operands,Call.operands]using m) t;have a:∀y∈evs tt st' ts.toList args.toList,svU U y:=fun y I=>by
   obtain ⟨p,_,rfl⟩:=AD.1 I;exact F _ _
  obtain ⟨t,s,x,M,E,A⟩:=Zw6 A;rw [e,E,M];rw [E]at a;show (if t=t then ZpD st key (tt t) s x else none)=_
  rw [yp rfl,ZyM (a s yG) (a x yG) b,A]
 simp only at B;subst B;have A:opE tt key ⟨c,.slice t x (some C) none none,ty,d,H,G⟩ st'=some (v,u):=h;show opE tt key ⟨c,.slice t x (some C) none none,ty,d,H,G⟩ st=some (v,u)
 have e1:=D x (by simp [Op.operands]) 0;have e2:=D C (by simp [Op.operands]) 0;simp only[opE,AT,AS,e1,e2]at A ⊢;rw [<-A];have hx:=F 0 x;unfold ZaE;split
 .rename_i k J;rw [J]at hx;have L:U k:=hx (.row k) yG;simp only[b k L]
 .rfl
 .rfl
theorem Zeh[NW]{a:List Oper}{o:Oper}{v:SV}{u:List (Nat×Ob)}{C:Prop}(h:opR tt S a key o st v u)(B:Zbu tt S key o st v u->C)(A:u=[]->C):C:=by
 unfold opR at h;split at h
 .exact B h
 .exact A h.2
 .unfold gK at h;split at h
  .split at h
   .exact B h
   .exact A h.2
  .split at h
   .exact A h.2
   .exact h.elim
def Zxv(tt:Nat->Option TI)(hs:FuncId->Nat)(x y:Op):Bool:=cls tt hs x==0||cls tt hs y==0||(Nat.ble (cls tt hs x) 2&&Nat.ble (cls tt hs y) 2)||(Nat.ble (cls tt hs x) 1&&Nat.ble (cls tt hs y) 3)||(Nat.ble (cls tt hs x) 3&&Nat.ble (cls tt hs y) 1)||(ZyH tt x&&Nat.ble (cls tt hs y) 1)
theorem comm[NW]{c:Array Oper}{oi oj:Oper}{P T:Nat}{vi vj:SV}{ui uj:List (Nat×Ob)}(G:oi.apart c oj=true)(K:Zxv tt S.hd oi.op oj.op=true)(hU:StU U st)(m:∀k,P<=k->k<P+16->¬U k)(j:∀k,T<=k->k<T+16->¬U k)(aa:P+16<=T\/T+16<=P)
  (h:opR tt S c.toList P oi st vi ui) (h':opR tt S c.toList T oj ((st.put oi.dst vi).app ui) vj uj):
  opR tt S c.toList T oj st vj uj/\opR tt S c.toList P oi ((st.put oj.dst vj).app uj) vi ui/\((((st.put oi.dst vi).app ui).put oj.dst vj).app uj)=((((st.put oj.dst vj).app uj).put oi.dst vi).app ui):=by
 obtain ⟨a1,a2,a3⟩:=Oper.apart_spec G;have b:∀t x,svU U (st.ev tt t x):=fun t x=>ZIs hU t x;obtain ⟨i1,i2,i3⟩:=Zno (U:=U) b h;have l:(∀p∈ui,∀q∈uj,p.1≠q.1)->((((st.put oi.dst vi).app ui).put oj.dst vj).app uj)=((((st.put oj.dst vj).app uj).put oi.dst vi).app ui):=fun H=>by
  have o:((((st.put oi.dst vi).app ui).put oj.dst vj).app uj).sl=((((st.put oj.dst vj).app uj).put oi.dst vi).app ui).sl:=by
   have e1:∀(s:St) (u:List (Nat×Ob)) (d:Option Nat) (v:SV),((s.app u).put d v).sl=(s.put d v).sl:=fun s u d v=>by cases d<;>rfl
   show (((st.put oi.dst vi).app ui).put oj.dst vj).sl=(((st.put oj.dst vj).app uj).put oi.dst vi).sl
   rw [e1,e1];exact ZrE st _ _ _ _ fun t R=>a2 t R
  have i:((((st.put oi.dst vi).app ui).put oj.dst vj).app uj).ob=((((st.put oj.dst vj).app uj).put oi.dst vi).app ui).ob:=by
   show Zv (((st.put oi.dst vi).app ui).put oj.dst vj).ob uj=Zv (((st.put oj.dst vj).app uj).put oi.dst vi).ob ui
   rw [ZaA,ZaA];show Zv (Zv (st.put oi.dst vi).ob ui) uj=Zv (Zv (st.put oj.dst vj).ob uj) ui
   rw [ZaA,ZaA];exact ZuG H
  have hn:((((st.put oi.dst vi).app ui).put oj.dst vj).app uj).n=((((st.put oj.dst vj).app uj).put oi.dst vi).app ui).n:=by
   show (((st.put oi.dst vi).app ui).put oj.dst vj).n=(((st.put oj.dst vj).app uj).put oi.dst vi).n
   rw [Zuq,Zuq];show (st.put oi.dst vi).n=(st.put oj.dst vj).n
   rw [Zuq,Zuq]
  generalize ((((st.put oi.dst vi).app ui).put oj.dst vj).app uj)=s1 at o i hn ⊢
  generalize ((((st.put oj.dst vj).app uj).put oi.dst vi).app ui)=s2 at o i hn ⊢
  cases s1;cases s2;simp only at o i hn;subst o i hn;rfl
 by_cases A:ZyH tt oi.op=true/\cls tt S.hd oj.op<=1
 .obtain ⟨hm,hj⟩:=A;have B:∀p∈ui,(P<=p.1/\p.1<P+16)\/(U p.1/\(p.2=st.ob p.1\/p.2=.gone)):=Zeh h (fun h=>ZCj hm b h) fun e p V=>by rw [e]at V;simp at V
  have I:Mk st ((st.put oi.dst vi).app ui) U:=fun k hk=>by
   show Zv (st.put oi.dst vi).ob ui k=st.ob k\/Zv (st.put oi.dst vi).ob ui k=.gone
   rw [ZaA];have z:∀(u:List (Nat×Ob)) (ob:Nat->Ob),(∀p∈u,(P<=p.1/\p.1<P+16)\/(U p.1/\(p.2=st.ob p.1\/p.2=.gone)))->(ob k=st.ob k\/ob k=.gone)->(Zv ob u k=st.ob k\/Zv ob u k=.gone):=by
    intro u;induction u with
    |nil=>intro ob _ h;exact h
    |cons p u ih=>
     intro ob V h;refine ih _ (fun x mx=>V x (by simp [mx])) ?_;by_cases g:k=p.1
     .rcases V p yG with h1|h1
      .exact absurd (g ▸ hk) (m p.1 h1.1 h1.2)
      .rw [g,ZN];exact h1.2
     .rw [ZZ _ _ g];exact h
   exact z ui st.ob B (.inl rfl)
  have C:∀s∈oj.looksAt c,st.sl s=((st.put oi.dst vi).app ui).sl s:=fun s W=>(Zds st oi.dst vi s fun t R e=>a1 t R (e ▸ W)).symm;have hA:opR tt S c.toList T oj st vj uj:=Zje C (ZyD (Zdy C) hj b I) h';obtain ⟨_,j2,_⟩:=Zno (U:=U) b hA;have D:∀s∈oi.looksAt c,((st.put oj.dst vj).app uj).sl s=st.sl s:=fun s W=>Zds st oj.dst vj s fun t R e=>a3 t R (e ▸ W);have J:∀k,U k->((st.put oj.dst vj).app uj).ob k=st.ob k:=fun k hk=>by
   show Zv (st.put oj.dst vj).ob uj k=st.ob k
   rw [ZaA];exact Qx fun p L e=>j p.1 (j2 yE p L).1 (j2 yE p L).2 (e ▸ hk)
  refine ⟨hA,Zje D (ZCl hm (Zdy D) b J) h,l fun p L q O e=>?_⟩;have h2:=j2 yE q O;rcases B p L with h1|h1
  .omega
  .exact j q.1 h2.1 h2.2 (e ▸ h1.1)
 have a:cls tt S.hd oi.op=0\/cls tt S.hd oj.op=0\/(cls tt S.hd oi.op<=2/\cls tt S.hd oj.op<=2)\/(cls tt S.hd oi.op<=1/\cls tt S.hd oj.op<=3)\/(cls tt S.hd oi.op<=3/\cls tt S.hd oj.op<=1):=by
  unfold Zxv at K;simp only[AU,beq_iff_eq,AC]at K;rcases K with ((((K|K)|K)|K)|K)|K
  .exact .inl K
  .exact .inr (.inl K)
  .exact .inr (.inr (.inl ⟨AH K.1,AH K.2⟩))
  .exact .inr (.inr (.inr (.inl ⟨AH K.1,AH K.2⟩)))
  .exact .inr (.inr (.inr (.inr ⟨AH K.1,AH K.2⟩)))
  .exact absurd ⟨K.1,AH K.2⟩ A
 have f:∀{u:List (Nat×Ob)} {q:Nat},(∀p∈u,q<=p.1/\p.1<q+16)->(∀k,q<=k->k<q+16->¬U k)->∀k,U k->st.ob k=Zv st.ob u k:=fun hu hq k hk=>(Qx fun p L e=>hq p.1 (hu p L).1 (hu p L).2 (e ▸ hk)).symm;have y:∀{u:List (Nat×Ob)} {q:Nat},(∀p∈u,(q<=p.1/\p.1<q+16)\/(U p.1/\p.2=Yv (st.ob p.1)))->(∀k,q<=k->k<q+16->¬U k)->∀k,U k->Zv st.ob u k=st.ob k\/Zv st.ob u k=Yv (st.ob k):=fun {u q} hu hq k hk=>by
  have z:∀(u:List (Nat×Ob)) (ob:Nat->Ob),(∀p∈u,(q<=p.1/\p.1<q+16)\/(U p.1/\p.2=Yv (st.ob p.1)))->(ob k=st.ob k\/ob k=Yv (st.ob k))->(Zv ob u k=st.ob k\/Zv ob u k=Yv (st.ob k)):=by
   intro u;induction u with
   |nil=>intro ob _ h;exact h
   |cons p u ih=>
    intro ob V h;refine ih _ (fun x mx=>V x (by simp [mx])) ?_;by_cases g:k=p.1
    .rcases V p yG with h1|h1
     .exact absurd (g ▸ hk) (hq p.1 h1.1 h1.2)
     .right;rw [g,ZN];exact h1.2
    .rw [ZZ _ _ g];exact h
  exact z u st.ob hu (.inl rfl)
 have hA:opR tt S c.toList T oj st vj uj:=by
  refine (Zdr (U:=U) (st:=st) (st':=(st.put oi.dst vi).app ui) (fun s W=>(Zds st oi.dst vi s fun t R e=>a1 t R (e ▸ W)).symm) ?_).2 h';show cls tt S.hd oj.op=0\/st.ob=Zv (st.put oi.dst vi).ob ui\/_/\((cls tt S.hd oj.op<=3/\∀k,U k->st.ob k=Zv (st.put oi.dst vi).ob ui k)\/(cls tt S.hd oj.op<=1/\∀k,U k->Zv (st.put oi.dst vi).ob ui k=st.ob k\/Zv (st.put oi.dst vi).ob ui k=Yv (st.ob k)))
  rw [ZaA];rcases a with a|a|⟨N,M⟩|⟨N,M⟩|⟨N,M⟩
  .right;left;rw [i1 a];rfl
  .left;exact a
  .right;right;exact ⟨b,.inl ⟨yE,f (i2 N) m⟩⟩
  .right;right;exact ⟨b,.inl ⟨M,f (i2 yE) m⟩⟩
  .right;right;exact ⟨b,.inr ⟨M,y (i3 N) m⟩⟩
 obtain ⟨E,w,F⟩:=Zno (U:=U) b hA;refine ⟨hA,?_,?_⟩
 .refine (Zdr (U:=U) (st:=st) (st':=(st.put oj.dst vj).app uj) (fun s W=>(Zds st oj.dst vj s fun t R e=>a3 t R (e ▸ W)).symm) ?_).1 h;show cls tt S.hd oi.op=0\/st.ob=Zv (st.put oj.dst vj).ob uj\/_/\((cls tt S.hd oi.op<=3/\∀k,U k->st.ob k=Zv (st.put oj.dst vj).ob uj k)\/(cls tt S.hd oi.op<=1/\∀k,U k->Zv (st.put oj.dst vj).ob uj k=st.ob k\/Zv (st.put oj.dst vj).ob uj k=Yv (st.ob k)))
  rw [ZaA];rcases a with a|a|⟨N,M⟩|⟨N,M⟩|⟨N,M⟩
  .left;exact a
  .right;left;rw [E a];rfl
  .right;right;exact ⟨b,.inl ⟨yE,f (w M) j⟩⟩
  .right;right;exact ⟨b,.inr ⟨N,y (F M) j⟩⟩
  .right;right;exact ⟨b,.inl ⟨N,f (w yE) j⟩⟩
 .rcases a with a|a|⟨N,M⟩|⟨N,M⟩|⟨N,M⟩
  .exact l fun p L=>by rw [i1 a]at L;simp at L
  .exact l fun p L q O=>by rw [E a]at O;simp at O
  .refine l fun p L q O e=>?_;have:=i2 N p L;have:=w M q O;omega
  .refine l fun p L q O e=>?_;have h1:=i2 yE p L;rcases F M q O with h2|h2
   .omega
   .exact m p.1 h1.1 h1.2 (e ▸ h2.1)
  .refine l fun p L q O e=>?_;have h1:=w yE q O;rcases i3 N p L with h2|h2
   .omega
   .exact j q.1 h1.1 h1.2 (e ▸ h2.1)
def Zta:Op->Bool
 |.load _ _=>true
 |_=>false
def Zzo(hs:FuncId->Nat)(o:Op):Bool:=match Xe o with
 |some c=>hs c.1==1
 |none=>false
def ZqT:Op->Bool
 |.slice _ _ _ _ none=>true
 |_=>false
def Zv1(tt:Nat->Option TI)(hs:FuncId->Nat)(b:Bool)(x y:Op):Bool:=Zxv tt hs x y||(b&&((Zta x&&Zzo hs y)||(Zzo hs x&&Zta y)||ZqT x||ZqT y))
theorem Zvd{o:Op}{c:FuncId×List TypeId×List Operand}(h:Xe o=some c):∃args ts,o=.call ⟨.value (.func c.1),args,ts⟩/\c.2.2=args.toList:=by
 unfold Xe at h;split at h
 .rename_i f args ts;simp only[A0]at h;rw [<-h];exact ⟨args,ts,rfl,rfl⟩
 .simp at h
theorem ZtF{o:Op}(h:∀x∈o.operands,∀t,st.ev tt t x=st'.ev tt t x):stk tt S o st=stk tt S o st':=by
 unfold stk;split
 .rename_i t x;rw [h x (by simp [Op.operands])]
 .rename_i t x _ _ _;rw [h x (by simp [Op.operands])]
 .split
  .rename_i c C;obtain ⟨args,ts,B,e⟩:=Zvd C;unfold hdC;split
   .cases hh:c.2.2.head? with
    |none=>rfl
    |some x=>
     have A:x∈args.toList:=by rw [<-e];exact List.mem_of_mem_head? hh
     simp only;rw [h x (by rw [B];simp [Op.operands,Call.operands];exact .inr (by simpa using A))]
   .rfl
  .rfl
theorem ZhK[NW]{a:Array Oper}{oi oj:Oper}{vi vj:SV}{ui uj:List (Nat×Ob)}(b:oi.apart a oj=true):stk tt S oj.op st=stk tt S oj.op ((st.put oi.dst vi).app ui)/\stk tt S oi.op ((st.put oj.dst vj).app uj)=stk tt S oi.op st:=by
 obtain ⟨D,E,C⟩:=Oper.apart_spec b;exact ⟨ZtF (Zdy fun s A=>(Zds st oi.dst vi s fun t B e=>D t B (e ▸ A)).symm),ZtF (Zdy fun s A=>Zds st oj.dst vj s fun t B e=>C t B (e ▸ A))⟩
theorem Zqt[NW]{o:Oper}{v:SV}{u:List (Nat×Ob)}(G:Zzo S.hd o.op=true)(hs:stk tt S o.op st=true)(h:Zbu tt S key o st v u):∀p∈u,p.1=0\/(key<=p.1/\p.1<key+16)\/p.2=Yv (st.ob p.1):=by
 unfold Zzo at G;split at G
 rotate_left
 .simp at G
 rename_i c E;have K:S.hd c.1=1:=by simpa using G
 unfold Zbu at h;rw [E]at h;simp only[K,Zca]at h;obtain ⟨L,r,k,U,l,b,V,F,A,T,O,P,R,rfl,rfl⟩:=h;have D:hdC tt 1 c.2.2.head? st=true:=by
  have e:stk tt S o.op st=hdC tt (S.hd c.1) c.2.2.head? st:=by
   unfold stk;split
   .rename_i I;rw [I]at E;simp [Xe]at E
   .rename_i I;rw [I]at E;simp [Xe]at E
   .rw [E]
  rw [<-K,<-e];exact hs
 have d:∃off,L=.bp 0 off:=by
  unfold hdC at D;simp only at D;cases hx:c.2.2 with
  |nil=>rw [hx]at D;simp at D
  |cons x xs=>
   rw [hx]at D F;simp only[List.head?_cons]at D;have J:∀ts:List TypeId,∃t q,evs tt st ts (x::xs)=st.ev tt t x::q:=fun ts=>by cases ts<;>exact ⟨_,_,rfl⟩
   obtain ⟨t,q,J⟩:=J c.2.1;rw [J]at F;simp only[AY]at F;have C:hdB (st.ev tt 0 x)=true:=D;have N:∀H,hdB (st.ev tt H x)=true->∃off,st.ev tt t x=.bp 0 off:=fun H C=>by
    cases x with
    |tmp s=>
     have a:hdB (st.sl s)=true:=C;unfold hdB at a;split at a
     .rename_i M off e;exact ⟨off,by show st.sl s=_;rw [e,of_decide_eq_true a]⟩
     .simp at a
    |const u=>
     exfalso;have a:hdB (cvT (tt H) u)=true:=C;unfold cvT at a;split at a<;>first|(simp [hdB]at a;done)|(split at a<;>simp [hdB]at a)
    |func f=>simp [St.ev,hdB]at C
    |global g=>simp [St.ev,hdB]at C
   obtain ⟨off,e⟩:=N 0 C;exact ⟨off,by rw [<-F.1,e]⟩
 obtain ⟨off,rfl⟩:=d;have i:k=0:=by
  unfold ZgW at A;split at A
  .rename_i M e;simp only[SV.bp.injEq]at e;obtain ⟨rfl,rfl⟩:=e;split at A
   .rename_i t cs C;split at A
    .obtain ⟨_,_,e⟩:=AE.1 A;simp only[A9]at e;exact e.1.symm
    .simp at A
   .simp at A
  .rename_i e;simp at e
  .simp at A
 subst i;intro p B;rcases AB.1 B with B|B
 .exact .inr (.inr (Zpt B).2)
 .rcases AM.1 B with rfl|B
  .exact .inl rfl
  .have:=(Ziz b key).2 p B;exact .inr (.inl yE)
theorem ZrJ[NW]{o:Oper}{v:SV}{u:List (Nat×Ob)}(A:Zta o.op=true)(D:∀x∈o.op.operands,∀t,st.ev tt t x=st'.ev tt t x)(hs:stk tt S o.op st=true)(E:∀t x,svU U (st.ev tt t x))(c:∀k,U k->k≠0->st'.ob k=st.ob k\/st'.ob k=Yv (st.ob k)):Zbu tt S key o st v u↔Zbu tt S key o st' v u:=by
 obtain ⟨F,op,ty,C,H,G⟩:=o;unfold Zta at A;simp only at A;split at A
 rotate_left
 .simp at A
 rename_i t x;have e1:=D x (by simp [Op.operands]) 0;have hx:=E 0 x;have a:ldB (st.ev tt 0 x)=true:=hs;have key:Zat st (tt t) (st.ev tt 0 x)=Zat st' (tt t) (st'.ev tt 0 x):=by
  rw [<-e1];unfold Zat;split
  .rename_i k off B;rw [B]at hx a;have b:k≠0:=fun e=>by subst e;simp [ldB]at a
   rcases c k hx b with h|h
   .rw [h]
   .rw [h];cases st.ob k<;>rfl
  .rename_i k m i off B;rw [B]at hx a;have b:k≠0:=fun e=>by subst e;simp [ldB]at a
   rcases c k hx b with h|h
   .rw [h]
   .rw [h];cases st.ob k<;>rfl
  .rfl
  .rfl
  .rfl
 show opE tt _ _ st=some (v,u)↔opE tt _ _ st'=some (v,u)
 simp only[opE,key]
theorem ZAt[NW]{a:List Oper}{o:Oper}{v:SV}{u:List (Nat×Ob)}(A:Zta o.op=true)(h:opR tt S a key o st v u):u=[]:=by
 refine Zeh h (fun h=>?_) id;obtain ⟨b,op,ty,c,D,C⟩:=o;unfold Zta at A;simp only at A;split at A
 .have B:opE tt key ⟨b,.load _ _,ty,c,D,C⟩ st=some (v,u):=h;exact Xp B
 .simp at A
theorem Zxm{a:Array Oper}{o:Oper}{v:SV}{u:List (Nat×Ob)}(A:∀s∈o.looksAt a,st.sl s=st'.sl s)(B:Zbu tt S key o st v u↔Zbu tt S key o st' v u)[NW]:opR tt S a.toList key o st v u↔opR tt S a.toList key o st' v u:=⟨Zje (fun s C=>(A s C).symm) B.1,Zje A B.2⟩
theorem Znb[NW]{o:Oper}{v:SV}{u:List (Nat×Ob)}(C:ZqT o.op=true)(hs:stk tt S o.op st=true)(h:Zbu tt S key o st v u):u=[]/\∀{st':St},(∀x∈o.op.operands,∀t,st.ev tt t x=st'.ev tt t x)->Zbu tt S key o st' v u:=by
 obtain ⟨b,op,ty,c,G,F⟩:=o;unfold ZqT at C;simp only at C;split at C
 rotate_left
 .simp at C
 rename_i t x A hi;have a:slB (st.ev tt 0 x)=true:=hs;have B:opE tt key ⟨b,.slice t x A hi none,ty,c,G,F⟩ st=some (v,u):=h;unfold slB at a;split at a
 rotate_left
 .simp at a
 rename_i y E;constructor
 .simp only[opE]at B;rw [E]at B;simp only[ZaE]at B;obtain ⟨_,_,e⟩:=AE.1 B;simp only[A9]at e;exact e.2.symm
 .intro st' D;show opE tt key ⟨b,.slice t x A hi none,ty,c,G,F⟩ st'=some (v,u)
  have e1:=D x (by simp [Op.operands]) 0;have I:A.map (st.ev tt 0)=A.map (st'.ev tt 0):=by
   cases A with
   |none=>rfl
   |some l=>exact congrArg some (D l (by simp [Op.operands]) 0)
  have H:hi.map (st.ev tt 0)=hi.map (st'.ev tt 0):=by
   cases hi with
   |none=>rfl
   |some l=>exact congrArg some (D l (by simp [Op.operands]) 0)
  rw [<-B];simp only[opE,<-e1,<-I,<-H,E,ZaE]
theorem ZHc[NW]{b:Bool}{f:Array Oper}{oi oj:Oper}{O L:Nat}{vi vj:SV}{ui uj:List (Nat×Ob)}(j:oi.apart f oj=true)(N:Zv1 tt S.hd b oi.op oj.op=true)(hU:StU U st)(C:∀k,O<=k->k<O+16->¬U k)(D:∀k,L<=k->k<L+16->¬U k)(E:O+16<=L\/L+16<=O)
  (B:b=true->stk tt S oi.op st=true) (l:b=true->stk tt S oj.op ((st.put oi.dst vi).app ui)=true) (h:opR tt S f.toList O oi st vi ui) (M:opR tt S f.toList L oj ((st.put oi.dst vi).app ui) vj uj):
  opR tt S f.toList L oj st vj uj/\opR tt S f.toList O oi ((st.put oj.dst vj).app uj) vi ui/\((((st.put oi.dst vi).app ui).put oj.dst vj).app uj)=((((st.put oj.dst vj).app uj).put oi.dst vi).app ui):=by
 by_cases hok:Zxv tt S.hd oi.op oj.op=true
 .exact comm j hok hU C D E h M
 have K:b=true/\(((Zta oi.op=true/\Zzo S.hd oj.op=true)\/(Zzo S.hd oi.op=true/\Zta oj.op=true))\/ZqT oi.op=true\/ZqT oj.op=true):=by
  unfold Zv1 at N
  rw [AU]at N
  have:=N.resolve_left hok
  simp only[AC,AU]at this
  obtain ⟨q1,q2⟩:=this
  exact ⟨q1,by rcases q2 with (q|q)|q;exact .inl q;exact .inr (.inl q);exact .inr (.inr q)⟩
 obtain ⟨K,N⟩:=K
 obtain ⟨a1,a2,a3⟩:=Oper.apart_spec j
 have F:∀t x,svU U (st.ev tt t x):=fun t x=>ZIs hU t x
 have g:∀s∈oj.looksAt f,st.sl s=((st.put oi.dst vi).app ui).sl s:=fun s R=>(Zds st oi.dst vi s fun t T e=>a1 t T (e ▸ R)).symm
 have i:∀s∈oi.looksAt f,st.sl s=((st.put oj.dst vj).app uj).sl s:=fun s R=>(Zds st oj.dst vj s fun t T e=>a3 t T (e ▸ R)).symm
 have c:(((st.put oi.dst vi).put oj.dst vj)).sl=(((st.put oj.dst vj).put oi.dst vi)).sl:=ZrE st _ _ _ _ fun t T=>a2 t T
 have e1:∀(s:St) (u:List (Nat×Ob)) (d:Option Nat) (v:SV),((s.app u).put d v)=((s.put d v).app u):=fun s u d v=>by cases d<;>rfl
 have y:ui=[]\/uj=[]->((((st.put oi.dst vi).app ui).put oj.dst vj).app uj)=((((st.put oj.dst vj).app uj).put oi.dst vi).app ui):=fun V=>by
  rw [e1,e1]
  have hs:((st.put oi.dst vi).put oj.dst vj)=((st.put oj.dst vj).put oi.dst vi):=by
   have h2:((st.put oi.dst vi).put oj.dst vj).ob=((st.put oj.dst vj).put oi.dst vi).ob:=by simp only[ZaA]
   have h3:((st.put oi.dst vi).put oj.dst vj).n=((st.put oj.dst vj).put oi.dst vi).n:=by simp only[Zuq]
   generalize ((st.put oi.dst vi).put oj.dst vj)=s1 at c h2 h3
   generalize ((st.put oj.dst vj).put oi.dst vi)=s2 at c h2 h3
   cases s1;cases s2
   simp only at c h2 h3
   subst c h2 h3
   rfl
  rw [hs]
  rcases V with rfl|rfl<;>rfl
 rcases N with N|o|o
 rotate_left
 ·-- the first is a slice that is only read
  have hs:=B K
  have V:ui=[]:=Zeh h (fun h=>(Znb o hs h).1) id
  subst V
  have hA:opR tt S f.toList L oj st vj uj:=(Zdr (U:=U) g (.inr (.inl (by show st.ob=(st.put oi.dst vi).ob;rw [ZaA])))).2 M
  refine ⟨hA,Zje (fun s R=>(i s R).symm) (fun h=>(Znb o hs h).2 (Zdy i)) h,y (.inl rfl)⟩
 ·-- the second is one
  have hs:=(ZhK (tt:=tt) (S:=S) (st:=st) (vi:=vi) (ui:=ui) (vj:=vj) (uj:=uj) j).1.trans (l K)
  have V:uj=[]:=Zeh M (fun h=>(Znb o (l K) h).1) id
  subst V
  have hA:opR tt S f.toList L oj st vj []:=Zje g (fun h=>(Znb o (l K) h).2 (fun x m t=>(Zdy g x m t).symm)) M
  refine ⟨hA,?_,y (.inr rfl)⟩
  exact (Zdr (U:=U) i (.inr (.inl (by show st.ob=(st.put oj.dst vj).ob;rw [ZaA])))).1 h
 have A:∀{u:List (Nat×Ob)} {q:Nat},(∀p∈u,p.1=0\/(q<=p.1/\p.1<q+16)\/p.2=Yv (st.ob p.1))->(∀k,q<=k->k<q+16->¬U k)->∀k,U k->k≠0->Zv st.ob u k=st.ob k\/Zv st.ob u k=Yv (st.ob k):=fun {u q} hu hq k W w=>by
  have J:∀(u:List (Nat×Ob)) (ob:Nat->Ob),(∀p∈u,p.1=0\/(q<=p.1/\p.1<q+16)\/p.2=Yv (st.ob p.1))->(ob k=st.ob k\/ob k=Yv (st.ob k))->(Zv ob u k=st.ob k\/Zv ob u k=Yv (st.ob k)):=by
   intro u
   induction u with
   |nil=>intro ob _ h;exact h
   |cons p u ih=>
    intro ob hp h
    refine ih _ (fun x mx=>hp x (by simp [mx])) ?_
    by_cases z:k=p.1
    .rcases hp p yG with P|P|P
     .exact absurd (z.trans P) w
     .exact absurd (z ▸ W) (hq p.1 P.1 P.2)
     .right;rw [z,ZN];exact P
    .rw [ZZ _ _ z];exact h
  exact J u st.ob hu (.inl rfl)
 rcases N with ⟨l1,l2⟩|⟨l1,l2⟩
 .have G:=ZAt l1 h
  have H:st.ob=((st.put oi.dst vi).app ui).ob:=by
   subst G
   show st.ob=(st.put oi.dst vi).ob
   rw [ZaA]
  have hA:=(Zdr (U:=U) g (.inr (.inl H))).2 M
  have hs:=(ZhK (tt:=tt) (S:=S) (st:=st) (vi:=vi) (ui:=ui) (vj:=vj) (uj:=uj) j).1.trans (l K)
  refine ⟨hA,?_,y (.inl G)⟩
  refine Zeh hA (fun hx=>?_) (fun e=>?_)
  .refine (Zxm i (ZrJ (U:=U) l1 (Zdy i) (B K) F fun k W w=>?_)).1 h
   show Zv (st.put oj.dst vj).ob uj k=_\/Zv (st.put oj.dst vj).ob uj k=_
   rw [ZaA]
   exact A (Zqt l2 hs hx) D k W w
  .refine (Zdr (U:=U) i (.inr (.inl ?_))).1 h
   subst e
   show st.ob=(st.put oj.dst vj).ob
   rw [ZaA]
 .have I:=ZAt l2 M
  have hs:=(ZhK (tt:=tt) (S:=S) (st:=st) (vi:=vi) (ui:=ui) (vj:=vj) (uj:=uj) j).1.trans (l K)
  have hA:opR tt S f.toList L oj st vj uj:=by
   refine Zeh h (fun hx=>?_) (fun e=>?_)
   .refine (Zxm g (ZrJ (U:=U) l2 (Zdy g) hs F fun k W w=>?_)).2 M
    show Zv (st.put oi.dst vi).ob ui k=_\/Zv (st.put oi.dst vi).ob ui k=_
    rw [ZaA]
    exact A (Zqt l1 (B K) hx) C k W w
   .refine (Zdr (U:=U) g (.inr (.inl ?_))).2 M
    subst e
    show st.ob=(st.put oi.dst vi).ob
    rw [ZaA]
  refine ⟨hA,(Zdr (U:=U) i (.inr (.inl ?_))).1 h,y (.inr I)⟩
  subst I
  show st.ob=(st.put oj.dst vj).ob
  rw [ZaA]
end
end
section
open Go.RowKit
section
variable {P:Program} {J:World->Prop} {JF:Nat->Prop} {W:Zbb} {U:Nat->Prop} {key:Nat} {st st':St} {w w':World} {a:Act} {tt:Nat->Option TI} {hds:FuncId->Nat} {Q:Exit->Act->World->Prop}
def ZA6[NW](W:Zbb)(N:Nat)(U:Nat->Prop)(st:St):Prop:=∃a w,Inv W U st a w/\a.tmps.size=N
theorem ZBh[NW](B:MOk P J JF W tt){N:Nat}{all:List Oper}{o:Oper}{v:SV}{u:List (Nat×Ob)}(h:opR tt (SC P J JF hds) all key o st v u)(hR:ZA6 W N U st)(d:∀k,key<=k->k<key+16->¬U k)(hd:∀t,o.dst=some t->t<N/\(W.hv=none\/t≠0)):
  ZA6 W N (Uk U key) ((st.put o.dst v).app u):=by
 obtain ⟨a,w,S,L⟩:=hR;have i:∀t,o.dst=some t->t<a.tmps.size/\(W.hv=none\/t≠0):=fun t ht=>L ▸ hd t ht;have j:v=.und/\u=[]->ZA6 W N (Uk U key) ((st.put o.dst v).app u):=fun ⟨e1,e2⟩=>by
  subst e1 e2;exact ⟨_,w,Zxi S _ i,by rw [ZdA];exact L⟩
 have l:Zbu tt (SC P J JF hds) key o st v u->ZA6 W N (Uk U key) ((st.put o.dst v).app u):=fun h=>by
  obtain ⟨⟨g,R,D⟩,C,f,O⟩:=S;have A:∀(ts:List TypeId) (args:List Operand),ZW (SVR g w) (evs tt st ts args) (args.map a.eval)/\∀x∈evs tt st ts args,svU U x:=fun ts args=>by
   have he:args.map a.eval=(Zlg ts args).map fun p=>a.eval p.2:=by
    have:=congrArg (AA a.eval) (Zgj ts args);rw [<-this,Ay];rfl
   refine ⟨?_,fun x M=>?_⟩
   .rw [he];exact ZW.of_map _ _ fun p _=>(ZmP B.tt D C p.1 p.2).1
   .obtain ⟨p,_,rfl⟩:=AD.1 M;exact (ZmP B.tt D C p.1 p.2).2
  cases hc:Xe o.op with
  |some c=>
   simp only[Zbu,hc]at h;obtain ⟨_,b⟩:=ZiH B h R C d (A c.2.1 c.2.2).1 (A c.2.1 c.2.2).2;obtain ⟨e,w',fr,⟨V,_,T,K,I,H,G,F,E⟩,_⟩:=b [];exact ⟨_,_,ZgV D C f O i K I H G F E,by rw [ZdA];exact L⟩
  |none=>
   simp only[Zbu,hc]at h;cases hd2:XA o.op with
   |some c=>
    rw [hd2]at h;simp only at h;obtain ⟨fc,h1,_,h⟩:=h;obtain ⟨cs,_,q⟩:=ZtD h1 (D c.1);obtain ⟨_,b⟩:=ZiH B h R C d ((A c.2.1 c.2.2).1.append q) (fun x M=>by
     rcases AB.1 M with m|m
     .exact (A c.2.1 c.2.2).2 x m
     .obtain ⟨c,_,rfl⟩:=AD.1 m;exact X5 _)
    obtain ⟨e,w',fr,⟨V,_,T,K,I,H,G,F,E⟩,_⟩:=b [];exact ⟨_,_,ZgV D C f O i K I H G F E,by rw [ZdA];exact L⟩
   |none=>
    rw [hd2]at h;simp only at h;obtain ⟨T,cv,w',_,K,I,H,G,F,E⟩:=Zru (P:=P) (W:=W) (a:=a) B.tt o h R D C (d key (AK _) yE);exact ⟨_,_,ZgV D C f O i K I H G F E,by rw [ZdA];exact L⟩
 unfold opR at h;split at h
 .exact l h
 .exact j h
 .unfold gK at h;split at h
  .split at h
   .exact l h
   .exact j h
  .split at h
   .exact j h
   .exact h.elim
theorem Zjf{S:Ctx}{b:Bool}{all:List Oper}{base i:Nat}{r:List Nat}{K:St->Prop}{o:Oper}(A:all[i]?=some o):ZgR tt S b all base (i::r) K st=ifB b (stk tt S o.op st) (opG tt S all (base+16*i) o (ZgR tt S b all base r K) st):=by simp only[ZgR,A]
theorem Zxs[NW]{S:Ctx}{all:List Oper}{base:Nat}{K:St->Prop}:∀(r:List Oper) (i:Nat) (st:St),all.drop i=r->Yp tt S all (base+16*i) r K st->ZgR tt S false all base (List.range' i r.length) K st
 | [],_,_,_,h=>h
 |o::r,i,st,hr,h=>by
  have hi:all[i]?=some o:=by
   have:=congrArg (fun l=>l[0]?) hr;simpa using this
  have a:all.drop (i+1)=r:=by
   have:=congrArg List.tail hr;simpa using this
  rw [Az,B3,Zjf hi];obtain ⟨v,u,B,A⟩:=Zi8.1 h;refine Zi8.2 ⟨v,u,B,Zxs r (i+1) _ a ?_⟩;rw [show base+16*(i+1)=base+16*i+16 by omega];exact A
theorem Zr9{b c:Bool}{P:Prop}:ifB b c P↔(b=true->c=true)/\P:=by
 cases b<;>simp [ifB]
theorem ZIv[NW](B:MOk P J JF W tt){b:Bool}{f:Array Oper}{N base i:Nat}{o:Oper}(M:f.toList[i]?=some o)(R:∀o∈f.toList,∀t,o.dst=some t->t<N/\(W.hv=none\/t≠0)){K:St->Prop}{R2:List Nat}:∀(R1:List Nat) (U:Nat->Prop) (st:St),(R1++i::R2).Nodup->
  (∀j∈R1,∃oj,f.toList[j]?=some oj/\oj.apart f o=true/\Zv1 tt hds b oj.op o.op=true)->(∀j∈R1++i::R2,∀k,base+16*j<=k->k<base+16*j+16->¬U k)->ZA6 W N U st->
  ZgR tt (SC P J JF hds) b f.toList base (R1++i::R2) K st->(b=true->stk tt (SC P J JF hds) o.op st=true)/\opG tt (SC P J JF hds) f.toList (base+16*i) o (ZgR tt (SC P J JF hds) b f.toList base (R1++R2) K) st:=by
 intro R1;induction R1 with
 |nil=>
  intro U st _ _ _ _ h;rw [List.nil_append,Zjf M]at h;exact Zr9.1 h
 |cons j R1 ih=>
  intro U st l g C I h;obtain ⟨oj,D,m,u⟩:=g j yG;rw [Aj,Zjf D]at h;obtain ⟨G,h⟩:=Zr9.1 h;obtain ⟨vj,uj,L,h2⟩:=Zi8.1 h;have p:=C j yG;have v:=C i yG;rw [Aj,AZ]at l;have O:i≠j:=fun e=>l.1 (by simp [e]);have w:=ZBh B L I p (R oj (Ah D));obtain ⟨H,h3⟩:=ih (Uk U (base+16*j)) _ l.2 (fun q A=>g q (by simp [A])) (fun q A k a b F=>by
   rcases F with F|⟨c,d⟩
   .exact C q (by simp;simp at A;exact .inr A) k a b F
   .have:q=j:=by omega
    subst this;exact l.1 A) w h2
  obtain ⟨vi,ui,V,T⟩:=Zi8.1 h3;obtain ⟨_,_,x,_⟩:=I;obtain ⟨c1,c2,c3⟩:=ZHc (tt:=tt) (S:=SC P J JF hds) (b:=b) m u x.wf p v yE G H L V;have e1:=(ZhK (tt:=tt) (S:=SC P J JF hds) (st:=st) (vi:=vj) (ui:=uj) (vj:=vi) (uj:=ui) m).1;have e2:=(ZhK (tt:=tt) (S:=SC P J JF hds) (st:=st) (vi:=vj) (ui:=uj) (vj:=vi) (uj:=ui) m).2;refine ⟨fun E=>e1.trans (H E),Zi8.2 ⟨vi,ui,c1,?_⟩⟩;rw [Aj,Zjf D];exact Zr9.2 ⟨fun E=>e2.trans (G E),Zi8.2 ⟨vj,uj,c2,c3 ▸ T⟩⟩
def anc(ops:Array Oper):Nat->Nat->List Nat
 |0,_=>[]
 |n+1,j=>match ops[j]? with
  |some o=>(o.after.toList.filter (Region.binds .any)).flatMap fun e=>e.on::anc ops n e.on
  |none=>[]
def Zmw(tt:Nat->Option TI)(hds:FuncId->Nat)(b:Bool)(ops:Array Oper)(i j:Nat):Bool:=!Nat.beq i j&&match ops[i]?,ops[j]? with
 |some oi,some oj=>(oi.after.toList.all fun e=>!Region.binds .any e||!Nat.beq e.on j)&&((anc ops ops.size j).contains i||(oi.apart ops oj&&Zv1 tt hds b oi.op oj.op))
 |_,_=>true
def Zh5(tt:Nat->Option TI)(hds:FuncId->Nat)(b:Bool)(ops:Array Oper):List Nat->Bool
 | []=>true
 |i::r=>r.all (Zmw tt hds b ops i)&&Zh5 tt hds b ops r
def elB(ops:Array Oper)(j:Nat):Bool:=match ops[j]? with
 |some oj=>oj.after.toList.all fun e=>!Region.binds .any e||(Nat.blt e.on ops.size&&!Nat.beq e.on j)
 |none=>true
def ZCg(ops:Array Oper):Bool:=(Ac ops.size).all (elB ops)
def ZnC(tt:Nat->Option TI)(hds:FuncId->Nat)(ops:Array Oper):Bool:=Zh5 tt hds false ops (Ac ops.size)&&ZCg ops
def ZxL(tt:Nat->Option TI)(hds:FuncId->Nat)(b:Bool)(ops:Array Oper)(l:List Nat):Bool:=Zh5 tt hds b ops l&&ZCg ops&&Nat.ble l.length ops.size&&l.all (Nat.blt · ops.size)&&(Ac ops.size).all l.contains
theorem Zu3{a:Array Oper}(h:ZCg a=true)(j:Nat):elB a j=true:=by
 rcases Ak j a.size with A|A
 .exact AN.1 h j (by simpa using A)
 .unfold elB;rw [Am A]
theorem Zrz{b:Bool}{a:Array Oper}:∀{l:List Nat},Zh5 tt hds b a l=true->l.Pairwise fun i j=>Zmw tt hds b a i j=true
 | [],_=>List.Pairwise.nil
 |i::r,h=>by
  simp only[Zh5,AC,AN]at h;exact List.Pairwise.cons h.1 (Zrz h.2)
theorem ZvK{i j:Nat}(h:(!Nat.beq i j)=true):i≠j:=fun e=>by subst e;simp at h
theorem Zo5{b:Bool}{a:Array Oper}{i j:Nat}{oi oj:Oper}(h:Zmw tt hds b a i j=true)(hi:a[i]?=some oi)(B:a[j]?=some oj):(∀e∈oi.after,Region.binds .any e=true->e.on≠j)/\(i∈anc a a.size j\/(oi.apart a oj=true/\Zv1 tt hds b oi.op oj.op=true)):=by
 simp only[Zmw,hi,B,AC,AN,AU]at h;refine ⟨fun e A C=>?_,h.2.2.imp (fun h=>by simpa using h) fun h=>h⟩;have h1:=h.2.1 e (by simpa using A);rw [C]at h1;exact ZvK (h1.resolve_left yG)
theorem Zog{b:Array Oper}{a:Array Bool}(c:∀i o,b[i]?=some o->a.getD i false=true->∀e∈o.after,Region.binds .any e=true->a.getD e.on false=true):
  ∀(n j:Nat) (o:Oper),b[j]?=some o->(∀e∈o.after,Region.binds .any e=true->a.getD e.on false=true)->∀i∈anc b n j,a.getD i false=true
 |0,j,o,_,_,i,A=>by simp [anc]at A
 |n+1,j,o,ho,he,i,A=>by
  simp only[anc,ho,List.mem_flatMap,List.mem_filter]at A;obtain ⟨e,⟨B,C⟩,A⟩:=A;have hl:=he e (by simpa using B) C;rcases AM.1 A with rfl|A
  .exact hl
  .cases ho':b[e.on]? with
   |none=>cases n<;>simp [anc,ho']at A
   |some o'=>exact Zog c n e.on o' ho' (fun D d f=>c e.on o' ho' hl D d f) i A
theorem ZyG[NW](aa:MOk P J JF W tt){b:Bool}{g:Array Oper}{N base:Nat}(hN:∀o∈g.toList,∀t,o.dst=some t->t<N/\(W.hv=none\/t≠0))(hE:∀j,elB g j=true){K:St->Prop}
  (hQ:∀U' st' a' w',Inv W U' st' a' w'->(∀k,base+16*g.size<=k->¬U' k)->a'.tmps.size=N->K st'->Q .normal a' w'):
  ∀(p:Nat) (R:List Nat) (f:Array Bool) (U:Nat->Prop) (st:St) (a:Act) (w:World),R.length<=p->R.Pairwise (fun i j=>Zmw tt hds b g i j=true)->f.size=g.size->(∀i,i∈R↔(i<g.size/\f.getD i true=false))->
   (∀i o,g[i]?=some o->f.getD i false=true->∀e∈o.after,Region.binds .any e=true->f.getD e.on false=true)->
   ZgR tt (SC P J JF hds) b g.toList base R K st->Inv W U st a w->(∀j∈R,∀k,base+16*j<=k->k<base+16*j+16->¬U k)->(∀k,base+16*g.size<=k->¬U k)->a.tmps.size=N->wpAny P .any g Q p f a w:=by
 have L:∀j oj,g[j]?=some oj->∀e∈oj.after,Region.binds .any e=true->e.on<g.size/\e.on≠j:=fun j oj hj e me hb=>by
  have h1:=hE j;simp only[elB,hj,AN,AU,AC]at h1;have h2:=h1 e (by simpa using me);rw [hb]at h2;have h3:=h2.resolve_left yG;exact ⟨AH h3.1,ZvK h3.2⟩
 intro p;induction p with
 |zero=>
  intro R f U st a w B _ y l _ h hI _ hU hs;have hR:R=[]:=List.eq_nil_of_length_eq_zero yE;subst hR;refine ⟨?_,hQ U st a w hI hU hs h⟩;rw [List.eq_nil_iff_forall_not_mem];intro i mi;obtain ⟨h1,o,h2,_⟩:=mem_ready.1 mi;exact absurd ((l i).2 ⟨(Ad.1 h2).1,h1⟩) yG
 |succ p ih=>
  intro R f U st a w B z y l F h hI hk hU hs;refine ⟨fun hr=>?_,fun i mi=>?_⟩
  .cases R with
   |nil=>exact hQ U st a w hI hU hs h
   |cons r0 R=>
    exfalso;obtain ⟨m1,m2⟩:=(l r0).1 yG;have:r0∈Region.ready .any g f:=mem_ready.2 ⟨m2,g[r0],by simp [m1],fun e me hb=>by
     have x:=L r0 g[r0] (by simp [m1]) e me hb;by_cases hl:f.getD e.on true=false
     .have mR:=(l e.on).2 ⟨x.1,hl⟩;rcases AM.1 mR with e1|mR
      .exact absurd e1 x.2
      .exact absurd rfl ((Zo5 ((List.pairwise_cons.1 z).1 _ mR) (oi:=g[r0]) (oj:=g[e.on]'x.1) (by simp [m1]) (by simp [x.1])).1 e me hb)
     .have G:e.on<f.size:=by omega
      simp only[AJ,G,getElem?_pos,An,Bool.not_eq_false]at hl ⊢;exact hl⟩
    rw [hr]at this;simp at this
  .obtain ⟨i1,o,i2,i3⟩:=mem_ready.1 mi;have C:i<g.size:=(Ad.1 i2).1;have M:i∈R:=(l i).2 ⟨C,i1⟩;obtain ⟨R1,R2,rfl⟩:=List.append_of_mem M;have A:(R1++i::R2).Nodup:=z.imp fun h=>by
    simp only[Zmw,AC]at h;exact ZvK h.1
   have ho:g.toList[i]?=some o:=by simpa using i2
   have H:=Zog F g.size i o i2 i3;have D:∀j∈R1,∃oj,g.toList[j]?=some oj/\oj.apart g o=true/\Zv1 tt hds b oj.op o.op=true:=fun j mj=>by
    obtain ⟨j1,j2⟩:=(l j).1 (by simp [mj]);have O:=(List.pairwise_append.1 z).2.2 j mj i yG;have hj:g[j]?=some g[j]:=by simp [j1]
    refine ⟨g[j],by simp [j1],(Zo5 O hj i2).2.resolve_left fun ma=>?_⟩;have:=H j ma;have x:j<f.size:=by omega
    simp only[AJ,x,getElem?_pos,An]at this j2;rw [this]at j2;simp at j2
   have S:=(ZIv aa ho hN R1 U st A D hk ⟨a,w,hI,hs⟩ h).2;refine wpOp_mono ?_ (Zqq aa i2 S hI (hk i yG) (fun t ht=>by rw [hs];exact hN o (Ah ho) t ht));rintro a' w' ⟨st',T,ac,V⟩;have I:∀q,(f.setIfInBounds i true).getD q true=if q=i then true else f.getD q true:=fun q=>by
    by_cases e:q=i
    .subst e;simp [AJ,Ae,y,C]
    .simp [AJ,Ab (fun e':i=q=>e e'.symm),e]
   have E:∀q,(f.setIfInBounds i true).getD q false=if q=i then true else f.getD q false:=fun q=>by
    by_cases e:q=i
    .subst e;simp [AJ,Ae,y,C]
    .simp [AJ,Ab (fun e':i=q=>e e'.symm),e]
   have v:i∉R1++R2:=by
    rw [Aa]at A;intro m;rcases AB.1 m with m|m
    .exact A.2.2 i m i yG rfl
    .exact (AZ.1 A.2.1).1 m
   refine ih (R1++R2) _ (Uk U (base+16*i)) st' a' w' (by simp at B ⊢;omega) (z.sublist (Ap (B5 _) (List.sublist_cons_self i R2))) (by simp [y]) (fun q=>?_) (fun q oq hq hl e me hb=>?_) V T (fun q mq k c d u=>?_) (fun k X u=>?_) yE
   .rw [I q];by_cases e:q=i
    .subst e;simp only[if_true,Bool.true_eq_false,and_false,iff_false];exact v
    .rw [yn e,<-l q];simp [e]
   .rw [E]at hl ⊢;by_cases e1:e.on=i
    .simp [e1]
    .rw [yn e1];by_cases e2:q=i
     .subst e2;rw [i2]at hq;simp only[A0]at hq;subst hq;exact i3 e me hb
     .rw [yn e2]at hl;exact F q oq hq hl e me hb
   .have Y:q∈R1++i::R2:=by simp at mq ⊢;rcases mq with mq|mq<;>simp [mq]
    rcases u with u|⟨c',d'⟩
    .exact hk q Y k c d u
    .have:q=i:=by omega
     subst this;exact v mq
   .rcases u with u|⟨c',d'⟩
    .exact hU k X u
    .omega
end
end
section
open Go.RowKit
theorem Zw7:∀{ρ:List Nat}{k i j:Nat},Zsq ρ k i=some j->i<=j/\ρ[j - i]?=some k
 | [],_,_,_,h=>by simp [Zsq]at h
 |x::r,k,i,j,h=>by
  simp only[Zsq]at h;split at h
  .rename_i e;simp only[A0]at h;subst h e;exact ⟨AK _,yG⟩
  .obtain ⟨B,A⟩:=Zw7 h;refine ⟨yE,?_⟩;rw [show j - i=(j - (i+1))+1 by omega];simpa using A
theorem Zeg[NW]{ρ:List Nat}{k j:Nat}(h:Zsq ρ k 0=some j):ρ[j]?=some k:=by simpa using (Zw7 h).2
theorem ZqL{α:Type}:∀{l:List α},l.Nodup->∀{i j:Nat}(hi:i<l.length) (A:j<l.length),l[i]=l[j]->i=j
 | [],_,_,_,hi,_,_=>by simp at hi
 |x::l,h,0,0,_,_,_=>rfl
 |x::l,h,0,j+1,_,A,e=>by
  rw [AZ]at h;exact absurd (by simp at e;rw [e];exact B9 _) h.1
 |x::l,h,i+1,0,hi,_,e=>by
  rw [AZ]at h;exact absurd (by simp at e;rw [<-e];exact B9 _) h.1
 |x::l,h,i+1,j+1,hi,A,e=>by
  rw [AZ]at h;have:=ZqL h.2 (i:=i) (j:=j) (by simpa using hi) (by simpa using A) (by simpa using e);omega
section
variable {P:Program} {J:World->Prop} {JF:Nat->Prop} {W:Zbb} {U:Nat->Prop} {st st':St} {w w':World} {a:Act} {tt:Nat->Option TI} {S:Ctx}
theorem ZF8[NW]{g A:Gh}{ρ:List Nat}(C:∀j k,ρ[j]?=some k->A.val j=g.val k)(B:X4 A g){x:AV}{v:Value}(h:AVR g w x v):AVR A w (rAV ρ x) v:=by
 cases x with
 |c x=>obtain ⟨L,F,E⟩:=h;exact ⟨L,F,fun b m o=>E b m (B.own b o)⟩
 |n x=>exact NR.move h (fun _ _ _=>rfl) (B.grow _)
 |row k=>
  simp only[rAV];split
  .rename_i j D;exact ⟨by rw [C j k (Zeg D)];exact h.1,h.2⟩
  .exact h.2
 |nil e m=>exact h
 |dead=>exact h
theorem ZW.map_left{α β γ:Type}{R:α->γ->Prop}{R':β->γ->Prop}(f:α->β)(h:∀a c,R a c->R' (f a) c):∀{l:List α}{r:List γ},ZW R l r->ZW R' (l.map f) r
 | [],[],_=>trivial
 |_::_,_::_,hh=>⟨h _ _ hh.1,hh.2.map_left f h⟩
 | [],_::_,h=>h.elim
 |_::_,[],h=>h.elim
theorem Zzr[NW](ρ:List Nat)(x:AV):avU (fun j=>j<ρ.length) (rAV ρ x):=by
 cases x with
 |row k=>
  simp only[rAV];split
  .rename_i j A;exact (AP.1 (Zeg A)).1
  .trivial
 |_=>trivial
theorem Zxg[NW](hI:Inv W U st a w){ρ:List Nat}(hρ:ρ.Nodup):Inv W (fun j=>j<ρ.length) (st.ren ρ) a w:=by
 obtain ⟨⟨g,R,hS⟩,hU,B,hh⟩:=hI;let J:Gh:=⟨fun j=>match ρ[j]? with|some k=>g.val k|none=>undef,fun j=>match ρ[j]? with|some k=>g.O k|none=>[],fun j=>match ρ[j]? with|some k=>g.D k|none=>[],g.Z⟩
 have M:∀j k,ρ[j]?=some k->J.val j=g.val k/\J.O j=g.O k/\J.D j=g.D k:=fun j k h=>by simp [J,h]
 have P:∀j,ρ[j]?=none->J.O j=[]/\J.D j=[]:=fun j h=>by simp [J,h]
 have ho:∀b,J.own b->g.own b:=fun b hb=>by
  rcases hb with ⟨j,mj⟩|hz
  .cases h:ρ[j]? with
   |none=>rw [(P j h).1]at mj;simp at mj
   |some k=>rw [(M j k h).2.1]at mj;exact .inl ⟨k,mj⟩
  .exact .inr hz
 have A:X4 J g:=.of ho fun j b H=>by
  cases h:ρ[j]? with
  |none=>rw [(P j h).2]at H;simp at H
  |some k=>rw [(M j k h).2.2]at H;exact ⟨k,H⟩
 have C:∀x v,AVR g w x v->AVR J w (rAV ρ x) v:=fun x v h=>ZF8 (fun j k F=>(M j k F).1) A h;have u:∀xs vs,ZW (AVR g w) xs vs->ZW (AVR J w) (xs.map (rAV ρ)) vs:=fun xs vs h=>h.map_left _ C;have E:∀ag cs v,PVR g w ag cs v->PVR J w ag (cs.map (rAV ρ)) v:=fun ag cs v h=>by
  cases ag with
  |true=>obtain ⟨vs,K,I⟩:=h;exact ⟨vs,K,u _ _ I⟩
  |false=>obtain ⟨x,rfl,I⟩:=h;exact ⟨_,rfl,C _ _ I⟩
 refine ⟨⟨J,⟨R.below,fun j=>?_,fun j=>?_,fun j i G b H=>?_,fun j b H=>?_,R.gz,R.zx,R.nw⟩,fun t=>?_⟩,⟨fun t=>?_,fun j=>?_,fun j T=>?_⟩,B,hh⟩
 .show ObR J w j (match ρ[j]? with|some k=>rOb ρ (st.ob k)|none=>.gone)
  cases h:ρ[j]? with
  |none=>exact P j h
  |some k=>
   obtain ⟨e1,e2,e3⟩:=M j k h;have l:=R.obs k;show ObR J w j (rOb ρ (st.ob k))
   cases hok:st.ob k with
   |gone=>rw [hok]at l;exact ⟨e2.trans l.1,e3.trans l.2⟩
   |box t cs=>
    rw [hok]at l;obtain ⟨b,vs,K,I,S,N,V⟩:=l;exact ⟨b,vs,e1.trans K,e2.trans I,e3.trans S,N,u _ _ V⟩
   |map kk vk kv=>
    rw [hok]at l;obtain ⟨b,es,c,K,I,S,N⟩:=l;exact ⟨b,es,c,e1.trans K,e2.trans I,e3.trans S,N⟩
   |row e m xs d=>
    rw [hok]at l;obtain ⟨hm,cs,L,K,I,N⟩:=l;refine ⟨hm,cs,L,by rw [e1];exact K,I,?_⟩;rw [e1,e2,e3];rcases N with N|⟨hd,S,N,V⟩|⟨hd,S,N,V⟩
    .exact .inl N
    .exact .inr (.inl ⟨hd,S,N,fun b H o=>V b H (ho b o)⟩)
    .exact .inr (.inr ⟨hd,S,N,fun b H o=>V b H (ho b o)⟩)
 .cases h:ρ[j]? with
  |none=>rw [(P j h).1,(P j h).2];simp
  |some k=>rw [(M j k h).2.1,(M j k h).2.2];exact R.nodup k
 .cases h:ρ[j]? with
  |none=>rw [(P j h).1,(P j h).2]at H;simp at H
  |some k=>
   rw [(M j k h).2.1,(M j k h).2.2]at H;cases h':ρ[i]? with
   |none=>rw [(P i h').1,(P i h').2];simp
   |some q=>
    rw [(M i q h').2.1,(M i q h').2.2];refine R.apart k q (fun e=>G ?_) b H;subst e;obtain ⟨l1,e1⟩:=AP.1 h;obtain ⟨l2,e2⟩:=AP.1 h';exact ZqL hρ l1 l2 (e1.trans e2.symm)
 .cases h:ρ[j]? with
  |none=>rw [(P j h).1,(P j h).2]at H;simp at H
  |some k=>
   rw [(M j k h).2.1,(M j k h).2.2]at H;refine ⟨(R.plain k b H).1,(R.plain k b H).2.of ?_⟩;show Zk0 (match ρ[j]? with|some k=>rOb ρ (st.ob k)|none=>.gone)=_
   rw [h];show Zk0 (rOb ρ (st.ob k))=_
   cases st.ob k<;>rfl
 .have hs:=hS t;show SVR J w (rSV ρ (st.sl t)) _
  cases hsl:st.sl t with
  |any=>trivial
  |und=>rw [hsl]at hs;exact hs
  |p ag cs=>rw [hsl]at hs;exact E _ _ _ hs
  |tup xs=>
   rw [hsl]at hs;obtain ⟨vs,K,I⟩:=hs;exact ⟨vs,K,I.map_left (fun x:Bool×List AV=>(x.1,x.2.map (rAV ρ))) fun x v h=>E x.1 x.2 v h⟩
  |bp k off=>
   rw [hsl]at hs;simp only[rSV];split
   .rename_i j T;obtain ⟨b,K,I⟩:=hs;exact ⟨b,((M j k (Zeg T)).1).trans K,I⟩
   .trivial
  |rp k m i off=>
   rw [hsl]at hs;simp only[rSV];split
   .rename_i j T;obtain ⟨b,o,n,c,K,I⟩:=hs;exact ⟨b,o,n,c,((M j k (Zeg T)).1).trans K,I⟩
   .trivial
  |ep e off=>
   rw [hsl]at hs;obtain ⟨b,lo,cs,L,K,I,S,N,V⟩:=hs;exact ⟨b,lo,cs,L,K,I,S,fun x m o=>N x m (ho x o),V⟩
  |fn f=>rw [hsl]at hs;exact hs
 .show svU _ (rSV ρ (st.sl t))
  cases st.sl t with
  |p ag cs=>intro y my;obtain ⟨x,_,rfl⟩:=AD.1 my;exact Zzr ρ x
  |tup xs=>
   intro y my;obtain ⟨x,_,rfl⟩:=AD.1 my;intro z mz;obtain ⟨q,_,rfl⟩:=AD.1 mz;exact Zzr ρ q
  |bp k off=>
   simp only[rSV];split
   .rename_i j T;exact (AP.1 (Zeg T)).1
   .trivial
  |rp k m i off=>
   simp only[rSV];split
   .rename_i j T;exact (AP.1 (Zeg T)).1
   .trivial
  |_=>trivial
 .show obU _ (match ρ[j]? with|some k=>rOb ρ (st.ob k)|none=>.gone)
  split
  .rename_i k _;cases st.ob k with
   |box t cs=>intro y my;obtain ⟨x,_,rfl⟩:=AD.1 my;exact Zzr ρ x
   |_=>trivial
  .trivial
 .show (match ρ[j]? with|some k=>rOb ρ (st.ob k)|none=>.gone)=.gone
  have:ρ[j]?=none:=List.getElem?_eq_none yE;rw [this]
theorem ZBT[NW]{g:Gh}{ob:Nat->Ob}(C:HI W g ob w){k e m d I:Nat}{xs:List (List CT)}(M:ob k=.row e m xs d)(hd:I<d):∃A:Gh,HI W A (upd ob k (.row e m xs I)) w/\A.val=g.val/\X4 A g:=by
 by_cases h0:I=0
 .obtain ⟨A,G,F,H,_⟩:=ZkD C k;rw [M]at G;exact ⟨A,by rw [h0];exact G,F,H⟩
 .have ho:=C.obs k;rw [M]at ho;obtain ⟨hm,cs,L,o1,o2,J⟩:=ho;have F:d=2/\g.O k=(g.val k).ownBlock.toList/\g.D k=L:=by
   rcases J with J|⟨q,_⟩|⟨q,_⟩
   .exact J
   .omega
   .omega
  obtain ⟨rfl,U,T⟩:=F;obtain rfl:I=1:=by omega
  let A:Gh:=⟨g.val,g.O,upd g.D k [],g.Z⟩
  have S:∀b,A.own b↔g.own b:=fun b=>Iff.rfl;have l:X4 A g:=.of (fun b N=>N) fun j b E=>by
   by_cases B:j=k
   .subst B;simp [A,upd]at E
   .exact ⟨j,by simpa [A,upd,B]using E⟩
  have f:∀j b,b∈A.O j++A.D j->b∈g.O j++g.D j:=fun j b E=>by
   by_cases B:j=k
   .subst B;simp [A,upd]at E;simp [E]
   .simpa [A,upd,B]using E
  refine ⟨A,⟨C.below,fun j=>?_,fun j=>?_,fun i j o b E mj=>C.apart i j o b (f i b E) (f j b mj),fun j b E=>⟨(C.plain j b (f j b E)).1,(C.plain j b (f j b E)).2.of (by
   by_cases B:j=k
   .subst B;rw [ZN,M];rfl
   .rw [ZZ _ _ B])⟩,C.gz,C.zx,C.nw⟩,rfl,l⟩
  .by_cases B:j=k
   .subst B;rw [ZN];refine ⟨hm,cs,L,o1,o2,.inr (.inl ⟨rfl,U,by simp [A,upd],fun b E N=>?_⟩)⟩;have K:b∈g.D j:=by rw [T];exact E
    rcases N with ⟨i,R⟩|hz
    .by_cases o:i=j
     .subst o;have:=C.nodup i;rw [Aa]at this;exact this.2.2 b R b K rfl
     .exact C.apart i j o b (by simp;exact .inl R) (by simp [K])
    .exact C.nz (k:=j) (b:=b) (by simp [K]) hz
   .rw [ZZ _ _ B];have a:=C.obs j;cases hh:ob j with
    |gone=>rw [hh]at a;exact ⟨a.1,by simpa [A,upd,B]using a.2⟩
    |box t ds=>
     rw [hh]at a;obtain ⟨b,vs,G,F,H,P,h5⟩:=a;exact ⟨b,vs,G,F,by simpa [A,upd,B]using H,P,h5.mono fun x u _ hx=>AVR.less hx rfl l⟩
    |map kk vk kv=>
     rw [hh]at a;obtain ⟨b,es,c,G,F,H,P⟩:=a;exact ⟨b,es,c,G,F,by simpa [A,upd,B]using H,P⟩
    |row e' m' xs' d2=>
     rw [hh]at a;obtain ⟨p,v,L',p1,p2,V⟩:=a;refine ⟨p,v,L',p1,p2,?_⟩;have e2:A.D j=g.D j:=by simp [A,upd,B]
     rw [e2];exact V
  .by_cases B:j=k
   .subst B;have:=C.nodup j;rw [Aa]at this;simpa [A,upd]using this.1
   .have:=C.nodup j;simpa [A,upd,B]using this
theorem ZB7[NW](m:Bool×Nat×Nat)(hI:Inv W U st a w)(hk:∀k,st.n<=k->¬U k):∃U',Inv W U' (st.mat m) a w/\∀k,(st.mat m).n<=k->¬U' k:=by
 have A:∃U',Inv W U' st a w/\∀k,st.n<=k->¬U' k:=⟨U,hI,hk⟩
 have S:¬U st.n:=hk st.n (AK _);have N:∀k,st.n+1<=k->¬(U k\/k=st.n):=fun k l h=>by
  rcases h with h|h
  .exact hk k yE h
  .omega
 have T:∀(e q:Nat),0<q->∀g,HI W g st.ob w->∃g',HI W g' (upd st.ob st.n (.row e q [] 2)) w/\(∀x u,svU U x->SVR g w x u->SVR g' w x u)/\g'.val st.n=.slice none 0 0/\(∀x u,avU U x->AVR g w x u->AVR g' w x u):=fun e q hq g hH=>by
  obtain ⟨t1,t2⟩:=hH.turn (key:=st.n) (U:=U) (w':=w) (v:=.slice none 0 0) (O:=[]) (D:=[]) (o:=.row e q [] 2) hI.wf.ob S [] yG hH.below (AK _) (fun _ _ _=>rfl) yG yG yG yG
   (fun _=>⟨hq,[],[],by simpa [Gh.turn,upd]using ZiU _ _ _ _,⟨rfl,rfl⟩,.inl ⟨rfl,by simp [Gh.turn,upd,Value.ownBlock],by simp [Gh.turn]⟩⟩)
  refine ⟨_,t1,t2,by simp [Gh.turn,upd],fun x u hx hu=>hu.move hx (fun k l=>ZZ _ _ fun e=>S (e ▸ l)) (fun _ _ _=>rfl) (Zrc yG yG)⟩
 have up:∀k,U k->(U k\/k=st.n):=fun _ h=>.inl h;obtain ⟨⟨g,hH,hS⟩,hU,B,hh⟩:=hI;have P:∀k e q xs d,st.ob k=.row e q xs d->∃g1:Gh,HI W g1 (upd st.ob k (.row e q xs 0)) w/\g1.val=g.val/\X4 g1 g/\U k/\∀v,AVR g w (.row k) v->AVR g1 w (.c (.sl e q xs)) v:=fun k e q xs d f=>by
  obtain ⟨g1,i1,i2,i3,_⟩:=ZkD hH k;rw [f]at i1;obtain ⟨L,t1,t2⟩:=Ztb i1 (ZN st.ob k (.row e q xs 0));exact ⟨g1,i1,i2,i3,Classical.byContradiction fun hn=>by have:=hU.gone _ hn;rw [f]at this;simp at this,fun v hv=>⟨L,by rw [hv.1,<-i2];exact t1,t2⟩⟩
 have Q:∀{gg:Gh} {cs:List AV} {vs:List Value} {j:Nat} {y:AV} {v:Value},ZW (AVR gg w) cs vs->vs[j]?=some v->AVR gg w y v->ZW (AVR gg w) (cs.set j y) vs:=fun {gg cs vs j y v} h1 h2 h3=>by
  have:=h1.set (i:=j) h3;obtain ⟨hl,he⟩:=AP.1 h2;rw [<-he,Aq hl]at this;exact this
 have R:∀{gg:Gh} {ag:Bool} {cs:List AV} {v:Value} {j:Nat} {x y:AV},PVR gg w ag cs v->cs[j]?=some x->(∀u,AVR gg w x u->AVR gg w y u)->PVR gg w ag (cs.set j y) v:=fun {gg ag cs v j x y} h1 h2 h3=>by
  cases ag with
  |true=>
   obtain ⟨vs,rfl,h4⟩:=h1;obtain ⟨u,u1,u2⟩:=h4.at h2;exact ⟨vs,rfl,Q h4 u1 (h3 u u2)⟩
  |false=>
   obtain ⟨z,rfl,h4⟩:=h1;cases j with
   |zero=>simp at h2;subst h2;exact ⟨y,rfl,h3 v h4⟩
   |succ j=>simp at h2
 have K:∀{V:Nat->Prop} {cs:List AV} {j:Nat} {y:AV},Zag V cs->avU V y->Zag V (cs.set j y):=fun {V cs j y} h1 h2 z mz=>by
  rcases As mz with mz|mz
  .exact h1 z mz
  .subst mz;exact h2
 unfold St.mat;split
 .split
  .rename_i ag cs X;have G:Zag U cs:=by have:=hU.sl m.2.1;rw [X]at this;exact this
   have hs:=hS m.2.1;rw [X]at hs;split
   .rename_i e q H;split
    .rename_i hq;obtain ⟨g',t1,t2,t3,t4⟩:=T e q hq g hH;refine ⟨fun k=>U k\/k=st.n,⟨⟨g',t1,fun t=>?_⟩,⟨fun t=>?_,fun k=>?_,fun k l=>?_⟩,B,hh⟩,N⟩
     .show SVR g' w (upd st.sl m.2.1 (.p ag (cs.set m.2.2 (.row st.n))) t) _
      by_cases ht:t=m.2.1
      .subst ht;rw [ZN];have h1:PVR g' w ag cs (a.tmps.getD m.2.1 undef):=t2 (.p ag cs) _ G hs;refine R h1 H fun u hu=>?_;have Z:u=.slice none 0 0:=hu;rw [Z];exact ⟨t3.symm,rfl⟩
      .rw [ZZ _ _ ht];exact t2 _ _ (hU.sl t) (hS t)
     .show svU _ (upd st.sl m.2.1 (.p ag (cs.set m.2.2 (.row st.n))) t)
      by_cases ht:t=m.2.1
      .subst ht;rw [ZN];exact K (G.mono up) (.inr rfl)
      .rw [ZZ _ _ ht];exact (hU.sl t).mono up
     .show obU _ (upd st.ob st.n _ k)
      by_cases l:k=st.n
      .subst l;rw [ZN];trivial
      .rw [ZZ _ _ l];exact (hU.ob k).mono up
     .show upd st.ob st.n _ k=_
      rw [ZZ _ _ fun e=>l (.inr e)];exact hU.gone k fun h=>l (.inl h)
    .exact A
   .rename_i k H;split
    .rename_i e q xs d f;obtain ⟨g1,i1,i2,i3,C,i4⟩:=P k e q xs d f;refine ⟨U,⟨⟨g1,i1,fun t=>?_⟩,⟨fun t=>?_,fun j=>?_,fun j hj=>?_⟩,B,hh⟩,hk⟩
     .show SVR g1 w (upd st.sl m.2.1 (.p ag (cs.set m.2.2 (.c (.sl e q xs)))) t) _
      by_cases ht:t=m.2.1
      .subst ht;rw [ZN];have h1:PVR g1 w ag cs (a.tmps.getD m.2.1 undef):=(show SVR g w (.p ag cs) _ from hs).less i2 i3;exact R h1 H fun u hu=>i4 u ⟨hu.1.trans (by rw [i2]),hu.2⟩
      .rw [ZZ _ _ ht];exact (hS t).less i2 i3
     .show svU _ (upd st.sl m.2.1 (.p ag (cs.set m.2.2 (.c (.sl e q xs)))) t)
      by_cases ht:t=m.2.1
      .subst ht;rw [ZN];exact K G trivial
      .rw [ZZ _ _ ht];exact hU.sl t
     .show obU U (upd st.ob k (.row e q xs 0) j)
      by_cases h1:j=k
      .subst h1;rw [ZN];trivial
      .rw [ZZ _ _ h1];exact hU.ob j
     .show upd st.ob k (.row e q xs 0) j=_
      rw [ZZ _ _ (show j≠k from fun e'=>hj (e' ▸ C))];exact hU.gone j hj
    .exact A
   .exact A
  .exact A
 .split
  .rename_i ty cs f;split
   .rename_i e q H;split
    .rename_i hq;obtain ⟨g',t1,t2,t3,t4⟩:=T e q hq g hH;have C:U m.2.1:=Classical.byContradiction fun hn=>by have:=hU.gone _ hn;rw [f]at this;simp at this
     have E:m.2.1≠st.n:=fun e=>S (e ▸ C);have G:Zag U cs:=by have:=hU.ob m.2.1;rw [f]at this;exact this
     have F:=t1.obs m.2.1;rw [ZZ _ _ E,f]at F;obtain ⟨b,vs,b1,b2,b3,b4,b5⟩:=F;obtain ⟨u,u1,u2⟩:=b5.at H;have Y:u=.slice none 0 0:=u2;have aa:vs.set m.2.2 u=vs:=by
      obtain ⟨hl,he⟩:=AP.1 u1;rw [<-he];exact Aq hl
     have I:ObR g' w m.2.1 (.box ty (cs.set m.2.2 (.row st.n))):=by
      refine ⟨b,vs,b1,b2,b3,b4,?_⟩;have:=b5.set (i:=m.2.2) (a:=AV.row st.n) (b:=u) ⟨by rw [Y,t3],by rw [Y];rfl⟩;rw [aa]at this;exact this
     have J:∀k,(upd (upd st.ob m.2.1 (.box ty (cs.set m.2.2 (.row st.n)))) st.n (.row e q [] 2)) k=if k=m.2.1 then .box ty (cs.set m.2.2 (.row st.n)) else (upd st.ob st.n (.row e q [] 2)) k:=fun k=>by
      by_cases h1:k=st.n
      .have h2:¬k=m.2.1:=fun e'=>E (e'.symm.trans h1);have h3:¬st.n=m.2.1:=fun e'=>E e'.symm;simp [upd,h1,h3]
      .by_cases h2:k=m.2.1
       .simp [upd,h2,E]
       .simp [upd,h1,h2]
     refine ⟨fun k=>U k\/k=st.n,⟨⟨g',⟨t1.below,fun k=>?_,t1.nodup,t1.apart,fun k b mb=>⟨(t1.plain k b mb).1,(t1.plain k b mb).2.of (by
       show Zk0 ((upd (upd st.ob m.2.1 (.box ty (cs.set m.2.2 (.row st.n)))) st.n (.row e q [] 2)) k)=_
       rw [J k];split
       .rename_i h1;subst h1;rw [ZZ _ _ E,f];rfl
       .rfl)⟩,t1.gz,t1.zx,t1.nw⟩,fun t=>t2 _ _ (hU.sl t) (hS t)⟩,⟨fun t=>(hU.sl t).mono up,fun k=>?_,fun k l=>?_⟩,B,hh⟩,N⟩
     .show ObR g' w k ((upd (upd st.ob m.2.1 (.box ty (cs.set m.2.2 (.row st.n)))) st.n (.row e q [] 2)) k)
      rw [J k];split
      .rename_i h1;subst h1;exact I
      .exact t1.obs k
     .show obU _ ((upd (upd st.ob m.2.1 (.box ty (cs.set m.2.2 (.row st.n)))) st.n (.row e q [] 2)) k)
      rw [J k];split
      .intro y my;rcases As my with my|my
       .exact (G y my).mono up
       .subst my;exact .inr rfl
      .by_cases h1:k=st.n
       .subst h1;rw [ZN];trivial
       .rw [ZZ _ _ h1];exact (hU.ob k).mono up
     .show (upd (upd st.ob m.2.1 (.box ty (cs.set m.2.2 (.row st.n)))) st.n (.row e q [] 2)) k=_
      rw [J k,yn (show ¬k=m.2.1 from fun e'=>l (.inl (e' ▸ C))),ZZ _ _ (show k≠st.n from fun e'=>l (.inr e'))];exact hU.gone k fun h=>l (.inl h)
    .exact A
   .rename_i k H;split
    .rename_i e q xs d M;obtain ⟨g1,i1,i2,i3,C,i4⟩:=P k e q xs d M;have ab:U m.2.1:=Classical.byContradiction fun hn=>by have:=hU.gone _ hn;rw [f]at this;simp at this
     have E:k≠m.2.1:=fun e'=>by rw [e',f]at M;simp at M
     have G:Zag U cs:=by have:=hU.ob m.2.1;rw [f]at this;exact this
     have F:=i1.obs m.2.1;rw [ZZ _ _ (fun e'=>E e'.symm),f]at F;obtain ⟨b,vs,b1,b2,b3,b4,b5⟩:=F;obtain ⟨u,u1,u2⟩:=b5.at H;have I:ObR g1 w m.2.1 (.box ty (cs.set m.2.2 (.c (.sl e q xs)))):=⟨b,vs,b1,b2,b3,b4,Q b5 u1 (i4 u ⟨u2.1.trans (by rw [i2]),u2.2⟩)⟩
     refine ⟨U,⟨⟨g1,⟨i1.below,fun j=>?_,i1.nodup,i1.apart,fun j b mb=>⟨(i1.plain j b mb).1,(i1.plain j b mb).2.of (by
       show Zk0 (upd (upd st.ob k (.row e q xs 0)) m.2.1 (.box ty (cs.set m.2.2 (.c (.sl e q xs)))) j)=_
       by_cases h1:j=m.2.1
       .subst h1;rw [ZN,ZZ _ _ (fun e'=>E e'.symm),f];rfl
       .rw [ZZ _ _ h1])⟩,i1.gz,i1.zx,i1.nw⟩,fun t=>(hS t).less i2 i3⟩,⟨hU.sl,fun j=>?_,fun j hj=>?_⟩,B,hh⟩,hk⟩
     .show ObR g1 w j (upd (upd st.ob k (.row e q xs 0)) m.2.1 (.box ty (cs.set m.2.2 (.c (.sl e q xs)))) j)
      by_cases h1:j=m.2.1
      .subst h1;rw [ZN];exact I
      .rw [ZZ _ _ h1];exact i1.obs j
     .show obU U (upd (upd st.ob k (.row e q xs 0)) m.2.1 (.box ty (cs.set m.2.2 (.c (.sl e q xs)))) j)
      by_cases h1:j=m.2.1
      .subst h1;rw [ZN];exact K G trivial
      .rw [ZZ _ _ h1];by_cases h2:j=k
       .subst h2;rw [ZN];trivial
       .rw [ZZ _ _ h2];exact hU.ob j
     .show upd (upd st.ob k (.row e q xs 0)) m.2.1 (.box ty (cs.set m.2.2 (.c (.sl e q xs)))) j=_
      rw [ZZ _ _ (show j≠m.2.1 from fun e'=>hj (e' ▸ ab)),ZZ _ _ (show j≠k from fun e'=>hj (e' ▸ C))];exact hU.gone j hj
    .exact A
   .exact A
  .rename_i e q xs d f;split
   .rename_i ac;have C:U m.2.1:=Classical.byContradiction fun hn=>by have:=hU.gone _ hn;rw [f]at this;simp at this
    obtain ⟨g1,t1,t2,t3⟩:=ZBT hH f ac;refine ⟨U,⟨⟨g1,t1,fun t=>(hS t).less t2 t3⟩,⟨hU.sl,fun k=>?_,fun k l=>?_⟩,B,hh⟩,hk⟩
    .show obU U (upd st.ob m.2.1 (.row e q xs m.2.2) k)
     by_cases h1:k=m.2.1
     .subst h1;rw [ZN];trivial
     .rw [ZZ _ _ h1];exact hU.ob k
    .show upd st.ob m.2.1 (.row e q xs m.2.2) k=_
     rw [ZZ _ _ (show k≠m.2.1 from fun e'=>l (e' ▸ C))];exact hU.gone k l
   .exact A
  .exact A
theorem ZBy[NW](m:Bool×Nat×Nat)(hI:Inv W U st a w)(hk:∀k,st.n<=k->¬U k):∃U',Inv W U' (st.matN m) a w/\∀k,(st.matN m).n<=k->¬U' k:=by
 have c:∃U',Inv W U' st a w/\∀k,st.n<=k->¬U' k:=⟨U,hI,hk⟩
 obtain ⟨⟨g,K,hS⟩,J,o,hh⟩:=hI;unfold St.matN;split
 .rename_i F cs x;have A:Zag U cs:=by have:=J.sl m.2.1;rw [x]at this;exact this
  have hs:=hS m.2.1;rw [x]at hs;split
  .rename_i k f;split
   .rename_i e q xs d l;split
    .rename_i hd;subst hd;obtain ⟨O,i1,i2,V,i5⟩:=ZkD K k;rw [l]at i1;obtain ⟨hm,B,L,o1,o2,o3,o5⟩:=K.deep l;have T:∀v,AVR g w (.row k) v->AVR O w (.n (.sl e q xs)) v:=fun v R=>by
      rcases o5 with ⟨_,P,q2⟩|⟨P,_⟩|⟨P,_⟩
      .have hN:=K.nodup k;have hP:=K.plain k;have hF:=i5 ⟨_,_,_,_,l⟩;rw [P,q2]at hN hP hF;rw [l]at hP;refine ⟨e,q,xs,B,L,rfl,hm,by rw [R.1];exact o1,o2,by rw [R.1];exact hN,fun b M=>?_⟩;rw [R.1]at M;exact ⟨hF b M,K.nw b (hP b M).1,(hP b M).2⟩
      .omega
      .omega
     have C:U k:=Classical.byContradiction fun hn=>by have:=J.gone _ hn;rw [l]at this;simp at this
     refine ⟨U,⟨⟨O,i1,fun t=>?_⟩,⟨fun t=>?_,fun j=>?_,fun j I=>?_⟩,o,hh⟩,hk⟩
     .show SVR O w (upd st.sl m.2.1 (.p F (cs.set (m.2.2 - 4096) (.n (.sl e q xs)))) t) _
      by_cases H:t=m.2.1
      .subst H;rw [ZN];have h0:PVR g w F cs (a.tmps.getD m.2.1 undef):=hs;have N:PVR O w F cs (a.tmps.getD m.2.1 undef):=(show SVR g w (.p F cs) _ from hs).less i2 V;cases F with
       |true=>
        obtain ⟨vs,e1,S⟩:=h0;obtain ⟨D,y,E⟩:=N;have ev:vs=D:=by rw [e1]at y;simpa using y
        subst ev;obtain ⟨u,u1,u2⟩:=S.at f;refine ⟨vs,e1,?_⟩;have:=E.set (i:=m.2.2 - 4096) (T u u2);obtain ⟨hl,he⟩:=AP.1 u1;rw [<-he,Aq hl]at this;exact this
       |false=>
        obtain ⟨z,rfl,S⟩:=h0;cases I:m.2.2 - 4096 with
        |zero=>rw [I]at f;simp at f;subst f;exact ⟨_,rfl,T _ S⟩
        |succ j=>rw [I]at f;simp at f
      .rw [ZZ _ _ H];exact (hS t).less i2 V
     .show svU U (upd st.sl m.2.1 (.p F (cs.set (m.2.2 - 4096) (.n (.sl e q xs)))) t)
      by_cases H:t=m.2.1
      .subst H;rw [ZN];intro z G;rcases As G with G|G
       .exact A z G
       .subst G;trivial
      .rw [ZZ _ _ H];exact J.sl t
     .show obU U (upd st.ob k (.row e q xs 0) j)
      by_cases N:j=k
      .subst N;rw [ZN];trivial
      .rw [ZZ _ _ N];exact J.ob j
     .show upd st.ob k (.row e q xs 0) j=_
      rw [ZZ _ _ (show j≠k from fun e'=>I (e' ▸ C))];exact J.gone j I
    .exact c
   .exact c
  .exact c
 .exact c
theorem Zn3[NW]:∀(C:List (Bool×Nat×Nat)) {U:Nat->Prop}{st:St},Inv W U st a w->(∀k,st.n<=k->¬U k)->∃U',Inv W U' (st.mats C) a w
 | [],U,st,hI,_=>⟨U,hI⟩
 |m::r,U,st,hI,hk=>by
  simp only[St.mats];split
  .obtain ⟨U',B,A⟩:=ZBy m hI hk;exact Zn3 r B A
  .obtain ⟨U',B,A⟩:=ZB7 m hI hk;exact Zn3 r B A
theorem least{p:Nat->Prop}(h:∃n,p n):∃n,p n/\∀m,m<n->¬p m:=by
 obtain ⟨n,D⟩:=h;induction n using Nat.strongRecOn with
 |_ n ih=>
  by_cases C:∃m,m<n/\p m
  .obtain ⟨m,B,A⟩:=C;exact ih m B A
  .exact ⟨n,D,fun m B A=>C ⟨m,B,A⟩⟩
theorem ZxO[NW]{c:Code}{Q:Exit->Act->World->Prop}(J:Nat->Act->World->Prop)(n:Nat)(h₀:J n a w)(b:∀n a w,J n a w->c.wp P (Exit.then (fun A w'=>∃m,m<n/\J m A w') Q) a w):(Code.loop c).wp P Q a w:=by
 classical
 let μ:Act->World->Nat:=fun a w=>if h:∃n,J n a w then Classical.choose (least h) else 0
 have hμ:∀a w (h:∃n,J n a w),J (μ a w) a w/\∀m,m<μ a w->¬J m a w:=fun a w h=>by
  simp only[μ,dif_pos h];exact Classical.choose_spec (least h)
 refine wp_loop (fun a w=>∃n,J n a w) μ ⟨n,h₀⟩ fun a w h=>?_;refine wp_mono (b (μ a w) a w (hμ a w h).1) fun e A w' C=>?_;cases e with
 |normal=>
  obtain ⟨m,E,B⟩:=C;refine ⟨⟨m,B⟩,?_⟩;have h3:=hμ A w' ⟨m,B⟩;rcases Ak m (μ A w') with D|D
  .exact absurd B (h3.2 m D)
  .omega
 |_=>exact C
mutual
theorem RC.deep{w:World}:∀{x:CT}{v:Value}{L:List Nat},RC w x v L->ctD x
 |.int _ _,_,_,_=>trivial
 |.bool _,_,_,_=>trivial
 |.str _,_,_,h=>h.2.2
 |.sl _ _ _,_,_,⟨A,cap,cs,L0,L1,h1,h2,h3,h4,h5,h6,h7⟩=>⟨by unfold maxLen at h3;omega,h7.deep⟩
 |.pt _,_,_,⟨_,_,_,_,_,_,_,h⟩=>h.deep
 |.fn _ _,_,_,⟨_,_,h⟩=>h.deep
 |.mp _ _ _,_,_,_=>trivial
 |.ifc _,_,_,_=>trivial
 |.any,_,_,_=>trivial
 |.nl _ _,_,_,_=>trivial
theorem RCs.deep{w:World}:∀{x:List CT}{v:List Value}{L:List Nat},RCs w x v L->ctsD x
 | [],_,_,_=>trivial
 |_::_,_,_,⟨v,cs,L1,L2,h1,h2,h3,h4⟩=>⟨h3.deep,h4.deep⟩
theorem REs.deep{w:World}{m:Nat}:∀{x:List (List CT)}{v:List Value}{L:List Nat},REs w m x v L->essD x
 | [],_,_,_=>trivial
 |_::_,_,_,⟨c1,c2,L1,L2,h1,h2,h3,h4⟩=>⟨h3.1.deep,h4.deep⟩
end
theorem AVR.deep[NW]{g:Gh}{w:World}:∀{x:AV}{v:Value},AVR g w x v->avD x
 |.c _,_,⟨_,h,_⟩=>h.deep
 |.n _,_,h=>by obtain ⟨_,A,_⟩:=NR.toC h;exact A.deep
 |.row _,_,_=>trivial
 |.nil _ _,_,_=>trivial
 |.dead,_,_=>trivial
theorem AVRs.deep[NW]{g:Gh}{w:World}:∀{x:List AV}{v:List Value},ZW (AVR g w) x v->Zzz x
 | [],[],_=>trivial
 |_::_,_::_,h=>⟨h.1.deep,AVRs.deep h.2⟩
 | [],_::_,h=>h.elim
 |_::_,[],h=>h.elim
theorem Inv.deep[NW](G:Inv W U st a w):WF st:=by
 obtain ⟨⟨g,D,F⟩,M,C,K⟩:=G;refine ⟨fun t b cs E=>?_,fun k t cs B=>?_,fun k e m xs d B=>?_⟩
 .have h:=F t;rw [E]at h;cases b with
  |true=>obtain ⟨vs,_,A⟩:=h;exact AVRs.deep A
  |false=>obtain ⟨x,rfl,A⟩:=h;exact ⟨A.deep,trivial⟩
 .have h:=D.obs k;rw [B]at h;obtain ⟨b,vs,_,_,_,_,A⟩:=h;exact AVRs.deep A
 .have h:=D.obs k;rw [B]at h;obtain ⟨_,cs,L,J,A,_⟩:=h;refine ⟨?_,A.deep⟩;rcases J.2 with ⟨_,I⟩|⟨_,_,cap,_,_,_,_,I,H,_⟩
  .omega
  .unfold maxLen at H;omega
def ZD7:Ex->Exit
 |.normal=>.normal
 |.exit id=>.exit id
 |.ret=>.ret
def Xa(od:OD)(tt:Nat->Option TI)(hs:FuncId->Nat)(a:Bool)(N:Nat):Code->Bool
 |.skip=>true
 |.region id ops d=>(ops.toList.all fun o=>match o.dst with|some t=>Nat.blt t N&&(!a||Nat.blt 0 t)|none=>true)&&(match od id with|none=>!d||ZnC tt hs ops|some l=>d&&ZxL tt hs l.2 ops l.1)
 |.seq x y=>Xa od tt hs a N x&&Xa od tt hs a N y
 |.cond _ x y=>Xa od tt hs a N x&&Xa od tt hs a N y
 |.block _ x=>Xa od tt hs a N x
 |.loop x=>Xa od tt hs a N x
 |.exit _=>true
 |.ret=>true
 |_=>false
theorem Zan[NW]{od:OD}(aa:MOk P J JF W tt)(H:P.follows .mixedOrders=true){L:FuncId->Nat}{k0:Bool}(u:W.hv=none\/k0=true){N:Nat}:∀(c:Code),Xa od tt L k0 N c=true->∀(Qs:Ex->St->Prop) (Q:Exit->Act->World->Prop),
  (∀ex U' st' G w',Inv W U' st' G w'->(∀k,st'.n<=k->¬U' k)->G.tmps.size=N->Qs ex st'->Q (ZD7 ex) G w')->
  ∀U st a w,Inv W U st a w->(∀k,st.n<=k->¬U k)->a.tmps.size=N->swp tt (SC P J JF L) od c Qs st->c.wp P Q a w
 |.skip,_,Qs,Q,hQ,U,st,a,w,M,T,hs,h=>wp_skip (hQ .normal U st a w M T hs h)
 |.exit id,_,Qs,Q,hQ,U,st,a,w,M,T,hs,h=>wp_exit (hQ (.exit id) U st a w M T hs h)
 |.ret,_,Qs,Q,hQ,U,st,a,w,M,T,hs,h=>wp_ret (hQ .ret U st a w M T hs h)
 |.region id f d,hok,Qs,Q,hQ,U,st,a,w,M,T,hs,h=>by
  simp only[Xa,AC,AN]at hok;have hN:∀o∈f.toList,∀t,o.dst=some t->t<N/\(W.hv=none\/t≠0):=fun o mo t ht=>by
   have:=hok.1 o mo;rw [ht]at this;simp only[AC,AU]at this;refine ⟨AH this.1,u.imp (fun h=>h) fun h=>?_⟩;rcases this.2 with h2|h2
   .rw [h]at h2;simp at h2
   .have V:0<t:=AH h2;exact Nat.ne_of_gt V
  have z:∀U' st' G w',Inv W U' st' G w'->(∀k,st.n+16*f.toList.length<=k->¬U' k)->G.tmps.size=N->Zr7 (st.n+16*f.toList.length) (Qs .normal) st'->Q .normal G w':=fun U' st' G w' I h2 V O=>
   hQ .normal U' { st' with n:=st.n+16*f.toList.length } G w' ⟨I.ex,⟨I.wf.sl,I.wf.ob,I.wf.gone⟩,I.defers,I.hand⟩ h2 V O
  have A:Inv W U st a { w with drawn:=w.drawn+1 }:=by
   obtain ⟨⟨g,hH,hS⟩,hU,D,hh⟩:=M;have hw:∀b,b<w.heap.size->¬g.own b->({ w with drawn:=w.drawn+1 }:World).heap[b]?=w.heap[b]?:=fun _ _ _=>rfl;refine ⟨⟨g,hH.step (U:=U) (fun _=>False) ⟨hH.below.os,hH.below.tape,hH.below.output,hH.below.size,hH.below.block⟩ rfl (fun _ _ _=>rfl) (fun _ _=>⟨rfl,rfl,rfl,rfl⟩) hU.ob (fun _ _=>rfl) (Zal.refl _ _) (fun _ h=>h.elim),fun t=>?_⟩,hU,D,hh⟩;exact (hS t).move (hU.sl t) (fun _ _=>rfl) hw (Zal.refl _ _) (AK _)
  have v:∀(b:Bool) (R:List Nat),Zh5 tt L b f R=true->(∀j,elB f j=true)->R.length<=f.size->(∀i,i∈R↔i<f.size)->ZgR tt (SC P J JF L) b f.toList st.n R (Zr7 (st.n+16*f.toList.length) (Qs .normal)) st->(Code.region id f true).wp P Q a w:=fun b R I h2 V O h5=>by
   refine wp_region_any H ?_;refine ZyG (base:=st.n) aa hN h2 (fun U' st' G w' I h2 V O=>z U' st' G w' I (by simpa using h2) V O) f.size R (AL f.size false) U st a _ V (Zrz I) yG (fun i=>?_) (fun i o ho hl=>?_) h5 A (fun j _ k B _=>T k yE) (fun k B=>T k yE) hs
   .rw [O];constructor
    .intro hi;exact ⟨hi,by simp [AJ,hi]⟩
    .exact fun hi=>hi.1
   .exfalso;have hi:i<f.size:=(Ad.1 ho).1;simp [AJ,hi]at hl
  cases ho:od id with
  |none=>
   have q:=hok.2;simp only[ho]at q;simp only[swp,ho,Zwj]at h;have h':Yp tt (SC P J JF L) f.toList st.n f.toList (Zr7 (st.n+16*f.toList.length) (Qs .normal)) st:=h;cases d with
   |false=>
    refine wp_region ?_;have:=Zqi (Q:=Q) aa hN f.toList 0 st.n U st a w yG h' M T hs z;rw [BA];simpa using this
   |true=>
    have m:ZnC tt L f=true:=by simpa using q
    simp only[ZnC,AC]at m;have h2:=Zxs (tt:=tt) (S:=SC P J JF L) (all:=f.toList) (base:=st.n) (K:=Zr7 (st.n+16*f.toList.length) (Qs .normal)) f.toList 0 st yG (by simpa using h');rw [<-BA]at h2;exact v false (Ac f.size) m.1 (Zu3 m.2) yG yG (by simpa using h2)
  |some l=>
   have q:=hok.2;simp only[ho,AC]at q;simp only[swp,ho,Zwj]at h;obtain ⟨rfl,m⟩:=q;simp only[ZxL,AC]at m;exact v l.2 l.1 m.1.1.1.1 (Zu3 m.1.1.1.2) (AH m.1.1.2) (fun i=>⟨fun mi=>AH (AN.1 m.1.2 i mi),fun hi=>by simpa using AN.1 m.2 i (by simpa using hi)⟩) h
 |.seq x y,hok,Qs,Q,hQ,U,st,a,w,M,T,hs,h=>by
  simp only[Xa,AC]at hok;refine wp_seq (Zan aa H u x hok.1 (Zh9 (swp tt (SC P J JF L) od y Qs) Qs) _ ?_ U st a w M T hs h);intro ex U' st' G w' I h2 V O;cases ex with
  |normal=>exact Zan aa H u y hok.2 Qs Q hQ U' st' G w' I h2 V O
  |exit id=>exact hQ (.exit id) U' st' G w' I h2 V O
  |ret=>exact hQ .ret U' st' G w' I h2 V O
 |.cond c x y,hok,Qs,Q,hQ,U,st,a,w,M,T,hs,h=>by
  simp only[Xa,AC]at hok;simp only[swp,Zrt]at h;split at h
  .rename_i hb;obtain ⟨b,C⟩:∃b,st.ev tt 0 c=.p false [.c (.bool b)]:=by
    unfold ZaY at hb;split at hb
    .rename_i b he;exact ⟨b,he⟩
    .simp at hb
   obtain ⟨g,hH,hS⟩:=M.ex;have hv:=(ZmP (P:=P) aa.tt hS M.wf 0 c).1;rw [C]at hv;have F:=ZgL hv;refine wp_cond F ?_;cases b with
   |true=>rw [yp (by rw [C];rfl)]at h;exact Zan aa H u x hok.1 Qs Q hQ U st a w M T hs h
   |false=>rw [yn (by rw [C];simp [QC])]at h;exact Zan aa H u y hok.2 Qs Q hQ U st a w M T hs h
  .exact h.elim
 |.block id x,hok,Qs,Q,hQ,U,st,a,w,M,T,hs,h=>by
  refine wp_block (Zan aa H u x hok (Zix id Qs) _ ?_ U st a w M T hs h);intro ex U' st' G w' I h2 V O;cases ex with
  |normal=>exact hQ .normal U' st' G w' I h2 V O
  |exit j=>
   show Exit.inBlock id Q (.exit j) G w'
   simp only[Zix]at O;simp only[Exit.inBlock];split
   .rename_i e;rw [yp e]at O;exact hQ .normal U' st' G w' I h2 V O
   .rename_i e;rw [yn e]at O;exact hQ (.exit j) U' st' G w' I h2 V O
  |ret=>exact hQ .ret U' st' G w' I h2 V O
 |.loop x,hok,Qs,Q,hQ,U,st,a,w,M,T,hs,h=>by
  obtain ⟨n,hn⟩:=h;refine ZxO (fun n a w=>∃U st,Inv W U st a w/\(∀k,st.n<=k->¬U k)/\a.tmps.size=N/\ZmK (swp tt (SC P J JF L) od x) Qs n st) n ⟨U,st,M,T,hs,hn⟩ ?_;rintro n a w ⟨U,st,M,T,hs,hn⟩;cases n with
  |zero=>exact hn.elim
  |succ n=>
   obtain ⟨ms,ρ,hρ,hb⟩:=hn;obtain ⟨U2,E⟩:=Zn3 ms M T;refine Zan aa H u x hok (Zh9 (ZmK (swp tt (SC P J JF L) od x) Qs n) Qs) _ ?_ _ ((st.mats ms).ren ρ) a w (Zxg E hρ) (fun k B hU=>by simp only[St.ren]at B;omega) hs (hb (Zxg E hρ).deep);intro ex U' st' G w' I h2 V O;cases ex with
   |normal=>exact ⟨n,yE,U',st',I,h2,V,O⟩
   |exit id=>exact hQ (.exit id) U' st' G w' I h2 V O
   |ret=>exact hQ .ret U' st' G w' I h2 V O
 |.rangeFunc _ _ _ _,hok,_,_,_,_,_,_,_,_,_,_,_=>by simp [Xa]at hok
 |.scope _,hok,_,_,_,_,_,_,_,_,_,_,_=>by simp [Xa]at hok
 |.label _,hok,_,_,_,_,_,_,_,_,_,_,_=>by simp [Xa]at hok
 |.goto _,hok,_,_,_,_,_,_,_,_,_,_,_=>by simp [Xa]at hok
 |.refuse _,hok,_,_,_,_,_,_,_,_,_,_,_=>by simp [Xa]at hok
end
end
section
open Go.RowKit
section
variable {P:Program} {J:World->Prop} {JF:Nat->Prop} {W:Zbb} {U:Nat->Prop} {st:St} {w w':World} {a:Act} {tt:Nat->Option TI} {g:Gh}
def nK(g:Gh)(K:Nat->Prop)(b:Nat):Prop:=g.Z b\/∃k,K k/\b∈g.O k
theorem ZzX{k e m n B:Nat}{cs:List Value}(h:w.ownsV 0 e m (g.val k) n cs)(C:∀b∈(g.val k).ownBlock.toList,B<=b):w.ownsV B e m (g.val k) n cs:=by
 refine ⟨h.1,?_⟩;rcases h.2 with D|⟨q,o,cap,a,A,E,r⟩
 .exact .inl D
 .exact .inr ⟨q,o,cap,a,A,C q (by simp [A,Value.ownBlock]),r⟩
variable {K:Nat->Prop}
theorem Zue[NW](M:HI W g st.ob w)(hK:∀k,K k->Zk0 (st.ob k)=false/\∀e m xs d,st.ob k=.row e m xs d->d=2){x:AV}{ct:Bool×CT}{ks:List Nat}{v:Value}(h:Zf6 st x=some (ct,ks))(l:∀k∈ks,K k/\∀b∈g.O k++g.D k,W.heap.size<=b)(G:AVR g w x v):OC w W.heap.size (nK g K) ct v (g.F ks):=by
 have a:∀b,nK g K b->g.own b:=fun b B=>by
  rcases B with N|⟨k,_,J⟩
  .exact .inr N
  .exact .inl ⟨k,J⟩
 cases x with
 |c y=>
  obtain ⟨L,E,H⟩:=G;cases y<;>simp only[Zf6,A0,A9]at h<;>obtain ⟨rfl,rfl⟩:=h
  .exact ⟨⟨E.1,rfl⟩,by simp [Gh.F]⟩
  .exact ⟨⟨E.1,rfl⟩,by simp [Gh.F]⟩
  .exact ⟨⟨E.1,rfl,E.2.2⟩,by simp [Gh.F]⟩
  .exact ⟨by simp [Gh.F],L,E,fun b C B=>H b C (a b B)⟩
  .exact ⟨by simp [Gh.F],L,E,fun b C B=>H b C (a b B)⟩
  .exact ⟨by simp [Gh.F],L,E,fun b C B=>H b C (a b B)⟩
  .exact ⟨by simp [Gh.F],L,E,fun b C B=>H b C (a b B)⟩
  .exact ⟨⟨rfl,E.2⟩,by simp [Gh.F]⟩
  .exact ⟨by simp [Gh.F],L,E,fun b C B=>H b C (a b B)⟩
  .exact ⟨by simp [Gh.F],L,E,fun b C B=>H b C (a b B)⟩
 |row k=>
  simp only[Zf6]at h;split at h
  .rename_i e m xs d P;obtain ⟨S,cs,L,o1,o2,o3,o5⟩:=M.deep P;split at h
   .rename_i hd;simp only[A0,A9]at h;obtain ⟨rfl,rfl⟩:=h;have i:=l k yG;rcases o5 with ⟨_,I,R⟩|⟨q,_⟩|⟨q,_⟩
    .refine ⟨S,cs,L,by rw [G.1];exact ZzX o1 fun b C=>i.2 b (by simp [I,C]),o2,by simp [Gh.F,I,R,G.1],fun b C=>.inr ⟨k,i.1,by rw [I];rw [G.1]at C;exact C⟩⟩
    .omega
    .omega
   .rename_i hd;simp only[A0,A9]at h;obtain ⟨rfl,rfl⟩:=h;have f:¬K k:=fun h=>hd ((hK k h).2 e m xs d P);obtain ⟨A,cap,L0,s1,s2,s3,s4,s5⟩:=Sl.row o1;refine ⟨by simp [Gh.F],L0++L,⟨A,cap,cs,L0,L,by rw [G.1,s1],s2,s3,rfl,S,s4,o2⟩,fun b C B=>?_⟩;rcases AB.1 C with U|U
    .have m2:=s5.subset U;rcases o5 with ⟨q,_⟩|⟨_,I,R⟩|⟨_,_,_,q⟩
     .exact hd q
     .have J:b∈g.O k++g.D k:=by simp [I,m2]
      rcases B with N|⟨j,V,T⟩
      .exact M.nz J N
      .exact M.apart k j (fun e=>f (e ▸ V)) b J (by simp [T])
     .exact q b m2 (a b B)
    .exact o3 b U (a b B)
  .rename_i kk vk kv P;simp only[A0,A9]at h;obtain ⟨rfl,rfl⟩:=h;have ho:=M.obs k;rw [P]at ho;obtain ⟨b,es,c,I,R,q3,q4,q5,q6⟩:=ho;have f:¬K k:=fun h=>by have:=(hK k h).1;rw [P]at this;simp [Zk0]at this
   refine ⟨by simp [Gh.F],[b],⟨b,es,c,by rw [G.1,I],q4,q5,q6,rfl⟩,fun x mx B=>?_⟩;simp at mx;subst mx;have J:x∈g.O k++g.D k:=by simp [R]
   rcases B with N|⟨j,V,T⟩
   .exact M.nz J N
   .exact M.apart k j (fun e=>f (e ▸ V)) x J (by simp [T])
  .simp at h
 |nil e m=>
  simp only[Zf6]at h;split at h
  .rename_i S;simp only[A0,A9]at h;obtain ⟨rfl,rfl⟩:=h;have o:v=.slice none 0 0:=G;subst o;exact ⟨S,[],[],ZiU _ _ _ _,⟨rfl,rfl⟩,by simp [Gh.F,Value.ownBlock],by simp [Value.ownBlock]⟩
  .simp at h
 |n y=>
  obtain ⟨L,E,H⟩:=NR.toC G;simp only[Zf6,A0,A9]at h;obtain ⟨rfl,rfl⟩:=h;exact ⟨by simp [Gh.F],L,E,fun b C B=>H b C (a b B)⟩
 |dead=>
  simp only[Zf6,A0,A9]at h;obtain ⟨rfl,rfl⟩:=h;exact ⟨by simp [Gh.F],[],⟨rfl,G⟩,yG⟩
theorem ZqK[NW](C:HI W g st.ob w)(B:∀k,K k->Zk0 (st.ob k)=false/\∀e m xs d,st.ob k=.row e m xs d->d=2):∀{xs:List AV}{cts:List (Bool×CT)}{ks:List Nat}{vs:List Value},ZdV st xs=some (cts,ks)->(∀k∈ks,K k/\∀b∈g.O k++g.D k,W.heap.size<=b)->ZW (AVR g w) xs vs->OCs w W.heap.size (nK g K) cts vs (g.F ks)
 | [],_,_,[],h,_,_=>by
  simp only[ZdV,A0,A9]at h;obtain ⟨rfl,rfl⟩:=h;exact ⟨rfl,by simp [Gh.F]⟩
 | [],_,_,_::_,_,_,h=>h.elim
 |_::_,_,_,[],_,_,h=>h.elim
 |x::r,cts,ks,v::vs,h,hks,hr=>by
  simp only[ZdV]at h;obtain ⟨⟨L,G⟩,I,h⟩:=AI.1 h;obtain ⟨⟨J,E⟩,H,h⟩:=AE.1 h;simp only[A9]at h;obtain ⟨rfl,rfl⟩:=h;exact ⟨v,vs,g.F G,g.F E,rfl,by simp [Gh.F],Zue C B I (fun k A=>hks k (by simp [A])) hr.1,ZqK C B H (fun k A=>hks k (by simp [A])) hr.2⟩
theorem Zus[NW](G:HI W g st.ob w)(E:∀k,K k->Zk0 (st.ob k)=false/\∀e m xs d,st.ob k=.row e m xs d->d=2){B:Bool}{cs:List AV}{cts:List (Bool×CT)}{ks:List Nat}{v:Value}(h:ZdV st cs=some (cts,ks))(a:∀k∈ks,K k/\∀b∈g.O k++g.D k,W.heap.size<=b)(C:PVR g w B cs v):OP w W.heap.size (nK g K) (B,cts) v (g.F ks):=by
 cases B with
 |true=>obtain ⟨vs,rfl,A⟩:=C;exact .inl ⟨rfl,vs,rfl,ZqK G E h a A⟩
 |false=>
  obtain ⟨x,rfl,A⟩:=C;simp only[ZdV]at h;obtain ⟨⟨I,J⟩,H,h⟩:=AI.1 h;simp at h;obtain ⟨rfl,rfl⟩:=h;exact .inr ⟨rfl,I,rfl,Zue G E H a A⟩
theorem OC.one{B:Nat}{n:Nat->Prop}{x:Bool×CT}{v:Value}{F:List Nat}(h:OC w B n x v F):v.oneCell'=true:=by
 obtain ⟨b,x⟩:=x;cases b with
 |true=>obtain ⟨_,L,E,_⟩:=h;exact E.one
 |false=>
  cases x with
  |sl e q xs=>
   obtain ⟨_,cs,L,C,_⟩:=h;obtain ⟨A,cap,D⟩:=ZbG C;rw [D];rfl
  |int k i=>exact h.1.one
  |bool b=>exact h.1.one
  |str s=>exact h.1.one
  |ifc s=>exact h.1.one
  |any=>exact h.1.one
  |_=>exact h.elim
theorem ZsY[NW]{B:Nat}{n:Nat->Prop}:∀{r d:List (Bool×CT)}{vs:List Value}{F:List Nat},OCs w B n r vs F->wkC r d->F.Nodup->∃F',F'.Sublist F/\∀m:Nat->Prop,(∀b∈F',n b->m b)->(∀b,m b->n b)->(∀b∈F,m b->b∈F')->OCs w B m d vs F'
 | [],[],vs,F,h,_,_=>⟨[],yG,fun m _ _ _=>⟨h.1,rfl⟩⟩
 | [],_::_,_,_,_,h,_=>h.elim
 |_::_,[],_,_,_,h,_=>h.elim
 |x::r,y::d,_,_,⟨v,vs,F1,F2,rfl,rfl,h1,h2⟩,a,hnd=>by
  rw [Aa]at hnd;have a:wk1 x y (wkC r d):=a;unfold wk1 at a;by_cases c:Zxz y.2=true
  .rw [yp c]at a;obtain ⟨F2',G,g⟩:=ZsY h2 a hnd.2.1;refine ⟨F2',G.trans (List.sublist_append_right _ _),fun m D I H=>⟨v,vs,[],F2',rfl,rfl,?_,g m D I fun b C E=>H b (by simp [C]) E⟩⟩;have f:=h1.one;obtain ⟨M,y⟩:=y;cases y<;>simp [Zxz]at c
   cases M with
   |true=>exact ⟨rfl,[],⟨rfl,f⟩,yG⟩
   |false=>exact ⟨⟨rfl,f⟩,rfl⟩
  rw [yn c]at a;obtain ⟨T,S,hw⟩:=a;obtain ⟨F2',G,g⟩:=ZsY h2 hw hnd.2.1;have key:∃F1',F1'.Sublist F1/\∀m:Nat->Prop,(∀b∈F1',n b->m b)->(∀b,m b->n b)->(∀b∈F1,m b->b∈F1')->OC w B m y v F1':=by
   obtain ⟨b1,x⟩:=x;obtain ⟨M,y⟩:=y;simp only at T S;subst T;cases b1 with
   |true=>
    have:M=true:=by rcases S with e|e<;>simp_all
    subst this;obtain ⟨rfl,L,q1,q2⟩:=h1;exact ⟨[],yG,fun m _ I _=>⟨rfl,L,q1,fun b C E=>q2 b C (I b E)⟩⟩
   |false=>
    cases M with
    |false=>
     refine ⟨F1,B5 _,fun m D _ _=>?_⟩;cases x with
     |sl e q xs=>
      obtain ⟨P,cs,L,O,N,K,R⟩:=h1;exact ⟨P,cs,L,O,N,K,fun b C=>D b (by simp [K,C]) (R b C)⟩
     |int k i=>exact h1
     |bool b=>exact h1
     |str s=>exact h1
     |ifc s=>exact h1
     |any=>exact h1
     |_=>exact h1.elim
    |true=>
     refine ⟨[],yG,fun m _ _ H=>⟨rfl,?_⟩⟩;cases x with
     |sl e q xs=>
      obtain ⟨P,cs,L,O,N,K,R⟩:=h1;obtain ⟨A,cap,L0,J,G,W,V,U⟩:=Sl.row O;refine ⟨L0++L,⟨A,cap,cs,L0,L,J,G,W,rfl,P,V,N⟩,fun b C E=>?_⟩;have:b∈F1:=by
       rw [K];rcases AB.1 C with D|D
       .exact AB.2 (.inl (U.subset D))
       .exact AB.2 (.inr D)
      have:=H b this E;simp at this
     |int k i=>exact ⟨[],h1.1,yG⟩
     |bool b=>exact ⟨[],h1.1,yG⟩
     |str s=>exact ⟨[],h1.1,yG⟩
     |ifc s=>exact ⟨[],h1.1,yG⟩
     |any=>exact ⟨[],h1.1,yG⟩
     |_=>exact h1.elim
  obtain ⟨F1',J,f⟩:=key;refine ⟨F1'++F2',Ap J G,fun m D I H=>⟨v,vs,F1',F2',rfl,rfl,f m (fun b C=>D b (by simp [C])) I (fun b C E=>?_),g m (fun b C=>D b (by simp [C])) I (fun b C E=>?_)⟩⟩
  .rcases AB.1 (H b (by simp [C]) E) with h|h
   .exact h
   .exact absurd rfl (hnd.2.2 b C b (G.subset h))
  .rcases AB.1 (H b (by simp [C]) E) with h|h
   .exact absurd rfl (hnd.2.2 b (J.subset h) b C)
   .exact h
theorem ZGb[NW]{B:Nat}{n:Nat->Prop}{x y:RT}{v:Value}{F:List Nat}(h:OP w B n x v F)(G:x.1=y.1)(A:wkC x.2 y.2)(d:F.Nodup):∃F',F'.Sublist F/\∀m:Nat->Prop,(∀b∈F',n b->m b)->(∀b,m b->n b)->(∀b∈F,m b->b∈F')->OP w B m y v F':=by
 rcases h with ⟨D,vs,rfl,C⟩|⟨D,P,C,N⟩
 .obtain ⟨F',s,h⟩:=ZsY C A d;exact ⟨F',s,fun m a b c=>.inl ⟨G ▸ D,vs,rfl,h m a b c⟩⟩
 .obtain ⟨F',s,h⟩:=ZsY (r:=x.2) (vs:=[v]) (F:=F) (by rw [C];exact ⟨v,[],F,[],rfl,yG,N,rfl,rfl⟩) A d;refine ⟨F',s,fun m M L K=>.inr ⟨G ▸ D,?_⟩⟩;have h4:=h m M L K;generalize y.2=l at h4 A
  cases l with
  |nil=>rw [C]at A;exact A.elim
  |cons c l=>
   cases l with
   |nil=>
    obtain ⟨O,H,F1,F2,E,rfl,J,I⟩:=h4;simp only[AY]at E;obtain ⟨rfl,rfl⟩:=E;obtain ⟨_,rfl⟩:=I;exact ⟨c,rfl,by simpa using J⟩
   |cons _ _=>
    rw [C]at A;have A:wk1 _ _ False:=A;unfold wk1 at A;split at A
    .exact A.elim
    .exact A.2.2.elim
theorem ZBx[NW]{B:Nat}{n:Nat->Prop}:∀{r a:List RT}{vs:List Value}{F:List Nat},OPs w B n r vs F->wkR r a->F.Nodup->∃F',F'.Sublist F/\∀m:Nat->Prop,(∀b∈F',n b->m b)->(∀b,m b->n b)->(∀b∈F,m b->b∈F')->OPs w B m a vs F'
 | [],[],vs,F,h,_,_=>⟨[],yG,fun m _ _ _=>⟨h.1,rfl⟩⟩
 | [],_::_,_,_,_,h,_=>h.elim
 |_::_,[],_,_,_,h,_=>h.elim
 |x::r,y::a,_,_,⟨v,vs,F1,F2,rfl,rfl,h1,h2⟩,⟨e1,e2,hw⟩,hnd=>by
  rw [Aa]at hnd;obtain ⟨F2',D,c⟩:=ZBx h2 hw hnd.2.1;obtain ⟨F1',E,d⟩:=ZGb h1 e1 e2 hnd.1;refine ⟨F1'++F2',Ap E D,fun m I H G=>⟨v,vs,F1',F2',rfl,rfl,d m (fun b A=>I b (by simp [A])) H (fun b A C=>?_),c m (fun b A=>I b (by simp [A])) H (fun b A C=>?_)⟩⟩
  .rcases AB.1 (G b (by simp [A]) C) with h|h
   .exact h
   .exact absurd rfl (hnd.2.2 b A b (D.subset h))
  .rcases AB.1 (G b (by simp [A]) C) with h|h
   .exact absurd rfl (hnd.2.2 b (E.subset h) b A)
   .exact h
def Zhc(tmps:Array Value):ResultVar->Sem Value
 |.tmp t=>pure (tmps.getD t undef)
 |.cell b t=>do loadVar t (<-asAddr (tmps.getD b undef))
theorem Zkg(A:Func)(a:Array Value):results A a=(do let vs <-A.results.mapM (Zhc a);pure (if h:vs.size=1 then vs[0] else .tuple vs)):=by
 unfold results;congr 1
theorem ZnA[NW](C:∀t i,tt t=some i->TOk P t i)(G:HI W g st.ob w)(E:∀t,SVR g w (st.sl t) (a.tmps.getD t undef))(N:StU U st)(H:∀k,K k->Zk0 (st.ob k)=false/\∀e m xs d,st.ob k=.row e m xs d->d=2):∀{T:List ResultVar}{j:List RT}{ks:List Nat},ZcL tt st T=some (j,ks)->(∀k∈ks,K k/\∀b∈g.O k++g.D k,W.heap.size<=b)->
  ∃vs:List Value,(T.mapM (Zhc a.tmps)).run P w=.ok vs w/\OPs w W.heap.size (nK g K) j vs (g.F ks)
 | [],j,ks,h,_=>by
  simp only[ZcL,A0,A9]at h;obtain ⟨rfl,rfl⟩:=h;exact ⟨[],yG,rfl,by simp [Gh.F]⟩
 |.tmp t::r,j,ks,h,hks=>by
  simp only[ZcL]at h;split at h
  .rename_i ag cs f;obtain ⟨⟨c1,J⟩,S,h⟩:=AI.1 h;obtain ⟨⟨c2,I⟩,R,h⟩:=AE.1 h;simp only[A9]at h;obtain ⟨rfl,rfl⟩:=h;obtain ⟨vs,M,L⟩:=ZnA C G E N H R (fun k A=>hks k (by simp [A]));have hs:=E t;rw [f]at hs;refine ⟨a.tmps.getD t undef::vs,?_,_,vs,g.F J,g.F I,rfl,by simp [Gh.F],Zus G H S (fun k A=>hks k (by simp [A])) hs,L⟩;simp only[BB,Zhc,Sem.run_bind,Sem.run_pure,Result.andThen_ok,M]
  .simp at h
 |.cell t ty::r,j,ks,h,hks=>by
  simp only[ZcL]at h;split at h
  .rename_i ag cs f;obtain ⟨⟨c1,J⟩,S,h⟩:=AI.1 h;obtain ⟨⟨c2,I⟩,R,h⟩:=AE.1 h;simp only[A9]at h;obtain ⟨rfl,rfl⟩:=h;obtain ⟨vs,M,L⟩:=ZnA C G E N H R (fun k A=>hks k (by simp [A]));obtain ⟨cv,V,l2,_⟩:=Zxd (P:=P) (U:=U) C G N f (E t);have hl:(do loadVar ty (<-asAddr (a.tmps.getD t undef)):Sem Value).run P w=.ok cv w:=by
    have:∃b,a.tmps.getD t undef=.pointer (some b):=by
     have hs:=E t;cases hsl':st.sl t with
     |bp k off=>rw [hsl']at hs;obtain ⟨b,_,B⟩:=hs;exact ⟨_,B⟩
     |rp k m i off=>rw [hsl']at hs;obtain ⟨b,_,_,_,_,B⟩:=hs;exact ⟨_,B⟩
     |ep e off=>rw [hsl']at hs;obtain ⟨b,_,_,_,B,_⟩:=hs;exact ⟨_,B⟩
     |p l o=>
      rw [hsl']at hs f;cases l with
      |true=>simp [Zat]at f
      |false=>
       cases o with
       |nil=>simp [Zat]at f
       |cons y q=>
        cases q with
        |cons _ _=>cases y<;>first|(simp [Zat]at f;done)|(rename_i z;cases z<;>simp [Zat]at f)
        |nil=>cases y with
         |c z=>cases z with
          |pt e=>obtain ⟨b,_,_,B,_⟩:=ZxI hs;exact ⟨_,B⟩
          |_=>simp [Zat]at f
         |_=>simp [Zat]at f
     |_=>rw [hsl']at f;simp [Zat]at f
    obtain ⟨b,hb⟩:=this;rw [hb]at V ⊢;simpa [Instr.loadAt,Instr.sureAddr,asAddr]using V
   refine ⟨cv::vs,?_,_,vs,g.F J,g.F I,rfl,by simp [Gh.F],Zus G H S (fun k A=>hks k (by simp [A])) l2,L⟩;have u:(Zhc a.tmps (.cell t ty)).run P w=.ok cv w:=hl;simp only[BB,Sem.run_bind,u,M,Sem.run_pure,Result.andThen_ok]
  .simp at h
theorem ZwB:∀{xs:List AV}{cts:List (Bool×CT)}{ks:List Nat},ZdV st xs=some (cts,ks)->∀k∈ks,∃e m xs,st.ob k=.row e m xs 2
 | [],_,_,h,k,A=>by
  simp only[ZdV,A0,A9]at h;rw [<-h.2]at A;simp at A
 |x::r,cts,ks,h,k,A=>by
  simp only[ZdV]at h;obtain ⟨⟨I,G⟩,B,h⟩:=AI.1 h;obtain ⟨⟨H,F⟩,E,h⟩:=AE.1 h;simp only[A9]at h;obtain ⟨rfl,rfl⟩:=h;rcases AB.1 A with A|A
  .cases x with
   |c y=>cases y<;>simp only[Zf6,A0,A9]at B<;>(rw [<-B.2]at A;simp at A)
   |row j=>
    simp only[Zf6]at B;split at B
    .rename_i e m xs d C;split at B
     .rename_i D;simp only[A0,A9]at B;rw [<-B.2]at A;simp at A;subst A;exact ⟨e,m,xs,by rw [C,D]⟩
     .simp only[A0,A9]at B;rw [<-B.2]at A;simp at A
    .simp only[A0,A9]at B;rw [<-B.2]at A;simp at A
    .simp at B
   |nil e m=>
    simp only[Zf6]at B;split at B
    .simp only[A0,A9]at B;rw [<-B.2]at A;simp at A
    .simp at B
   |n y=>
    simp only[Zf6,A0,A9]at B;rw [<-B.2]at A;simp at A
   |dead=>
    simp only[Zf6,A0,A9]at B;rw [<-B.2]at A;simp at A
  .exact ZwB E k A
theorem Zld[NW]:∀{D:List ResultVar}{a:List RT}{ks:List Nat},ZcL tt st D=some (a,ks)->∀k∈ks,∃e m xs,st.ob k=.row e m xs 2
 | [],_,_,h,k,A=>by
  simp only[ZcL,A0,A9]at h;rw [<-h.2]at A;simp at A
 |.tmp t::r,a,ks,h,k,A=>by
  simp only[ZcL]at h;split at h
  .obtain ⟨⟨H,F⟩,C,h⟩:=AI.1 h;obtain ⟨⟨G,E⟩,B,h⟩:=AE.1 h;simp only[A9]at h;obtain ⟨rfl,rfl⟩:=h;rcases AB.1 A with A|A
   .exact ZwB C k A
   .exact Zld B k A
  .simp at h
 |.cell t ty::r,a,ks,h,k,A=>by
  simp only[ZcL]at h;split at h
  .obtain ⟨⟨H,F⟩,C,h⟩:=AI.1 h;obtain ⟨⟨G,E⟩,B,h⟩:=AE.1 h;simp only[A9]at h;obtain ⟨rfl,rfl⟩:=h;rcases AB.1 A with A|A
   .exact ZwB C k A
   .exact Zld B k A
  .simp at h
theorem ZCa[NW]{z:Nat->Prop}{x:Bool×List CT}{v:Value}(F:∀b,g.own b->z b)(h:Zh3 w z x v):SVR g w (.p x.1 (x.2.map .c)) v:=by
 rcases h with ⟨E,vs,L,rfl,D,C⟩|⟨E,H,L,D,G,C⟩
 .rw [E];exact ⟨vs,rfl,D.avr fun b A B=>C b A (F b B)⟩
 .rw [E,D];exact ⟨_,rfl,L,G,fun b A B=>C b A (F b B)⟩
theorem Zxq[NW]{x:CT}{v:Value}{L:List Nat}(h:RC w x v L)(A:∀b∈L,¬g.own b):AVR g w (ZjT x) v:=by
 cases x with
 |nl e m=>exact h.1
 |_=>exact ⟨L,h,A⟩
theorem ZtN[NW]:∀{e:List CT}{cs:List Value}{L:List Nat},RCs w e cs L->(∀b∈L,¬g.own b)->ZW (AVR g w) (e.map ZjT) cs
 | [],_,_,⟨h1,h2⟩,_=>by subst h1;trivial
 |x::r,_,_,⟨v,cs,L1,L2,h1,h2,h3,h4⟩,hL=>by
  subst h1 h2;exact ⟨Zxq h3 fun b m=>hL b (by simp [m]),ZtN h4 fun b m=>hL b (by simp [m])⟩
theorem Zow[NW]{z:Nat->Prop}{x:Bool×List CT}{v:Value}(F:∀b,g.own b->z b)(h:Zh3 w z x v):SVR g w (.p x.1 (x.2.map ZjT)) v:=by
 rcases h with ⟨E,vs,L,rfl,D,C⟩|⟨E,H,L,D,G,C⟩
 .rw [E];exact ⟨vs,rfl,ZtN D fun b A B=>C b A (F b B)⟩
 .rw [E,D];exact ⟨_,rfl,Zxq G fun b A B=>C b A (F b B)⟩
theorem Zpq(e:List CT):Zag U (e.map ZjT):=fun y m=>by
 obtain ⟨x,_,rfl⟩:=AD.1 m;cases x<;>trivial
theorem ZwI[NW](M:∀t i,tt t=some i->TOk P t i){I:Func}{f:List RT}(hI:Inv W U st a w)(N:HI W g st.ob w)(hS:∀t,SVR g w (st.sl t) (a.tmps.getD t undef)){r:List RT}{ks:List Nat}(L:ZcL tt st I.results.toList=some (r,ks))(j:ks.Nodup)(hw:wkR r f)
  (R:∀k∈ks,∀b∈g.O k++g.D k,W.heap.size<=b) (K0:Nat->Prop) (l:∀k,K0 k->Zk0 (st.ob k)=false/\∀e m xs d,st.ob k=.row e m xs d->d=2):
  ∃v m,(results I a.tmps).run P w=.ok v w/\Zgi w W.heap.size m f v/\(∀b,m b->g.own b)/\(∀b,m b->g.Z b\/(∃k,(k∈ks\/K0 k)/\b∈g.O k))/\∀b,b∉g.F ks->(g.Z b\/∃k,K0 k/\b∈g.O k)->m b:=by
 obtain ⟨H,T,S⟩:=ZnA (K:=fun k=>k∈ks\/K0 k) M N hS hI.wf (fun k B=>by
  rcases B with B|B
  .obtain ⟨e',V,o,G⟩:=Zld L k B;refine ⟨by rw [G];rfl,fun e m xs d he=>?_⟩;rw [he]at G;simp only[Ob.row.injEq]at G;exact G.2.2.2
  .exact l k B) L (fun k E=>⟨.inl E,R k E⟩)
 have c:=N.nodupF j;obtain ⟨F',s,hF⟩:=ZBx S hw c;have p:∀b∈g.F ks,W.heap.size<=b:=fun b A=>by
  obtain ⟨k,B,E⟩:=Zkz A;exact R k B b E
 refine ⟨(if h:H.toArray.size=1 then H.toArray[0] else .tuple H.toArray),fun b=>nK g (fun k=>k∈ks\/K0 k) b/\(b∈g.F ks->b∈F'),?_,⟨H,F',hF _ (fun b A C=>⟨C,fun _=>A⟩) (fun b C=>C.1) (fun b A C=>C.2 A),⟨c.sublist s,fun b A=>p b (s.subset A),fun b A=>?_⟩,rfl⟩,fun b C=>?_,fun b C=>C.1,fun b C hn=>⟨?_,fun A=>absurd A C⟩⟩
 .rw [Zkg];have e:I.results.mapM (Zhc a.tmps)=Aw <$> I.results.toList.mapM (Zhc a.tmps):=by
   rw [<-List.mapM_toArray]
  have e2:(Aw <$> I.results.toList.mapM (Zhc a.tmps)).run P w=.ok H.toArray w:=by
   rw [map_eq_pure_bind];simp only[Sem.run_bind,T,Result.andThen_ok,Sem.run_pure]
  rw [e];simp only[Sem.run_bind,e2,Result.andThen_ok,Sem.run_pure]
 .obtain ⟨k,B,E⟩:=Zkz (s.subset A);obtain ⟨e',V,o,G⟩:=Zld L k B;have:=(N.plain k b E).2;rw [G]at this;exact this
 .rcases C.1 with J|⟨k,_,E⟩
  .exact .inr J
  .exact .inl ⟨k,E⟩
 .rcases hn with J|⟨k,B,E⟩
  .exact .inl J
  .exact .inr ⟨k,.inr B,E⟩
theorem Zu8[NW]{B:Gh}(C:∀k e m xs,st.ob k=.row e m xs 2->B.val k=g.val k/\U k){x:AV}{v:Value}(h:AVR g w x v):AVR B w (ZkE st x) v/\avU U (ZkE st x):=by
 have one:=h.one;unfold ZkE;split
 .obtain ⟨L,⟨A,_⟩,_⟩:=h;exact ⟨⟨[],⟨A,rfl⟩,yG⟩,trivial⟩
 .obtain ⟨L,⟨A,_⟩,_⟩:=h;exact ⟨⟨[],⟨A,rfl⟩,yG⟩,trivial⟩
 .obtain ⟨L,⟨A,_,E⟩,_⟩:=h;exact ⟨⟨[],⟨A,rfl,E⟩,yG⟩,trivial⟩
 .rename_i k;cases hk:st.ob k with
  |row e m xs d=>
   simp only[Zxn];split
   .rename_i D;subst D;obtain ⟨G,F⟩:=C k e m xs hk;exact ⟨⟨h.1.trans G.symm,one⟩,F⟩
   .exact ⟨one,trivial⟩
  |gone=>exact ⟨one,trivial⟩
  |box _ _=>exact ⟨one,trivial⟩
  |map _ _ _=>exact ⟨one,trivial⟩
 .exact ⟨one,trivial⟩
theorem Zl6[NW]{B:Gh}(A:∀k e m xs,st.ob k=.row e m xs 2->B.val k=g.val k/\U k):∀{cs:List AV}{vs:List Value},ZW (AVR g w) cs vs->ZW (AVR B w) (cs.map (ZkE st)) vs
 | [],[],_=>trivial
 |_::_,_::_,h=>⟨(Zu8 A h.1).1,Zl6 A h.2⟩
 | [],_::_,h=>h.elim
 |_::_,[],h=>h.elim
theorem Zzu[NW]{x:SV}{v:Value}{A:Gh}(B:∀k e m xs,st.ob k=.row e m xs 2->A.val k=g.val k/\U k)(C:svU U x)(a:∀k,U k->A.val k=g.val k)(h:SVR g w x v):SVR A w (Zrs st x) v:=by
 cases x with
 |p ag cs=>
  cases ag with
  |true=>obtain ⟨vs,e,h⟩:=h;exact ⟨vs,e,Zl6 B h⟩
  |false=>obtain ⟨y,rfl,h⟩:=h;exact ⟨_,rfl,(Zu8 B h).1⟩
 |bp k off=>obtain ⟨b,E,D⟩:=h;exact ⟨b,(a k C).trans E,D⟩
 |_=>trivial
theorem Zxw(A:∀k e m xs,st.ob k=.row e m xs 2->U k)(x:AV):avU U (ZkE st x):=by
 unfold ZkE;split
 .trivial
 .trivial
 .trivial
 .rename_i k;cases hk:st.ob k with
  |row e m xs d=>
   simp only[Zxn];split
   .rename_i B;subst B;exact A k e m xs hk
   .trivial
  |gone=>trivial
  |box _ _=>trivial
  |map _ _ _=>trivial
 .trivial
theorem ZCr(B:∀k e m xs,st.ob k=.row e m xs 2->U k)(x:SV)(C:svU U x):svU U (Zrs st x):=by
 cases x with
 |p ag cs=>
  intro y A;obtain ⟨x,D,rfl⟩:=AD.1 A;exact Zxw B x
 |bp k off=>exact C
 |_=>trivial
theorem Zop{o:Ob}(h:Zbz st o≠.gone):(∃e m xs,o=.row e m xs 2)\/∃t cs,o=.box t cs:=by
 cases o with
 |row e m xs d=>
  simp only[Zbz]at h;split at h
  .rename_i A;subst A;exact .inl ⟨e,m,xs,rfl⟩
  .exact absurd rfl h
 |gone=>exact absurd rfl h
 |box t cs=>exact .inr ⟨t,cs,rfl⟩
 |map _ _ _=>exact absurd rfl h
theorem ZAz[NW](hB:W.heap.size<=NW.B0)(t:Nat)(hI:Inv W U st a w)(B:∀k,st.n<=k->¬U k):∃U',Inv W U' (st.thaw t) a w:=by
 obtain ⟨⟨g,M,hS⟩,P,d,hh⟩:=hI;unfold St.thaw;cases hv:st.sl t with
 |p ag cs=>
  by_cases hc:∃e m xs,ag=false/\cs=[.n (.sl e m xs)]
  .obtain ⟨e,m,xs,rfl,rfl⟩:=hc;have hs:=hS t;rw [hv]at hs;obtain ⟨_,_,_,cs,L,h1,h2,h3,h4,h5,h6⟩:=ZHM hs;simp only[CT.sl.injEq]at h1;obtain ⟨rfl,rfl,rfl⟩:=h1;let v:=a.tmps.getD t undef
   have hn:st.ob st.n=.gone:=P.gone _ (B _ (AK _));have c:∀k e m xs,st.ob k=.row e m xs 2->k≠st.n/\U k:=fun k e m xs F=>⟨fun e=>by rw [e,hn]at F;simp at F,Classical.byContradiction fun h=>by rw [P.gone k h]at F;simp at F⟩
   let H:Gh:=⟨fun k=>if k=st.n then v else g.val k,fun k=>if k=st.n then v.ownBlock.toList else (match Zbz st (st.ob k) with | .gone=>[]|_=>g.O k),fun k=>if k=st.n then L else (match Zbz st (st.ob k) with | .gone=>[]|_=>g.D k),g.Z⟩
   have N:H.val st.n=v/\H.O st.n=v.ownBlock.toList/\H.D st.n=L:=⟨yp rfl,yp rfl,yp rfl⟩
   have V:∀k,k≠st.n->Zbz st (st.ob k)≠.gone->H.O k=g.O k/\H.D k=g.D k:=fun k F G=>by
    rcases Zop G with ⟨e',T,f,K⟩|⟨t',i,K⟩
    .simp [H,yn F,K,Zbz]
    .simp [H,yn F,K,Zbz]
   have gg:∀k,k≠st.n->Zbz st (st.ob k)=.gone->H.O k=[]/\H.D k=[]:=fun k F G=>by
    simp only[H,yn F,G];exact ⟨trivial,trivial⟩
   have o:∀k b,b∈H.O k++H.D k->(k=st.n/\b∈v.ownBlock.toList++L)\/(k≠st.n/\Zbz st (st.ob k)≠.gone/\b∈g.O k++g.D k):=fun k b J=>by
    by_cases F:k=st.n
    .subst F;rw [N.2.1,N.2.2]at J;exact .inl ⟨rfl,J⟩
    .by_cases G:Zbz st (st.ob k)=.gone
     .rw [(gg k F G).1,(gg k F G).2]at J;simp at J
     .rw [(V k F G).1,(V k F G).2]at J;exact .inr ⟨F,G,J⟩
   have z:∀k b,b∈g.O k++g.D k->g.low b:=fun k b J=>by
    rcases AB.1 J with I|I
    .exact .inl (.inl ⟨k,I⟩)
    .exact .inr ⟨k,I⟩
   refine ⟨fun k=>U k\/k=st.n,⟨H,⟨M.below,fun k=>?_,fun k=>?_,fun k j C b J mj=>?_,fun k b J=>?_,M.gz,M.zx,M.nw⟩,fun s=>?_⟩,⟨fun s=>?_,fun k=>?_,fun k F=>?_⟩,d,hh⟩
   .show ObR H w k (if k=st.n then .row e m xs 2 else Zbz st (st.ob k))
    by_cases F:k=st.n
    .subst F;rw [yp rfl];exact ⟨h2,cs,L,by rw [N.1];exact h3,h4,.inl ⟨rfl,by rw [N.2.1,N.1],N.2.2⟩⟩
    .rw [yn F];by_cases G:Zbz st (st.ob k)=.gone
     .rw [G];exact gg k F G
     .have u:=M.obs k;have ev:H.val k=g.val k:=yn F;obtain ⟨eO,eD⟩:=V k F G;rcases Zop G with ⟨e',T,f,K⟩|⟨t',i,K⟩
      .rw [K]at u ⊢;obtain ⟨p1,i,L',p2,p3,S⟩:=u;rw [show Zbz st (.row e' T f 2)=.row e' T f 2 from by simp [Zbz]];refine ⟨p1,i,L',by rw [ev];exact p2,p3,?_⟩;rw [ev,eO,eD];rcases S with S|⟨q,_⟩|⟨q,_⟩
       .exact .inl S
       .omega
       .omega
      .rw [K]at u ⊢;obtain ⟨b,vs,p1,p2,p3,S,p5⟩:=u;exact ⟨b,vs,ev.trans p1,eO.trans p2,eD.trans p3,S,Zl6 (U:=U) (fun k e m xs F=>⟨yn (c k e m xs F).1,(c k e m xs F).2⟩) p5⟩
   .by_cases F:k=st.n
    .subst F;rw [N.2.1,N.2.2];exact h5
    .by_cases G:Zbz st (st.ob k)=.gone
     .rw [(gg k F G).1,(gg k F G).2];simp
     .rw [(V k F G).1,(V k F G).2];exact M.nodup k
   .rcases o k b J with ⟨rfl,I⟩|⟨k1,k2,I⟩
    .rcases o j b mj with ⟨rfl,R⟩|⟨j1,j2,R⟩
     .exact C rfl
     .exact (h6 b I).1 (z j b R)
    .rcases o j b mj with ⟨rfl,R⟩|⟨j1,j2,R⟩
     .exact (h6 b R).1 (z k b I)
     .exact M.apart k j C b I R
   .show _/\Qp w (if k=st.n then .row e m xs 2 else Zbz st (st.ob k)) b
    rcases o k b J with ⟨rfl,I⟩|⟨k1,k2,I⟩
    .rw [yp rfl];exact ⟨.inl (Nat.le_trans hB (h6 b I).2.1),(h6 b I).2.2⟩
    .obtain ⟨q1,q2⟩:=M.plain k b I;rw [yn k1];refine ⟨q1,q2.of ?_⟩;rcases Zop k2 with ⟨e',T,f,K⟩|⟨t',i,K⟩
     .rw [K];rfl
     .rw [K];rfl
   .show SVR H w (if s=t then .p false [.row st.n] else Zrs st (st.sl s)) _
    by_cases l:s=t
    .subst l;rw [yp rfl];obtain ⟨A,cap,E⟩:=ZbG h3;exact ⟨_,rfl,N.1.symm,by rw [E];rfl⟩
    .rw [yn l];exact Zzu (U:=U) (fun k e m xs F=>⟨yn (c k e m xs F).1,(c k e m xs F).2⟩) (P.sl s) (fun k F=>yn fun e=>B k yE F) (hS s)
   .show svU _ (if s=t then .p false [.row st.n] else Zrs st (st.sl s))
    by_cases l:s=t
    .rw [yp l];intro y my;simp at my;subst my;exact .inr rfl
    .rw [yn l];exact ZCr (fun k e m xs F=>.inl (c k e m xs F).2) _ ((P.sl s).mono fun _=>.inl)
   .show obU _ (if k=st.n then .row e m xs 2 else Zbz st (st.ob k))
    split
    .trivial
    .cases F:st.ob k with
     |row e' T f d'=>simp only[Zbz];split<;>trivial
     |box t' i=>
      intro y my;obtain ⟨x,mx,rfl⟩:=AD.1 my;exact Zxw (fun k e m xs F=>.inl (c k e m xs F).2) x
     |_=>trivial
   .show (if k=st.n then .row e m xs 2 else Zbz st (st.ob k))=.gone
    rw [yn fun e=>F (.inr e),P.gone k fun h=>F (.inl h)];rfl
  .have e:Zt3 st t (.p ag cs)=st:=by
    unfold Zt3;split
    .rename_i h;simp only[SV.p.injEq]at h;exact absurd ⟨_,_,_,h.1,h.2⟩ hc
    .rfl
   rw [e];exact ⟨U,⟨g,M,hS⟩,P,d,hh⟩
 |_=>exact ⟨U,⟨g,M,hS⟩,P,d,hh⟩
end
abbrev nw0:NW:=⟨0⟩
section
variable {P:Program} {J:World->Prop} {JF:Nat->Prop} {W:Zbb} {U:Nat->Prop} {st:St} {w w':World} {a:Act} {tt:Nat->Option TI} {od:OD} {g:Gh}
structure JOk (J:World->Prop) (JF:Nat->Prop):Prop where
 below:∀(x:Nat->Prop) (w w':World),J w->(∀b,x b->JF b)->w'.os=w.os->w'.tape=w.tape->w'.output=w.output->w.heap.size<=w'.heap.size->(∀k,k<w.heap.size->¬x k->w'.heap[k]?=w.heap[k]?)->J w'
 new:∀(w:World) b,J w->w.heap.size<=b->JF b
theorem Zgu{args:List (Bool×List CT)}{vs:List Value}{N t o:Nat}(h:vs.length<=N)(v:Value)(A:vs[t]?=some v):(vs.toArray++AL (N - vs.toArray.size) undef).getD t undef=v:=by
 have B:t<vs.length:=(AP.1 A).1;simp only[AJ,BC,BD,B,if_true,List.getElem?_toArray,A,An]
theorem Zkm{vs:List Value}{N t:Nat}(A:vs.length<=t):(vs.toArray++AL (N - vs.toArray.size) undef).getD t undef=undef:=by
 simp only[AJ,BC,BD,show ¬t<vs.length by omega,if_false,Array.getElem?_replicate];split<;>rfl
theorem ZAI (htt : ∀ t i, tt t = some i → TOk P t i) (hJ : JOk J JF) (hmix : P.follows .mixedOrders = true) {hds : FuncId → Nat} {f : FuncId} {fn : Func} {c : Code} {args : List (Bool × List CT)} {res : List RT} (hf : P.funcs[f]? = some fn) (hname : (fn.name == "runtime.NumGoroutine") = false) (hb : fn.body = some c)
  (hok:Xa od tt hds false fn.ntmps c=true) (hlen:Nat.ble args.length fn.ntmps=true) (h:fnS od tt (SC P J JF hds) fn.results.toList c args res):Zp P J f args res:=by
 letI:NW:=nw0
 refine ⟨⟨fn,hf,hname,by rw [hb];rfl⟩,fun w z vs hj hz hargs=>?_⟩
 have hlen':args.length<=fn.ntmps:=AH hlen
 have hvl:=hargs.len
 refine calls_of_wp hf hb ?_
 let W:Zbb:={ w with z:=z,x:=fun _=>False,hv:=none }
 let g0:Gh:=⟨fun _=>undef,fun _=>[],fun _=>[],z⟩
 have hg0:∀b,g0.own b->z b:=fun b hb=>by
  rcases hb with ⟨k,m⟩|h
  .simp [g0]at m
  .exact h
 have hI0:Inv W (fun _=>False) (Zt args) { tmps:=vs.toArray++AL (fn.ntmps - vs.toArray.size) undef,defers:=[] } w:=by
  refine ⟨⟨g0,⟨⟨rfl,rfl,rfl,AK _,fun _ _ _=>rfl⟩,fun k=>⟨rfl,rfl⟩,fun k=>by simp [g0],fun k j _ b m=>by simp [g0]at m,fun k b m=>by simp [g0]at m,rfl,fun b hb=>⟨hz b hb,fun h=>h⟩,fun _ _=>Ax _⟩,fun t=>?_⟩,⟨fun t=>?_,fun k=>trivial,fun k _=>rfl⟩,rfl,fun v hv=>by simp [W]at hv⟩
  .show SVR g0 w (match args[t]? with|some x=>.p x.1 (x.2.map ZjT)|none=>.und) _
   cases ht:args[t]? with
   |none=>exact Zkm (by have:args.length<=t:=(by simpa using ht);omega)
   |some x=>
    obtain ⟨v,hv,hr⟩:=hargs.at ht
    show SVR g0 w (.p x.1 (x.2.map ZjT)) ((vs.toArray++AL (fn.ntmps - vs.toArray.size) undef).getD t undef)
    rw [Zgu (args:=args) (o:=0) yE v hv]
    exact Zow hg0 hr
  .show svU _ (match args[t]? with|some x=>.p x.1 (x.2.map ZjT)|none=>.und)
   split
   .exact Zpq _
   .trivial
 have hM:MOk P J JF W tt:=⟨htt,fun w' hb=>hJ.below (fun _=>False) w w' hj (fun _ h=>h.elim) hb.os hb.tape hb.output hb.size (fun k hk hx=>hb.block k hk hx),fun b hb=>hJ.new w b hj hb,fun b h=>h.elim⟩
 refine Zan (W:=W) hM hmix (.inl rfl) c hok (ZuJ tt fn.results.toList fun _ r _=>wkR r res) _ ?_ _ (Zt args) _ w hI0 (fun _ _ h=>h) (by simp;omega) h
 intro ex U' st' a' w' hI' _ _ hK
 have fin:(match ZcL tt st' fn.results.toList with|some x=>x.2.Nodup/\wkR x.1 res|none=>False)->a'.defers=[]/\∃v,(results fn a'.tmps).run P w'=.ok v w'/\∃u n,Ending.returned v=.returned u/\Zgi w' w.heap.size n res u/\(∀b,z b->n b)/\Below w.heap.size w w':=fun hK=>by
  split at hK
  .rename_i x hx
   obtain ⟨r,ks⟩:=x
   obtain ⟨hnd,hw⟩:=hK
   obtain ⟨g,hH,hS⟩:=hI'.ex
   have hBg:∀k∈ks,∀b∈g.O k++g.D k,W.heap.size<=b:=fun k _ b mb=>(hH.plain k b mb).1.resolve_right fun h=>h
   obtain ⟨v,m,e1,e2,_,_,e4⟩:=ZwI htt hI' hH hS hx hnd hw hBg (fun _=>False) (fun _ h=>h.elim)
   have hbel:=hH.below
   exact ⟨hI'.defers,v,e1,v,m,rfl,e2,fun b hb=>e4 b (fun mb=>by obtain ⟨k,hk,mk⟩:=Zkz mb;have:=hBg k hk b mk;have:=hz b hb;have e:W.heap.size=w.heap.size:=rfl;omega) (.inl (by rw [hH.gz];exact hb)),hbel.os,hbel.tape,hbel.output,hbel.size,fun k hk=>hbel.block k hk fun h=>h⟩
  .exact hK.elim
 cases ex with
 |normal=>exact fin hK
 |exit id=>exact hK.elim
 |ret=>exact fin hK
theorem ZyL (htt : ∀ t i, tt t = some i → TOk P t i) (hJ : JOk J JF) (hmix : P.follows .mixedOrders = true) {hds : FuncId → Nat} {f : FuncId} {fn : Func} {c : Code} {args : List (Bool × List CT)} {res : List RT} (hf : P.funcs[f]? = some fn) (hname : (fn.name == "runtime.NumGoroutine") = false) (hb : fn.body = some c)
  (hok:Xa od tt hds false fn.ntmps c=true) (hlen:Nat.ble args.length fn.ntmps=true) (t0:Nat) (h:fnN od tt (SC P J JF hds) fn.results.toList t0 c args res):Zp P J f args res:=by
 refine ⟨⟨fn,hf,hname,by rw [hb];rfl⟩,fun w z vs hj hz hargs=>?_⟩
 letI:NW:=⟨w.heap.size⟩
 have hlen':args.length<=fn.ntmps:=AH hlen
 have hvl:=hargs.len
 refine calls_of_wp hf hb ?_
 let W:Zbb:={ w with z:=z,x:=fun _=>False,hv:=none }
 let g0:Gh:=⟨fun _=>undef,fun _=>[],fun _=>[],z⟩
 have hg0:∀b,g0.own b->z b:=fun b hb=>by
  rcases hb with ⟨k,m⟩|h
  .simp [g0]at m
  .exact h
 have hI0:Inv W (fun _=>False) (Zt args) { tmps:=vs.toArray++AL (fn.ntmps - vs.toArray.size) undef,defers:=[] } w:=by
  refine ⟨⟨g0,⟨⟨rfl,rfl,rfl,AK _,fun _ _ _=>rfl⟩,fun k=>⟨rfl,rfl⟩,fun k=>by simp [g0],fun k j _ b m=>by simp [g0]at m,fun k b m=>by simp [g0]at m,rfl,fun b hb=>⟨hz b hb,fun h=>h⟩,fun b hb=>hb.elim (fun h=>h) fun h=>h.elim⟩,fun t=>?_⟩,⟨fun t=>?_,fun k=>trivial,fun k _=>rfl⟩,rfl,fun v hv=>by simp [W]at hv⟩
  .show SVR g0 w (match args[t]? with|some x=>.p x.1 (x.2.map ZjT)|none=>.und) _
   cases ht:args[t]? with
   |none=>exact Zkm (by have:args.length<=t:=(by simpa using ht);omega)
   |some x=>
    obtain ⟨v,hv,hr⟩:=hargs.at ht
    show SVR g0 w (.p x.1 (x.2.map ZjT)) ((vs.toArray++AL (fn.ntmps - vs.toArray.size) undef).getD t undef)
    rw [Zgu (args:=args) (o:=0) yE v hv]
    exact Zow hg0 hr
  .show svU _ (match args[t]? with|some x=>.p x.1 (x.2.map ZjT)|none=>.und)
   split
   .exact Zpq _
   .trivial
 have hM:MOk P J JF W tt:=⟨htt,fun w' hb=>hJ.below (fun _=>False) w w' hj (fun _ h=>h.elim) hb.os hb.tape hb.output hb.size (fun k hk hx=>hb.block k hk hx),fun b hb=>hJ.new w b hj hb,fun b h=>h.elim⟩
 refine Zan (W:=W) hM hmix (.inl rfl) c hok (ZC6 t0 (ZuJ tt fn.results.toList fun _ r _=>wkR r res)) _ ?_ _ (Zt args) _ w hI0 (fun _ _ h=>h) (by simp;omega) h
 intro ex U1 st1 a' w' hI1 hn1 _ hK
 obtain ⟨U',hI'⟩:=ZAz (AK _) t0 hI1 hn1
 generalize hst:st1.thaw t0=st' at hI'
 simp only[ZC6,hst]at hK
 have fin:(match ZcL tt st' fn.results.toList with|some x=>x.2.Nodup/\wkR x.1 res|none=>False)->a'.defers=[]/\∃v,(results fn a'.tmps).run P w'=.ok v w'/\∃u n,Ending.returned v=.returned u/\Zgi w' w.heap.size n res u/\(∀b,z b->n b)/\Below w.heap.size w w':=fun hK=>by
  split at hK
  .rename_i x hx
   obtain ⟨r,ks⟩:=x
   obtain ⟨hnd,hw⟩:=hK
   obtain ⟨g,hH,hS⟩:=hI'.ex
   have hBg:∀k∈ks,∀b∈g.O k++g.D k,W.heap.size<=b:=fun k _ b mb=>(hH.plain k b mb).1.resolve_right fun h=>h
   obtain ⟨v,m,e1,e2,_,_,e4⟩:=ZwI htt hI' hH hS hx hnd hw hBg (fun _=>False) (fun _ h=>h.elim)
   have hbel:=hH.below
   exact ⟨hI'.defers,v,e1,v,m,rfl,e2,fun b hb=>e4 b (fun mb=>by obtain ⟨k,hk,mk⟩:=Zkz mb;have:=hBg k hk b mk;have:=hz b hb;have e:W.heap.size=w.heap.size:=rfl;omega) (.inl (by rw [hH.gz];exact hb)),hbel.os,hbel.tape,hbel.output,hbel.size,fun k hk=>hbel.block k hk fun h=>h⟩
  .exact hK.elim
 cases ex with
 |normal=>exact fin hK
 |exit id=>exact hK.elim
 |ret=>exact fin hK
theorem ZyW (htt : ∀ t i, tt t = some i → TOk P t i) (hJ : JOk J JF) (hmix : P.follows .mixedOrders = true) {hds : FuncId → Nat} {f : FuncId} {fn : Func} {c : Code} {args : List (Bool × List CT)} {nb : NB} (hf : P.funcs[f]? = some fn) (hname : (fn.name == "runtime.NumGoroutine") = false) (hb : fn.body = some c)
  (hok:Xa od tt hds false fn.ntmps c=true) (hlen:Nat.ble args.length fn.ntmps=true) (h:fnB od tt (SC P J JF hds) fn.results.toList c args nb):ZoH P J f args nb:=by
 letI:NW:=nw0
 refine ⟨⟨fn,hf,hname,by rw [hb];rfl⟩,fun w z vs hj hz hargs=>?_⟩
 have hlen':args.length<=fn.ntmps:=AH hlen
 have hvl:=hargs.len
 refine calls_of_wp hf hb ?_
 let W:Zbb:={ w with z:=z,x:=fun _=>False,hv:=none }
 let g0:Gh:=⟨fun _=>undef,fun _=>[],fun _=>[],z⟩
 have hg0:∀b,g0.own b->z b:=fun b hb=>by
  rcases hb with ⟨k,m⟩|h
  .simp [g0]at m
  .exact h
 have hI0:Inv W (fun _=>False) (Zt args) { tmps:=vs.toArray++AL (fn.ntmps - vs.toArray.size) undef,defers:=[] } w:=by
  refine ⟨⟨g0,⟨⟨rfl,rfl,rfl,AK _,fun _ _ _=>rfl⟩,fun k=>⟨rfl,rfl⟩,fun k=>by simp [g0],fun k j _ b m=>by simp [g0]at m,fun k b m=>by simp [g0]at m,rfl,fun b hb=>⟨hz b hb,fun h=>h⟩,fun _ _=>Ax _⟩,fun t=>?_⟩,⟨fun t=>?_,fun k=>trivial,fun k _=>rfl⟩,rfl,fun v hv=>by simp [W]at hv⟩
  .show SVR g0 w (match args[t]? with|some x=>.p x.1 (x.2.map ZjT)|none=>.und) _
   cases ht:args[t]? with
   |none=>exact Zkm (by have:args.length<=t:=(by simpa using ht);omega)
   |some x=>
    obtain ⟨v,hv,hr⟩:=hargs.at ht
    show SVR g0 w (.p x.1 (x.2.map ZjT)) ((vs.toArray++AL (fn.ntmps - vs.toArray.size) undef).getD t undef)
    rw [Zgu (args:=args) (o:=0) yE v hv]
    exact Zow hg0 hr
  .show svU _ (match args[t]? with|some x=>.p x.1 (x.2.map ZjT)|none=>.und)
   split
   .exact Zpq _
   .trivial
 have hM:MOk P J JF W tt:=⟨htt,fun w' hb=>hJ.below (fun _=>False) w w' hj (fun _ h=>h.elim) hb.os hb.tape hb.output hb.size (fun k hk hx=>hb.block k hk hx),fun b hb=>hJ.new w b hj hb,fun b h=>h.elim⟩
 refine Zan (W:=W) hM hmix (.inl rfl) c hok (ZB2 fn.results.toList nb) _ ?_ _ (Zt args) _ w hI0 (fun _ _ h=>h) (by simp;omega) h
 intro ex U' st' a' w' hI' _ _ hK
 have fin:Zg2 st' fn.results.toList nb->a'.defers=[]/\∃v,(results fn a'.tmps).run P w'=.ok v w'/\∃(b:Nat) (n:Nat->Prop),Ending.returned v=.returned (Zqk b nb)/\w.heap.size<=b/\nbR w' n b nb/\n b/\(∀x,z x->n x)/\Below w.heap.size w w':=fun hK=>by
  unfold Zg2 at hK
  split at hK
  .rename_i s hrs
   have er:fn.results=#[.tmp s]:=by
    have:=congrArg Aw hrs
    simpa using this
   obtain ⟨g,hH,hS⟩:=hI'.ex
   have hs:=hS s
   have hbel:=hH.below
   cases nb with
   |box t cs=>
    obtain ⟨k,ds,k1,k2,k3,k4⟩:=hK
    rw [k1]at hs
    obtain ⟨b,b1,b2⟩:=hs
    have hob:=hH.obs k
    rw [k2]at hob
    obtain ⟨b',us,o1,o2,o3,o4,o5⟩:=hob
    have hbb:b'=b:=by rw [b1]at o1;simpa using o1.symm
    subst hbb
    obtain ⟨L,hL,hL2⟩:=Zgr hH k4 o5
    have hno:=hL2 fun y my=>by
     have:=AN.1 k3 y my
     cases y<;>simp [ZbH]at this<;>trivial
    refine ⟨hI'.defers,_,?_,b',fun x=>g.own x,rfl,(hH.plain k b' (by simp [o2])).1.resolve_right fun h=>h,⟨us,L,o4,hL,hno⟩,.inl ⟨k,by simp [o2]⟩,fun x hx=>.inr (by rw [hH.gz];exact hx),hbel.os,hbel.tape,hbel.output,hbel.size,fun k hk=>hbel.block k hk fun h=>h⟩
    rw [Zkg,er]
    simp [Zhc,b2,Zqk]
   |map kk vk kv=>
    obtain ⟨k,k1,k2⟩:=hK
    rw [k1]at hs
    obtain ⟨x,hx,hx3⟩:=hs
    simp only[AY,and_true]at hx
    subst hx
    obtain ⟨hx2,_⟩:=hx3
    have hob:=hH.obs k
    rw [k2]at hob
    obtain ⟨b,es,c,o1,o2,o3,o4,o5⟩:=hob
    refine ⟨hI'.defers,_,?_,b,fun x=>g.own x,rfl,(hH.plain k b (by simp [o2])).1.resolve_right fun h=>h,⟨es,c,o4,o5⟩,.inl ⟨k,by simp [o2]⟩,fun x hx=>.inr (by rw [hH.gz];exact hx),hbel.os,hbel.tape,hbel.output,hbel.size,fun k hk=>hbel.block k hk fun h=>h⟩
    rw [Zkg,er]
    simp [Zhc,hx2,o1,Zqk]
  .exact hK.elim
 cases ex with
 |normal=>exact fin hK
 |exit id=>exact hK.elim
 |ret=>exact fin hK
theorem Zqp (htt : ∀ t i, tt t = some i → TOk P t i) (hJ : JOk J JF) (hmix : P.follows .mixedOrders = true) {hds : FuncId → Nat} {f : FuncId} {fn : Func} {c : Code} {h h' : Zhx} {args : List (Bool × List CT)} {res : List RT} (hf : P.funcs[f]? = some fn) (hname : (fn.name == "runtime.NumGoroutine") = false) (hb : fn.body = some c)
  (hok:Xa od tt hds true fn.ntmps c=true) (hlen:Nat.blt args.length fn.ntmps=true) (hh:fnH od tt (SC P J JF hds) fn.results.toList c h args res h'):Ys P J JF f h args res h':=by
 letI:NW:=nw0
 refine ⟨⟨fn,hf,hname,by rw [hb];rfl⟩,fun w z q v0 vs hj hqf hz hhand hargs=>?_⟩
 have hlen':args.length<fn.ntmps:=AH hlen
 have hvl:=hargs.len
 refine calls_of_wp hf hb ?_
 let W:Zbb:={ w with z:=z,x:=fun b=>q=some b,hv:=some v0 }
 let g0:Gh:=⟨fun k=>if k=0 then v0 else undef,fun k=>if k=0 then q.toList else [],fun _=>[],z⟩
 have hg0:∀b,g0.own b->inQ z q b:=fun b hb=>by
  rcases hb with ⟨k,m⟩|h
  .simp only[g0]at m
   split at m
   .exact .inr (by simpa using m)
   .simp at m
  .exact .inl h
 have hqlt:∀b,q=some b->∃cur e,w.heap[b]?=some (.cells cur e (0,0)):=fun b hb=>by
  cases h with
  |row e m xs=>
   obtain ⟨_,_,h3,cs,h4,_⟩:=hhand
   rcases h4.2 with ⟨h0,_⟩|⟨gg,o,cap,cur,hv,_,hcc,_⟩
   .rw [h0]at h3;simp [Value.ownBlock]at h3;rw [<-h3]at hb;simp at hb
   .rw [hv]at h3;simp only[Value.ownBlock]at h3;rw [hb]at h3;simp at h3;subst h3;exact ⟨_,_,hcc⟩
  |box t cs=>
   obtain ⟨b',vs,L,h1,h2,h3,_⟩:=hhand
   rw [hb]at h1;simp at h1;subst h1
   exact ⟨_,_,h3⟩
 have hob0:ObR g0 w 0 (Yh h):=by
  cases h with
  |row e m xs=>
   obtain ⟨h1,h2,h3,cs,h4,h5⟩:=hhand
   exact ⟨h2,cs,[],by simpa [g0]using h4,h5,.inl ⟨rfl,by simp [g0,h3],by simp [g0]⟩⟩
  |box t cs=>
   obtain ⟨b,vs,L,h1,h2,h3,h4,h5⟩:=hhand
   exact ⟨b,vs,by simpa [g0]using h2,by simp [g0,h1],by simp [g0],h3,h4.avr fun x mx hx=>h5 x mx (hg0 x hx)⟩
 have hsv0:SVR g0 w (YE h) v0:=by
  cases h with
  |row e m xs=>
   obtain ⟨h1,h2,h3,cs,h4,h5⟩:=hhand
   obtain ⟨A,cap,hv⟩:=ZbG h4
   exact ⟨_,rfl,by simp [g0],by simp [hv,Value.oneCell']⟩
  |box t cs=>
   obtain ⟨b,vs,L,h1,h2,h3,h4,h5⟩:=hhand
   exact ⟨b,by simpa [g0]using h2,h2⟩
 have hI0:Inv W (fun k=>k=0) (YF h args) { tmps:=(v0::vs).toArray++AL (fn.ntmps - (v0::vs).toArray.size) undef,defers:=[] } w:=by
  refine ⟨⟨g0,⟨⟨rfl,rfl,rfl,AK _,fun _ _ _=>rfl⟩,fun k=>?_,fun k=>?_,fun k j hkj b m=>?_,fun k b m=>?_,rfl,fun b hb=>⟨(hz b hb).1,(hz b hb).2⟩,fun _ _=>Ax _⟩,fun t=>?_⟩,⟨fun t=>?_,fun k=>?_,fun k hk=>by simp [YF,hk]⟩,rfl,fun v hv=>?_⟩
  .show ObR g0 w k (if k=0 then Yh h else .gone)
   by_cases hk:k=0
   .subst hk;exact hob0
   .rw [yn hk];exact ⟨by simp [g0,hk],rfl⟩
  .by_cases hk:k=0
   .subst hk;cases q<;>simp [g0]
   .simp [g0,hk]
  .by_cases hk:k=0
   .have:¬j=0:=fun e=>hkj yE
    simp [g0,this]
   .simp [g0,hk]at m
  .by_cases hk:k=0
   .subst hk
    have hb:q=some b:=by simpa [g0]using m
    refine ⟨.inr hb,?_⟩
    have hp:∃cur e,w.heap[b]?=some (.cells cur e (0,0)):=hqlt b hb
    show Qp w (if 0=0 then Yh h else .gone) b
    rw [yp rfl]
    cases h<;>exact hp
   .simp [g0,hk]at m
  .show SVR g0 w (match t with|0=>YE h|t+1=>(match args[t]? with|some x=>.p x.1 (x.2.map .c)|none=>.und)) _
   cases t with
   |zero=>
    show SVR g0 w (YE h) (((v0::vs).toArray++AL (fn.ntmps - (v0::vs).toArray.size) undef).getD 0 undef)
    rw [Zgu (args:=args) (o:=0) (by simp;omega) v0 rfl]
    exact hsv0
   |succ t=>
    show SVR g0 w (match args[t]? with|some x=>.p x.1 (x.2.map .c)|none=>.und) _
    cases ht:args[t]? with
    |none=>exact Zkm (by have:args.length<=t:=(by simpa using ht);simp;omega)
    |some x=>
     obtain ⟨v,hv,hr⟩:=hargs.at ht
     show SVR g0 w (.p x.1 (x.2.map .c)) (((v0::vs).toArray++AL (fn.ntmps - (v0::vs).toArray.size) undef).getD (t+1) undef)
     rw [Zgu (args:=args) (o:=0) (by simp;omega) v (by simpa using hv)]
     exact ZCa hg0 hr
  .show svU _ (match t with|0=>YE h|t+1=>(match args[t]? with|some x=>.p x.1 (x.2.map .c)|none=>.und))
   cases t with
   |zero=>cases h with
    |row e m xs=>intro y my;simp at my;subst my;rfl
    |box t cs=>rfl
   |succ t=>
    show svU _ (match args[t]? with|some x=>.p x.1 (x.2.map .c)|none=>.und)
    split
    .exact Zpl true _
    .trivial
  .show obU _ (if k=0 then Yh h else .gone)
   by_cases hk:k=0
   .rw [yp hk]
    cases h with
    |row e m xs=>trivial
    |box t cs=>exact Zpl true _
   .rw [yn hk];trivial
  .have:v0=v:=by simpa [W]using hv
   subst this
   exact Zgu (args:=args) (o:=0) (by simp;omega) v0 rfl
 have hM:MOk P J JF W tt:=⟨htt,fun w' hb=>hJ.below (fun b=>q=some b) w w' hj hqf hb.os hb.tape hb.output hb.size (fun k hk hx=>hb.block k hk hx),fun b hb=>hJ.new w b hj hb,hqf⟩
 refine Zan (W:=W) hM hmix (.inr rfl) c hok (ZuJ tt fn.results.toList fun st r ks=>wkR r res/\ZkM st ks h') _ ?_ _ (YF h args) _ w hI0 (fun k hk h0=>by simp [YF]at hk;omega) (by simp;omega) hh
 intro ex U' st' a' w' hI' _ _ hK
 have fin:(match ZcL tt st' fn.results.toList with|some x=>x.2.Nodup/\wkR x.1 res/\ZkM st' x.2 h'|none=>False)->a'.defers=[]/\∃v,(results fn a'.tmps).run P w'=.ok v w'/\∃u n,Ending.returned v=.returned u/\Zgi w' w.heap.size n res u/\(∀b,inQ z q b->n b)/\Znp w' n q h' v0/\Zgo q w w':=fun hK=>by
  split at hK
  .rename_i x hx
   obtain ⟨r,ks⟩:=x
   obtain ⟨hnd,hw,hbk⟩:=hK
   obtain ⟨g,hH,hS⟩:=hI'.ex
   have hv0:a'.tmps.getD 0 undef=v0:=hI'.hand v0 rfl
   have hS0:=hS 0
   rw [hv0]at hS0
   have hkey:∃k,g.val k=v0/\g.O k=q.toList/\g.D k=[]/\k∉ks/\(Zk0 (st'.ob k)=false/\∀e m xs d,st'.ob k=.row e m xs d->d=2)/\∀n:Nat->Prop,(∀b,n b->g.own b)->Znp w' n q h' v0:=by
    cases h' with
    |row e m xs=>
     obtain ⟨k,hk1,hk2,hk3,hk4⟩:=hbk
     rw [hk1]at hS0
     obtain ⟨x,hx1,hx2⟩:=hS0
     simp only[AY,and_true]at hx1
     subst hx1
     have hob:=hH.obs k
     rw [hk2]at hob
     obtain ⟨hm,cs,L,o1,o2,o3⟩:=hob
     obtain rfl:=ZhU o2 hk3
     rcases o3 with ⟨_,q1,q2⟩|⟨q1,_⟩|⟨q1,_⟩
     .have hq:v0.ownBlock=q:=by
       cases h with
       |row e1 m1 xs1=>exact hhand.2.2.1
       |box t1 cs1=>
        obtain ⟨b,vs,L,h1,h2,_⟩:=hhand
        obtain ⟨A,cap,hv⟩:=ZbG o1
        rw [<-hx2.1,h2]at hv
        simp at hv
      exact ⟨k,hx2.1.symm,by rw [q1,<-hx2.1,hq],q2,hk4,⟨by rw [hk2];rfl,fun e' m' xs' d' h=>by rw [hk2]at h;simp only[Ob.row.injEq]at h;exact h.2.2.2.symm⟩,fun n _=>⟨hk3,hm,hq,cs,by rw [hx2.1];exact o1,o2⟩⟩
     .omega
     .omega
    |box t cs=>
     obtain ⟨k,ds,hk1,hk2,hk3,hk4⟩:=hbk
     rw [hk1]at hS0
     obtain ⟨b,hb1,hb2⟩:=hS0
     have hob:=hH.obs k
     rw [hk2]at hob
     obtain ⟨b',vs',o1,o2,o3,o4,o5⟩:=hob
     have hbb:b'=b:=by rw [hb1]at o1;simpa using o1.symm
     subst hbb
     have hq:q=some b':=by
      cases h with
      |row e1 m1 xs1=>
       obtain ⟨_,_,_,cs1,h4,_⟩:=hhand
       obtain ⟨A,cap,hv⟩:=ZbG h4
       rw [hv]at hb2
       simp at hb2
      |box t1 cs1=>
       obtain ⟨b2,vs2,L2,h1,h2,_⟩:=hhand
       rw [h2]at hb2
       simp at hb2
       rw [h1,hb2]
     obtain ⟨L,hL,hL2⟩:=Zgr hH hk4 o5
     refine ⟨k,by rw [o1,hb2],by rw [o2,hq];rfl,o3,fun mk=>?_,⟨by rw [hk2];rfl,fun e' m' xs' d' h=>by rw [hk2]at h;simp at h⟩,fun n hn=>⟨b',vs',L,hq,hb2,o4,hL,fun x mx hx=>hL2 (fun y my=>?_) x mx (hn x hx)⟩⟩
     .obtain ⟨e',m',xs',h'⟩:=Zld hx k mk
      rw [hk2]at h'
      simp at h'
     .have:=AN.1 hk3 y my
      cases y<;>simp [ZbH]at this<;>trivial
   obtain ⟨k0,c1,c2,c3,c4,c5,c6⟩:=hkey
   have hBg:∀k∈ks,∀b∈g.O k++g.D k,W.heap.size<=b:=fun k hk b mb=>(hH.plain k b mb).1.resolve_right fun h=>hH.apart k k0 (fun e=>c4 (e ▸ hk)) b mb (by rw [c2];simp;exact .inl h)
   obtain ⟨v,m,e1,e2,e3,_,e4⟩:=ZwI htt hI' hH hS hx hnd hw hBg (fun k=>k=k0) (fun k hk=>hk ▸ c5)
   have hbel:=hH.below
   refine ⟨hI'.defers,v,e1,v,m,rfl,e2,fun b hb=>?_,c6 m e3,hbel.os,hbel.tape,hbel.output,hbel.size,fun k hk hq=>hbel.block k hk hq⟩
   refine e4 b (fun mb=>?_) ?_
   .obtain ⟨k,hk,mk⟩:=Zkz mb
    have hge:=hBg k hk b mk
    have e:W.heap.size=w.heap.size:=rfl
    rcases hb with hb|hb
    .have:=(hz b hb).1;omega
    .obtain ⟨cur,e',hc⟩:=hqlt b hb
     have:=(Ad.1 hc).1
     omega
   .rcases hb with hb|hb
    .exact .inl (by rw [hH.gz];exact hb)
    .exact .inr ⟨k0,rfl,by rw [c2,hb];simp⟩
  .exact hK.elim
 cases ex with
 |normal=>exact fin hK
 |exit id=>exact hK.elim
 |ret=>exact fin hK
end
instance nwD:NW:=nw0
end
section
open Go.RowKit
def ZmE{α β:Type}(f:α->β->Bool):List α->List β->Bool
 | [],[]=>true
 |a::l,b::r=>f a b&&ZmE f l r
 |_,_=>false
theorem Zlv{α β:Type}{f:α->β->Bool}{R:α->β->Prop}(h:∀a b,f a b=true->R a b):∀{l:List α}{r:List β},ZmE f l r=true->ZW R l r
 | [],[],_=>trivial
 |a::l,b::r,hh=>by
  simp only[ZmE,AC]at hh;exact ⟨h a b hh.1,Zlv h hh.2⟩
 | [],_::_,hh=>by simp [ZmE]at hh
 |_::_,[],hh=>by simp [ZmE]at hh
def ZAK(P:Program)(fi:FI)(f:Field):Bool:=
 f.offset==fi.off&&!(fi.size==0)&&match P.info? f.type,P.underlying f.type with
  |some j,some d=>j.size==fi.size&&(ZuU d==fi.agg)
  |_,_=>false
def ZFC:Value->Bool
 |.slice none 0 0=>true
 |_=>false
def Zyn(P:Program):List PK->List Field->Nat->Bool
 | [],[],_=>true
 | k :: ks, f :: fs, n => (f.name != "_") && (f.offset == n) && (match P.underlying f.type with | some d => ZeU k d | none => false) && Zyn P ks fs (n + 1)
 |_,_,_=>false
theorem Zxk{P:Program}:∀{ks:List PK}{B:List Field}{n:Nat},Zyn P ks B n=true->EqF P ks B n
 | [],[],_,_=>trivial
 |k::ks,f::B,n,h=>by
  simp only[Zyn,AC,bne_iff_ne,beq_iff_eq]at h;obtain ⟨⟨⟨F,E⟩,A⟩,D⟩:=h;split at A
  .rename_i d C;exact ⟨F,E,⟨d,C,A⟩,Zxk D⟩
  .simp at A
 | [],_::_,_,h=>by simp [Zyn]at h
 |_::_,[],_,h=>by simp [Zyn]at h
def ZqP:Option TypeDesc->Bool
 |some (.struct _)=>true
 |_=>false
def ZGE(P:Program)(t:TypeId)(ks:List PK):Bool:=
 Nat.ble 4000 t&&ZqP (P.underlying (t - 4000))&&!(P.stoodInHeld (t - 4000))&&!(P.eqGuardType P.depth (t - 4000))&&Zyn P ks (P.fieldsOf (t - 4000)).toList 0
theorem ZCy{P:Program}{t:TypeId}{ks:List PK}(h:ZGE P t ks=true):TOk P t (.eqs ks):=by
 simp only[ZGE,AC,BE]at h;obtain ⟨⟨⟨⟨E,A⟩,D⟩,C⟩,B⟩:=h;refine ⟨t - 4000,?_,?_,D,C,Zxk B⟩
 .have:4000<=t:=AH E;exact (Nat.sub_add_cancel this).symm
 .unfold ZqP at A;split at A
  .rename_i F e;unfold Program.fieldsOf;rw [e]
  .simp at A
def tOk(P:Program)(t:TypeId)(ti:TI):Bool:=
 match ti with
 |.eqs ks=>ZGE P t ks
 |_=>
 match P.underlying t,P.info? t with
 |some d,some i=>match ti with
  |.atom z=>Zjv d z&&i.size==1&&match i.zero with|some zv=>Zbk z zv|none=>false
  |.strct fs n z=>match d with
   |.struct fields=>i.size==n&&(match i.zero with|some (.agg zvs)=>ZmE Zbk z zvs.toList|_=>false)&&ZmE (ZAK P) fs fields.toList
   |_=>false
  |.slice e m bytes z=>match d with
   |.slice e'=>e==e'&&Nat.blt 0 m&&Nat.ble bytes 131072&&(match P.info? e with
     |some ie=>ie.size==m&&ie.bytes==bytes&&(match ie.zero with|some zv=>ZmE Zbk z zv.cells.toList|none=>false)
     |none=>false)&&z.length==m&&i.size==1&&(match i.zero with|some zv=>ZFC zv|none=>false)
   |_=>false
  |.map kk vk=>match d with
   |.map kt et=>(match P.underlying kt with|some dk=>ZeU kk dk|none=>false)&&(match P.underlying et with|some dv=>ZeU vk dv|none=>false)&&(match P.info? et with|some ie=>(match ie.zero with|some zv=>Zbk (ZfL vk) zv|none=>false)|none=>false)
   |_=>false
  |.ifc=>match d with
   |.interface _=>true
   |_=>false
  |.eqs _=>false
 |_,_=>false
theorem ZBS{v:Value}(h:ZFC v=true):v=.slice none 0 0:=by
 unfold ZFC at h;split at h
 .rfl
 .simp at h
theorem ZEt{P:Program}{t:TypeId}{ti:TI}(h:tOk P t ti=true):TOk P t ti:=by
 unfold tOk at h;split at h
 .exact ZCy h
 split at h
 .rename_i d i F hi;cases ti with
  |eqs ks=>simp at h
  |ifc=>
   simp only at h;split at h
   .exact ⟨_,F⟩
   .simp at h
  |map kk vk=>
   simp only at h;split at h
   .rename_i N et;simp only[AC]at h;obtain ⟨⟨C,B⟩,A⟩:=h;split at C
    .rename_i dk c;split at B
     .rename_i dv g;split at A
      .rename_i J b;split at A
       .rename_i E D;exact ⟨N,et,dk,dv,J,E,F,c,C,g,B,b,D,A⟩
       .simp at A
      .simp at A
     .simp at B
    .simp at C
   .simp at h
  |atom z=>
   simp only[AC,beq_iff_eq]at h;obtain ⟨⟨C,B⟩,A⟩:=h;split at A
   .rename_i E D;exact ⟨d,E,i,F,C,hi,D,B,A⟩
   .simp at A
  |strct fs n z=>
   simp only at h;split at h
   .rename_i a;simp only[AC,beq_iff_eq]at h;obtain ⟨⟨C,B⟩,A⟩:=h;split at B
    .rename_i zvs D;refine ⟨a,i,zvs,F,hi,C,D,Zlv (fun _ _ h=>h) B,Zlv (fun fi f K=>?_) A⟩;unfold ZAK at K;simp only[AC,beq_iff_eq,BE,beq_eq_false_iff_ne]at K;obtain ⟨⟨W,V⟩,G⟩:=K;split at G
     .rename_i j d' S k;simp only[AC,beq_iff_eq]at G;exact ⟨W,V,j,d',S,G.1,k,G.2⟩
     .simp at G
    .simp at B
   .simp at h
  |slice e m bytes z=>
   simp only at h;split at h
   .rename_i e';simp only[AC,beq_iff_eq]at h;obtain ⟨⟨⟨⟨⟨⟨C,B⟩,A⟩,H⟩,U⟩,T⟩,L⟩:=h;subst C;split at H
    .rename_i J b;simp only[AC,beq_iff_eq]at H;obtain ⟨⟨R,O⟩,I⟩:=H;split at I
     .rename_i E D;split at L
      .rename_i M l;exact ⟨F,AH B,AH A,⟨J,E,b,R,O,D,Zlv (fun _ _ h=>h) I,U⟩,i,hi,T,by rw [l,ZBS L]⟩
      .simp at L
     .simp at I
    .simp at H
   .simp at h
 .simp at h
def ZAX:List (Nat×TI)->Nat->Option TI
 | [],_=>none
 |p::r,t=>if p.1=t then some p.2 else ZAX r t
theorem ZAr{P:Program}:∀(l:List (Nat×TI)),(l.all fun p=>tOk P p.1 p.2)=true->∀t i,ZAX l t=some i->TOk P t i
 | [],_,t,i,h=>by simp [ZAX]at h
 |p::r,ha,t,i,h=>by
  simp only[List.all_cons,AC]at ha;simp only[ZAX]at h;split at h
  .rename_i e;simp only[A0]at h;subst h e;exact ZEt ha.1
  .exact ZAr r ha.2 t i h
end
section
open Go.RowKit
def ZDf(P:Program)(L:List (String×(Array Value->Prop)))(w:World):Prop:=∀x∈L,∃cs,w.var? P x.1=some cs/\x.2 cs
def ZDb(P:Program)(L:List (String×(Array Value->Prop)))(b:Nat):Prop:=∀x∈L,¬P.globalNamed x.1=some b
theorem ZCV(P:Program)(L:List (String×(Array Value->Prop))):JOk (ZDf P L) (ZDb P L) where
 below:=fun x w w' D F _ _ _ hs E y B=>by
  obtain ⟨cs,A,G⟩:=D y B;refine ⟨cs,?_,G⟩;unfold World.var? at A ⊢;obtain ⟨g,C,A⟩:=AI.1 A;rw [C,AQ];have a:g<w.heap.size:=by
   rcases Ak g w.heap.size with h|h
   .exact h
   .rw [Am h]at A;simp at A
  rw [E g a (fun h=>F g h y B C)];exact A
 new:=fun w b D E y B C=>by
  obtain ⟨cs,A,_⟩:=D y B;unfold World.var? at A;rw [C,AQ,Am E]at A;simp at A
theorem Zcb{J:World->Prop}{JF:Nat->Prop}(h:JOk J JF){w w':World}(C:J w)(A:Below w.heap.size w w'):J w':=
 h.below (fun _=>False) w w' C (fun _ h=>h.elim) A.os A.tape A.output A.size fun k B _=>A.block k B
theorem Zvt{w:World}{B:Nat}{n:Nat->Prop}{A:CT}{v:Value}(h:OC w B n (false,A) v []):Zgi w B n [(false,[(false,A)])] v:=
 ⟨[v],[],⟨v,[],[],[],rfl,rfl,.inr ⟨rfl,_,rfl,h⟩,rfl,rfl⟩,Own.nil _ _,yG⟩
theorem Ztt{w:World}{B:Nat}{n:Nat->Prop}{D C:CT}{v1 A:Value}(F:OC w B n (false,D) v1 [])(E:OC w B n (false,C) A []):Zgi w B n [(false,[(false,D)]),(false,[(false,C)])] (.tuple #[v1,A]):=
 ⟨[v1,A],[],⟨v1,[A],[],[],rfl,rfl,.inr ⟨rfl,_,rfl,F⟩,A,[],[],[],rfl,rfl,.inr ⟨rfl,_,rfl,E⟩,rfl,rfl⟩,Own.nil _ _,yG⟩
theorem Zxp{w:World}{z:Nat->Prop}{c:CT}{v:Value}(h:Zh3 w z (false,[c]) v):∃L,RC w c v L:=by
 rcases h with ⟨h,_⟩|⟨_,B,L,h,A,_⟩
 .simp at h
 .simp only[AY,and_true]at h;subst h;exact ⟨L,A⟩
theorem Zoi{w:World}{z:Nat->Prop}{c:CT}{vs:List Value}(h:ZW (Zh3 w z) [(false,[c])] vs):∃v L,vs=[v]/\RC w c v L:=by
 cases vs with
 |nil=>exact h.elim
 |cons v r=>
  cases r with
  |nil=>obtain ⟨L,A⟩:=Zxp h.1;exact ⟨v,L,rfl,A⟩
  |cons _ _=>exact h.2.elim
theorem ZzQ{w:World}{z:Nat->Prop}{c d:CT}{vs:List Value}(h:ZW (Zh3 w z) [(false,[c]),(false,[d])] vs):∃v u L M,vs=[v,u]/\RC w c v L/\RC w d u M:=by
 cases vs with
 |nil=>exact h.elim
 |cons v r=>
  obtain ⟨u,M,rfl,A⟩:=Zoi h.2;obtain ⟨L,B⟩:=Zxp h.1;exact ⟨v,u,L,M,rfl,B,A⟩
end
section
open Go.RowKit
def ttL:List (Nat×TI):=[
 (2,.atom (.c (.int .i64 0))),
 (3,.atom (.c (.int .i64 0))),
 (4,.atom (.c (.bool false))),
 (5,.atom (.c (.int .u8 0))),
 (9,.atom (.c (.str ⟨#[]⟩))),
 (12,.atom (.c (.int .u64 0))),
 (14,.strct [⟨0,1,false⟩,⟨1,1,false⟩] 2 [.c (.str ⟨#[]⟩),.c (.int .u64 0)]),
 (20,.ifc),
 (21,.atom (.c (.int .i32 0))),
 (22,.slice 5 1 1 [.c (.int .u8 0)]),
 (24,.slice 87 4 72 [.c (.str ⟨#[]⟩),.c (.int .i64 0),.nil 144 5,.nil 90 3]),
 (25,.slice 35 2 40 [.c (.str ⟨#[]⟩),.nil 9 1]),
 (26,.slice 38 4 80 [.c (.str ⟨#[]⟩),.nil 9 1,.c (.str ⟨#[]⟩),.nil 3 1]),
 (33,.slice 9 1 16 [.c (.str ⟨#[]⟩)]),
 (35,.strct [⟨0,1,false⟩,⟨1,1,false⟩] 2 [.c (.str ⟨#[]⟩),.nil 9 1]),
 (36,.slice 3 1 8 [.c (.int .i64 0)]),
 (38,.strct [⟨0,2,true⟩,⟨2,1,false⟩,⟨3,1,false⟩] 4 [.c (.str ⟨#[]⟩),.nil 9 1,.c (.str ⟨#[]⟩),.nil 3 1]),
 (51,.slice 109 3 56 [.c (.int .i64 0),.nil 3 1,.nil 3 1]),
 (53,.strct [⟨0,1,false⟩,⟨1,1,false⟩] 2 [.c (.int .i64 0),.nil 109 3]),
 (60,.slice 4 1 1 [.c (.bool false)]),
 (77,.strct [⟨0,1,false⟩,⟨1,1,false⟩,⟨2,1,false⟩] 3 [.nil 5 1,.c (.int .i64 0),.c (.int .i64 0)]),
 (79,.slice 149 2 32 [.c (.str ⟨#[]⟩),.c (.str ⟨#[]⟩)]),
 (81,.strct [⟨0,1,false⟩,⟨1,1,false⟩] 2 [.nil 35 2,.nil 149 2]),
 (84,.slice 144 5 80 [.c (.int .i64 0),.c (.str ⟨#[]⟩),.nil 9 1,.c (.str ⟨#[]⟩),.c (.str ⟨#[]⟩)]),
 (85,.slice 90 3 48 [.c (.int .i64 0),.c (.str ⟨#[]⟩),.nil 9 1]),
 (87,.strct [⟨0,1,false⟩,⟨1,1,false⟩,⟨2,1,false⟩,⟨3,1,false⟩] 4 [.c (.str ⟨#[]⟩),.c (.int .i64 0),.nil 144 5,.nil 90 3]),
 (88,.strct [⟨0,1,false⟩,⟨1,1,false⟩] 2 [.c (.str ⟨#[]⟩),.nil 9 1]),
 (90,.strct [⟨0,1,false⟩,⟨1,2,true⟩] 3 [.c (.int .i64 0),.c (.str ⟨#[]⟩),.nil 9 1]),
 (95,.slice 111 3 64 [.c (.str ⟨#[]⟩),.nil 35 2,.nil 149 2]),
 (109,.strct [⟨0,1,false⟩,⟨1,1,false⟩,⟨2,1,false⟩] 3 [.c (.int .i64 0),.nil 3 1,.nil 3 1]),
 (111,.strct [⟨0,1,false⟩,⟨1,2,true⟩] 3 [.c (.str ⟨#[]⟩),.nil 35 2,.nil 149 2]),
 (114,.slice 142 2 40 [.c (.str ⟨#[]⟩),.nil 35 2]),
 (117,.slice 81 2 48 [.nil 35 2,.nil 149 2]),
 (137,.atom (.c (.int .u64 0))),
 (142,.strct [⟨0,1,false⟩,⟨1,1,false⟩] 2 [.c (.str ⟨#[]⟩),.nil 35 2]),
 (144,.strct [⟨0,1,false⟩,⟨1,2,true⟩,⟨3,1,false⟩,⟨4,1,false⟩] 5 [.c (.int .i64 0),.c (.str ⟨#[]⟩),.nil 9 1,.c (.str ⟨#[]⟩),.c (.str ⟨#[]⟩)]),
 (149,.strct [⟨0,1,false⟩,⟨1,1,false⟩] 2 [.c (.str ⟨#[]⟩),.c (.str ⟨#[]⟩)]),
 (158,.ifc),
 (159,.ifc),
 (193,.atom (.c (.int .u64 0))),
 (203,.map .str .bool),
 (217,.atom (.c (.int .u32 0))),
 (271,.strct [⟨0,1,false⟩] 1 [.c (.str ⟨#[]⟩)])]
def tt(t:Nat):Option TI:=ZAX ttL t
theorem htt:∀t i,tt t=some i->TOk prog t i:=ZAr ttL yO
theorem hmix:prog.follows .mixedOrders=true:=yO
def ZCd : List (String × (Array Value → Prop)) := [("internal/strconv.uint64pow10", fun cs => cs = (Lib.pow10Tab.map fun z => Value.int .u64 z).toArray), ("strconv.ErrSyntax", fun cs => ∃ tp p, cs = #[.iface tp p])]
def J0:World->Prop:=ZDf prog ZCd
def JF0:Nat->Prop:=ZDb prog ZCd
theorem hJ0:JOk J0 JF0:=ZCV _ _
theorem ZEf(w : World)(h : J0 w) : Lib.TabIs prog w "internal/strconv.uint64pow10" .u64 Lib.pow10Tab := by
 obtain ⟨cs,h1,h2⟩:=h _ (List.mem_cons_self ..)
 rw [h2]at h1
 exact h1
theorem ZEi(w : World)(h : J0 w) : ∃ tp p, w.var? prog "strconv.ErrSyntax" = some #[.iface tp p] := by
 obtain ⟨cs, h1, tp, p, h2⟩ := h ("strconv.ErrSyntax", fun cs => ∃ tp p, cs = #[.iface tp p]) (by simp [ZCd])
 rw [h2]at h1
 exact ⟨tp,p,h1⟩
def hdL:List (Nat×Nat):=[(6,2),(19,1),(20,3),(36,1),(37,1),(38,1),(40,1),(41,1),(43,1),(47,2),(52,2),(65,1),(67,1),(70,1),(71,1),(75,2),(88,2),(99,1),(100,1),(101,1),(102,1),(108,1),(109,1),(111,2),(112,2),(137,1),(138,1),(139,1),(140,1),(141,1),(154,1),(192,1),(193,1),(194,1),(200,3),(211,1),(227,4),(228,1),(229,1),(230,1),(249,1),(250,1)]
def ZAv:List (Nat×Nat)->Nat->Nat
 | [],_=>0
 |p::r,f=>match Nat.beq p.1 f with|true=>p.2|false=>ZAv r f
def hds(f:FuncId):Nat:=ZAv hdL f
abbrev yQ(f:FuncId)(n:Nat):Prop:=(SC prog J0 JF0 hds).hd f=n
theorem yT{f:FuncId}{n:Nat}(h:(SC prog J0 JF0 hds).hd f=n:=by kernel_rfl):yQ f n:=h
theorem ZJG:yQ 3 0:=yT
theorem ZJI:yQ 4 0:=yT
theorem ZJz:yQ 5 0:=yT
theorem ZJB:yQ 6 2:=yT
theorem ZJq:yQ 7 0:=yT
theorem ZJf:yQ 8 0:=yT
theorem ZJw:yQ 9 0:=yT
theorem ZHj:yQ 10 0:=yT
theorem ZHK:yQ 11 0:=yT
theorem ZId:yQ 12 0:=yT
theorem ZIB:yQ 13 0:=yT
theorem ZHz:yQ 14 0:=yT
theorem ZH7:yQ 15 0:=yT
theorem ZIm:yQ 16 0:=yT
theorem ZIO:yQ 17 0:=yT
theorem ZHA:yQ 18 0:=yT
theorem ZHT:yQ 19 1:=yT
theorem ZIc:yQ 20 3:=yT
theorem ZIE:yQ 21 0:=yT
theorem ZG6:yQ 22 0:=yT
theorem ZIr:yQ 23 0:=yT
theorem ZIz:yQ 24 0:=yT
theorem ZHZ:yQ 25 0:=yT
theorem ZHS:yQ 26 0:=yT
theorem ZHF:yQ 27 0:=yT
theorem ZHm:yQ 28 0:=yT
theorem ZII:yQ 29 0:=yT
theorem ZHi:yQ 30 0:=yT
theorem ZHV:yQ 31 0:=yT
theorem ZH9:yQ 32 0:=yT
theorem ZHO:yQ 33 0:=yT
theorem ZHL:yQ 34 0:=yT
theorem ZHI:yQ 35 0:=yT
theorem ZH6:yQ 36 1:=yT
theorem ZHt:yQ 37 1:=yT
theorem ZHY:yQ 38 1:=yT
theorem ZH5:yQ 39 0:=yT
theorem ZIw:yQ 40 1:=yT
theorem ZG8:yQ 41 1:=yT
theorem ZIQ:yQ 42 0:=yT
theorem ZHy:yQ 43 1:=yT
theorem ZHP:yQ 44 0:=yT
theorem ZIp:yQ 45 0:=yT
theorem ZHD:yQ 46 0:=yT
theorem ZIU:yQ 47 2:=yT
theorem ZHC:yQ 48 0:=yT
theorem ZIH:yQ 49 0:=yT
theorem ZHB:yQ 50 0:=yT
theorem ZHn:yQ 51 0:=yT
theorem ZIA:yQ 52 2:=yT
theorem ZGX:yQ 53 0:=yT
theorem ZG9:yQ 54 0:=yT
theorem ZG7:yQ 55 0:=yT
theorem ZHa:yQ 56 0:=yT
theorem ZGW:yQ 57 0:=yT
theorem ZGS:yQ 58 0:=yT
theorem ZG3:yQ 59 0:=yT
theorem ZHw:yQ 60 0:=yT
theorem ZHb:yQ 61 0:=yT
theorem ZIR:yQ 62 0:=yT
theorem ZIN:yQ 63 0:=yT
theorem ZIJ:yQ 64 0:=yT
theorem ZH0:yQ 65 1:=yT
theorem ZH3:yQ 66 0:=yT
theorem ZIn:yQ 67 1:=yT
theorem ZIo:yQ 68 0:=yT
theorem ZGR:yQ 69 0:=yT
theorem ZHk:yQ 70 1:=yT
theorem ZIC:yQ 71 1:=yT
theorem ZGU:yQ 72 0:=yT
theorem ZHR:yQ 73 0:=yT
theorem ZGP:yQ 74 0:=yT
theorem ZIa:yQ 75 2:=yT
theorem ZHE:yQ 76 0:=yT
theorem ZIq:yQ 77 0:=yT
theorem ZHd:yQ 78 0:=yT
theorem ZIx:yQ 79 0:=yT
theorem ZIk:yQ 80 0:=yT
theorem ZGN:yQ 81 0:=yT
theorem ZIV:yQ 82 0:=yT
theorem ZHr:yQ 83 0:=yT
theorem ZIb:yQ 84 0:=yT
theorem ZIG:yQ 85 0:=yT
theorem ZHU:yQ 86 0:=yT
theorem ZGT:yQ 87 0:=yT
theorem ZHN:yQ 88 2:=yT
theorem ZHu:yQ 89 0:=yT
theorem ZG2:yQ 90 0:=yT
theorem ZG1:yQ 91 0:=yT
theorem ZHe:yQ 92 0:=yT
theorem ZIt:yQ 93 0:=yT
theorem ZHl:yQ 94 0:=yT
theorem ZH8:yQ 95 0:=yT
theorem ZHX:yQ 96 0:=yT
theorem ZHv:yQ 97 0:=yT
theorem ZH4:yQ 99 1:=yT
theorem ZFq:yQ 100 1:=yT
theorem ZEN:yQ 101 1:=yT
theorem ZGy:yQ 102 1:=yT
theorem ZD8:yQ 103 0:=yT
theorem ZGp:yQ 104 0:=yT
theorem ZEF:yQ 105 0:=yT
theorem ZDl:yQ 106 0:=yT
theorem ZDj:yQ 108 1:=yT
theorem ZFT:yQ 109 1:=yT
theorem ZEz:yQ 110 0:=yT
theorem ZGg:yQ 111 2:=yT
theorem ZGH:yQ 112 2:=yT
theorem ZEe:yQ 113 0:=yT
theorem ZFo:yQ 114 0:=yT
theorem ZFG:yQ 115 0:=yT
theorem ZFj:yQ 116 0:=yT
theorem ZFg:yQ 117 0:=yT
theorem ZFP:yQ 118 0:=yT
theorem ZFz:yQ 119 0:=yT
theorem ZE7:yQ 120 0:=yT
theorem ZGt:yQ 121 0:=yT
theorem ZGa:yQ 122 0:=yT
theorem ZFM:yQ 123 0:=yT
theorem ZGj:yQ 124 0:=yT
theorem ZDz:yQ 125 0:=yT
theorem ZFw:yQ 126 0:=yT
theorem ZEs:yQ 127 0:=yT
theorem ZDn:yQ 128 0:=yT
theorem ZE0:yQ 129 0:=yT
theorem ZGe:yQ 130 0:=yT
theorem ZFX:yQ 132 0:=yT
theorem ZDY:yQ 137 1:=yT
theorem ZD1:yQ 138 1:=yT
theorem ZEk:yQ 139 1:=yT
theorem ZDW:yQ 140 1:=yT
theorem ZGl:yQ 141 1:=yT
theorem ZEV:yQ 142 0:=yT
theorem ZFc:yQ 143 0:=yT
theorem ZFk:yQ 144 0:=yT
theorem ZEY:yQ 145 0:=yT
theorem ZDo:yQ 146 0:=yT
theorem ZFU:yQ 147 0:=yT
theorem ZFb:yQ 148 0:=yT
theorem ZEy:yQ 149 0:=yT
theorem ZDG:yQ 150 0:=yT
theorem ZFs:yQ 151 0:=yT
theorem ZFW:yQ 152 0:=yT
theorem ZE6:yQ 153 0:=yT
theorem ZE4:yQ 154 1:=yT
theorem ZF5:yQ 155 0:=yT
theorem ZE5:yQ 156 0:=yT
theorem ZD9:yQ 157 0:=yT
theorem ZDE:yQ 158 0:=yT
theorem ZDr:yQ 159 0:=yT
theorem ZFD:yQ 160 0:=yT
theorem ZDZ:yQ 161 0:=yT
theorem ZDT:yQ 162 0:=yT
theorem ZGz:yQ 163 0:=yT
theorem ZEW:yQ 164 0:=yT
theorem ZE1:yQ 165 0:=yT
theorem ZEA:yQ 166 0:=yT
theorem ZFF:yQ 167 0:=yT
theorem ZGG:yQ 168 0:=yT
theorem ZDS:yQ 169 0:=yT
theorem ZEJ:yQ 170 0:=yT
theorem ZEd:yQ 171 0:=yT
theorem ZDV:yQ 172 0:=yT
theorem ZDk:yQ 173 0:=yT
theorem ZGJ:yQ 174 0:=yT
theorem ZFd:yQ 175 0:=yT
theorem ZFh:yQ 176 0:=yT
theorem ZEP:yQ 177 0:=yT
theorem ZEH:yQ 178 0:=yT
theorem ZFx:yQ 179 0:=yT
theorem ZDs:yQ 180 0:=yT
theorem ZFy:yQ 181 0:=yT
theorem ZEa:yQ 182 0:=yT
theorem ZFf:yQ 184 0:=yT
theorem ZFp:yQ 191 0:=yT
theorem ZDJ:yQ 192 1:=yT
theorem ZFS:yQ 193 1:=yT
theorem ZEC:yQ 194 1:=yT
theorem ZES:yQ 195 0:=yT
theorem ZGk:yQ 196 0:=yT
theorem ZF0:yQ 197 0:=yT
theorem ZFt:yQ 198 0:=yT
theorem ZFR:yQ 199 0:=yT
theorem ZEh:yQ 200 3:=yT
theorem ZDU:yQ 201 0:=yT
theorem ZFV:yQ 202 0:=yT
theorem ZEB:yQ 203 0:=yT
theorem ZDt:yQ 204 0:=yT
theorem ZDw:yQ 205 0:=yT
theorem ZFH:yQ 207 0:=yT
theorem ZDx:yQ 208 0:=yT
theorem ZGC:yQ 209 0:=yT
theorem ZFL:yQ 210 0:=yT
theorem ZFr:yQ 211 1:=yT
theorem ZGq:yQ 212 0:=yT
theorem ZEr:yQ 213 0:=yT
theorem ZDI:yQ 214 0:=yT
theorem ZEU:yQ 215 0:=yT
theorem ZEc:yQ 216 0:=yT
theorem ZFK:yQ 226 0:=yT
theorem ZDq:yQ 227 4:=yT
theorem ZGF:yQ 228 1:=yT
theorem ZEp:yQ 229 1:=yT
theorem ZGw:yQ 230 1:=yT
theorem ZEm:yQ 231 0:=yT
theorem ZGv:yQ 232 0:=yT
theorem ZGK:yQ 233 0:=yT
theorem ZDR:yQ 236 0:=yT
theorem ZEw:yQ 238 0:=yT
theorem ZE8:yQ 239 0:=yT
theorem ZFN:yQ 247 0:=yT
theorem ZE3:yQ 248 0:=yT
theorem ZFI:yQ 249 1:=yT
theorem ZFa:yQ 250 1:=yT
theorem ZER:yQ 265 0:=yT
theorem ZGm:yQ 266 0:=yT
theorem ZE2:yQ 284 0:=yT
theorem tt2:tt 2=some (.atom (.c (.int .i64 0))):=yi rfl
theorem tt3:tt 3=some (.atom (.c (.int .i64 0))):=yi rfl
theorem tt4:tt 4=some (.atom (.c (.bool false))):=yi rfl
theorem tt5:tt 5=some (.atom (.c (.int .u8 0))):=yi rfl
theorem tt9:tt 9=some (.atom (.c (.str ⟨#[]⟩))):=yi rfl
theorem ZJc:tt 12=some (.atom (.c (.int .u64 0))):=yi rfl
theorem ZJk:tt 14=some (.strct [⟨0,1,false⟩,⟨1,1,false⟩] 2 [.c (.str ⟨#[]⟩),.c (.int .u64 0)]):=yi rfl
theorem ZJh:tt 20=some (.ifc):=yi rfl
theorem ZI0:tt 21=some (.atom (.c (.int .i32 0))):=yi rfl
theorem ZJl:tt 22=some (.slice 5 1 1 [.c (.int .u8 0)]):=yi rfl
theorem ZI1:tt 24=some (.slice 87 4 72 [.c (.str ⟨#[]⟩),.c (.int .i64 0),.nil 144 5,.nil 90 3]):=yi rfl
theorem ZJp:tt 25=some (.slice 35 2 40 [.c (.str ⟨#[]⟩),.nil 9 1]):=yi rfl
theorem ZJy:tt 26=some (.slice 38 4 80 [.c (.str ⟨#[]⟩),.nil 9 1,.c (.str ⟨#[]⟩),.nil 3 1]):=yi rfl
theorem ZJE:tt 33=some (.slice 9 1 16 [.c (.str ⟨#[]⟩)]):=yi rfl
theorem ZJg:tt 35=some (.strct [⟨0,1,false⟩,⟨1,1,false⟩] 2 [.c (.str ⟨#[]⟩),.nil 9 1]):=yi rfl
theorem ZJH:tt 36=some (.slice 3 1 8 [.c (.int .i64 0)]):=yi rfl
theorem ZI7:tt 38=some (.strct [⟨0,2,true⟩,⟨2,1,false⟩,⟨3,1,false⟩] 4 [.c (.str ⟨#[]⟩),.nil 9 1,.c (.str ⟨#[]⟩),.nil 3 1]):=yi rfl
theorem ZJC:tt 51=some (.slice 109 3 56 [.c (.int .i64 0),.nil 3 1,.nil 3 1]):=yi rfl
theorem ZJb:tt 53=some (.strct [⟨0,1,false⟩,⟨1,1,false⟩] 2 [.c (.int .i64 0),.nil 109 3]):=yi rfl
theorem ZJJ:tt 60=some (.slice 4 1 1 [.c (.bool false)]):=yi rfl
theorem ZI9:tt 77=some (.strct [⟨0,1,false⟩,⟨1,1,false⟩,⟨2,1,false⟩] 3 [.nil 5 1,.c (.int .i64 0),.c (.int .i64 0)]):=yi rfl
theorem ZIX:tt 79=some (.slice 149 2 32 [.c (.str ⟨#[]⟩),.c (.str ⟨#[]⟩)]):=yi rfl
theorem ZJt:tt 81=some (.strct [⟨0,1,false⟩,⟨1,1,false⟩] 2 [.nil 35 2,.nil 149 2]):=yi rfl
theorem ZJo:tt 84=some (.slice 144 5 80 [.c (.int .i64 0),.c (.str ⟨#[]⟩),.nil 9 1,.c (.str ⟨#[]⟩),.c (.str ⟨#[]⟩)]):=yi rfl
theorem ZJr:tt 85=some (.slice 90 3 48 [.c (.int .i64 0),.c (.str ⟨#[]⟩),.nil 9 1]):=yi rfl
theorem ZJa:tt 87=some (.strct [⟨0,1,false⟩,⟨1,1,false⟩,⟨2,1,false⟩,⟨3,1,false⟩] 4 [.c (.str ⟨#[]⟩),.c (.int .i64 0),.nil 144 5,.nil 90 3]):=yi rfl
theorem ZI6:tt 88=some (.strct [⟨0,1,false⟩,⟨1,1,false⟩] 2 [.c (.str ⟨#[]⟩),.nil 9 1]):=yi rfl
theorem ZI2:tt 90=some (.strct [⟨0,1,false⟩,⟨1,2,true⟩] 3 [.c (.int .i64 0),.c (.str ⟨#[]⟩),.nil 9 1]):=yi rfl
theorem ZIY:tt 95=some (.slice 111 3 64 [.c (.str ⟨#[]⟩),.nil 35 2,.nil 149 2]):=yi rfl
theorem ZGV:tt 109=some (.strct [⟨0,1,false⟩,⟨1,1,false⟩,⟨2,1,false⟩] 3 [.c (.int .i64 0),.nil 3 1,.nil 3 1]):=yi rfl
theorem ZIf:tt 111=some (.strct [⟨0,1,false⟩,⟨1,2,true⟩] 3 [.c (.str ⟨#[]⟩),.nil 35 2,.nil 149 2]):=yi rfl
theorem ZIg:tt 114=some (.slice 142 2 40 [.c (.str ⟨#[]⟩),.nil 35 2]):=yi rfl
theorem ZGZ:tt 117=some (.slice 81 2 48 [.nil 35 2,.nil 149 2]):=yi rfl
theorem ZIS:tt 137=some (.atom (.c (.int .u64 0))):=yi rfl
theorem ZHJ:tt 142=some (.strct [⟨0,1,false⟩,⟨1,1,false⟩] 2 [.c (.str ⟨#[]⟩),.nil 35 2]):=yi rfl
theorem ZIK:tt 144=some (.strct [⟨0,1,false⟩,⟨1,2,true⟩,⟨3,1,false⟩,⟨4,1,false⟩] 5 [.c (.int .i64 0),.c (.str ⟨#[]⟩),.nil 9 1,.c (.str ⟨#[]⟩),.c (.str ⟨#[]⟩)]):=yi rfl
theorem ZH1:tt 149=some (.strct [⟨0,1,false⟩,⟨1,1,false⟩] 2 [.c (.str ⟨#[]⟩),.c (.str ⟨#[]⟩)]):=yi rfl
theorem ZHx:tt 158=some (.ifc):=yi rfl
theorem ZG4:tt 159=some (.ifc):=yi rfl
theorem ZHp:tt 193=some (.atom (.c (.int .u64 0))):=yi rfl
theorem ZIe:tt 203=some (.map .str .bool):=yi rfl
theorem ZGO:tt 217=some (.atom (.c (.int .u32 0))):=yi rfl
theorem ZG0:tt 271=some (.strct [⟨0,1,false⟩] 1 [.c (.str ⟨#[]⟩)]):=yi rfl
theorem fnk {f : FuncId} {fn : Func} {c : Code} {args : List (Bool × List CT)} {res : List RT} (hf : prog.funcs[f]? = some fn) (hb : fn.body = some c) (h : fnS (fun _ => none) tt (SC prog J0 JF0 hds) fn.results.toList c args res) (hname : (fn.name == "runtime.NumGoroutine") = false := by kernel_rfl) (hok : Xa (fun _ => none) tt hds false fn.ntmps c = true := by kernel_rfl) (hlen : Nat.ble args.length fn.ntmps = true := by kernel_rfl) : Zp prog J0 f args res := ZAI htt hJ0 hmix hf hname hb hok hlen h
theorem fnh {f : FuncId} {fn : Func} {c : Code} {h h' : Zhx} {args : List (Bool × List CT)} {res : List RT} (hf : prog.funcs[f]? = some fn) (hb : fn.body = some c) (hh : fnH (fun _ => none) tt (SC prog J0 JF0 hds) fn.results.toList c h args res h') (hname : (fn.name == "runtime.NumGoroutine") = false := by kernel_rfl) (hok : Xa (fun _ => none) tt hds true fn.ntmps c = true := by kernel_rfl) (hlen : Nat.blt args.length fn.ntmps = true := by kernel_rfl) : Ys prog J0 JF0 f h args res h' := Zqp htt hJ0 hmix hf hname hb hok hlen hh
theorem fnb {f : FuncId} {fn : Func} {c : Code} {args : List (Bool × List CT)} {nb : NB} (hf : prog.funcs[f]? = some fn) (hb : fn.body = some c) (h : fnB (fun _ => none) tt (SC prog J0 JF0 hds) fn.results.toList c args nb) (hname : (fn.name == "runtime.NumGoroutine") = false := by kernel_rfl) (hok : Xa (fun _ => none) tt hds false fn.ntmps c = true := by kernel_rfl) (hlen : Nat.ble args.length fn.ntmps = true := by kernel_rfl) : ZoH prog J0 f args nb := ZyW htt hJ0 hmix hf hname hb hok hlen h
theorem fnn (t0 : Nat) {f : FuncId} {fn : Func} {c : Code} {args : List (Bool × List CT)} {res : List RT} (hf : prog.funcs[f]? = some fn) (hb : fn.body = some c) (h : fnN (fun _ => none) tt (SC prog J0 JF0 hds) fn.results.toList t0 c args res) (hname : (fn.name == "runtime.NumGoroutine") = false := by kernel_rfl) (hok : Xa (fun _ => none) tt hds false fn.ntmps c = true := by kernel_rfl) (hlen : Nat.ble args.length fn.ntmps = true := by kernel_rfl) : Zp prog J0 f args res := ZyL htt hJ0 hmix hf hname hb hok hlen t0 h
theorem Zyy (m : List (Nat × List Nat × Bool)) {f : FuncId} {fn : Func} {c : Code} {h h' : Zhx} {args : List (Bool × List CT)} {res : List RT} (hf : prog.funcs[f]? = some fn) (hb : fn.body = some c) (hh : fnH (Zuv m) tt (SC prog J0 JF0 hds) fn.results.toList c h args res h') (hname : (fn.name == "runtime.NumGoroutine") = false := by kernel_rfl) (hok : Xa (Zuv m) tt hds true fn.ntmps c = true := by kernel_rfl) (hlen : Nat.blt args.length fn.ntmps = true := by kernel_rfl) : Ys prog J0 JF0 f h args res h' := Zqp htt hJ0 hmix hf hname hb hok hlen hh
def ZAu(f:FuncId):Nat:=ZAv ([(55,2),(73,2)]++hdL) f
theorem ZEo:(SC prog J0 JF0 ZAu).hd 26=0:=yO
theorem ZEE:(SC prog J0 JF0 ZAu).hd 55=2:=yO
theorem ZEI:(SC prog J0 JF0 ZAu).hd 57=0:=yO
theorem ZGo:(SC prog J0 JF0 ZAu).hd 68=0:=yO
theorem ZEK:(SC prog J0 JF0 ZAu).hd 69=0:=yO
def Zq(x:Za):List CT:=[.str x.rel,.sl 9 1 (AA ZC x.args)]
theorem Zz8(x:Za):Zq x=[.str x.rel,.sl 9 1 (AA ZC x.args)]:=yi rfl
def XP(x:Zz):List CT:=[.str x.fact.rel,.sl 9 1 (AA ZC x.fact.args),.str x.rule,.sl 3 1 (AA ZP x.uses)]
theorem ZAm(x:Zz):XP x=[.str x.fact.rel,.sl 9 1 (AA ZC x.fact.args),.str x.rule,.sl 3 1 (AA ZP x.uses)]:=yi rfl
def ZJ(x:Zh):List CT:=[.int .i64 x.for_,.sl 3 1 (AA ZP x.inn),.sl 3 1 (AA ZP x.outs)]
theorem ZvG(x:Zh):ZJ x=[.int .i64 x.for_,.sl 3 1 (AA ZP x.inn),.sl 3 1 (AA ZP x.outs)]:=yi rfl
def YY(x:Zl):List CT:=[.int .i64 x.nodes,.sl 109 3 (AA ZJ x.reasons)]
theorem Zua(x:Zl):YY x=[.int .i64 x.nodes,.sl 109 3 (AA ZJ x.reasons)]:=yi rfl
def ZS(x:Zi):List CT:=[.sl 5 1 (AA ZbA x.b),.int .i64 x.i,.int .i64 x.h]
theorem Zy3(x:Zi):ZS x=[.sl 5 1 (AA ZbA x.b),.int .i64 x.i,.int .i64 x.h]:=yi rfl
def Yi(x:Zx):List CT:=[.str x.var,.str x.value]
theorem ZBi(x:Zx):Yi x=[.str x.var,.str x.value]:=yi rfl
theorem ZvC(l:List Zx):ZbI (l.map Yi)=true:=ZcS (fun _=>rfl) l
def YD(x:Zw):List CT:=[.sl 35 2 (AA Zq x.facts),.sl 149 2 (AA Yi x.binding)]
theorem Zyq(x:Zw):YD x=[.sl 35 2 (AA Zq x.facts),.sl 149 2 (AA Yi x.binding)]:=yi rfl
def ZaW(x:Zo):List CT:=[.str x.rel,.sl 9 1 (AA ZC x.args)]
theorem ZtI(x:Zo):ZaW x=[.str x.rel,.sl 9 1 (AA ZC x.args)]:=yi rfl
def ZT(x:Zu):List CT:=[.int .i64 x.kind,.str x.pattern.rel,.sl 9 1 (AA ZC x.pattern.args),.str x.left,.str x.right]
theorem ZAs(x:Zu):ZT x=[.int .i64 x.kind,.str x.pattern.rel,.sl 9 1 (AA ZC x.pattern.args),.str x.left,.str x.right]:=yi rfl
def ZM(x:Zy):List CT:=[.int .i64 x.kind,.str x.pattern.rel,.sl 9 1 (AA ZC x.pattern.args)]
theorem ZwR(x:Zy):ZM x=[.int .i64 x.kind,.str x.pattern.rel,.sl 9 1 (AA ZC x.pattern.args)]:=yi rfl
def ZF(x:Zf):List CT:=[.str x.name,.int .i64 x.priority,.sl 144 5 (AA ZT x.cond),.sl 90 3 (AA ZM x.thn)]
theorem ZzG(x:Zf):ZF x=[.str x.name,.int .i64 x.priority,.sl 144 5 (AA ZT x.cond),.sl 90 3 (AA ZM x.thn)]:=yi rfl
def QQ(x:Yc):List CT:=[.str x.rule,.sl 35 2 (AA Zq x.token.facts),.sl 149 2 (AA Yi x.token.binding)]
theorem ZrP(x:Yc):QQ x=[.str x.rule,.sl 35 2 (AA Zq x.token.facts),.sl 149 2 (AA Yi x.token.binding)]:=yi rfl
def Zi3(x:Yz):List CT:=[.str x.rule,.sl 35 2 (AA Zq x.facts)]
theorem Zwz(x:Yz):Zi3 x=[.str x.rule,.sl 35 2 (AA Zq x.facts)]:=yi rfl
attribute [go_sem] tt2 tt3 tt4 tt5 tt9 ZJc ZJk ZJh ZI0 ZJl ZI1 ZJp ZJy ZJE ZJg ZJH ZI7 ZJC ZJb ZJJ ZI9 ZIX ZJt ZJo ZJr ZJa ZI6 ZI2 ZIY ZGV ZIf ZIg ZGZ ZIS ZHJ ZIK ZH1 ZHx ZG4 ZHp
attribute [go_sem] ZIe ZGO ZG0 ZJG ZJI ZJz ZJB ZJq ZJf ZJw ZHj ZHK ZId ZIB ZHz ZH7 ZIm ZIO ZHA ZHT ZIc ZIE ZG6 ZIr ZIz ZHZ ZHS ZHF ZHm ZII ZHi ZHV ZH9 ZHO ZHL ZHI ZH6 ZHt ZHY ZH5
attribute [go_sem] ZIw ZG8 ZIQ ZHy ZHP ZIp ZHD ZIU ZHC ZIH ZHB ZHn ZIA ZGX ZG9 ZG7 ZHa ZGW ZGS ZG3 ZHw ZHb ZIR ZIN ZIJ ZH0 ZH3 ZIn ZIo ZGR ZHk ZIC ZGU ZHR ZGP ZIa ZHE ZIq ZHd ZIx
attribute [go_sem] ZIk ZGN ZIV ZHr ZIb ZIG ZHU ZGT ZHN ZHu ZG2 ZG1 ZHe ZIt ZHl ZH8 ZHX ZHv ZH4 ZFq ZEN ZGy ZD8 ZGp ZEF ZDl ZDj ZFT ZEz ZGg ZGH ZEe ZFo ZFG ZFj ZFg ZFP ZFz ZE7 ZGt
attribute [go_sem] ZGa ZFM ZGj ZDz ZFw ZEs ZDn ZE0 ZGe ZFX ZDY ZD1 ZEk ZDW ZGl ZEV ZFc ZFk ZEY ZDo ZFU ZFb ZEy ZDG ZFs ZFW ZE6 ZE4 ZF5 ZE5 ZD9 ZDE ZDr ZFD ZDZ ZDT ZGz ZEW ZE1 ZEA
attribute [go_sem] ZFF ZGG ZDS ZEJ ZEd ZDV ZDk ZGJ ZFd ZFh ZEP ZEH ZFx ZDs ZFy ZEa ZFf ZFp ZDJ ZFS ZEC ZES ZGk ZF0 ZFt ZFR ZEh ZDU ZFV ZEB ZDt ZDw ZFH ZDx ZGC ZFL ZFr ZGq ZEr ZDI
attribute [go_sem] ZEU ZEc ZFK ZDq ZGF ZEp ZGw ZEm ZGv ZGK ZDR ZEw ZE8 ZFN ZE3 ZFI ZFa ZER ZGm ZE2 ZEo ZEE ZEI ZGo ZEK Zz8 ZAm ZvG Zua Zy3 ZvC ZBi Zyq ZtI ZAs ZwR ZzG ZrP Zwz
end
end Go.Proofs.YtnacpkmpdlodoaaGreatDoor
