/- Texts of this proof, joined: BReg, BDraw, BAny, BSound, BFn, BTok, Laid, DT. What each holds is said at its theorems. -/
import Derived.Test.YtekbmedphidcgaaGreatDoorProofOfQ4
import Derived.Orders
import Derived.Test.YtekbmedphidcgaaGreatDoorProofOfQ1
import GoSem.Claims
import Derived.Test.YtekbmedphidcgaaGreatDoorProofOfQ2
import Derived.Test.YtekbmedphidcgaaGreatDoorProg
import Derived.Lib.LaidTab
import Derived.Lib.ItoaNum
open Array renaming getD_eq_getD_getElem?→AB,replicate→AF,getElem?_setIfInBounds_ne→AP,getElem?_setIfInBounds→AS,getElem?_eq_none→AX,getElem?_eq_some_iff→AY,getElem?_append→Ap
open Bool renaming and_eq_true→A6,or_eq_true→AK,not_eq_true'→Ar
open List renaming map→A4,mem_append→A5,mem_map→A7,mem_cons→AD,getElem?_eq_some_iff→AE,all_eq_true→AG,map_congr_left→AL,not_mem_nil→AM,nodup_cons→AN,nodup_append→AO,range→AR,mem_of_getElem?→AT,cons_append→AU,set_getElem_self→Ab,mem_or_eq_of_mem_set→Ac,toArray→Ad,map_map→Ae,length_cons→Af,range'_succ→Ag,mem_filterMap→Ah,getElem_mem→Ak,range_eq_range'→Al,mapM_cons→Am,size_toArray→Aq
open List.Sublist renaming append→Aa,refl→Aj
open List.cons renaming injEq→AQ
open Nat renaming le_of_ble_eq_true→AA,le_refl→AC,lt_or_ge→AW
open Option renaming map_eq_some_iff→A8,bind_eq_some_iff→A9,bind_some→AH,map_none→AI,map_some→AJ,getD_some→AZ
open Option.some renaming injEq→A0
open Prod.mk renaming injEq→A3
open Go.Proofs.Tryz
set_option linter.unusedSimpArgs false
set_option linter.unusedVariables false
set_option maxRecDepth 1000000
set_option maxHeartbeats 4000000
namespace Go.Proofs.YtekbmedphidcgaaGreatDoor
section
open Go.RowKit
section
variable {P:Program} {J:World→Prop} {JF:Nat→Prop} {W:QK} {U:Nat→Prop} {key:Nat} {st:St} {w w':World} {a:Act} {tt:Nat→Option TI} {hs:FuncId→Nat} {Q:Exit→Act→World→Prop}
theorem Zb2 (a:Act) (d:Option Nat) (v:Value):(a.put d v).tmps.size=a.tmps.size:=by cases d<;>simp [Act.put]
theorem ZeE [NW] {g g':Gh} {d:Option Nat} {v:SV} {u:List (Nat × Ob)} {cv:Value} (hS:∀t,SVR g w (st.sl t) (a.tmps.getD t undef)) (hU:StU U st) (b:a.defers=[]) (hh:∀v,W.hv=some v→a.tmps.getD 0 undef=v) (hd:∀t,d=some t→t<a.tmps.size∧(W.hv=none∨t≠0))
  (h1:HI W g' (Zk st.ob u) w') (h2:SVR g' w' v cv) (h3:∀x c,svU U x→SVR g w x c→SVR g' w' x c) (h4:svU (Uk U key) v) (h5:∀k,obU (Uk U key) (Zk st.ob u k)) (h6:∀k,¬Uk U key k→Zk st.ob u k=.gone):
  Inv W (Uk U key) ((st.put d v).app u) (a.put d cv) w':=by
 cases d with
 | none=>
  refine ⟨⟨g',h1,fun t=>h3 _ _ (hU.sl t) (hS t)⟩,⟨fun t=>(hU.sl t).mono fun _=>.inl,h5,h6⟩,b,hh⟩
 | some d=>
  have f:=(hd d rfl).1
  refine ⟨⟨g',h1,fun t=>?_⟩,⟨fun t=>?_,h5,h6⟩,b,fun u hu=>?_⟩
  ·show SVR g' w' (upd st.sl d v t) ((a.tmps.setIfInBounds d cv).getD t undef)
   by_cases ht:t=d
   ·subst ht
    rw [Zy]
    simpa [AB,AS,f] using h2
   ·rw [ZI _ _ ht]
    have:(a.tmps.setIfInBounds d cv).getD t undef=a.tmps.getD t undef:=by
     simp [AB,AP (fun e:d=t=>ht e.symm)]
    rw [this]
    exact h3 _ _ (hU.sl t) (hS t)
  ·show svU (Uk U key) (upd st.sl d v t)
   by_cases ht:t=d
   ·subst ht;rw [Zy];exact h4
   ·rw [ZI _ _ ht];exact (hU.sl t).mono fun _=>.inl
  ·show (a.tmps.setIfInBounds d cv).getD 0 undef=u
   have i:d≠0:=by
    rcases (hd d rfl).2 with h | h
    ·rw [h] at hu;simp at hu
    ·exact h
   rw [←hh u hu]
   simp [AB,AP i]
theorem Zof [NW] {g:Gh} {x:SV} {v:Value} {fc:FuncId × List CT} (hfc:ZmF x=some fc) (hs:SVR g w x v):∃cs:List Value,v=.func (.func fc.1) #[] cs.toArray∧ZH (SVR g w) (fc.2.map Zi8) cs:=by
 unfold ZmF at hfc
 split at hfc
 ·rename_i f es
  simp only[A0] at hfc
  subst hfc
  obtain ⟨y,hy,hs⟩:=hs
  simp at hy;subst hy
  obtain ⟨L,⟨vs,h1,h2⟩,h3⟩:=hs
  refine ⟨vs,h1,?_⟩
  have:=h2.avr (g:=g) h3
  have conv:∀(es:List CT) (vs:List Value),ZH (AVR g w) (es.map AV.c) vs→ZH (SVR g w) (es.map Zi8) vs:=by
   intro es
   induction es with
   | nil=>intro vs h;cases vs with
    | nil=>trivial
    | cons _ _=>exact h.elim
   | cons e es ih=>intro vs h;cases vs with
    | nil=>exact h.elim
    | cons v vs=>exact ⟨⟨_,rfl,h.1⟩,ih vs h.2⟩
  exact conv _ _ this
 ·rename_i f
  simp only[A0] at hfc
  subst hfc
  exact ⟨[],hs,trivial⟩
 ·simp at hfc
theorem ZmU [NW] (htt:MOk P J JF W tt) {o:Oper} {K:St→Prop} (h:opS tt (SC P J JF hs) key o K st) (hI:Inv W U st a w) (hkey:∀k,key≤k→k<key+16→¬U k) (hd:∀t,o.dst=some t→t<a.tmps.size∧(W.hv=none∨t≠0)):
  o.wp P a w (fun a' w'=>∃st',Inv W (Uk U key) st' a' w'∧a'.tmps.size=a.tmps.size∧K st') Q:=by
 obtain ⟨⟨g,hH,hS⟩,hU,hdef,hh⟩:=hI
 have evals:∀(args:Array Operand) (ts:Array TypeId),ZH (SVR g w) (evs tt st ts.toList args.toList) (args.toList.map a.eval)∧∀x∈evs tt st ts.toList args.toList,svU U x:=fun args ts=>by
  have he:args.toList.map a.eval=(ZhJ ts.toList args.toList).map fun p=>a.eval p.2:=by
   have:=congrArg (A4 a.eval) (Zed ts.toList args.toList)
   rw [←this,Ae];rfl
  refine ⟨?_,fun x mx=>?_⟩
  ·rw [he]
   exact ZH.of_map _ _ fun p _=>(Zi6 htt.tt hS hU p.1 p.2).1
  ·obtain ⟨p,_,rfl⟩:=A7.1 mx
   exact (Zi6 htt.tt hS hU p.1 p.2).2
 have arm:∀(f:FuncId) (n:Nat) (vs:List SV) (cvs:List Value),spK (SC P J JF hs) f n key o.dst K st vs→ZH (SVR g w) vs cvs→(∀x∈vs,svU U x)→(ZcX P f→(execOp a.eval o).run P w=.ok (.enter f cvs.toArray) w)→
   o.wp P a w (fun a' w'=>∃st',Inv W (Uk U key) st' a' w'∧a'.tmps.size=a.tmps.size∧K st') Q:=fun f n vs cvs h hargs hargU hrun=>by
  obtain ⟨v,u,hr,hK⟩:=ZjD.1 h
  obtain ⟨hc,hcall⟩:=Zfw htt hr hH hU hkey hargs hargU
  unfold Oper.wp
  rw [hrun hc,Oper.upon_enter]
  refine hcall.mono ?_
  rintro e w' ⟨cv,rfl,g',t1,t2,t3,t4,t5,t6⟩
  exact ⟨_,ZeE hS hU hdef hh hd t1 t2 t3 t4 t5 t6,Zb2 _ _ _,hK⟩
 unfold opS at h
 split at h
 ·rename_i c hc
  obtain ⟨f,l1,l2⟩:=c
  have hop:∃args ts,o.op=.call ⟨.value (.func f),args,ts⟩∧l1=ts.toList∧l2=args.toList:=by
   unfold Yx at hc
   split at hc
   ·rename_i f' args ts he
    simp only[A0,A3] at hc
    obtain ⟨rfl,rfl,rfl⟩:=hc
    exact ⟨args,ts,he,rfl,rfl⟩
   ·simp at hc
  obtain ⟨args,ts,hop,rfl,rfl⟩:=hop
  refine arm f _ _ _ h (evals args ts).1 (evals args ts).2 ?_
  rintro ⟨fn,f1,f2,f3⟩
  have f2' : ¬ fn.name = "runtime.NumGoroutine" := by simpa using f2
  have f3':¬fn.body=none:=fun e=>by rw [e] at f3;simp at f3
  have e1:(args.toList.map a.eval).toArray=args.map a.eval:=by
   apply Array.ext'
   simp
  rw [e1]
  simp [execOp,hop,resolve,Act.eval,Deferred.ofValue,invoke,callFunc,program,Sem.run,f1,f2',f3']
 ·split at h
  ·rename_i c hc
   obtain ⟨s,l1,l2⟩:=c
   have hop:∃args ts,o.op=.call ⟨.value (.tmp s),args,ts⟩∧l1=ts.toList∧l2=args.toList:=by
    unfold YP at hc
    split at hc
    ·rename_i s' args ts he
     simp only[A0,A3] at hc
     obtain ⟨rfl,rfl,rfl⟩:=hc
     exact ⟨args,ts,he,rfl,rfl⟩
    ·simp at hc
   obtain ⟨args,ts,hop,rfl,rfl⟩:=hop
   unfold Yp at h
   split at h
   ·rename_i fc hfc
    obtain ⟨_,h⟩:=h
    have hval:=Zof hfc (hS s)
    obtain ⟨cs,hv',hcs⟩:=hval
    have hv:a.eval (.tmp s)=.func (.func fc.1) #[] cs.toArray:=hv'
    refine arm fc.1 0 _ (args.toList.map a.eval++cs) h ((evals args ts).1.append hcs) (fun x mx=>?_) ?_
    ·rcases A5.1 mx with m | m
     ·exact (evals args ts).2 x m
     ·obtain ⟨c,_,rfl⟩:=A7.1 m
      exact Y8 _
    ·rintro ⟨fn,f1,f2,f3⟩
     have f2' : ¬ fn.name = "runtime.NumGoroutine" := by simpa using f2
     have f3':¬fn.body=none:=fun e=>by rw [e] at f3;simp at f3
     have e1:(args.toList.map a.eval++cs).toArray=args.map a.eval++cs.toArray:=by
      apply Array.ext'
      simp
     rw [e1]
     simp [execOp,hop,resolve,hv,Deferred.ofValue,invoke,callFunc,program,Sem.run,f1,f2',f3']
   ·exact h.elim
  ·unfold Yp at h
   split at h
   ·rename_i r hr
    obtain ⟨g',cv,w',hrun,t1,t2,t3,t4,t5,t6⟩:=ZmA (P:=P) (W:=W) (a:=a) htt.tt o hr hH hS hU (hkey key (AC _) yE)
    unfold Oper.wp
    rcases hrun with hrun | ⟨hrun,rfl⟩
    ·rw [hrun]
     exact ⟨_,ZeE hS hU hdef hh hd t1 t2 t3 t4 t5 t6,Zb2 _ _ _,h⟩
    ·rw [hrun]
     exact ⟨_,ZeE hS hU hdef hh hd t1 t2 t3 t4 t5 t6,Zb2 _ _ _,h⟩
   ·exact h.elim
theorem ZqU [NW] (hI:Inv W U st a w) (d:Option Nat) (hd:∀t,d=some t→t<a.tmps.size∧(W.hv=none∨t≠0)):Inv W (Uk U key) (st.put d .und) (a.put d undef) w:=by
 obtain ⟨⟨g,hH,hS⟩,hU,b,hh⟩:=hI
 exact ZeE (u:=[]) (key:=key) hS hU b hh hd hH rfl (fun _ _ _ h=>h) trivial (fun k=>(hU.ob k).mono fun _=>.inl) (fun k hk=>hU.gone k fun h=>hk (.inl h))
theorem ZmK [NW] (htt:MOk P J JF W tt) {d:Array Oper} {i:Nat} {o:Oper} {K:St→Prop} (ho:d[i]?=some o) (h:opG tt (SC P J JF hs) d.toList key o K st) (hI:Inv W U st a w) (v:∀k,key≤k→k<key+16→¬U k) (hd:∀t,o.dst=some t→t<a.tmps.size∧(W.hv=none∨t≠0)):
  wpOp P d Q i (fun a' w'=>∃st',Inv W (Uk U key) st' a' w'∧a'.tmps.size=a.tmps.size∧K st') a w:=by
 have f:K (st.put o.dst .und)→∃st',Inv W (Uk U key) st' (a.put o.dst undef) w∧(a.put o.dst undef).tmps.size=a.tmps.size∧K st':=fun hK=>⟨_,ZqU hI _ hd,Zb2 _ _ _,hK⟩
 unfold wpOp
 simp only[ho]
 unfold opG QX at h
 cases hg:o.guard with
 | none=>
  rw [hg] at h
  rw [if_pos (by simp [Region.wanted,hg])]
  exact .inl (ZmU htt h hI v hd)
 | some jw=>
  obtain ⟨j,l⟩:=jw
  rw [hg] at h
  simp only at h
  cases hj:(d.toList[j]?).bind (·.dst) with
  | none=>
   rw [hj] at h
   have m:(d[j]?).bind (·.dst)=none:=by simpa using hj
   rw [if_neg (by simp [Region.wanted,hg,yielded,m])]
   exact f h
  | some t=>
   rw [hj] at h
   have m:(d[j]?).bind (·.dst)=some t:=by simpa using hj
   obtain ⟨⟨g,hH,hS⟩,hU,y,hh⟩:=hI
   have u:=hS t
   simp only at h
   unfold gK at h
   split at h
   ·rename_i hb
    have:∃b,st.sl t=.p false [.c (.bool b)]:=by
     unfold QJ at hb
     split at hb
     ·rename_i b he;exact ⟨b,he⟩
     ·simp at hb
    obtain ⟨b,x⟩:=this
    rw [x] at u h
    have hv:=ZeW u
    have hy:yielded d a.tmps j=some b:=by
     unfold yielded
     rw [m,AH]
     have:a.tmps[t]?=some (.bool b):=by
      rw [AB] at hv
      cases he:a.tmps[t]? with
      | none=>rw [he] at hv;simp [undef] at hv
      | some q=>rw [he] at hv;simpa using hv
     rw [this]
    by_cases hw:(b==l)=true
    ·rw [if_pos (show (XB (.p false [.c (.bool b)])==l)=true from hw)] at h
     rw [if_pos (by simpa [Region.wanted,hg,hy] using hw)]
     exact .inl (ZmU htt h ⟨⟨g,hH,hS⟩,hU,y,hh⟩ v hd)
    ·rw [if_neg (show ¬(XB (.p false [.c (.bool b)])==l)=true from hw)] at h
     rw [if_neg (by simpa [Region.wanted,hg,hy] using hw)]
     exact f h
   ·split at h
    ·rename_i hu
     have x:st.sl t=.und:=by
      unfold Zpw at hu
      split at hu
      ·rename_i he;exact he
      ·simp at hu
     rw [x] at u
     have e:a.tmps.getD t undef=undef:=u
     have hy:yielded d a.tmps j=none:=by
      unfold yielded
      rw [m,AH]
      rw [AB] at e
      cases he:a.tmps[t]? with
      | none=>rfl
      | some q=>rw [he] at e;simp at e;rw [e];rfl
     rw [if_neg (by simp [Region.wanted,hg,hy])]
     exact f h
    ·exact h.elim
theorem Zl8 [NW] (htt:MOk P J JF W tt) {b:Array Oper} {N:Nat} (hN:∀o∈b.toList,∀t,o.dst=some t→t<N∧(W.hv=none∨t≠0)) {K:St→Prop}:∀(r:List Oper) (i key:Nat) (U:Nat→Prop) (st:St) (a:Act) (w:World),b.toList.drop i=r→ZY tt (SC P J JF hs) b.toList key r K st→Inv W U st a w→(∀k,key≤k→¬U k)→a.tmps.size=N→
  (∀U' st' a' w',Inv W U' st' a' w'→(∀k,key+16 * r.length≤k→¬U' k)→a'.tmps.size=N→K st'→Q .normal a' w')→wpOps P b Q (List.range' i r.length) a w
 | [],i,key,U,st,a,w,_,h,hI,hk,hs,hQ=>hQ U st a w hI (by simpa using hk) hs h
 | o::r,i,key,U,st,a,w,hr,h,hI,hk,hs,hQ=>by
  have hi:b.toList[i]?=some o:=by
   have:=congrArg (fun l=>l[0]?) hr
   simpa using this
  have d:b.toList.drop (i+1)=r:=by
   have:=congrArg List.tail hr
   simpa using this
  rw [Af,Ag,wpOps_cons]
  refine wpOp_mono ?_ (ZmK htt (by simpa using hi) h hI (fun k a _=>hk k a) (fun t ht=>by rw [hs];exact hN o (AT hi) t ht))
  rintro a' w' ⟨st',e,hs',f⟩
  refine Zl8 htt hN r (i+1) (key+16) _ st' a' w' d f e (fun k c hU=>?_) yE (fun U' g a2 w2 h1 h2 h3 h4=>hQ U' g a2 w2 h1 (fun k c=>h2 k (by simp at c;omega)) h3 h4)
  rcases hU with hU | hU
  ·exact hk k yE hU
  ·omega
end
end
section
open Go.RowKit
def Ztk:Option TI→Bool
 | some (.slice _ _ _ z)=>z.all ZiM
 | _=>false
def cls (tt:Nat→Option TI) (hs:FuncId→Nat):Op→Nat
 | .move _=>0
 | .assign _=>0
 | .pick _ _ _=>0
 | .build _ _=>0
 | .nilCheck _=>0
 | .binOp _ _ _ _ _=>0
 | .unOp _ _ _=>0
 | .convert _ t _=>if ZbY (tt t)=true then 1 else 0
 | .slice t _ lo hi _=>if ZbY (tt t)=true then 0 else if lo.isSome&&hi.isNone then 4 else 3
 | .fieldAddr _ _ _=>0
 | .field _ _ _=>0
 | .index _ _ _=>0
 | .extract _ _=>0
 | .alloc _=>1
 | .box _ _=>1
 | .load _ _=>1
 | .makeMap _ _=>1
 | .lookup _ _ _ _=>1
 | .makeSlice _ _ _=>1
 | .indexAddr _ _ _=>1
 | .buildSlice t _ ps=>if ps.size=0∨Ztk (tt t)=true then 2 else 3
 | .call ⟨.builtin .len,_,_⟩=>1
 | .call ⟨.builtin .max,_,_⟩=>0
 | .call ⟨.builtin .min,_,_⟩=>0
 | .call ⟨.value (.func f),_,_⟩=>if hs f=0∨hs f=4 then 1 else 4
 | _=>4
section
variable {P:Program} {W:QK} {U:Nat→Prop} {key:Nat} {st st':St} {w w':World} {a:Act} {tt:Nat→Option TI} {S:Ctx} {Q:Exit→Act→World→Prop}
def Q5 (tt:Nat→Option TI) (S:Ctx) (key:Nat) (o:Oper) (st:St) (v:SV) (u:List (Nat × Ob)):Prop:=
 match Yx o.op with
 | some c=>Zaz S c.1 (S.hd c.1) key st (evs tt st c.2.1 c.2.2) v u
 | none=>match YP o.op with
  | some c=>∃fc,ZmF (st.sl c.1)=some fc∧S.hd fc.1=0∧Zaz S fc.1 0 key st (evs tt st c.2.1 c.2.2++fc.2.map Zi8) v u
  | none=>opE tt key o st=some (v,u)
def opR (tt:Nat→Option TI) (S:Ctx) (all:List Oper) (key:Nat) (o:Oper) (st:St) (v:SV) (u:List (Nat × Ob)):Prop:=
 match QX all o with
 | none=>Q5 tt S key o st v u
 | some (none,_)=>v=.und∧u=[]
 | some (some t,want)=>gK (st.sl t) want (Q5 tt S key o st v u) (v=.und∧u=[])
theorem Zrl [NW] {o:Oper} {K:St→Prop}:opS tt S key o K st↔∃v u,Q5 tt S key o st v u∧K ((st.put o.dst v).app u):=by
 cases hc:Yx o.op with
 | some c=>
  simp only[opS,Q5,hc]
  exact ZjD
 | none=>
  simp only[opS,Q5,hc]
  cases hd:YP o.op with
  | some c=>
   simp only
   constructor
   ·intro h
    unfold Yp at h
    split at h
    ·rename_i fc a
     obtain ⟨h0,h⟩:=h
     obtain ⟨v,u,h1,h2⟩:=ZjD.1 h
     exact ⟨v,u,⟨fc,a,h0,h1⟩,h2⟩
    ·exact h.elim
   ·rintro ⟨v,u,⟨fc,a,h0,h1⟩,h2⟩
    rw [a]
    exact ⟨h0,ZjD.2 ⟨v,u,h1,h2⟩⟩
  | none=>
   simp only
   constructor
   ·intro h
    unfold Yp at h
    split at h
    ·rename_i r hr
     exact ⟨r.1,r.2,hr,h⟩
    ·exact h.elim
   ·rintro ⟨v,u,h1,h2⟩
    rw [h1]
    exact h2
theorem Zgn [NW] {all:List Oper} {o:Oper} {K:St→Prop}:opG tt S all key o K st↔∃v u,opR tt S all key o st v u∧K ((st.put o.dst v).app u):=by
 have a:K (st.put o.dst .und)↔∃v u,(v=SV.und∧u=[])∧K ((st.put o.dst v).app u):=by
  constructor
  ·intro h;exact ⟨.und,[],⟨rfl,rfl⟩,h⟩
  ·rintro ⟨v,u,⟨rfl,rfl⟩,h⟩;exact h
 cases hg:QX all o with
 | none=>simp only[opG,opR,hg];exact Zrl
 | some q=>
  obtain ⟨q,b⟩:=q
  cases q with
  | none=>simp only[opG,opR,hg];exact a
  | some t=>
   simp only[opG,opR,hg,gK]
   by_cases h1:QJ (st.sl t)=true
   ·by_cases h2:(XB (st.sl t)==b)=true
    ·simp only[h1,h2,if_true];exact Zrl
    ·simp only[h1,h2,if_true,if_false];exact a
   ·by_cases h2:Zpw (st.sl t)=true
    ·simp only[h1,h2,if_true,if_false];exact a
    ·simp only[h1,h2,if_false];simp
theorem Zcy [NW] {ts:List TypeId} {xs:List Operand} (h:∀x∈xs,∀t,st.ev tt t x=st'.ev tt t x):evs tt st ts xs=evs tt st' ts xs:=by
 unfold evs
 refine AL fun p hp=>h p.2 ?_ p.1
 rw [←Zed ts xs]
 exact A7.2 ⟨p,hp,rfl⟩
def Wk (st st':St) (U:Nat→Prop):Prop:=∀k,U k→st'.ob k=st.ob k∨st'.ob k=Z4 (st.ob k)
theorem Wk.of (h:∀k,U k→st.ob k=st'.ob k):Wk st st' U:=fun k hk=>.inl (h k hk).symm
theorem ZfC (a:Wk st st' U):∀{xs:List AV},X6 U xs→Yq st xs=Yq st' xs
 | [],_=>rfl
 | x::r,h=>by
  have hx:Zbc st x=Zbc st' x:=by
   cases x with
   | row k=>
    simp only[Zbc]
    rcases a k (h (.row k) yG) with e | e
    ·rw [e]
    ·rw [e];cases st.ob k<;>rfl
   | _=>rfl
  have hr:=ZfC a (xs:=r) (fun y m=>h y (by simp [m]))
  simp only[Yq,hx,hr]
theorem Zdv [NW] (a:Wk st st' U):∀{xs:List SV},(∀x∈xs,svU U x)→ZT st xs=ZT st' xs
 | [],_=>rfl
 | x::r,h=>by
  have hx:Zcd st x=Zcd st' x:=by
   cases x with
   | p ag cs=>simp only[Zcd,ZfC a (h (.p ag cs) yG)]
   | _=>rfl
  have hr:=Zdv a (xs:=r) (fun y m=>h y (by simp [m]))
  simp only[ZT,hx,hr]
theorem Zp7 (hob:Wk st st' U) {t:Option TI} {x:SV} (hx:svU U x):Qa st t x=Qa st' t x:=by
 cases x with
 | bp k off=>
  simp only[Qa]
  rcases hob k hx with e | e
  ·rw [e]
  ·rw [e];cases st.ob k<;>rfl
 | rp k m i off=>
  simp only[Qa]
  rcases hob k hx with e | e
  ·rw [e]
  ·rw [e];cases st.ob k<;>rfl
 | p ag cs=>cases ag with
  | true=>rfl
  | false=>cases cs with
   | nil=>rfl
   | cons y r=>cases r<;>cases y<;>first | rfl | (rename_i z;cases z<;>rfl) | (rename_i z _ _;cases z<;>rfl)
 | _=>rfl
theorem Zsd (a:Wk st st' U) {t:Option TI} {x:SV} (hx:svU U x):ZlW st t x=ZlW st' t x:=by
 unfold ZlW
 split<;>try rfl
 rename_i k
 rcases a k (hx (.row k) yG) with e | e
 ·rw [e]
 ·rw [e];cases st.ob k<;>rfl
theorem Zn2 (a:Wk st st' U) {m:Nat} {x i:SV} (hx:svU U x):Za9 st m x i=Za9 st' m x i:=by
 unfold Za9
 split<;>try rfl
 rename_i k _ _
 rcases a k (hx (.row k) yG) with e | e
 ·rw [e]
 ·rw [e];cases st.ob k<;>rfl
theorem Zsg (a:st.ob=st'.ob) (x:SV):Zhy st x=Zhy st' x:=by
 unfold Zhy
 rw [a]
theorem ZkP [NW] (a:st.ob=st'.ob):∀xs:List SV,ZdD st xs=ZdD st' xs
 | []=>rfl
 | x::r=>by simp only[ZdD,Zsg a x,ZkP a r]
theorem Zqi (a:Wk st st' U) {t:Option TI} {x i:SV} {ok:Bool} (hx:svU U x):Zfb st t x i ok=Zfb st' t x i ok:=by
 unfold Zfb
 split<;>try rfl
 rename_i k
 rcases a k (hx (.row k) yG) with e | e
 ·rw [e]
 ·rw [e];cases st.ob k<;>rfl
theorem ZqC (a:Wk st st' U) {x:SV} (hx:svU U x):ZgV st x=ZgV st' x:=by
 unfold ZgV
 split<;>try rfl
 rename_i k
 rcases a k (hx (.row k) yG) with e | e
 ·rw [e]
 ·rw [e];cases st.ob k<;>rfl
theorem Zqp [NW] (a:Wk st st' U) {s t:Nat} {x:SV} (hx:svU U x):ZfG tt st s t x=ZfG tt st' s t x:=by
 unfold ZfG
 rw [ZqC a hx]
def Mk (st st':St) (U:Nat→Prop):Prop:=∀k,U k→st'.ob k=st.ob k∨st'.ob k=.gone
theorem Zja (c:Mk st st' U):∀{xs:List AV} {r:List CT},X6 U xs→Yq st' xs=some r→Yq st xs=some r
 | [],_,_,h=>h
 | x::xs,r,hu,h=>by
  simp only[Yq] at h ⊢
  obtain ⟨a,h1,h⟩:=A9.1 h
  obtain ⟨b,h2,rfl⟩:=A8.1 h
  have hx:Zbc st x=some a:=by
   cases x with
   | row k=>
    simp only[Zbc] at h1 ⊢
    rcases c k (hu (.row k) yG) with e | e
    ·rwa [e] at h1
    ·rw [e] at h1;simp at h1
   | _=>exact h1
  rw [hx,AH,Zja c (fun y m=>hu y (by simp [m])) h2]
  rfl
theorem Zfx [NW] (c:Mk st st' U):∀{xs:List SV} {r:List (Bool × List CT)},(∀x∈xs,svU U x)→ZT st' xs=some r→ZT st xs=some r
 | [],_,_,h=>h
 | x::xs,r,hu,h=>by
  simp only[ZT] at h ⊢
  obtain ⟨a,h1,h⟩:=A9.1 h
  obtain ⟨b,h2,rfl⟩:=A8.1 h
  have hx:Zcd st x=some a:=by
   cases x with
   | p ag cs=>
    simp only[Zcd] at h1 ⊢
    obtain ⟨l,h3,rfl⟩:=A8.1 h1
    rw [Zja c (hu (.p ag cs) yG) h3]
    rfl
   | _=>exact h1
  rw [hx,AH,Zfx c (fun y m=>hu y (by simp [m])) h2]
  rfl
theorem Zqx (hob:Mk st st' U) {t:Option TI} {x r:SV} (hx:svU U x) (h:Qa st' t x=some r):Qa st t x=some r:=by
 cases x with
 | bp k off=>
  simp only[Qa] at h ⊢
  rcases hob k hx with e | e
  ·rwa [e] at h
  ·rw [e] at h;simp at h
 | rp k m i off=>
  simp only[Qa] at h ⊢
  rcases hob k hx with e | e
  ·rwa [e] at h
  ·rw [e] at h;simp at h
 | p ag cs=>cases ag with
  | true=>exact h
  | false=>cases cs with
   | nil=>exact h
   | cons y r=>cases r<;>cases y<;>first | exact h | (rename_i z;cases z<;>exact h) | (rename_i z _ _;cases z<;>exact h)
 | _=>exact h
theorem Zsk (a:Mk st st' U) {t:Option TI} {x r:SV} (hx:svU U x) (h:ZlW st' t x=some r):ZlW st t x=some r:=by
 unfold ZlW at h ⊢
 split at h<;>try exact h
 rename_i k
 rcases a k (hx (.row k) yG) with e | e
 ·rwa [e] at h
 ·rw [e] at h;simp at h
theorem Znv (a:Mk st st' U) {m:Nat} {x i r:SV} (hx:svU U x) (h:Za9 st' m x i=some r):Za9 st m x i=some r:=by
 unfold Za9 at h ⊢
 split at h<;>try exact h
 rename_i k _ _
 rcases a k (hx (.row k) yG) with e | e
 ·rwa [e] at h
 ·rw [e] at h;simp at h
theorem Zp4 (a:Mk st st' U) {t:Option TI} {x i r:SV} {ok:Bool} (hx:svU U x) (h:Zfb st' t x i ok=some r):Zfb st t x i ok=some r:=by
 unfold Zfb at h ⊢
 split at h<;>try exact h
 rename_i k
 rcases a k (hx (.row k) yG) with e | e
 ·rwa [e] at h
 ·rw [e] at h;simp at h
theorem ZqG (a:Mk st st' U) {x r:SV} (hx:svU U x) (h:ZgV st' x=some r):ZgV st x=some r:=by
 unfold ZgV at h ⊢
 split at h<;>try exact h
 rename_i k
 rcases a k (hx (.row k) yG) with e | e
 ·rwa [e] at h
 ·rw [e] at h;simp at h
theorem Zm0 [NW] {o:Oper} {sl sl':Nat→SV} {ob:Nat→Ob} {n n':Nat} (hl:∀x∈o.op.operands,∀t,St.ev tt ⟨sl,ob,n⟩ t x=St.ev tt ⟨sl',ob,n'⟩ t x):opE tt key o ⟨sl,ob,n⟩=opE tt key o ⟨sl',ob,n'⟩:=by
 obtain ⟨dst,op,ty,pos,af,gd⟩:=o
 cases op with
 | build t parts=>
  have hp:∀fs z,parts.toList.map (Ze5 tt ⟨sl,ob,n⟩ fs z)=parts.toList.map (Ze5 tt ⟨sl',ob,n'⟩ fs z):=fun fs z=>AL fun p hp=>by
   have:=hl p.2 (by simp [Op.operands];exact ⟨p.1,by simpa using hp⟩) 0
   unfold Ze5
   split
   ·rfl
   ·rw [this]
  simp only[opE,hp]
 | buildSlice t len parts=>
  have hp:∀e,(parts.toList.map fun p=>St.ev tt ⟨sl,ob,n⟩ e p.2)=parts.toList.map fun p=>St.ev tt ⟨sl',ob,n'⟩ e p.2:=fun e=>AL fun p hp=>hl p.2 (by simp [Op.operands];exact ⟨p.1,by simpa using hp⟩) e
  have he:∀m l,YL ⟨sl,ob,n⟩ m l=YL ⟨sl',ob,n'⟩ m l:=fun m l=>by
   have h1:∀x,avT ⟨sl,ob,n⟩ x=avT ⟨sl',ob,n'⟩ x:=fun x=>by cases x<;>rfl
   have h2:∀xs,Ze6 ⟨sl,ob,n⟩ xs=Ze6 ⟨sl',ob,n'⟩ xs:=fun xs=>by
    induction xs with
    | nil=>rfl
    | cons x xs ih=>simp only[Ze6,h1,ih]
   induction l with
   | nil=>rfl
   | cons x xs ih=>cases x<;>simp only[YL,h2,ih]
  have hz:∀ks,ZO ⟨sl,ob,n⟩ ks=ZO ⟨sl',ob,n'⟩ ks:=fun ks=>by
   induction ks with
   | nil=>rfl
   | cons k r ih=>simp only[ZO,ih]
  simp only[opE,hp,he,hz]
 | slice t x lo hi mx=>
  simp only[Op.operands] at hl
  cases mx with
  | some _=>rfl
  | none=>
   have hx:=fun t=>hl x (by simp) t
   cases lo with
   | none=>cases hi with
    | none=>simp only[opE,hx,AI];rfl
    | some h=>have hh:=fun t=>hl h (by simp) t;simp only[opE,hx,hh,AI,AJ];rfl
   | some l=>
    have hlo:=fun t=>hl l (by simp) t
    cases hi with
    | none=>simp only[opE,hx,hlo,AI,AJ];rfl
    | some h=>have hh:=fun t=>hl h (by simp) t;simp only[opE,hx,hlo,hh,AJ];rfl
 | call c=>
  obtain ⟨callee,args,ts⟩:=c
  cases callee with
  | builtin b=>
   have:=Zcy (tt:=tt) (st:=⟨sl,ob,n⟩) (st':=⟨sl',ob,n'⟩) (ts:=ts.toList) (xs:=args.toList) (fun x m t=>hl x (by simp [Op.operands,Call.operands];simpa using m) t)
   simp only[opE,this]
   unfold Zet
   split<;>rfl
  | value f=>rfl
  | invoke r m=>rfl
 | move x=>have:=fun t=>hl x (by simp [Op.operands]) t;simp only[opE,this]
 | assign x=>have:=fun t=>hl x (by simp [Op.operands]) t;simp only[opE,this]
 | pick c x y=>have h1:=fun t=>hl c (by simp [Op.operands]) t;have h2:=fun t=>hl x (by simp [Op.operands]) t;have h3:=fun t=>hl y (by simp [Op.operands]) t;simp only[opE,h1,h2,h3]
 | alloc t=>rfl
 | box t x=>have:=fun t=>hl x (by simp [Op.operands]) t;simp only[opE,this]
 | load t x=>have:=fun t=>hl x (by simp [Op.operands]) t;simp only[opE,this];rfl
 | store t x v=>have h1:=fun t=>hl x (by simp [Op.operands]) t;have h2:=fun t=>hl v (by simp [Op.operands]) t;simp only[opE,h1,h2];rfl
 | nilCheck x=>have:=fun t=>hl x (by simp [Op.operands]) t;simp only[opE,this]
 | binOp op t x y t'=>have h1:=fun t=>hl x (by simp [Op.operands]) t;have h2:=fun t=>hl y (by simp [Op.operands]) t;simp only[opE,h1,h2]
 | unOp op t x=>have:=fun t=>hl x (by simp [Op.operands]) t;simp only[opE,this]
 | convert s t x=>have:=fun t=>hl x (by simp [Op.operands]) t;simp only[opE,this];rfl
 | makeFunc fn first caps=>
  cases fn with
  | func f=>
   have hc:caps.toList.map (St.ev tt ⟨sl,ob,n⟩ 0)=caps.toList.map (St.ev tt ⟨sl',ob,n'⟩ 0):=AL fun x hx=>hl x (by simp [Op.operands];exact .inr (by simpa using hx)) 0
   simp only[opE,hc,ZkP (st:=⟨sl,ob,n⟩) (st':=⟨sl',ob,n'⟩) rfl]
  | _=>rfl
 | makeMap t r=>cases r<;>rfl
 | lookup t x i ok=>have h1:=fun t=>hl x (by simp [Op.operands]) t;have h2:=fun t=>hl i (by simp [Op.operands]) t;simp only[opE,h1,h2];rfl
 | mapUpdate t x i v=>have h1:=fun t=>hl x (by simp [Op.operands]) t;have h2:=fun t=>hl i (by simp [Op.operands]) t;have h3:=fun t=>hl v (by simp [Op.operands]) t;simp only[opE,h1,h2,h3];rfl
 | makeSlice t x y=>have h1:=fun t=>hl x (by simp [Op.operands]) t;have h2:=fun t=>hl y (by simp [Op.operands]) t;simp only[opE,h1,h2]
 | fieldAddr t x f=>have:=fun t=>hl x (by simp [Op.operands]) t;simp only[opE,this]
 | field t x f=>have:=fun t=>hl x (by simp [Op.operands]) t;simp only[opE,this]
 | indexAddr t x y=>have h1:=fun t=>hl x (by simp [Op.operands]) t;have h2:=fun t=>hl y (by simp [Op.operands]) t;simp only[opE,h1,h2];rfl
 | index t x y=>have h1:=fun t=>hl x (by simp [Op.operands]) t;have h2:=fun t=>hl y (by simp [Op.operands]) t;simp only[opE,h1,h2]
 | extract x i=>have:=fun t=>hl x (by simp [Op.operands]) t;simp only[opE,this]
 | _=>rfl
theorem Zq5 (sl:Nat→SV) (ob ob':Nat→Ob) (n n' t:Nat) (x:Operand):St.ev tt ⟨sl,ob,n⟩ t x=St.ev tt ⟨sl,ob',n'⟩ t x:=by cases x<;>rfl
theorem ZtQ {st st':St} (h:∀k,U k→st.ob k=st'.ob k) {x:AV} (hx:avU U x):avT st x=avT st' x:=by
 cases x with
 | row k=>simp only[avT];rw [h k hx]
 | c x=>cases x<;>rfl
 | nil e m=>rfl
 | n x=>rfl
 | dead=>rfl
theorem ZmZ [NW] {st st':St} (h:∀k,U k→st.ob k=st'.ob k):∀{xs:List AV},X6 U xs→Ze6 st xs=Ze6 st' xs
 | [],_=>rfl
 | x::r,hx=>by simp only[Ze6];rw [ZtQ h (hx x yG),ZmZ h fun y m=>hx y (by simp [m])]
theorem ZiQ [NW] {st st':St} {m:Nat} (h:∀k,U k→st.ob k=st'.ob k):∀{xs:List SV},(∀v∈xs,svU U v)→YL st m xs=YL st' m xs
 | [],_=>rfl
 | .p a cs::r,hx=>by
  simp only[YL]
  rw [ZmZ h (hx (.p a cs) yG),ZiQ h fun v mv=>hx v (by simp [mv])]
 | .any::r,_=>rfl
 | .und::r,_=>rfl
 | .tup _::r,_=>rfl
 | .bp _ _::r,_=>rfl
 | .rp _ _ _ _::r,_=>rfl
 | .ep _ _::r,_=>rfl
 | .fn _::r,_=>rfl
theorem ZrR {x:AV} {ct:CT} {ks:List Nat} {d:Nat} (h:avT st x=some (ct,ks,d)) (hx:avU U x):∀k∈ks,U k:=by
 intro k mk
 cases x with
 | c y=>cases y<;>simp only[avT,A0,A3] at h<;>(rw [←h.2.1] at mk;simp at mk)
 | nil e m=>
  simp only[avT] at h
  split at h<;>simp only[A0,A3,reduceCtorEq] at h
  rw [←h.2.1] at mk;simp at mk
 | row j=>
  simp only[avT] at h
  split at h
  ·split at h<;>simp only[A0,A3] at h
   ·rw [←h.2.1] at mk;simp at mk
   ·rw [←h.2.1] at mk;simp at mk;subst mk;exact hx
  ·simp at h
 | n x=>simp [avT] at h
 | dead=>simp [avT] at h
theorem ZkM [NW]:∀{xs:List AV} {cts:List CT} {ks:List Nat} {d:Nat},Ze6 st xs=some (cts,ks,d)→X6 U xs→∀k∈ks,U k
 | [],_,_,_,h,_,k,mk=>by simp only[Ze6,A0,A3] at h;rw [←h.2.1] at mk;simp at mk
 | x::r,_,_,_,h,hu,k,mk=>by
  simp only[Ze6] at h
  obtain ⟨⟨c1,k1,d1⟩,h1,h⟩:=A9.1 h
  obtain ⟨⟨c2,k2,d2⟩,h2,h⟩:=A8.1 h
  simp only[A3] at h
  rw [←h.2.1] at mk
  rcases A5.1 mk with mk | mk
  ·exact ZrR h1 (hu x yG) k mk
  ·exact ZkM h2 (fun y my=>hu y (by simp [my])) k mk
theorem ZeS [NW] {m:Nat}:∀{xs:List SV} {es:List (List CT)} {ks:List Nat} {d:Nat},YL st m xs=some (es,ks,d)→(∀v∈xs,svU U v)→∀k∈ks,U k
 | [],_,_,_,h,_,k,mk=>by simp only[YL,A0,A3] at h;rw [←h.2.1] at mk;simp at mk
 | x::r,_,_,_,h,hu,k,mk=>by
  cases x with
  | p a cs=>
   simp only[YL] at h
   split at h
   ·obtain ⟨⟨c1,k1,d1⟩,h1,h⟩:=A9.1 h
    obtain ⟨⟨c2,k2,d2⟩,h2,h⟩:=A8.1 h
    simp only[A3] at h
    rw [←h.2.1] at mk
    rcases A5.1 mk with mk | mk
    ·exact ZkM h1 (hu (.p a cs) yG) k mk
    ·exact ZeS h2 (fun v mv=>hu v (by simp [mv])) k mk
   ·simp at h
  | _=>simp [YL] at h
theorem ZpM {st st':St} {ks:List Nat} (h:∀k∈ks,st.ob k=st'.ob k):ZO st ks=ZO st' ks:=by
 induction ks with
 | nil=>rfl
 | cons k r ih=>simp only[ZO,h k yG,ih fun j mj=>h j (by simp [mj])]
theorem ZjV {ks:List Nat} {p:Nat × Ob} (h:p∈ZO st ks):p.1∈ks∧p.2=Z4 (st.ob p.1):=by
 induction ks with
 | nil=>simp [ZO] at h
 | cons k r ih=>
  simp only[ZO,AD] at h
  rcases h with rfl | h
  ·exact ⟨yG,rfl⟩
  ·exact ⟨by simp [(ih h).1],(ih h).2⟩
theorem ZjE [NW] {hs:FuncId→Nat} {o:Oper} {sl:Nat→SV} {ob ob':Nat→Ob} {n n':Nat} (h:cls tt hs o.op=0∨(cls tt hs o.op≤3∧(∀k,U k→ob k=ob' k)∧∀t x,svU U (St.ev tt ⟨sl,ob,n⟩ t x))∨(cls tt hs o.op≤1∧Wk ⟨sl,ob,n⟩ ⟨sl,ob',n'⟩ U∧∀t x,svU U (St.ev tt ⟨sl,ob,n⟩ t x))):opE tt key o ⟨sl,ob,n⟩=opE tt key o ⟨sl,ob',n'⟩:=by
 have he:=fun t x=>Zq5 (tt:=tt) sl ob ob' n n' t x
 have hle:cls tt hs o.op≤3:=by rcases h with h | h | h<;>omega
 have hwk:cls tt hs o.op=0∨(Wk ⟨sl,ob,n⟩ ⟨sl,ob',n'⟩ U∧∀t x,svU U (St.ev tt ⟨sl,ob',n'⟩ t x)):=by
  rcases h with h | h | h
  ·exact .inl h
  ·exact .inr ⟨fun k hk=>.inl (h.2.1 k hk).symm,fun t x=>he t x ▸ h.2.2 t x⟩
  ·exact .inr ⟨h.2.1,fun t x=>he t x ▸ h.2.2 t x⟩
 obtain ⟨dst,op,ty,pos,af,gd⟩:=o
 cases op with
 | build t parts=>
  have hp:∀fs z,parts.toList.map (Ze5 tt ⟨sl,ob,n⟩ fs z)=parts.toList.map (Ze5 tt ⟨sl,ob',n'⟩ fs z):=fun fs z=>AL fun p hp=>by
   unfold Ze5
   split
   ·rfl
   ·rw [he]
  simp only[opE,hp]
 | buildSlice t len parts=>
  have hc:2≤cls tt hs (.buildSlice t len parts):=by simp only[cls];split<;>omega
  have h':(∀k,U k→ob k=ob' k)∧∀t x,svU U (St.ev tt ⟨sl,ob,n⟩ t x):=by
   rcases h with h | h | h
   ·simp only at h;omega
   ·exact h.2
   ·simp only at h;omega
  obtain ⟨h1,h2⟩:=h'
  simp only[opE,he]
  split
  ·rename_i e m _ z _
   have hu:∀v∈parts.toList.map (fun p=>St.ev tt ⟨sl,ob',n'⟩ e p.2),svU U v:=fun v mv=>by obtain ⟨p,_,rfl⟩:=A7.1 mv;rw [←he];exact h2 _ _
   rw [ZiQ (U:=U) (st:=⟨sl,ob,n⟩) (st':=⟨sl,ob',n'⟩) h1 hu]
   cases hel:YL ⟨sl,ob',n'⟩ m (parts.toList.map fun p=>St.ev tt ⟨sl,ob',n'⟩ e p.2) with
   | none=>rfl
   | some a=>
    have hk:=ZeS (U:=U) hel hu
    have:=ZpM (st:=⟨sl,ob,n⟩) (st':=⟨sl,ob',n'⟩) (ks:=a.2.1) (fun k mk=>h1 k (hk k mk))
    simp only[AH,this]
  ·rfl
 | load t x=>
  obtain ⟨h1,h2⟩:=hwk.resolve_left (by simp [cls])
  simp only[opE,he]
  rw [Zp7 (U:=U) (st:=⟨sl,ob,n⟩) (st':=⟨sl,ob',n'⟩) h1 (h2 0 x)]
 | indexAddr t x y=>
  obtain ⟨h1,h2⟩:=hwk.resolve_left (by simp [cls])
  simp only[opE,he]
  split
  ·rw [Zn2 (U:=U) (st:=⟨sl,ob,n⟩) (st':=⟨sl,ob',n'⟩) h1 (h2 0 x)]
  ·rfl
 | call c=>
  obtain ⟨callee,args,ts⟩:=c
  cases callee with
  | builtin b=>
   have hev:evs tt ⟨sl,ob,n⟩ ts.toList args.toList=evs tt ⟨sl,ob',n'⟩ ts.toList args.toList:=Zcy fun x _ t=>he t x
   simp only[opE,hev]
   unfold Zet
   split
   ·rename_i t _ v he1 he2
    obtain ⟨h1,h2⟩:=hwk.resolve_left (by simp [cls])
    have hu:svU U v:=by
     have hm:v∈evs tt ⟨sl,ob',n'⟩ ts.toList args.toList:=by simp [he2]
     obtain ⟨p,_,rfl⟩:=A7.1 hm
     exact h2 _ _
    rw [Zsd (U:=U) (st:=⟨sl,ob,n⟩) (st':=⟨sl,ob',n'⟩) h1 hu]
   ·simp [cls] at hle
   ·rfl
   ·rfl
   ·rfl
  | value f=>rfl
  | invoke r m=>rfl
 | store t x v=>simp [cls] at hle
 | makeFunc fn first caps=>simp [cls] at hle
 | mapUpdate t x i v=>simp [cls] at hle
 | makeMap t r=>cases r<;>rfl
 | lookup t x i ok=>
  obtain ⟨h1,h2⟩:=hwk.resolve_left (by simp [cls])
  simp only[opE,he]
  rw [Zqi (U:=U) (st:=⟨sl,ob,n⟩) (st':=⟨sl,ob',n'⟩) h1 (h2 0 x)]
 | convert s t x=>
  simp only[opE,he]
  by_cases hst:ZbY (tt t)=true
  ·obtain ⟨h1,h2⟩:=hwk.resolve_left (by simp [cls,hst])
   rw [Zqp (U:=U) (st:=⟨sl,ob,n⟩) (st':=⟨sl,ob',n'⟩) h1 (h2 0 x)]
  ·have e:∀st:St,ZfG tt st s t (St.ev tt ⟨sl,ob',n'⟩ 0 x)=ZoY (tt s) (tt t) (St.ev tt ⟨sl,ob',n'⟩ 0 x):=fun st=>by
    unfold ZfG
    rw [if_neg (by simp [hst])]
   rw [e,e]
 | slice t x lo hi mx=>
  cases mx with
  | some _=>rfl
  | none=>
   by_cases hstr:ZbY (tt t)=true
   ·have hns:Za2 (tt t)=false:=by
     unfold ZbY at hstr
     split at hstr
     ·rename_i e;rw [e];rfl
     ·simp at hstr
    have hu:∀l h v,Qi ⟨sl,ob,n⟩ key (tt t) l h v=Qi ⟨sl,ob',n'⟩ key (tt t) l h v:=fun l h v=>by
     unfold Qi
     split
     ·simp [hns]
     ·rfl
     ·rfl
    cases lo<;>cases hi<;>simp only[opE,he,AI,AJ,hu]
   ·have hc:2<cls tt hs (.slice t x lo hi none):=by simp only[cls];rw [if_neg hstr];split<;>omega
    have h':(∀k,U k→ob k=ob' k)∧∀t x,svU U (St.ev tt ⟨sl,ob,n⟩ t x):=by
     rcases h with h | h | h
     ·simp only at h;omega
     ·exact h.2
     ·simp only at h;omega
    obtain ⟨h1,h2⟩:=h'
    have hu:∀l h v,svU U v→Qi ⟨sl,ob,n⟩ key (tt t) l h v=Qi ⟨sl,ob',n'⟩ key (tt t) l h v:=fun l h v hv=>by
     unfold Qi
     split
     ·rename_i k
      have hk:U k:=hv (.row k) (by simp)
      simp only[h1 k hk]
     ·rfl
     ·rfl
    simp only[opE,he]
    exact hu _ _ _ (he 0 x ▸ h2 0 x)
 | _=>first | rfl | simp only[opE,he]
theorem Zdk {x y:Option SV} {r:SV × List (Nat × Ob)} (h:∀v,x=some v→y=some v) (hx:Zay x=some r):Zay y=some r:=by
 obtain ⟨v,h1,rfl⟩:=A8.1 hx
 rw [h v h1]
 rfl
theorem ZsV [NW] {hs:FuncId→Nat} {o:Oper} {sl:Nat→SV} {ob ob':Nat→Ob} {n n':Nat} {r:SV × List (Nat × Ob)} (hc:cls tt hs o.op≤1) (hob:Mk ⟨sl,ob,n⟩ ⟨sl,ob',n'⟩ U) (hu:∀t x,svU U (St.ev tt ⟨sl,ob,n⟩ t x)) (h:opE tt key o ⟨sl,ob',n'⟩=some r):opE tt key o ⟨sl,ob,n⟩=some r:=by
 have he:=fun t x=>Zq5 (tt:=tt) sl ob ob' n n' t x
 by_cases h0:cls tt hs o.op=0
 ·rw [ZjE (U:=U) (n':=n') (ob':=ob') (.inl h0)];exact h
 obtain ⟨dst,op,ty,pos,af,gd⟩:=o
 cases op with
 | load t x=>
  simp only[opE,he] at h ⊢
  exact Zdk (fun v hv=>Zqx hob (he 0 x ▸ hu 0 x) hv) h
 | indexAddr t x y=>
  simp only[opE,he] at h ⊢
  split at h
  ·exact Zdk (fun v hv=>Znv hob (he 0 x ▸ hu 0 x) hv) h
  ·simp at h
 | lookup t x i ok=>
  simp only[opE,he] at h ⊢
  exact Zdk (fun v hv=>Zp4 hob (he 0 x ▸ hu 0 x) hv) h
 | convert s t x=>
  simp only[opE,he] at h ⊢
  refine Zdk (fun v hv=>?_) h
  unfold ZfG at hv ⊢
  split at hv
  ·rename_i hb
   rw [if_pos hb]
   exact ZqG hob (he 0 x ▸ hu 0 x) hv
  ·rename_i hb
   rw [if_neg hb]
   exact hv
 | call c=>
  obtain ⟨callee,args,ts⟩:=c
  cases callee with
  | builtin b=>
   have hev:evs tt ⟨sl,ob,n⟩ ts.toList args.toList=evs tt ⟨sl,ob',n'⟩ ts.toList args.toList:=Zcy fun x _ t=>he t x
   simp only[opE,hev] at h ⊢
   unfold Zet at h ⊢
   split at h
   ·rename_i t _ v he1 he2
    have hu':svU U v:=by
     have hm:v∈evs tt ⟨sl,ob',n'⟩ ts.toList args.toList:=by simp [he2]
     obtain ⟨p,_,rfl⟩:=A7.1 hm
     rw [←he];exact hu _ _
    exact Zdk (fun w hw=>Zsk hob hu' hw) h
   ·simp [cls] at hc
   ·exact h
   ·exact h
   ·exact h
  | value f=>exact h
  | invoke r m=>exact h
 | slice t x lo hi mx=>simp only[cls] at hc h0;split at hc<;>rename_i hq<;>simp [hq] at h0<;>(split at hc<;>omega)
 | buildSlice t len parts=>simp only[cls] at hc;split at hc<;>omega
 | store t x v=>simp [cls] at hc
 | makeFunc fn first caps=>simp [cls] at hc
 | mapUpdate t x i v=>simp [cls] at hc
 | makeMap t r=>cases r<;>exact h
 | _=>first | exact h | (simp only[opE,he] at h ⊢;exact h)
theorem Yo:∀(cts:List (Bool × CT)) (key:Nat),key≤(Z3 key cts).2.2∧∀p∈(Z3 key cts).2.1,key≤p.1∧p.1<(Z3 key cts).2.2
 | [],key=>by simp [Z3]
 | (true,x)::r,key=>Yo r key
 | (false,ct)::r,key=>by
  cases ct with
  | sl e m xs=>
   obtain ⟨h1,h2⟩:=Yo r (key+1)
   refine ⟨by simp only[Z3];omega,fun p hp=>?_⟩
   simp only[Z3,AD] at hp ⊢
   rcases hp with rfl | hp
   ·exact ⟨AC _,by simp only;omega⟩
   ·have:=h2 p hp;omega
  | int k n=>exact Yo r key
  | bool b=>exact Yo r key
  | str s=>exact Yo r key
  | ifc s=>exact Yo r key
  | any=>exact Yo r key
  | nl a b=>exact Yo r key
  | pt s=>exact Yo r key
  | fn f s=>exact Yo r key
  | mp a b s=>exact Yo r key
theorem ZfE [NW]:∀(a:List RT) (key:Nat),key≤(ZE key a).2.2∧∀p∈(ZE key a).2.1,key≤p.1∧p.1<(ZE key a).2.2
 | [],key=>by simp [ZE]
 | x::r,key=>by
  obtain ⟨h1,h2⟩:=Yo x.2 key
  obtain ⟨h3,h4⟩:=ZfE r (Z3 key x.2).2.2
  refine ⟨by simp only[ZE];omega,fun p hp=>?_⟩
  simp only[ZE,A5] at hp ⊢
  rcases hp with hp | hp
  ·have:=h2 p hp;omega
  ·have:=h4 p hp;omega
theorem YK {v:Option SV} {r:SV × List (Nat × Ob)} (h:Zay v=some r):r.2=[]:=by
 obtain ⟨u,_,rfl⟩:=A8.1 h;rfl
theorem Ztm [NW] {hs:FuncId→Nat} {o:Oper} {r:SV × List (Nat × Ob)} (hU:∀t x,svU U (st.ev tt t x)) (h:opE tt key o st=some r):(cls tt hs o.op=0→r.2=[])∧(cls tt hs o.op≤2→∀p∈r.2,key≤p.1∧p.1<key+16)∧(cls tt hs o.op≤3→∀p∈r.2,(key≤p.1∧p.1<key+16)∨(U p.1∧p.2=Z4 (st.ob p.1))):=by
 have a:r.2=[]→(cls tt hs o.op=0→r.2=[])∧(cls tt hs o.op≤2→∀p∈r.2,key≤p.1∧p.1<key+16)∧(cls tt hs o.op≤3→∀p∈r.2,(key≤p.1∧p.1<key+16)∨(U p.1∧p.2=Z4 (st.ob p.1))):=fun e=>⟨fun _=>e,fun _ p hp=>by simp [e] at hp,fun _ p hp=>by simp [e] at hp⟩
 obtain ⟨dst,op,ty,pos,af,gd⟩:=o
 cases op with
 | move x=>simp only[opE,A0] at h;exact a (by rw [←h])
 | assign x=>simp only[opE,A0] at h;exact a (by rw [←h])
 | pick c x y=>
  simp only[opE] at h
  split at h
  ·simp only[A0] at h;exact a (by rw [←h])
  ·simp at h
 | alloc t=>
  simp only[opE] at h
  obtain ⟨z,_,rfl⟩:=A8.1 h
  exact ⟨fun e=>by simp [cls] at e,fun _ p hp=>by simp at hp;subst hp;simp,fun _ p hp=>by simp at hp;subst hp;simp⟩
 | box t x=>
  simp only[opE] at h
  split at h
  ·simp only[A0] at h
   subst h
   exact ⟨fun e=>by simp [cls] at e,fun _ p hp=>by simp at hp;subst hp;simp,fun _ p hp=>by simp at hp;subst hp;simp⟩
  ·simp at h
 | build t g=>
  simp only[opE] at h
  split at h
  ·obtain ⟨cs,_,rfl⟩:=A8.1 h;exact a rfl
  ·simp at h
 | buildSlice t len g=>
  simp only[opE] at h
  split at h
  ·obtain ⟨⟨xs,ks,d⟩,h1,h⟩:=A9.1 h
   split at h
   ·simp only[A0] at h
    subst h
    rename_i e0 _ _ z u q
    have hu:∀v∈g.toList.map (fun p=>st.ev tt e0 p.2),svU U v:=fun v mv=>by obtain ⟨p,_,rfl⟩:=A7.1 mv;exact hU _ _
    have hk:=ZeS (U:=U) h1 hu
    refine ⟨fun e=>by simp only[cls] at e;split at e<;>simp at e,fun e p hp=>?_,fun e p hp=>?_⟩
    ·by_cases hs:g.size=0
     ·have:g=#[]:=by simpa using hs
      subst this
      simp [YL] at h1
      obtain ⟨_,rfl,_⟩:=h1
      simp [ZO] at hp;subst hp;simp
     ·by_cases hf:Ztk (tt t)=true
      ·have hz:z.all ZiM=true:=by rw [u] at hf;exact hf
       have w:ks=[]:=by
        have h3:=q.2.2.2
        rw [hz] at h3
        simpa using h3
       subst w
       simp [ZO] at hp;subst hp;simp
      ·simp [cls,hs,hf] at e
    ·rcases A5.1 hp with hp | hp
     ·obtain ⟨p1,p2⟩:=ZjV hp
      exact .inr ⟨hk _ p1,p2⟩
     ·simp at hp;subst hp;simp
   ·simp at h
  ·simp at h
 | load t x=>exact a (YK h)
 | store t x v=>exact ⟨fun e=>by simp [cls] at e,fun e=>by simp [cls] at e,fun e=>by simp [cls] at e⟩
 | makeFunc fn first caps=>exact ⟨fun e=>by simp [cls] at e,fun e=>by simp [cls] at e,fun e=>by simp [cls] at e⟩
 | mapUpdate t x i v=>exact ⟨fun e=>by simp [cls] at e,fun e=>by simp [cls] at e,fun e=>by simp [cls] at e⟩
 | lookup t x i ok=>exact a (YK h)
 | makeMap t r=>
  cases r with
  | none=>
   simp only[opE,Zl6] at h
   split at h
   ·simp only[A0] at h
    subst h
    exact ⟨fun e=>by simp [cls] at e,fun _ p hp=>by simp at hp;subst hp;simp,fun _ p hp=>by simp at hp;subst hp;simp⟩
   ·simp at h
  | some _=>simp [opE] at h
 | nilCheck x=>
  simp only[opE] at h
  split at h<;>simp only[A0,reduceCtorEq] at h<;>exact a (by rw [←h])
 | binOp op t x y t'=>exact a (YK h)
 | unOp op t x=>exact a (YK h)
 | convert s t x=>exact a (YK h)
 | makeSlice t n c=>
  simp only[opE,ZpS] at h
  split at h
  ·split at h
   ·obtain ⟨ze,_,h⟩:=A9.1 h
    split at h
    ·simp only[A0] at h
     subst h
     exact ⟨fun e=>by simp [cls] at e,fun _ p hp=>by simp at hp;subst hp;simp,fun _ p hp=>by simp at hp;subst hp;simp⟩
    ·simp at h
   ·simp at h
  ·simp at h
 | slice t x lo hi mx=>
  cases mx with
  | some _=>simp [opE] at h
  | none=>
   by_cases j:ZbY (tt t)=true
   ·have A:Za2 (tt t)=false:=by
     unfold ZbY at j
     split at j
     ·rename_i e;rw [e];rfl
     ·simp at j
    refine a ?_
    simp only[opE,Qi] at h
    split at h
    ·simp [A] at h
    ·obtain ⟨v,_,rfl⟩:=A8.1 h;rfl
    ·simp at h
   ·have hc:3≤cls tt hs (.slice t x lo hi none):=by simp only[cls];rw [if_neg j];split<;>omega
    refine ⟨fun e=>by simp only at e;omega,fun e=>by simp only at e;omega,fun e p hp=>?_⟩
    have B:∀d,mvS d (lo.map (st.ev tt 0)) (hi.map (st.ev tt 0))=false:=fun d=>by
     cases lo with
     | none=>rfl
     | some _=>cases hi with
      | none=>simp [cls,j] at e
      | some _=>rfl
    simp only[opE,Qi] at h
    split at h
    ·rename_i k hv
     have hk:U k:=by
      have:=hU 0 x
      rw [hv] at this
      exact this (.row k) yG
     split at h
     ·split at h
      ·rename_i C
       split at h
       ·rw [B,if_neg yG] at h
        obtain ⟨_,_,h⟩:=A9.1 h
        obtain ⟨_,_,rfl⟩:=A8.1 h
        simp at hp
        subst hp
        exact .inr ⟨hk,by rw [C];rfl⟩
       ·simp at h
      ·simp at h
     ·simp at h
    ·obtain ⟨v,_,rfl⟩:=A8.1 h
     simp at hp
    ·simp at h
 | fieldAddr t x f=>
  simp only[opE] at h
  split at h
  ·exact a (YK h)
  ·simp at h
 | field t x f=>
  simp only[opE] at h
  split at h
  ·exact a (YK h)
  ·simp at h
 | indexAddr t x i=>
  simp only[opE] at h
  split at h
  ·exact a (YK h)
  ·simp at h
 | index t x i=>exact a (YK h)
 | extract x i=>exact a (YK h)
 | call c=>
  obtain ⟨l,args,ts⟩:=c
  cases l with
  | builtin b=>
   simp only[opE,Zet] at h
   split at h
   ·exact a (YK h)
   ·exact ⟨fun e=>by simp [cls] at e,fun e=>by simp [cls] at e,fun e=>by simp [cls] at e⟩
   ·exact a (YK h)
   ·exact a (YK h)
   ·simp at h
  | value f=>simp [opE] at h
  | invoke r m=>simp [opE] at h
 | _=>simp [opE] at h
theorem Zaj {hs:FuncId→Nat} {o:Op} {c:FuncId × List TypeId × List Operand} (h:Yx o=some c):cls tt hs o=if hs c.1=0∨hs c.1=4 then 1 else 4:=by
 unfold Yx at h
 split at h
 ·simp only[A0] at h;rw [←h];rfl
 ·simp at h
theorem ZjF {o:Op} {c:Nat × List TypeId × List Operand} (h:YP o=some c):∃args ts,o=.call ⟨.value (.tmp c.1),args,ts⟩∧c.2.1=ts.toList∧c.2.2=args.toList:=by
 unfold YP at h
 split at h
 ·rename_i s args ts
  simp only[A0] at h
  rw [←h]
  exact ⟨args,ts,rfl,rfl,rfl⟩
 ·simp at h
theorem Zfg [NW] {hs:FuncId→Nat} {o:Op} {c:Nat × List TypeId × List Operand} (h:YP o=some c):cls tt hs o=4:=by
 obtain ⟨args,ts,rfl,_⟩:=ZjF h
 rfl
theorem Zk0 [NW] (hU:∀t x,svU U (st.ev tt t x)) {all:List Oper} {o:Oper} {v:SV} {u:List (Nat × Ob)} (h:opR tt S all key o st v u):(cls tt S.hd o.op=0→u=[])∧(cls tt S.hd o.op≤2→∀p∈u,key≤p.1∧p.1<key+16)∧(cls tt S.hd o.op≤3→∀p∈u,(key≤p.1∧p.1<key+16)∨(U p.1∧p.2=Z4 (st.ob p.1))):=by
 have b:u=[]→(cls tt S.hd o.op=0→u=[])∧(cls tt S.hd o.op≤2→∀p∈u,key≤p.1∧p.1<key+16)∧(cls tt S.hd o.op≤3→∀p∈u,(key≤p.1∧p.1<key+16)∨(U p.1∧p.2=Z4 (st.ob p.1))):=fun e=>⟨fun _=>e,fun _ p hp=>by simp [e] at hp,fun _ p hp=>by simp [e] at hp⟩
 have d:Q5 tt S key o st v u→(cls tt S.hd o.op=0→u=[])∧(cls tt S.hd o.op≤2→∀p∈u,key≤p.1∧p.1<key+16)∧(cls tt S.hd o.op≤3→∀p∈u,(key≤p.1∧p.1<key+16)∨(U p.1∧p.2=Z4 (st.ob p.1))):=fun h=>by
  unfold Q5 at h
  split at h
  ·rename_i c hc
   by_cases h0:S.hd c.1=0∨S.hd c.1=4
   ·have h':∃a,(ZE key a).2.2≤key+16∧u=(ZE key a).2.1:=by
     rcases h0 with h0 | h0
     ·rw [h0] at h
      obtain ⟨l,a,_,_,_,h3,_,e⟩:=h
      exact ⟨a,h3,e⟩
     ·rw [h0] at h
      obtain ⟨l,a,_,_,_,h3,_,e⟩:=h
      exact ⟨a,h3,e⟩
    obtain ⟨a,h3,rfl⟩:=h'
    have hp:∀p∈(ZE key a).2.1,key≤p.1∧p.1<key+16:=fun p hp=>by
     have:=(ZfE a key).2 p hp
     omega
    exact ⟨fun e=>by rw [Zaj hc,if_pos h0] at e;simp at e,fun _=>hp,fun _ p m=>.inl (hp p m)⟩
   ·refine ⟨fun e=>by rw [Zaj hc,if_neg h0] at e;simp at e,fun e=>by rw [Zaj hc,if_neg h0] at e;simp at e,fun e=>by rw [Zaj hc,if_neg h0] at e;simp at e⟩
  ·split at h
   ·rename_i c hc
    have h4:=Zfg (tt:=tt) (hs:=S.hd) hc
    exact ⟨fun e=>by rw [h4] at e;simp at e,fun e=>by rw [h4] at e;simp at e,fun e=>by rw [h4] at e;simp at e⟩
   ·exact Ztm hU h
 unfold opR at h
 split at h
 ·exact d h
 ·exact b h.2
 ·unfold gK at h
  split at h
  ·split at h
   ·exact d h
   ·exact b h.2
  ·split at h
   ·exact b h.2
   ·exact h.elim
theorem Zgh (h:st.ob=st'.ob):∀ks:List Nat,ZO st ks=ZO st' ks
 | []=>rfl
 | k::r=>by simp only[ZO,Zgh h r,h]
theorem ZB3 (s:SV):svU (fun _=>True) s:=by
 cases s<;>first | trivial | (intro y my;cases y<;>trivial) | (intro y my z mz;cases z<;>trivial)
theorem ZrQ [NW] (h:st.ob=st'.ob) (v:SV):ZeF st v=ZeF st' v:=by
 have ha:∀cs,Yq st cs=Yq st' cs:=fun cs=>ZfC (U:=fun _=>True) (fun k _=>.inl (by rw [h])) (fun x _=>by cases x<;>trivial)
 unfold ZeF
 split
 ·rw [h]
  split
  ·rw [ha]
  ·rfl
 ·rw [h]
 ·rfl
theorem Zj2 [NW] (h:st.ob=st'.ob) {f:FuncId} {n:Nat} {vs:List SV} {v:SV} {u:List (Nat × Ob)}:Zaz S f n key st vs v u↔Zaz S f n key st' vs v u:=by
 have hs:∀xs,ZT st xs=ZT st' xs:=fun xs=>Zdv (U:=fun _=>True) (fun k _=>.inl (by rw [h])) (fun x _=>ZB3 x)
 unfold Zaz
 split
 ·simp only[hs]
 ·simp only[hs,ZrQ h,Zgh h]
 ·simp only[hs,Zgh h]
 ·simp only[hs]
 ·simp only[hs,Zgh h]
theorem ZrK [NW] {o:Oper} {v:SV} {u:List (Nat × Ob)} (hl:∀x∈o.op.operands,∀t,st.ev tt t x=st'.ev tt t x)
  (a:cls tt S.hd o.op=0∨st.ob=st'.ob∨(∀t x,svU U (st.ev tt t x))∧((cls tt S.hd o.op≤3∧∀k,U k→st.ob k=st'.ob k)∨(cls tt S.hd o.op≤1∧Wk st st' U))):Q5 tt S key o st v u↔Q5 tt S key o st' v u:=by
 cases hc:Yx o.op with
 | some c=>
  simp only[Q5,hc]
  have l:∃args ts,o.op=.call ⟨.value (.func c.1),args,ts⟩∧c.2.1=ts.toList∧c.2.2=args.toList:=by
   unfold Yx at hc
   split at hc
   ·rename_i f args ts he
    simp only[A0] at hc
    rw [←hc]
    exact ⟨args,ts,he,rfl,rfl⟩
   ·simp at hc
  obtain ⟨args,ts,ho,e1,e2⟩:=l
  have d:evs tt st c.2.1 c.2.2=evs tt st' c.2.1 c.2.2:=Zcy fun x m t=>hl x (by rw [ho];rw [e2] at m;simp [Op.operands,Call.operands];exact .inr (by simpa using m)) t
  rw [←d]
  rcases a with e | a | ⟨hu,a⟩
  ·rw [Zaj hc] at e
   split at e<;>simp at e
  ·exact Zj2 a
  ·have g:cls tt S.hd o.op≤3:=by rcases a with h | h<;>omega
   have j:Wk st st' U:=by
    rcases a with h | h
    ·exact .of h.2
    ·exact h.2
   have h0:S.hd c.1=0∨S.hd c.1=4:=by
    rw [Zaj hc] at g
    split at g
    ·assumption
    ·simp at g
   have b:∀x∈evs tt st c.2.1 c.2.2,svU U x:=fun x hx=>by
    obtain ⟨p,_,rfl⟩:=A7.1 hx
    exact hu _ _
   rcases h0 with h0 | h0
   ·have i:ZT st (evs tt st c.2.1 c.2.2)=ZT st' (evs tt st c.2.1 c.2.2):=Zdv (U:=U) j b
    rw [h0]
    simp only[Zaz,i]
   ·have i:ZT st ((evs tt st c.2.1 c.2.2).map nlS)=ZT st' ((evs tt st c.2.1 c.2.2).map nlS):=Zdv (U:=U) j (fun x hx=>by
     obtain ⟨y,my,rfl⟩:=A7.1 hx
     exact ZtO (b y my))
    rw [h0]
    simp only[Zaz,i]
 | none=>
  simp only[Q5,hc]
  have:opE tt key o st=opE tt key o st':=by
   obtain ⟨sl,ob,n⟩:=st
   obtain ⟨q,ob',n'⟩:=st'
   have s1:opE tt key o ⟨q,ob',n'⟩=opE tt key o ⟨sl,ob',n⟩:=Zm0 fun x m t=>by
    rw [←hl x m t];exact Zq5 _ _ _ _ _ _ _
   rw [s1]
   rcases a with hc | a | ⟨hu,⟨hc,a⟩ | ⟨hc,a⟩⟩
   ·exact ZjE (U:=U) (.inl hc)
   ·simp only at a;subst a;rfl
   ·exact ZjE (U:=U) (.inr (.inl ⟨hc,a,hu⟩))
   ·exact ZjE (U:=U) (.inr (.inr ⟨hc,a,hu⟩))
  cases hd:YP o.op with
  | none=>simp only[this]
  | some c=>
   simp only
   obtain ⟨args,ts,ho,e1,e2⟩:=ZjF hd
   have d:evs tt st c.2.1 c.2.2=evs tt st' c.2.1 c.2.2:=Zcy fun x m t=>hl x (by rw [ho];rw [e2] at m;simp [Op.operands,Call.operands];exact .inr (by simpa using m)) t
   have w:st.sl c.1=st'.sl c.1:=hl (.tmp c.1) (by rw [ho];simp [Op.operands,Call.operands]) 0
   have h4:=Zfg (tt:=tt) (hs:=S.hd) hd
   rcases a with h0 | h0 | ⟨_,⟨h0,_⟩ | ⟨h0,_⟩⟩
   ·omega
   ·rw [d,w]
    constructor
    ·rintro ⟨fc,f1,f2,f3⟩;exact ⟨fc,f1,f2,(Zj2 h0).1 f3⟩
    ·rintro ⟨fc,f1,f2,f3⟩;exact ⟨fc,f1,f2,(Zj2 h0).2 f3⟩
   ·omega
   ·omega
theorem Zb3 [NW] {a:Array Oper} {o:Oper} {v:SV} {u:List (Nat × Ob)} (hl:∀s∈o.looksAt a,st.sl s=st'.sl s)
  (b:cls tt S.hd o.op=0∨st.ob=st'.ob∨(∀t x,svU U (st.ev tt t x))∧((cls tt S.hd o.op≤3∧∀k,U k→st.ob k=st'.ob k)∨(cls tt S.hd o.op≤1∧Wk st st' U))):opR tt S a.toList key o st v u↔opR tt S a.toList key o st' v u:=by
 have c:∀x∈o.op.operands,∀t,st.ev tt t x=st'.ev tt t x:=fun x m t=>by
  cases x with
  | tmp s=>exact hl s (by
    unfold Oper.looksAt
    refine A5.2 (.inl (Ah.2 ⟨.tmp s,by simpa using m,rfl⟩)))
  | _=>rfl
 have h1:=ZrK (S:=S) (key:=key) (v:=v) (u:=u) c b
 unfold opR
 cases hg:QX a.toList o with
 | none=>exact h1
 | some q=>
  obtain ⟨q,want⟩:=q
  cases q with
  | none=>rfl
  | some t=>
   have ht:st.sl t=st'.sl t:=hl t (by
    unfold QX at hg
    split at hg
    ·simp at hg
    ·rename_i g d
     simp only[A0,A3] at hg
     unfold Oper.looksAt
     refine A5.2 (.inr ?_)
     rw [d]
     have:(a[g.1]?).bind (·.dst)=some t:=by simpa using hg.1
     simp [this])
   simp only[gK,ht,h1]
theorem ZAM [NW] (hU:StU U st) (t:Nat) (x:Operand):svU U (st.ev tt t x):=by
 cases x with
 | tmp s=>exact hU.sl s
 | const v=>
  show svU U (cvT (tt t) v)
  unfold cvT
  split
  ·exact Y8 _
  ·exact Y8 _
  ·split
   ·exact Y8 _
   ·trivial
  ·split
   ·intro y m;simp at m;subst m;trivial
   ·trivial
  ·trivial
 | global _=>trivial
 | func _=>trivial
theorem Xy [NW]:∀{u:List (Nat × Ob)} {ob:Nat→Ob} {k:Nat},(∀p∈u,p.1≠k)→Zk ob u k=ob k
 | [],_,_,_=>rfl
 | p::r,ob,k,h=>by
  rw [Zk,Xy fun q m=>h q (by simp [m])]
  exact ZI _ _ fun e=>h p yG e.symm
theorem Ziw [NW]:∀{u:List (Nat × Ob)} {ob ob':Nat→Ob} {k:Nat},(∃p∈u,p.1=k)→Zk ob u k=Zk ob' u k
 | [],_,_,_,h=>by simp at h
 | p::r,ob,ob',k,h=>by
  rw [Zk,Zk]
  by_cases hr:∃q∈r,q.1=k
  ·exact Ziw hr
  ·have hn:∀q∈r,q.1≠k:=fun q m e=>hr ⟨q,m,e⟩
   rw [Xy hn,Xy hn]
   obtain ⟨q,mq,e⟩:=h
   rcases AD.1 mq with rfl | mq
   ·rw [←e,Zy,Zy]
   ·exact absurd e (hn q mq)
theorem Zpo [NW] {u1 u2:List (Nat × Ob)} {ob:Nat→Ob} (h:∀p∈u1,∀q∈u2,p.1≠q.1):Zk (Zk ob u1) u2=Zk (Zk ob u2) u1:=by
 funext k
 by_cases h1:∃p∈u1,p.1=k
 ·obtain ⟨p,mp,rfl⟩:=h1
  rw [Xy fun q mq e=>h p mp q mq e.symm]
  exact Ziw ⟨p,mp,rfl⟩
 ·have hn:∀q∈u1,q.1≠k:=fun q m e=>h1 ⟨q,m,e⟩
  rw [Xy (ob:=Zk ob u2) hn]
  by_cases h2:∃p∈u2,p.1=k
  ·exact Ziw h2
  ·have a:∀q∈u2,q.1≠k:=fun q m e=>h2 ⟨q,m,e⟩
   rw [Xy a,Xy a,Xy hn]
theorem ZbS [NW] (st:St) (d:Option Nat) (v:SV) (s:Nat) (h:∀t,d=some t→s≠t):(st.put d v).sl s=st.sl s:=by
 cases d with
 | none=>rfl
 | some t=>exact ZI _ _ (h t rfl)
theorem QG (st:St) (d:Option Nat) (v:SV):(st.put d v).ob=st.ob:=by cases d<;>rfl
theorem ZoF (st:St) (d:Option Nat) (v:SV):(st.put d v).n=st.n:=by cases d<;>rfl
theorem ZmW (st:St) (d e:Option Nat) (v u:SV) (h:∀t,d=some t→e≠some t):((st.put d v).put e u).sl=((st.put e u).put d v).sl:=by
 cases d with
 | none=>rfl
 | some t=>cases e with
  | none=>rfl
  | some s=>
   have a:t≠s:=fun e=>h t rfl (e ▸ rfl)
   funext k
   show upd (upd st.sl t v) s u k=upd (upd st.sl s u) t v k
   unfold upd
   by_cases h1:k=s
   ·by_cases h2:k=t
    ·exact absurd (h2.symm.trans h1) a
    ·have b:¬s=t:=fun e=>a e.symm
     simp [h1,b]
   ·simp [h1]
def ZrG (tt:Nat→Option TI):Op→Bool
 | .slice t _ (some _) none none=>!ZbY (tt t)
 | .call ⟨.builtin .append,_,_⟩=>true
 | _=>false
theorem Zgo [NW] {a:Array Oper} {o:Oper} {v:SV} {u:List (Nat × Ob)} (hl:∀s∈o.looksAt a,st.sl s=st'.sl s) (h1:Q5 tt S key o st' v u→Q5 tt S key o st v u) (h:opR tt S a.toList key o st' v u):opR tt S a.toList key o st v u:=by
 unfold opR at h ⊢
 cases hg:QX a.toList o with
 | none=>rw [hg] at h;exact h1 h
 | some q=>
  obtain ⟨q,want⟩:=q
  rw [hg] at h
  cases q with
  | none=>exact h
  | some t=>
   have ht:st.sl t=st'.sl t:=hl t (by
    unfold QX at hg
    split at hg
    ·simp at hg
    ·rename_i g c
     simp only[A0,A3] at hg
     unfold Oper.looksAt
     refine A5.2 (.inr ?_)
     rw [c]
     have:(a[g.1]?).bind (·.dst)=some t:=by simpa using hg.1
     simp [this])
   simp only[gK,ht] at h ⊢
   split at h
   ·rename_i hb
    rw [if_pos hb]
    split at h
    ·rename_i b;rw [if_pos b];exact h1 h
    ·rename_i b;rw [if_neg b];exact h
   ·rename_i hb
    rw [if_neg hb]
    exact h
theorem ZbN {a:Array Oper} {o:Oper} (hl:∀s∈o.looksAt a,st.sl s=st'.sl s):∀x∈o.op.operands,∀t,st.ev tt t x=st'.ev tt t x:=fun x m t=>by
 cases x with
 | tmp s=>exact hl s (by
   unfold Oper.looksAt
   refine A5.2 (.inl (Ah.2 ⟨.tmp s,by simpa using m,rfl⟩)))
 | _=>rfl
theorem ZrC [NW] {o:Oper} {v:SV} {u:List (Nat × Ob)} (hl:∀x∈o.op.operands,∀t,st.ev tt t x=st'.ev tt t x) (a:cls tt S.hd o.op≤1) (hu:∀t x,svU U (st.ev tt t x)) (d:Mk st st' U) (h:Q5 tt S key o st' v u):Q5 tt S key o st v u:=by
 cases hc:Yx o.op with
 | some c=>
  simp only[Q5,hc] at h ⊢
  have g:∃args ts,o.op=.call ⟨.value (.func c.1),args,ts⟩∧c.2.1=ts.toList∧c.2.2=args.toList:=by
   unfold Yx at hc
   split at hc
   ·rename_i f args ts he
    simp only[A0] at hc
    rw [←hc]
    exact ⟨args,ts,he,rfl,rfl⟩
   ·simp at hc
  obtain ⟨args,ts,ho,e1,e2⟩:=g
  have i:evs tt st c.2.1 c.2.2=evs tt st' c.2.1 c.2.2:=Zcy fun x m t=>hl x (by rw [ho];rw [e2] at m;simp [Op.operands,Call.operands];exact .inr (by simpa using m)) t
  rw [←i] at h
  have h0:S.hd c.1=0∨S.hd c.1=4:=by
   rw [Zaj hc] at a
   split at a
   ·assumption
   ·simp at a
  have b:∀x∈evs tt st c.2.1 c.2.2,svU U x:=fun x hx=>by
   obtain ⟨p,_,rfl⟩:=A7.1 hx
   exact hu _ _
  rcases h0 with h0 | h0
  ·rw [h0] at h ⊢
   simp only[Zaz] at h ⊢
   obtain ⟨al,e,h1,h2⟩:=h
   exact ⟨al,e,Zfx d b h1,h2⟩
  ·rw [h0] at h ⊢
   simp only[Zaz] at h ⊢
   obtain ⟨al,e,h1,h2⟩:=h
   exact ⟨al,e,Zfx d (fun x hx=>by
    obtain ⟨y,my,rfl⟩:=A7.1 hx
    exact ZtO (b y my)) h1,h2⟩
 | none=>
  simp only[Q5,hc] at h ⊢
  cases hd:YP o.op with
  | some c=>have h4:=Zfg (tt:=tt) (hs:=S.hd) hd;omega
  | none=>
   rw [hd] at h
   simp only at h ⊢
   obtain ⟨sl,ob,n⟩:=st
   obtain ⟨j,ob',n'⟩:=st'
   have s1:opE tt key o ⟨j,ob',n'⟩=opE tt key o ⟨sl,ob',n⟩:=Zm0 fun x m t=>by
    rw [←hl x m t];exact Zq5 _ _ _ _ _ _ _
   rw [s1] at h
   exact ZsV a d hu h
theorem ZvX {o:Op} (h:ZrG tt o=true):(∃t x lo,o=.slice t x (some lo) none none∧ZbY (tt t)=false)∨∃args ts,o=.call ⟨.builtin .append,args,ts⟩:=by
 unfold ZrG at h
 split at h
 ·exact .inl ⟨_,_,_,rfl,by simpa using h⟩
 ·exact .inr ⟨_,_,rfl⟩
 ·simp at h
theorem ZtK [NW] {s:SV} {a:List (List CT) × List Nat × Nat} (hs:svU U s) (h:ZeO st s=some a):∀k∈a.2.1,U k:=by
 unfold ZeO at h
 split at h
 ·simp only[A0] at h;rw [←h];simp
 ·split at h
  ·split at h
   ·simp at h
   ·simp only[A0] at h
    rw [←h]
    intro k hk
    simp only[AD,AM,or_false] at hk
    subst hk
    exact hs (.row _) yG
  ·simp at h
 ·simp at h
theorem Zun [NW] {fl:Bool} {s:SV} {a:List (List CT) × List Nat × Nat} (hs:svU U s) (h:ZeU st fl s=some a):∀k∈a.2.1,U k:=by
 unfold ZeU at h
 split at h
 ·simp only[A0] at h;rw [←h];simp
 ·simp only[A0] at h;rw [←h];simp
 ·split at h
  ·split at h
   ·simp only[A0] at h;rw [←h];simp
   ·simp only[A0] at h
    rw [←h]
    intro k hk
    simp only[AD,AM,or_false] at hk
    subst hk
    exact hs (.row _) yG
  ·simp at h
 ·simp at h
theorem Zrx [NW] {t:Option TI} {s x:SV} (hs:svU U s) (hx:svU U x) (a:∀k,U k→st.ob k=st'.ob k):Zl2 st key t s x=Zl2 st' key t s x:=by
 have e1:ZeO st s=ZeO st' s:=by
  unfold ZeO
  split
  ·rfl
  ·rename_i k
   rw [a k (hs (.row k) yG)]
  ·rfl
 have e2:∀fl,ZeU st fl x=ZeU st' fl x:=fun fl=>by
  unfold ZeU
  split
  ·rfl
  ·rfl
  ·rename_i k
   rw [a k (hx (.row k) yG)]
  ·rfl
 have e3:∀e m,Zj6 st e m s=Zj6 st' e m s:=fun e m=>by
  unfold Zj6
  split
  ·rename_i k
   rw [a k (hs (.row k) yG)]
  ·rfl
  ·rfl
 have e4:∀m,Zi4 st m x=Zi4 st' m x:=fun m=>by
  unfold Zi4
  split
  ·rename_i k
   rw [a k (hx (.row k) yG)]
  ·rfl
  ·rfl
  ·rfl
 unfold Zl2
 split
 ·simp only[e1,e2,e3,e4]
 ·rfl
theorem Zq0 {ts:List TypeId} {vs:List SV} {r:SV × List (Nat × Ob)} (h:Zet tt st key .append ts vs=some r):∃t s x,ts=[t,t]∧vs=[s,x]∧Zl2 st key (tt t) s x=some r:=by
 match ts,vs,h with
 | [t,u],[s,x],h=>
  simp only[Zet] at h
  split at h
  ·rename_i e;subst e;exact ⟨t,s,x,rfl,rfl,h⟩
  ·simp at h
 | [],_,h=>simp [Zet] at h
 | [_],_,h=>simp [Zet] at h
 | _::_::_::_,_,h=>simp [Zet] at h
 | [_,_],[],h=>simp [Zet] at h
 | [_,_],[_],h=>simp [Zet] at h
 | [_,_],_::_::_::_,h=>simp [Zet] at h
theorem Zu2 [NW] {o:Oper} {v:SV} {u:List (Nat × Ob)} (hm:ZrG tt o.op=true) (hU:∀t x,svU U (st.ev tt t x)) (h:Q5 tt S key o st v u):(∀p∈u,(key≤p.1∧p.1<key+16)∨(U p.1∧(p.2=st.ob p.1∨p.2=.gone))):=by
 obtain ⟨g,op,ty,i,af,gd⟩:=o
 obtain ⟨t,x,lo,ho,hs⟩ | ⟨args,ts,ho⟩:=ZvX hm
 rotate_left
 ·simp only at ho
  subst ho
  have h':Zet tt st key .append ts.toList (evs tt st ts.toList args.toList)=some (v,u):=h
  obtain ⟨t,s,x,_,he,h'⟩:=Zq0 h'
  have c:svU U s∧svU U x:=by
   have d:∀y∈evs tt st ts.toList args.toList,svU U y:=fun y my=>by
    obtain ⟨p,_,rfl⟩:=A7.1 my
    exact hU _ _
   exact ⟨d s (by rw [he];simp),d x (by rw [he];simp)⟩
  unfold Zl2 at h'
  split at h'
  ·obtain ⟨a,h1,h'⟩:=A9.1 h'
   obtain ⟨b,h2,h'⟩:=A9.1 h'
   split at h'
   ·simp only[A0,A3] at h'
    rw [←h'.2]
    intro p hp
    rcases A5.1 hp with hp | hp
    ·obtain ⟨k,mk,rfl⟩:=A7.1 hp
     refine .inr ⟨?_,.inr rfl⟩
     rcases A5.1 mk with mk | mk
     ·exact ZtK c.1 h1 k mk
     ·exact Zun c.2 h2 k mk
    ·simp only[AD,AM,or_false] at hp
     subst hp
     exact .inl ⟨AC _,by simp only;omega⟩
   ·simp at h'
  ·simp at h'
 simp only at ho
 subst ho
 have h':opE tt key ⟨g,.slice t x (some lo) none none,ty,i,af,gd⟩ st=some (v,u):=h
 simp only[opE,Qi,AJ,AI] at h'
 intro p hp
 split at h'
 ·rename_i k hv
  have hk:U k:=by
   have:=hU 0 x
   rw [hv] at this
   exact this (.row k) yG
  split at h'
  ·split at h'
   ·rename_i j
    split at h'
    ·split at h'
     ·obtain ⟨l,_,e⟩:=A8.1 h'
      simp only[A3] at e
      rw [←e.2] at hp
      simp only[AD,AM,or_false] at hp
      rcases hp with rfl | rfl
      ·exact .inr ⟨hk,.inr rfl⟩
      ·exact .inl ⟨AC _,by simp only;omega⟩
     ·rename_i f
      obtain ⟨_,_,h'⟩:=A9.1 h'
      obtain ⟨_,_,e⟩:=A8.1 h'
      simp only[A3] at e
      rw [←e.2] at hp
      simp only[AD,AM,or_false] at hp
      subst hp
      refine .inr ⟨hk,.inl ?_⟩
      simp only[mvS] at f
      split at f
      ·rename_i hd;rw [j,hd]
      ·simp at f
    ·simp at h'
   ·simp at h'
  ·simp at h'
 ·obtain ⟨_,_,e⟩:=A8.1 h'
  simp only[A3] at e
  rw [←e.2] at hp
  simp at hp
 ·simp at h'
theorem ZvP [NW] {o:Oper} {v:SV} {u:List (Nat × Ob)} (hm:ZrG tt o.op=true) (hl:∀x∈o.op.operands,∀t,st.ev tt t x=st'.ev tt t x) (hU:∀t x,svU U (st'.ev tt t x)) (b:∀k,U k→st.ob k=st'.ob k) (h:Q5 tt S key o st' v u):Q5 tt S key o st v u:=by
 obtain ⟨c,op,ty,d,af,gd⟩:=o
 obtain ⟨t,x,lo,ho,hs⟩ | ⟨args,ts,ho⟩:=ZvX hm
 rotate_left
 ·simp only at ho
  subst ho
  have h':Zet tt st' key .append ts.toList (evs tt st' ts.toList args.toList)=some (v,u):=h
  show Zet tt st key .append ts.toList (evs tt st ts.toList args.toList)=some (v,u)
  have e:evs tt st ts.toList args.toList=evs tt st' ts.toList args.toList:=Zcy fun x m t=>hl x (by simpa [Op.operands,Call.operands] using m) t
  have a:∀y∈evs tt st' ts.toList args.toList,svU U y:=fun y my=>by
   obtain ⟨p,_,rfl⟩:=A7.1 my
   exact hU _ _
  obtain ⟨t,s,x,et,he,h'⟩:=Zq0 h'
  rw [e,he,et]
  rw [he] at a
  show (if t=t then Zl2 st key (tt t) s x else none)=_
  rw [if_pos rfl,Zrx (a s yG) (a x yG) b,h']
 simp only at ho
 subst ho
 have h':opE tt key ⟨c,.slice t x (some lo) none none,ty,d,af,gd⟩ st'=some (v,u):=h
 show opE tt key ⟨c,.slice t x (some lo) none none,ty,d,af,gd⟩ st=some (v,u)
 have e1:=hl x (by simp [Op.operands]) 0
 have e2:=hl lo (by simp [Op.operands]) 0
 simp only[opE,AJ,AI,e1,e2] at h' ⊢
 rw [←h']
 have hx:=hU 0 x
 unfold Qi
 split
 ·rename_i k hv
  rw [hv] at hx
  have hk:U k:=hx (.row k) yG
  simp only[b k hk]
 ·rfl
 ·rfl
theorem Zct [NW] {a:List Oper} {o:Oper} {v:SV} {u:List (Nat × Ob)} {C:Prop} (h:opR tt S a key o st v u) (h1:Q5 tt S key o st v u→C) (h2:u=[]→C):C:=by
 unfold opR at h
 split at h
 ·exact h1 h
 ·exact h2 h.2
 ·unfold gK at h
  split at h
  ·split at h
   ·exact h1 h
   ·exact h2 h.2
  ·split at h
   ·exact h2 h.2
   ·exact h.elim
def Zq3 (tt:Nat→Option TI) (hs:FuncId→Nat) (x y:Op):Bool:=cls tt hs x==0||cls tt hs y==0||(Nat.ble (cls tt hs x) 2&&Nat.ble (cls tt hs y) 2)||(Nat.ble (cls tt hs x) 1&&Nat.ble (cls tt hs y) 3)||(Nat.ble (cls tt hs x) 3&&Nat.ble (cls tt hs y) 1)||(ZrG tt x&&Nat.ble (cls tt hs y) 1)
theorem comm [NW] {ops:Array Oper} {oi oj:Oper} {ki kj:Nat} {vi vj:SV} {ui uj:List (Nat × Ob)} (hap:oi.apart ops oj=true) (hc:Zq3 tt S.hd oi.op oj.op=true) (hU:StU U st) (hki:∀k,ki≤k→k<ki+16→¬U k) (hkj:∀k,kj≤k→k<kj+16→¬U k) (hdis:ki+16≤kj∨kj+16≤ki)
  (h:opR tt S ops.toList ki oi st vi ui) (h':opR tt S ops.toList kj oj ((st.put oi.dst vi).app ui) vj uj):
  opR tt S ops.toList kj oj st vj uj∧opR tt S ops.toList ki oi ((st.put oj.dst vj).app uj) vi ui∧((((st.put oi.dst vi).app ui).put oj.dst vj).app uj)=((((st.put oj.dst vj).app uj).put oi.dst vi).app ui):=by
 obtain ⟨a1,a2,a3⟩:=Oper.apart_spec hap
 have hev:∀t x,svU U (st.ev tt t x):=fun t x=>ZAM hU t x
 obtain ⟨i1,i2,i3⟩:=Zk0 (U:=U) hev h
 have eqs:(∀p∈ui,∀q∈uj,p.1≠q.1)→((((st.put oi.dst vi).app ui).put oj.dst vj).app uj)=((((st.put oj.dst vj).app uj).put oi.dst vi).app ui):=fun hne=>by
  have hsl:((((st.put oi.dst vi).app ui).put oj.dst vj).app uj).sl=((((st.put oj.dst vj).app uj).put oi.dst vi).app ui).sl:=by
   have e1:∀(s:St) (u:List (Nat × Ob)) (d:Option Nat) (v:SV),((s.app u).put d v).sl=(s.put d v).sl:=fun s u d v=>by cases d<;>rfl
   show (((st.put oi.dst vi).app ui).put oj.dst vj).sl=(((st.put oj.dst vj).app uj).put oi.dst vi).sl
   rw [e1,e1]
   exact ZmW st _ _ _ _ fun t ht=>a2 t ht
  have hobs:((((st.put oi.dst vi).app ui).put oj.dst vj).app uj).ob=((((st.put oj.dst vj).app uj).put oi.dst vi).app ui).ob:=by
   show Zk (((st.put oi.dst vi).app ui).put oj.dst vj).ob uj=Zk (((st.put oj.dst vj).app uj).put oi.dst vi).ob ui
   rw [QG,QG]
   show Zk (Zk (st.put oi.dst vi).ob ui) uj=Zk (Zk (st.put oj.dst vj).ob uj) ui
   rw [QG,QG]
   exact Zpo hne
  have hn:((((st.put oi.dst vi).app ui).put oj.dst vj).app uj).n=((((st.put oj.dst vj).app uj).put oi.dst vi).app ui).n:=by
   show (((st.put oi.dst vi).app ui).put oj.dst vj).n=(((st.put oj.dst vj).app uj).put oi.dst vi).n
   rw [ZoF,ZoF]
   show (st.put oi.dst vi).n=(st.put oj.dst vj).n
   rw [ZoF,ZoF]
  generalize ((((st.put oi.dst vi).app ui).put oj.dst vj).app uj)=s1 at hsl hobs hn ⊢
  generalize ((((st.put oj.dst vj).app uj).put oi.dst vi).app ui)=s2 at hsl hobs hn ⊢
  cases s1;cases s2
  simp only at hsl hobs hn
  subst hsl hobs hn
  rfl
 by_cases hmv:ZrG tt oi.op=true∧cls tt S.hd oj.op≤1
 ·obtain ⟨hm,hj⟩:=hmv
  have hui:∀p∈ui,(ki≤p.1∧p.1<ki+16)∨(U p.1∧(p.2=st.ob p.1∨p.2=.gone)):=Zct h (fun h=>Zu2 hm hev h) fun e p hp=>by rw [e] at hp;simp at hp
  have hmk:Mk st ((st.put oi.dst vi).app ui) U:=fun k hk=>by
   show Zk (st.put oi.dst vi).ob ui k=st.ob k∨Zk (st.put oi.dst vi).ob ui k=.gone
   rw [QG]
   have gen:∀(u:List (Nat × Ob)) (ob:Nat→Ob),(∀p∈u,(ki≤p.1∧p.1<ki+16)∨(U p.1∧(p.2=st.ob p.1∨p.2=.gone)))→(ob k=st.ob k∨ob k=.gone)→(Zk ob u k=st.ob k∨Zk ob u k=.gone):=by
    intro u
    induction u with
    | nil=>intro ob _ h;exact h
    | cons p u ih=>
     intro ob hp h
     refine ih _ (fun x mx=>hp x (by simp [mx])) ?_
     by_cases hpk:k=p.1
     ·rcases hp p (by simp) with h1 | h1
      ·exact absurd (hpk ▸ hk) (hki p.1 h1.1 h1.2)
      ·rw [hpk,Zy];exact h1.2
     ·rw [ZI _ _ hpk];exact h
   exact gen ui st.ob hui (.inl rfl)
  have hlj:∀s∈oj.looksAt ops,st.sl s=((st.put oi.dst vi).app ui).sl s:=fun s ms=>(ZbS st oi.dst vi s fun t ht e=>a1 t ht (e ▸ ms)).symm
  have hA:opR tt S ops.toList kj oj st vj uj:=Zgo hlj (ZrC (ZbN hlj) hj hev hmk) h'
  obtain ⟨_,j2,_⟩:=Zk0 (U:=U) hev hA
  have hlk:∀s∈oi.looksAt ops,((st.put oj.dst vj).app uj).sl s=st.sl s:=fun s ms=>ZbS st oj.dst vj s fun t ht e=>a3 t ht (e ▸ ms)
  have hag:∀k,U k→((st.put oj.dst vj).app uj).ob k=st.ob k:=fun k hk=>by
   show Zk (st.put oj.dst vj).ob uj k=st.ob k
   rw [QG]
   exact Xy fun p mp e=>hkj p.1 (j2 (by omega) p mp).1 (j2 (by omega) p mp).2 (e ▸ hk)
  refine ⟨hA,Zgo hlk (ZvP hm (ZbN hlk) hev hag) h,eqs fun p mp q mq e=>?_⟩
  have h2:=j2 (by omega) q mq
  rcases hui p mp with h1 | h1
  ·omega
  ·exact hkj q.1 h2.1 h2.2 (e ▸ h1.1)
 have hcl:cls tt S.hd oi.op=0∨cls tt S.hd oj.op=0∨(cls tt S.hd oi.op≤2∧cls tt S.hd oj.op≤2)∨(cls tt S.hd oi.op≤1∧cls tt S.hd oj.op≤3)∨(cls tt S.hd oi.op≤3∧cls tt S.hd oj.op≤1):=by
  unfold Zq3 at hc
  simp only[AK,beq_iff_eq,A6] at hc
  rcases hc with ((((hc | hc) | hc) | hc) | hc) | hc
  ·exact .inl hc
  ·exact .inr (.inl hc)
  ·exact .inr (.inr (.inl ⟨AA hc.1,AA hc.2⟩))
  ·exact .inr (.inr (.inr (.inl ⟨AA hc.1,AA hc.2⟩)))
  ·exact .inr (.inr (.inr (.inr ⟨AA hc.1,AA hc.2⟩)))
  ·exact absurd ⟨hc.1,AA hc.2⟩ hmv
 have agree:∀{u:List (Nat × Ob)} {q:Nat},(∀p∈u,q≤p.1∧p.1<q+16)→(∀k,q≤k→k<q+16→¬U k)→∀k,U k→st.ob k=Zk st.ob u k:=fun hu hq k hk=>(Xy fun p mp e=>hq p.1 (hu p mp).1 (hu p mp).2 (e ▸ hk)).symm
 have weak:∀{u:List (Nat × Ob)} {q:Nat},(∀p∈u,(q≤p.1∧p.1<q+16)∨(U p.1∧p.2=Z4 (st.ob p.1)))→(∀k,q≤k→k<q+16→¬U k)→∀k,U k→Zk st.ob u k=st.ob k∨Zk st.ob u k=Z4 (st.ob k):=fun {u q} hu hq k hk=>by
  have gen:∀(u:List (Nat × Ob)) (ob:Nat→Ob),(∀p∈u,(q≤p.1∧p.1<q+16)∨(U p.1∧p.2=Z4 (st.ob p.1)))→(ob k=st.ob k∨ob k=Z4 (st.ob k))→(Zk ob u k=st.ob k∨Zk ob u k=Z4 (st.ob k)):=by
   intro u
   induction u with
   | nil=>intro ob _ h;exact h
   | cons p u ih=>
    intro ob hp h
    refine ih _ (fun x mx=>hp x (by simp [mx])) ?_
    by_cases hpk:k=p.1
    ·rcases hp p (by simp) with h1 | h1
     ·exact absurd (hpk ▸ hk) (hq p.1 h1.1 h1.2)
     ·right;rw [hpk,Zy];exact h1.2
    ·rw [ZI _ _ hpk];exact h
  exact gen u st.ob hu (.inl rfl)
 have hA:opR tt S ops.toList kj oj st vj uj:=by
  refine (Zb3 (U:=U) (st:=st) (st':=(st.put oi.dst vi).app ui) (fun s ms=>(ZbS st oi.dst vi s fun t ht e=>a1 t ht (e ▸ ms)).symm) ?_).2 h'
  show cls tt S.hd oj.op=0∨st.ob=Zk (st.put oi.dst vi).ob ui∨_∧((cls tt S.hd oj.op≤3∧∀k,U k→st.ob k=Zk (st.put oi.dst vi).ob ui k)∨(cls tt S.hd oj.op≤1∧∀k,U k→Zk (st.put oi.dst vi).ob ui k=st.ob k∨Zk (st.put oi.dst vi).ob ui k=Z4 (st.ob k)))
  rw [QG]
  rcases hcl with hcl | hcl | ⟨c1,c2⟩ | ⟨c1,c2⟩ | ⟨c1,c2⟩
  ·right;left;rw [i1 hcl];rfl
  ·left;exact hcl
  ·right;right;exact ⟨hev,.inl ⟨by omega,agree (i2 c1) hki⟩⟩
  ·right;right;exact ⟨hev,.inl ⟨c2,agree (i2 (by omega)) hki⟩⟩
  ·right;right;exact ⟨hev,.inr ⟨c2,weak (i3 c1) hki⟩⟩
 obtain ⟨j1',j2',j3'⟩:=Zk0 (U:=U) hev hA
 refine ⟨hA,?_,?_⟩
 ·refine (Zb3 (U:=U) (st:=st) (st':=(st.put oj.dst vj).app uj) (fun s ms=>(ZbS st oj.dst vj s fun t ht e=>a3 t ht (e ▸ ms)).symm) ?_).1 h
  show cls tt S.hd oi.op=0∨st.ob=Zk (st.put oj.dst vj).ob uj∨_∧((cls tt S.hd oi.op≤3∧∀k,U k→st.ob k=Zk (st.put oj.dst vj).ob uj k)∨(cls tt S.hd oi.op≤1∧∀k,U k→Zk (st.put oj.dst vj).ob uj k=st.ob k∨Zk (st.put oj.dst vj).ob uj k=Z4 (st.ob k)))
  rw [QG]
  rcases hcl with hcl | hcl | ⟨c1,c2⟩ | ⟨c1,c2⟩ | ⟨c1,c2⟩
  ·left;exact hcl
  ·right;left;rw [j1' hcl];rfl
  ·right;right;exact ⟨hev,.inl ⟨by omega,agree (j2' c2) hkj⟩⟩
  ·right;right;exact ⟨hev,.inr ⟨c1,weak (j3' c2) hkj⟩⟩
  ·right;right;exact ⟨hev,.inl ⟨c1,agree (j2' (by omega)) hkj⟩⟩
 ·rcases hcl with hcl | hcl | ⟨c1,c2⟩ | ⟨c1,c2⟩ | ⟨c1,c2⟩
  ·exact eqs fun p mp=>by rw [i1 hcl] at mp;simp at mp
  ·exact eqs fun p mp q mq=>by rw [j1' hcl] at mq;simp at mq
  ·refine eqs fun p mp q mq e=>?_
   have:=i2 c1 p mp
   have:=j2' c2 q mq
   omega
  ·refine eqs fun p mp q mq e=>?_
   have h1:=i2 (by omega) p mp
   rcases j3' c2 q mq with h2 | h2
   ·omega
   ·exact hki p.1 h1.1 h1.2 (e ▸ h2.1)
  ·refine eqs fun p mp q mq e=>?_
   have h1:=j2' (by omega) q mq
   rcases i3 c1 p mp with h2 | h2
   ·omega
   ·exact hkj q.1 h1.1 h1.2 (e ▸ h2.1)
/- a load and a call into which something is handed: what is handed in stands at the key 0, the load looks elsewhere -/
def ZoO:Op→Bool
 | .load _ _=>true
 | _=>false
def ZrP (hs:FuncId→Nat) (o:Op):Bool:=match Yx o with
 | some c=>hs c.1==1
 | none=>false
def Zm2:Op→Bool
 | .slice _ _ _ _ none=>true
 | _=>false
def ZrN (tt:Nat→Option TI) (hs:FuncId→Nat) (b:Bool) (x y:Op):Bool:=Zq3 tt hs x y||(b&&((ZoO x&&ZrP hs y)||(ZrP hs x&&ZoO y)||Zm2 x||Zm2 y))
theorem ZpJ {o:Op} {c:FuncId × List TypeId × List Operand} (h:Yx o=some c):∃args ts,o=.call ⟨.value (.func c.1),args,ts⟩∧c.2.2=args.toList:=by
 unfold Yx at h
 split at h
 ·rename_i f args ts
  simp only[A0] at h
  rw [←h]
  exact ⟨args,ts,rfl,rfl⟩
 ·simp at h
theorem ZpX {o:Op} (h:∀x∈o.operands,∀t,st.ev tt t x=st'.ev tt t x):stk tt S o st=stk tt S o st':=by
 unfold stk
 split
 ·rename_i t x
  rw [h x (by simp [Op.operands])]
 ·rename_i t x _ _ _
  rw [h x (by simp [Op.operands])]
 ·split
  ·rename_i c hc
   obtain ⟨args,ts,ho,e⟩:=ZpJ hc
   unfold hdC
   split
   ·cases hh:c.2.2.head? with
    | none=>rfl
    | some x=>
     have mx:x∈args.toList:=by rw [←e];exact List.mem_of_mem_head? hh
     simp only
     rw [h x (by rw [ho];simp [Op.operands,Call.operands];exact .inr (by simpa using mx))]
   ·rfl
  ·rfl
theorem Zfp [NW] {a:Array Oper} {oi oj:Oper} {vi vj:SV} {ui uj:List (Nat × Ob)} (b:oi.apart a oj=true):stk tt S oj.op st=stk tt S oj.op ((st.put oi.dst vi).app ui)∧stk tt S oi.op ((st.put oj.dst vj).app uj)=stk tt S oi.op st:=by
 obtain ⟨a1,a2,a3⟩:=Oper.apart_spec b
 exact ⟨ZpX (ZbN fun s ms=>(ZbS st oi.dst vi s fun t ht e=>a1 t ht (e ▸ ms)).symm),ZpX (ZbN fun s ms=>ZbS st oj.dst vj s fun t ht e=>a3 t ht (e ▸ ms))⟩
theorem ZmY [NW] {o:Oper} {v:SV} {u:List (Nat × Ob)} (ho:ZrP S.hd o.op=true) (hs:stk tt S o.op st=true) (h:Q5 tt S key o st v u):∀p∈u,p.1=0∨(key≤p.1∧p.1<key+16)∨p.2=Z4 (st.ob p.1):=by
 unfold ZrP at ho
 split at ho
 rotate_left
 ·simp at ho
 rename_i c hc
 have h1:S.hd c.1=1:=by simpa using ho
 unfold Q5 at h
 rw [hc] at h
 simp only[h1,Zaz] at h
 obtain ⟨v0,r,k,hh,l,res,h',hv,hk,hl,hs',hne,hn,rfl,rfl⟩:=h
 have h2:hdC tt 1 c.2.2.head? st=true:=by
  have e:stk tt S o.op st=hdC tt (S.hd c.1) c.2.2.head? st:=by
   unfold stk
   split
   ·rename_i hq;rw [hq] at hc;simp [Yx] at hc
   ·rename_i hq;rw [hq] at hc;simp [Yx] at hc
   ·rw [hc]
  rw [←h1,←e];exact hs
 have hv0:∃off,v0=.bp 0 off:=by
  unfold hdC at h2
  simp only at h2
  cases hx:c.2.2 with
  | nil=>rw [hx] at h2;simp at h2
  | cons x xs=>
   rw [hx] at h2 hv
   simp only[List.head?_cons] at h2
   have e0:∀ts:List TypeId,∃t q,evs tt st ts (x::xs)=st.ev tt t x::q:=fun ts=>by cases ts<;>exact ⟨_,_,rfl⟩
   obtain ⟨t,q,e0⟩:=e0 c.2.1
   rw [e0] at hv
   simp only[AQ] at hv
   have hb:hdB (st.ev tt 0 x)=true:=h2
   have ht:∀t',hdB (st.ev tt t' x)=true→∃off,st.ev tt t x=.bp 0 off:=fun t' hb=>by
    cases x with
    | tmp s=>
     have hb':hdB (st.sl s)=true:=hb
     unfold hdB at hb'
     split at hb'
     ·rename_i k' off e;exact ⟨off,by show st.sl s=_;rw [e,of_decide_eq_true hb']⟩
     ·simp at hb'
    | const u=>
     exfalso
     have hb':hdB (cvT (tt t') u)=true:=hb
     unfold cvT at hb'
     split at hb'<;>first | (simp [hdB] at hb';done) | (split at hb'<;>simp [hdB] at hb')
    | func f=>simp [St.ev,hdB] at hb
    | global g=>simp [St.ev,hdB] at hb
   obtain ⟨off,e⟩:=ht 0 hb
   exact ⟨off,by rw [←hv.1,e]⟩
 obtain ⟨off,rfl⟩:=hv0
 have hkk:k=0:=by
  unfold ZeF at hk
  split at hk
  ·rename_i k' e
   simp only[SV.bp.injEq] at e
   obtain ⟨rfl,rfl⟩:=e
   split at hk
   ·rename_i t cs hb
    split at hk
    ·obtain ⟨_,_,e⟩:=A8.1 hk
     simp only[A3] at e
     exact e.1.symm
    ·simp at hk
   ·simp at hk
  ·rename_i e;simp at e
  ·simp at hk
 subst hkk
 intro p mp
 rcases A5.1 mp with mp | mp
 ·exact .inr (.inr (ZjV mp).2)
 ·rcases AD.1 mp with rfl | mp
  ·exact .inl rfl
  ·have:=(ZfE res key).2 p mp
   exact .inr (.inl (by omega))
theorem ZmM [NW] {o:Oper} {v:SV} {u:List (Nat × Ob)} (ho:ZoO o.op=true) (hl:∀x∈o.op.operands,∀t,st.ev tt t x=st'.ev tt t x) (hs:stk tt S o.op st=true) (hU:∀t x,svU U (st.ev tt t x)) (c:∀k,U k→k≠0→st'.ob k=st.ob k∨st'.ob k=Z4 (st.ob k)):Q5 tt S key o st v u↔Q5 tt S key o st' v u:=by
 obtain ⟨dst,op,ty,pos,af,gd⟩:=o
 unfold ZoO at ho
 simp only at ho
 split at ho
 rotate_left
 ·simp at ho
 rename_i t x
 have e1:=hl x (by simp [Op.operands]) 0
 have hx:=hU 0 x
 have a:ldB (st.ev tt 0 x)=true:=hs
 have key:Qa st (tt t) (st.ev tt 0 x)=Qa st' (tt t) (st'.ev tt 0 x):=by
  rw [←e1]
  unfold Qa
  split
  ·rename_i k off hv
   rw [hv] at hx a
   have b:k≠0:=fun e=>by subst e;simp [ldB] at a
   rcases c k hx b with h | h
   ·rw [h]
   ·rw [h]
    cases st.ob k<;>rfl
  ·rename_i k m i off hv
   rw [hv] at hx a
   have b:k≠0:=fun e=>by subst e;simp [ldB] at a
   rcases c k hx b with h | h
   ·rw [h]
   ·rw [h]
    cases st.ob k<;>rfl
  ·rfl
  ·rfl
  ·rfl
 show opE tt _ _ st=some (v,u)↔opE tt _ _ st'=some (v,u)
 simp only[opE,key]
theorem Zup [NW] {a:List Oper} {o:Oper} {v:SV} {u:List (Nat × Ob)} (ho:ZoO o.op=true) (h:opR tt S a key o st v u):u=[]:=by
 refine Zct h (fun h=>?_) id
 obtain ⟨b,op,ty,c,af,gd⟩:=o
 unfold ZoO at ho
 simp only at ho
 split at ho
 ·have h':opE tt key ⟨b,.load _ _,ty,c,af,gd⟩ st=some (v,u):=h
  exact YK h'
 ·simp at ho
theorem Zrm {a:Array Oper} {o:Oper} {v:SV} {u:List (Nat × Ob)} (hl:∀s∈o.looksAt a,st.sl s=st'.sl s) (h1:Q5 tt S key o st v u↔Q5 tt S key o st' v u) [NW]:opR tt S a.toList key o st v u↔opR tt S a.toList key o st' v u:=⟨Zgo (fun s ms=>(hl s ms).symm) h1.1,Zgo hl h1.2⟩
theorem ZjA [NW] {o:Oper} {v:SV} {u:List (Nat × Ob)} (ho:Zm2 o.op=true) (hs:stk tt S o.op st=true) (h:Q5 tt S key o st v u):u=[]∧∀{st':St},(∀x∈o.op.operands,∀t,st.ev tt t x=st'.ev tt t x)→Q5 tt S key o st' v u:=by
 obtain ⟨b,op,ty,c,af,gd⟩:=o
 unfold Zm2 at ho
 simp only at ho
 split at ho
 rotate_left
 ·simp at ho
 rename_i t x lo hi
 have a:slB (st.ev tt 0 x)=true:=hs
 have h':opE tt key ⟨b,.slice t x lo hi none,ty,c,af,gd⟩ st=some (v,u):=h
 unfold slB at a
 split at a
 rotate_left
 ·simp at a
 rename_i y hy
 constructor
 ·simp only[opE] at h'
  rw [hy] at h'
  simp only[Qi] at h'
  obtain ⟨_,_,e⟩:=A8.1 h'
  simp only[A3] at e
  exact e.2.symm
 ·intro st' hl
  show opE tt key ⟨b,.slice t x lo hi none,ty,c,af,gd⟩ st'=some (v,u)
  have e1:=hl x (by simp [Op.operands]) 0
  have e2:lo.map (st.ev tt 0)=lo.map (st'.ev tt 0):=by
   cases lo with
   | none=>rfl
   | some l=>exact congrArg some (hl l (by simp [Op.operands]) 0)
  have e3:hi.map (st.ev tt 0)=hi.map (st'.ev tt 0):=by
   cases hi with
   | none=>rfl
   | some l=>exact congrArg some (hl l (by simp [Op.operands]) 0)
  rw [←h']
  simp only[opE,←e1,←e2,←e3,hy,Qi]
theorem ZAS [NW] {b:Bool} {f:Array Oper} {oi oj:Oper} {ki kj:Nat} {vi vj:SV} {ui uj:List (Nat × Ob)} (j:oi.apart f oj=true) (hc:ZrN tt S.hd b oi.op oj.op=true) (hU:StU U st) (C:∀k,ki≤k→k<ki+16→¬U k) (D:∀k,kj≤k→k<kj+16→¬U k) (E:ki+16≤kj∨kj+16≤ki)
  (B:b=true→stk tt S oi.op st=true) (l:b=true→stk tt S oj.op ((st.put oi.dst vi).app ui)=true) (h:opR tt S f.toList ki oi st vi ui) (h':opR tt S f.toList kj oj ((st.put oi.dst vi).app ui) vj uj):
  opR tt S f.toList kj oj st vj uj∧opR tt S f.toList ki oi ((st.put oj.dst vj).app uj) vi ui∧((((st.put oi.dst vi).app ui).put oj.dst vj).app uj)=((((st.put oj.dst vj).app uj).put oi.dst vi).app ui):=by
 by_cases F:Zq3 tt S.hd oi.op oj.op=true
 ·exact comm j F hU C D E h h'
 have hb:b=true∧(((ZoO oi.op=true∧ZrP S.hd oj.op=true)∨(ZrP S.hd oi.op=true∧ZoO oj.op=true))∨Zm2 oi.op=true∨Zm2 oj.op=true):=by
  unfold ZrN at hc
  rw [AK] at hc
  have:=hc.resolve_left F
  simp only[A6,AK] at this
  obtain ⟨q1,q2⟩:=this
  exact ⟨q1,by rcases q2 with (q | q) | q;exact .inl q;exact .inr (.inl q);exact .inr (.inr q)⟩
 obtain ⟨hb,hc⟩:=hb
 obtain ⟨a1,a2,a3⟩:=Oper.apart_spec j
 have G:∀t x,svU U (st.ev tt t x):=fun t x=>ZAM hU t x
 have g:∀s∈oj.looksAt f,st.sl s=((st.put oi.dst vi).app ui).sl s:=fun s ms=>(ZbS st oi.dst vi s fun t ht e=>a1 t ht (e ▸ ms)).symm
 have i:∀s∈oi.looksAt f,st.sl s=((st.put oj.dst vj).app uj).sl s:=fun s ms=>(ZbS st oj.dst vj s fun t ht e=>a3 t ht (e ▸ ms)).symm
 have c:(((st.put oi.dst vi).put oj.dst vj)).sl=(((st.put oj.dst vj).put oi.dst vi)).sl:=ZmW st _ _ _ _ fun t ht=>a2 t ht
 have e1:∀(s:St) (u:List (Nat × Ob)) (d:Option Nat) (v:SV),((s.app u).put d v)=((s.put d v).app u):=fun s u d v=>by cases d<;>rfl
 have y:ui=[]∨uj=[]→((((st.put oi.dst vi).app ui).put oj.dst vj).app uj)=((((st.put oj.dst vj).app uj).put oi.dst vi).app ui):=fun hn=>by
  rw [e1,e1]
  have hs:((st.put oi.dst vi).put oj.dst vj)=((st.put oj.dst vj).put oi.dst vi):=by
   have h2:((st.put oi.dst vi).put oj.dst vj).ob=((st.put oj.dst vj).put oi.dst vi).ob:=by simp only[QG]
   have h3:((st.put oi.dst vi).put oj.dst vj).n=((st.put oj.dst vj).put oi.dst vi).n:=by simp only[ZoF]
   generalize ((st.put oi.dst vi).put oj.dst vj)=s1 at c h2 h3
   generalize ((st.put oj.dst vj).put oi.dst vi)=s2 at c h2 h3
   cases s1;cases s2
   simp only at c h2 h3
   subst c h2 h3
   rfl
  rw [hs]
  rcases hn with rfl | rfl<;>rfl
 rcases hc with hc | o | o
 rotate_left
 ·-- the first is a slice that is only read
  have hs:=B hb
  have hn:ui=[]:=Zct h (fun h=>(ZjA o hs h).1) id
  subst hn
  have hA:opR tt S f.toList kj oj st vj uj:=(Zb3 (U:=U) g (.inr (.inl (by show st.ob=(st.put oi.dst vi).ob;rw [QG])))).2 h'
  refine ⟨hA,Zgo (fun s ms=>(i s ms).symm) (fun h=>(ZjA o hs h).2 (ZbN i)) h,y (.inl rfl)⟩
 ·-- the second is one
  have hs:=(Zfp (tt:=tt) (S:=S) (st:=st) (vi:=vi) (ui:=ui) (vj:=vj) (uj:=uj) j).1.trans (l hb)
  have hn:uj=[]:=Zct h' (fun h=>(ZjA o (l hb) h).1) id
  subst hn
  have hA:opR tt S f.toList kj oj st vj []:=Zgo g (fun h=>(ZjA o (l hb) h).2 (fun x m t=>(ZbN g x m t).symm)) h'
  refine ⟨hA,?_,y (.inr rfl)⟩
  exact (Zb3 (U:=U) i (.inr (.inl (by show st.ob=(st.put oj.dst vj).ob;rw [QG])))).1 h
 have A:∀{u:List (Nat × Ob)} {q:Nat},(∀p∈u,p.1=0∨(q≤p.1∧p.1<q+16)∨p.2=Z4 (st.ob p.1))→(∀k,q≤k→k<q+16→¬U k)→∀k,U k→k≠0→Zk st.ob u k=st.ob k∨Zk st.ob u k=Z4 (st.ob k):=fun {u q} hu hq k hk w=>by
  have K:∀(u:List (Nat × Ob)) (ob:Nat→Ob),(∀p∈u,p.1=0∨(q≤p.1∧p.1<q+16)∨p.2=Z4 (st.ob p.1))→(ob k=st.ob k∨ob k=Z4 (st.ob k))→(Zk ob u k=st.ob k∨Zk ob u k=Z4 (st.ob k)):=by
   intro u
   induction u with
   | nil=>intro ob _ h;exact h
   | cons p u ih=>
    intro ob hp h
    refine ih _ (fun x mx=>hp x (by simp [mx])) ?_
    by_cases z:k=p.1
    ·rcases hp p yG with h1 | h1 | h1
     ·exact absurd (z.trans h1) w
     ·exact absurd (z ▸ hk) (hq p.1 h1.1 h1.2)
     ·right;rw [z,Zy];exact h1
    ·rw [ZI _ _ z];exact h
  exact K u st.ob hu (.inl rfl)
 rcases hc with ⟨l1,l2⟩ | ⟨l1,l2⟩
 ·have H:=Zup l1 h
  have I:st.ob=((st.put oi.dst vi).app ui).ob:=by
   subst H
   show st.ob=(st.put oi.dst vi).ob
   rw [QG]
  have hA:=(Zb3 (U:=U) g (.inr (.inl I))).2 h'
  have hs:=(Zfp (tt:=tt) (S:=S) (st:=st) (vi:=vi) (ui:=ui) (vj:=vj) (uj:=uj) j).1.trans (l hb)
  refine ⟨hA,?_,y (.inl H)⟩
  refine Zct hA (fun hx=>?_) (fun e=>?_)
  ·refine (Zrm i (ZmM (U:=U) l1 (ZbN i) (B hb) G fun k hk w=>?_)).1 h
   show Zk (st.put oj.dst vj).ob uj k=_∨Zk (st.put oj.dst vj).ob uj k=_
   rw [QG]
   exact A (ZmY l2 hs hx) D k hk w
  ·refine (Zb3 (U:=U) i (.inr (.inl ?_))).1 h
   subst e
   show st.ob=(st.put oj.dst vj).ob
   rw [QG]
 ·have J:=Zup l2 h'
  have hs:=(Zfp (tt:=tt) (S:=S) (st:=st) (vi:=vi) (ui:=ui) (vj:=vj) (uj:=uj) j).1.trans (l hb)
  have hA:opR tt S f.toList kj oj st vj uj:=by
   refine Zct h (fun hx=>?_) (fun e=>?_)
   ·refine (Zrm g (ZmM (U:=U) l2 (ZbN g) hs G fun k hk w=>?_)).2 h'
    show Zk (st.put oi.dst vi).ob ui k=_∨Zk (st.put oi.dst vi).ob ui k=_
    rw [QG]
    exact A (ZmY l1 (B hb) hx) C k hk w
   ·refine (Zb3 (U:=U) g (.inr (.inl ?_))).2 h'
    subst e
    show st.ob=(st.put oi.dst vi).ob
    rw [QG]
  refine ⟨hA,(Zb3 (U:=U) i (.inr (.inl ?_))).1 h,y (.inr J)⟩
  subst J
  show st.ob=(st.put oj.dst vj).ob
  rw [QG]
end
end
section
open Go.RowKit
section
variable {P:Program} {J:World→Prop} {JF:Nat→Prop} {W:QK} {U:Nat→Prop} {key:Nat} {st st':St} {w w':World} {a:Act} {tt:Nat→Option TI} {hds:FuncId→Nat} {Q:Exit→Act→World→Prop}
def ZsX [NW] (W:QK) (N:Nat) (U:Nat→Prop) (st:St):Prop:=∃a w,Inv W U st a w∧a.tmps.size=N
theorem Zs5 [NW] (htt:MOk P J JF W tt) {N:Nat} {all:List Oper} {o:Oper} {v:SV} {u:List (Nat × Ob)} (h:opR tt (SC P J JF hds) all key o st v u) (hR:ZsX W N U st) (f:∀k,key≤k→k<key+16→¬U k) (hd:∀t,o.dst=some t→t<N∧(W.hv=none∨t≠0)):
  ZsX W N (Uk U key) ((st.put o.dst v).app u):=by
 obtain ⟨a,w,hI,hN⟩:=hR
 have j:∀t,o.dst=some t→t<a.tmps.size∧(W.hv=none∨t≠0):=fun t ht=>hN ▸ hd t ht
 have l:v=.und∧u=[]→ZsX W N (Uk U key) ((st.put o.dst v).app u):=fun ⟨e1,e2⟩=>by
  subst e1 e2
  exact ⟨_,w,ZqU hI _ j,by rw [Zb2];exact hN⟩
 have q:Q5 tt (SC P J JF hds) key o st v u→ZsX W N (Uk U key) ((st.put o.dst v).app u):=fun h=>by
  obtain ⟨⟨g,hH,hS⟩,hU,i,hh⟩:=hI
  have b:∀(ts:List TypeId) (args:List Operand),ZH (SVR g w) (evs tt st ts args) (args.map a.eval)∧∀x∈evs tt st ts args,svU U x:=fun ts args=>by
   have he:args.map a.eval=(ZhJ ts args).map fun p=>a.eval p.2:=by
    have:=congrArg (A4 a.eval) (Zed ts args)
    rw [←this,Ae];rfl
   refine ⟨?_,fun x mx=>?_⟩
   ·rw [he]
    exact ZH.of_map _ _ fun p _=>(Zi6 htt.tt hS hU p.1 p.2).1
   ·obtain ⟨p,_,rfl⟩:=A7.1 mx
    exact (Zi6 htt.tt hS hU p.1 p.2).2
  cases hc:Yx o.op with
  | some c=>
   simp only[Q5,hc] at h
   obtain ⟨_,d⟩:=Zfw htt h hH hU f (b c.2.1 c.2.2).1 (b c.2.1 c.2.2).2
   obtain ⟨e,w',fr,⟨rv,_,g',t1,t2,t3,t4,t5,t6⟩,_⟩:=d []
   exact ⟨_,_,ZeE hS hU i hh j t1 t2 t3 t4 t5 t6,by rw [Zb2];exact hN⟩
  | none=>
   simp only[Q5,hc] at h
   cases hd2:YP o.op with
   | some c=>
    rw [hd2] at h
    simp only at h
    obtain ⟨fc,h1,_,h⟩:=h
    obtain ⟨cs,_,y⟩:=Zof h1 (hS c.1)
    obtain ⟨_,d⟩:=Zfw htt h hH hU f ((b c.2.1 c.2.2).1.append y) (fun x mx=>by
     rcases A5.1 mx with m | m
     ·exact (b c.2.1 c.2.2).2 x m
     ·obtain ⟨c,_,rfl⟩:=A7.1 m
      exact Y8 _)
    obtain ⟨e,w',fr,⟨rv,_,g',t1,t2,t3,t4,t5,t6⟩,_⟩:=d []
    exact ⟨_,_,ZeE hS hU i hh j t1 t2 t3 t4 t5 t6,by rw [Zb2];exact hN⟩
   | none=>
    rw [hd2] at h
    simp only at h
    obtain ⟨g',cv,w',_,t1,t2,t3,t4,t5,t6⟩:=ZmA (P:=P) (W:=W) (a:=a) htt.tt o h hH hS hU (f key (AC _) yE)
    exact ⟨_,_,ZeE hS hU i hh j t1 t2 t3 t4 t5 t6,by rw [Zb2];exact hN⟩
 unfold opR at h
 split at h
 ·exact q h
 ·exact l h
 ·unfold gK at h
  split at h
  ·split at h
   ·exact q h
   ·exact l h
  ·split at h
   ·exact l h
   ·exact h.elim
theorem Zgu {S:Ctx} {b:Bool} {all:List Oper} {base i:Nat} {r:List Nat} {K:St→Prop} {o:Oper} (ho:all[i]?=some o):ZeD tt S b all base (i::r) K st=ifB b (stk tt S o.op st) (opG tt S all (base+16 * i) o (ZeD tt S b all base r K) st):=by simp only[ZeD,ho]
theorem ZqY [NW] {S:Ctx} {all:List Oper} {base:Nat} {K:St→Prop}:∀(r:List Oper) (i:Nat) (st:St),all.drop i=r→ZY tt S all (base+16 * i) r K st→ZeD tt S false all base (List.range' i r.length) K st
 | [],_,_,_,h=>h
 | o::r,i,st,hr,h=>by
  have hi:all[i]?=some o:=by
   have:=congrArg (fun l=>l[0]?) hr
   simpa using this
  have a:all.drop (i+1)=r:=by
   have:=congrArg List.tail hr
   simpa using this
  rw [Af,Ag,Zgu hi]
  obtain ⟨v,u,h1,h2⟩:=Zgn.1 h
  refine Zgn.2 ⟨v,u,h1,ZqY r (i+1) _ a ?_⟩
  rw [show base+16 * (i+1)=base+16 * i+16 by omega]
  exact h2
theorem Znp {b c:Bool} {P:Prop}:ifB b c P↔(b=true→c=true)∧P:=by
 cases b<;>simp [ifB]
theorem ZBq [NW] (htt:MOk P J JF W tt) {b:Bool} {f:Array Oper} {N base i:Nat} {o:Oper} (ho:f.toList[i]?=some o) (hN:∀o∈f.toList,∀t,o.dst=some t→t<N∧(W.hv=none∨t≠0)) {K:St→Prop} {R2:List Nat}:∀(R1:List Nat) (U:Nat→Prop) (st:St),(R1++i::R2).Nodup→
  (∀j∈R1,∃oj,f.toList[j]?=some oj∧oj.apart f o=true∧ZrN tt hds b oj.op o.op=true)→(∀j∈R1++i::R2,∀k,base+16 * j≤k→k<base+16 * j+16→¬U k)→ZsX W N U st→
  ZeD tt (SC P J JF hds) b f.toList base (R1++i::R2) K st→(b=true→stk tt (SC P J JF hds) o.op st=true)∧opG tt (SC P J JF hds) f.toList (base+16 * i) o (ZeD tt (SC P J JF hds) b f.toList base (R1++R2) K) st:=by
 intro R1
 induction R1 with
 | nil=>
  intro U st _ _ _ _ h
  rw [List.nil_append,Zgu ho] at h
  exact Znp.1 h
 | cons j R1 ih=>
  intro U st l g hk hR h
  obtain ⟨oj,hj,m,u⟩:=g j yG
  rw [AU,Zgu hj] at h
  obtain ⟨sj,h⟩:=Znp.1 h
  obtain ⟨vj,uj,h1,h2⟩:=Zgn.1 h
  have p:=hk j yG
  have v:=hk i yG
  rw [AU,AN] at l
  have hij:i≠j:=fun e=>l.1 (by simp [e])
  have w:=Zs5 htt h1 hR p (hN oj (AT hj))
  obtain ⟨si,h3⟩:=ih (Uk U (base+16 * j)) _ l.2 (fun q mq=>g q (by simp [mq])) (fun q mq k a b hU=>by
   rcases hU with hU | ⟨c,d⟩
   ·exact hk q (by simp;simp at mq;exact .inr mq) k a b hU
   ·have:q=j:=by omega
    subst this
    exact l.1 mq) w h2
  obtain ⟨vi,ui,h4,h5⟩:=Zgn.1 h3
  obtain ⟨_,_,x,_⟩:=hR
  obtain ⟨c1,c2,c3⟩:=ZAS (tt:=tt) (S:=SC P J JF hds) (b:=b) m u x.wf p v yE sj si h1 h4
  have e1:=(Zfp (tt:=tt) (S:=SC P J JF hds) (st:=st) (vi:=vj) (ui:=uj) (vj:=vi) (uj:=ui) m).1
  have e2:=(Zfp (tt:=tt) (S:=SC P J JF hds) (st:=st) (vi:=vj) (ui:=uj) (vj:=vi) (uj:=ui) m).2
  refine ⟨fun hb=>e1.trans (si hb),Zgn.2 ⟨vi,ui,c1,?_⟩⟩
  rw [AU,Zgu hj]
  exact Znp.2 ⟨fun hb=>e2.trans (sj hb),Zgn.2 ⟨vj,uj,c2,c3 ▸ h5⟩⟩
def anc (ops:Array Oper):Nat→Nat→List Nat
 | 0,_=>[]
 | n+1,j=>match ops[j]? with
  | some o=>(o.after.toList.filter (Region.binds .any)).flatMap fun e=>e.on::anc ops n e.on
  | none=>[]
def Zmf (tt:Nat→Option TI) (hds:FuncId→Nat) (b:Bool) (ops:Array Oper) (i j:Nat):Bool:=!Nat.beq i j&&match ops[i]?,ops[j]? with
 | some oi,some oj=>(oi.after.toList.all fun e=>!Region.binds .any e||!Nat.beq e.on j)&&((anc ops ops.size j).contains i||(oi.apart ops oj&&ZrN tt hds b oi.op oj.op))
 | _,_=>true
def Zix (tt:Nat→Option TI) (hds:FuncId→Nat) (b:Bool) (ops:Array Oper):List Nat→Bool
 | []=>true
 | i::r=>r.all (Zmf tt hds b ops i)&&Zix tt hds b ops r
def elB (ops:Array Oper) (j:Nat):Bool:=match ops[j]? with
 | some oj=>oj.after.toList.all fun e=>!Region.binds .any e||(Nat.blt e.on ops.size&&!Nat.beq e.on j)
 | none=>true
def Zwg (ops:Array Oper):Bool:=(AR ops.size).all (elB ops)
def Zql (tt:Nat→Option TI) (hds:FuncId→Nat) (ops:Array Oper):Bool:=Zix tt hds false ops (AR ops.size)&&Zwg ops
def Zru (tt:Nat→Option TI) (hds:FuncId→Nat) (b:Bool) (ops:Array Oper) (l:List Nat):Bool:=Zix tt hds b ops l&&Zwg ops&&Nat.ble l.length ops.size&&l.all (Nat.blt · ops.size)&&(AR ops.size).all l.contains
theorem ZpI {a:Array Oper} (h:Zwg a=true) (j:Nat):elB a j=true:=by
 rcases AW j a.size with hj | hj
 ·exact AG.1 h j (by simpa using hj)
 ·unfold elB
  rw [AX hj]
theorem ZmE {b:Bool} {a:Array Oper}:∀{l:List Nat},Zix tt hds b a l=true→l.Pairwise fun i j=>Zmf tt hds b a i j=true
 | [],_=>List.Pairwise.nil
 | i::r,h=>by
  simp only[Zix,A6,AG] at h
  exact List.Pairwise.cons h.1 (ZmE h.2)
theorem ZqD {i j:Nat} (h:(!Nat.beq i j)=true):i≠j:=fun e=>by subst e;simp at h
theorem ZjI {b:Bool} {a:Array Oper} {i j:Nat} {oi oj:Oper} (h:Zmf tt hds b a i j=true) (hi:a[i]?=some oi) (hj:a[j]?=some oj):(∀e∈oi.after,Region.binds .any e=true→e.on≠j)∧(i∈anc a a.size j∨(oi.apart a oj=true∧ZrN tt hds b oi.op oj.op=true)):=by
 simp only[Zmf,hi,hj,A6,AG,AK] at h
 refine ⟨fun e me hb=>?_,h.2.2.imp (fun h=>by simpa using h) fun h=>h⟩
 have h1:=h.2.1 e (by simpa using me)
 rw [hb] at h1
 exact ZqD (h1.resolve_left yG)
theorem Zlf {b:Array Oper} {a:Array Bool} (c:∀i o,b[i]?=some o→a.getD i false=true→∀e∈o.after,Region.binds .any e=true→a.getD e.on false=true):
  ∀(n j:Nat) (o:Oper),b[j]?=some o→(∀e∈o.after,Region.binds .any e=true→a.getD e.on false=true)→∀i∈anc b n j,a.getD i false=true
 | 0,j,o,_,_,i,mi=>by simp [anc] at mi
 | n+1,j,o,ho,he,i,mi=>by
  simp only[anc,ho,List.mem_flatMap,List.mem_filter] at mi
  obtain ⟨e,⟨me,hb⟩,mi⟩:=mi
  have hl:=he e (by simpa using me) hb
  rcases AD.1 mi with rfl | mi
  ·exact hl
  ·cases ho':b[e.on]? with
   | none=>cases n<;>simp [anc,ho'] at mi
   | some o'=>exact Zlf c n e.on o' ho' (fun e' d f=>c e.on o' ho' hl e' d f) i mi
theorem ZrL [NW] (htt:MOk P J JF W tt) {b:Bool} {g:Array Oper} {N base:Nat} (hN:∀o∈g.toList,∀t,o.dst=some t→t<N∧(W.hv=none∨t≠0)) (hE:∀j,elB g j=true) {K:St→Prop}
  (hQ:∀U' st' a' w',Inv W U' st' a' w'→(∀k,base+16 * g.size≤k→¬U' k)→a'.tmps.size=N→K st'→Q .normal a' w'):
  ∀(p:Nat) (R:List Nat) (f:Array Bool) (U:Nat→Prop) (st:St) (a:Act) (w:World),R.length≤p→R.Pairwise (fun i j=>Zmf tt hds b g i j=true)→f.size=g.size→(∀i,i∈R↔(i<g.size∧f.getD i true=false))→
   (∀i o,g[i]?=some o→f.getD i false=true→∀e∈o.after,Region.binds .any e=true→f.getD e.on false=true)→
   ZeD tt (SC P J JF hds) b g.toList base R K st→Inv W U st a w→(∀j∈R,∀k,base+16 * j≤k→k<base+16 * j+16→¬U k)→(∀k,base+16 * g.size≤k→¬U k)→a.tmps.size=N→wpAny P .any g Q p f a w:=by
 have L:∀j oj,g[j]?=some oj→∀e∈oj.after,Region.binds .any e=true→e.on<g.size∧e.on≠j:=fun j oj hj e me hb=>by
  have h1:=hE j
  simp only[elB,hj,AG,AK,A6] at h1
  have h2:=h1 e (by simpa using me)
  rw [hb] at h2
  have h3:=h2.resolve_left yG
  exact ⟨AA h3.1,ZqD h3.2⟩
 intro p
 induction p with
 | zero=>
  intro R f U st a w B _ y l _ h hI _ hU hs
  have hR:R=[]:=List.eq_nil_of_length_eq_zero yE
  subst hR
  refine ⟨?_,hQ U st a w hI hU hs h⟩
  rw [List.eq_nil_iff_forall_not_mem]
  intro i mi
  obtain ⟨h1,o,h2,_⟩:=mem_ready.1 mi
  exact absurd ((l i).2 ⟨(AY.1 h2).1,h1⟩) yG
 | succ p ih=>
  intro R f U st a w B z y l F h hI hk hU hs
  refine ⟨fun hr=>?_,fun i mi=>?_⟩
  ·cases R with
   | nil=>exact hQ U st a w hI hU hs h
   | cons r0 R=>
    exfalso
    obtain ⟨m1,m2⟩:=(l r0).1 yG
    have:r0∈Region.ready .any g f:=mem_ready.2 ⟨m2,g[r0],by simp [m1],fun e me hb=>by
     have x:=L r0 g[r0] (by simp [m1]) e me hb
     by_cases hl:f.getD e.on true=false
     ·have mR:=(l e.on).2 ⟨x.1,hl⟩
      rcases AD.1 mR with e1 | mR
      ·exact absurd e1 x.2
      ·exact absurd rfl ((ZjI ((List.pairwise_cons.1 z).1 _ mR) (oi:=g[r0]) (oj:=g[e.on]'x.1) (by simp [m1]) (by simp [x.1])).1 e me hb)
     ·have G:e.on<f.size:=by omega
      simp only[AB,G,getElem?_pos,AZ,Bool.not_eq_false] at hl ⊢
      exact hl⟩
    rw [hr] at this
    simp at this
  ·obtain ⟨i1,o,i2,i3⟩:=mem_ready.1 mi
   have C:i<g.size:=(AY.1 i2).1
   have M:i∈R:=(l i).2 ⟨C,i1⟩
   obtain ⟨R1,R2,rfl⟩:=List.append_of_mem M
   have A:(R1++i::R2).Nodup:=z.imp fun h=>by
    simp only[Zmf,A6] at h
    exact ZqD h.1
   have ho:g.toList[i]?=some o:=by simpa using i2
   have H:=Zlf F g.size i o i2 i3
   have D:∀j∈R1,∃oj,g.toList[j]?=some oj∧oj.apart g o=true∧ZrN tt hds b oj.op o.op=true:=fun j mj=>by
    obtain ⟨j1,j2⟩:=(l j).1 (by simp [mj])
    have O:=(List.pairwise_append.1 z).2.2 j mj i yG
    have hj:g[j]?=some g[j]:=by simp [j1]
    refine ⟨g[j],by simp [j1],(ZjI O hj i2).2.resolve_left fun ma=>?_⟩
    have:=H j ma
    have x:j<f.size:=by omega
    simp only[AB,x,getElem?_pos,AZ] at this j2
    rw [this] at j2;simp at j2
   have S:=(ZBq htt ho hN R1 U st A D hk ⟨a,w,hI,hs⟩ h).2
   refine wpOp_mono ?_ (ZmK htt i2 S hI (hk i yG) (fun t ht=>by rw [hs];exact hN o (AT ho) t ht))
   rintro a' w' ⟨st',T,hs',V⟩
   have I:∀q,(f.setIfInBounds i true).getD q true=if q=i then true else f.getD q true:=fun q=>by
    by_cases e:q=i
    ·subst e;simp [AB,AS,y,C]
    ·simp [AB,AP (fun e':i=q=>e e'.symm),e]
   have E:∀q,(f.setIfInBounds i true).getD q false=if q=i then true else f.getD q false:=fun q=>by
    by_cases e:q=i
    ·subst e;simp [AB,AS,y,C]
    ·simp [AB,AP (fun e':i=q=>e e'.symm),e]
   have v:i∉R1++R2:=by
    rw [AO] at A
    intro m
    rcases A5.1 m with m | m
    ·exact A.2.2 i m i yG rfl
    ·exact (AN.1 A.2.1).1 m
   refine ih (R1++R2) _ (Uk U (base+16 * i)) st' a' w' (by simp at B ⊢;omega) (z.sublist (Aa (Aj _) (List.sublist_cons_self i R2))) (by simp [y]) (fun q=>?_) (fun q oq hq hl e me hb=>?_) V T (fun q mq k c d u=>?_) (fun k X u=>?_) yE
   ·rw [I q]
    by_cases e:q=i
    ·subst e;simp only[if_true,Bool.true_eq_false,and_false,iff_false];exact v
    ·rw [if_neg e,←l q];simp [e]
   ·rw [E] at hl ⊢
    by_cases e1:e.on=i
    ·simp [e1]
    ·rw [if_neg e1]
     by_cases e2:q=i
     ·subst e2
      rw [i2] at hq
      simp only[A0] at hq
      subst hq
      exact i3 e me hb
     ·rw [if_neg e2] at hl
      exact F q oq hq hl e me hb
   ·have Y:q∈R1++i::R2:=by simp at mq ⊢;rcases mq with mq | mq<;>simp [mq]
    rcases u with u | ⟨c',d'⟩
    ·exact hk q Y k c d u
    ·have:q=i:=by omega
     subst this
     exact v mq
   ·rcases u with u | ⟨c',d'⟩
    ·exact hU k X u
    ·omega
end
end
section
open Go.RowKit
theorem ZqS:∀{ρ:List Nat} {k i j:Nat},Znd ρ k i=some j→i≤j∧ρ[j - i]?=some k
 | [],_,_,_,h=>by simp [Znd] at h
 | x::r,k,i,j,h=>by
  simp only[Znd] at h
  split at h
  ·rename_i e
   simp only[A0] at h
   subst h e
   exact ⟨AC _,yG⟩
  ·obtain ⟨h1,h2⟩:=ZqS h
   refine ⟨yE,?_⟩
   rw [show j - i=(j - (i+1))+1 by omega]
   simpa using h2
theorem Zcv [NW] {ρ:List Nat} {k j:Nat} (h:Znd ρ k 0=some j):ρ[j]?=some k:=by simpa using (ZqS h).2
theorem Zmi {α:Type}:∀{l:List α},l.Nodup→∀{i j:Nat} (hi:i<l.length) (hj:j<l.length),l[i]=l[j]→i=j
 | [],_,_,_,hi,_,_=>by simp at hi
 | x::l,h,0,0,_,_,_=>rfl
 | x::l,h,0,j+1,_,hj,e=>by
  rw [AN] at h
  exact absurd (by simp at e;rw [e];exact Ak _) h.1
 | x::l,h,i+1,0,hi,_,e=>by
  rw [AN] at h
  exact absurd (by simp at e;rw [←e];exact Ak _) h.1
 | x::l,h,i+1,j+1,hi,hj,e=>by
  rw [AN] at h
  have:=Zmi h.2 (i:=i) (j:=j) (by simpa using hi) (by simpa using hj) (by simpa using e)
  omega
section
variable {P:Program} {J:World→Prop} {JF:Nat→Prop} {W:QK} {U:Nat→Prop} {st st':St} {w w':World} {a:Act} {tt:Nat→Option TI} {S:Ctx}
theorem ZAi [NW] {g g':Gh} {ρ:List Nat} (hv:∀j k,ρ[j]?=some k→g'.val j=g.val k) (ho:Y7 g' g) {x:AV} {v:Value} (h:AVR g w x v):AVR g' w (rAV ρ x) v:=by
 cases x with
 | c x=>obtain ⟨L,h1,h2⟩:=h;exact ⟨L,h1,fun b m o=>h2 b m (ho.own b o)⟩
 | n x=>exact NR.move h (fun _ _ _=>rfl) (ho.grow _)
 | row k=>
  simp only[rAV]
  split
  ·rename_i j hj
   exact ⟨by rw [hv j k (Zcv hj)];exact h.1,h.2⟩
  ·exact h.2
 | nil e m=>exact h
 | dead=>exact h
theorem ZH.map_left {α β γ:Type} {R:α→γ→Prop} {R':β→γ→Prop} (f:α→β) (h:∀a c,R a c→R' (f a) c):∀{l:List α} {r:List γ},ZH R l r→ZH R' (l.map f) r
 | [],[],_=>trivial
 | _::_,_::_,hh=>⟨h _ _ hh.1,hh.2.map_left f h⟩
 | [],_::_,h=>h.elim
 | _::_,[],h=>h.elim
theorem Zut [NW] (ρ:List Nat) (x:AV):avU (fun j=>j<ρ.length) (rAV ρ x):=by
 cases x with
 | row k=>
  simp only[rAV]
  split
  ·rename_i j hj
   exact (AE.1 (Zcv hj)).1
  ·trivial
 | _=>trivial
theorem ZqZ [NW] (hI:Inv W U st a w) {ρ:List Nat} (hρ:ρ.Nodup):Inv W (fun j=>j<ρ.length) (st.ren ρ) a w:=by
 obtain ⟨⟨g,hH,hS⟩,hU,hdef,hh⟩:=hI
 let g':Gh:=⟨fun j=>match ρ[j]? with | some k=>g.val k | none=>undef,fun j=>match ρ[j]? with | some k=>g.O k | none=>[],fun j=>match ρ[j]? with | some k=>g.D k | none=>[],g.Z⟩
 have gs:∀j k,ρ[j]?=some k→g'.val j=g.val k∧g'.O j=g.O k∧g'.D j=g.D k:=fun j k h=>by simp [g',h]
 have gn:∀j,ρ[j]?=none→g'.O j=[]∧g'.D j=[]:=fun j h=>by simp [g',h]
 have ho:∀b,g'.own b→g.own b:=fun b hb=>by
  rcases hb with ⟨j,mj⟩ | hz
  ·cases h:ρ[j]? with
   | none=>rw [(gn j h).1] at mj;simp at mj
   | some k=>rw [(gs j k h).2.1] at mj;exact .inl ⟨k,mj⟩
  ·exact .inr hz
 have hless:Y7 g' g:=.of ho fun j b mb=>by
  cases h:ρ[j]? with
  | none=>rw [(gn j h).2] at mb;simp at mb
  | some k=>rw [(gs j k h).2.2] at mb;exact ⟨k,mb⟩
 have hAV:∀x v,AVR g w x v→AVR g' w (rAV ρ x) v:=fun x v h=>ZAi (fun j k hjk=>(gs j k hjk).1) hless h
 have hAVs:∀xs vs,ZH (AVR g w) xs vs→ZH (AVR g' w) (xs.map (rAV ρ)) vs:=fun xs vs h=>h.map_left _ hAV
 have hPV:∀ag cs v,PVR g w ag cs v→PVR g' w ag (cs.map (rAV ρ)) v:=fun ag cs v h=>by
  cases ag with
  | true=>obtain ⟨vs,h1,h2⟩:=h;exact ⟨vs,h1,hAVs _ _ h2⟩
  | false=>obtain ⟨x,rfl,h2⟩:=h;exact ⟨_,rfl,hAV _ _ h2⟩
 refine ⟨⟨g',⟨hH.below,fun j=>?_,fun j=>?_,fun j i hji b mb=>?_,fun j b mb=>?_,hH.gz,hH.zx,hH.nw⟩,fun t=>?_⟩,⟨fun t=>?_,fun j=>?_,fun j hj=>?_⟩,hdef,hh⟩
 ·show ObR g' w j (match ρ[j]? with | some k=>rOb ρ (st.ob k) | none=>.gone)
  cases h:ρ[j]? with
  | none=>exact gn j h
  | some k=>
   obtain ⟨e1,e2,e3⟩:=gs j k h
   have hob:=hH.obs k
   show ObR g' w j (rOb ρ (st.ob k))
   cases hok:st.ob k with
   | gone=>rw [hok] at hob;exact ⟨e2.trans hob.1,e3.trans hob.2⟩
   | box t cs=>
    rw [hok] at hob
    obtain ⟨b,vs,h1,h2,h3,h4,h5⟩:=hob
    exact ⟨b,vs,e1.trans h1,e2.trans h2,e3.trans h3,h4,hAVs _ _ h5⟩
   | map kk vk kv=>
    rw [hok] at hob
    obtain ⟨b,es,c,h1,h2,h3,h4⟩:=hob
    exact ⟨b,es,c,e1.trans h1,e2.trans h2,e3.trans h3,h4⟩
   | row e m xs d=>
    rw [hok] at hob
    obtain ⟨hm,cs,L,h1,h2,h4⟩:=hob
    refine ⟨hm,cs,L,by rw [e1];exact h1,h2,?_⟩
    rw [e1,e2,e3]
    rcases h4 with h4 | ⟨hd,h3,h4,h5⟩ | ⟨hd,h3,h4,h5⟩
    ·exact .inl h4
    ·exact .inr (.inl ⟨hd,h3,h4,fun b mb o=>h5 b mb (ho b o)⟩)
    ·exact .inr (.inr ⟨hd,h3,h4,fun b mb o=>h5 b mb (ho b o)⟩)
 ·cases h:ρ[j]? with
  | none=>rw [(gn j h).1,(gn j h).2];simp
  | some k=>rw [(gs j k h).2.1,(gs j k h).2.2];exact hH.nodup k
 ·cases h:ρ[j]? with
  | none=>rw [(gn j h).1,(gn j h).2] at mb;simp at mb
  | some k=>
   rw [(gs j k h).2.1,(gs j k h).2.2] at mb
   cases h':ρ[i]? with
   | none=>rw [(gn i h').1,(gn i h').2];simp
   | some q=>
    rw [(gs i q h').2.1,(gs i q h').2.2]
    refine hH.apart k q (fun e=>hji ?_) b mb
    subst e
    obtain ⟨l1,e1⟩:=AE.1 h
    obtain ⟨l2,e2⟩:=AE.1 h'
    exact Zmi hρ l1 l2 (e1.trans e2.symm)
 ·cases h:ρ[j]? with
  | none=>rw [(gn j h).1,(gn j h).2] at mb;simp at mb
  | some k=>
   rw [(gs j k h).2.1,(gs j k h).2.2] at mb
   refine ⟨(hH.plain k b mb).1,(hH.plain k b mb).2.of ?_⟩
   show ZhR (match ρ[j]? with | some k=>rOb ρ (st.ob k) | none=>.gone)=_
   rw [h]
   show ZhR (rOb ρ (st.ob k))=_
   cases st.ob k<;>rfl
 ·have hs:=hS t
  show SVR g' w (rSV ρ (st.sl t)) _
  cases hsl:st.sl t with
  | any=>trivial
  | und=>rw [hsl] at hs;exact hs
  | p ag cs=>rw [hsl] at hs;exact hPV _ _ _ hs
  | tup xs=>
   rw [hsl] at hs
   obtain ⟨vs,h1,h2⟩:=hs
   exact ⟨vs,h1,h2.map_left (fun x:Bool × List AV=>(x.1,x.2.map (rAV ρ))) fun x v h=>hPV x.1 x.2 v h⟩
  | bp k off=>
   rw [hsl] at hs
   simp only[rSV]
   split
   ·rename_i j hj
    obtain ⟨b,h1,h2⟩:=hs
    exact ⟨b,((gs j k (Zcv hj)).1).trans h1,h2⟩
   ·trivial
  | rp k m i off=>
   rw [hsl] at hs
   simp only[rSV]
   split
   ·rename_i j hj
    obtain ⟨b,o,n,c,h1,h2⟩:=hs
    exact ⟨b,o,n,c,((gs j k (Zcv hj)).1).trans h1,h2⟩
   ·trivial
  | ep e off=>
   rw [hsl] at hs
   obtain ⟨b,lo,cs,L,h1,h2,h3,h4,h5⟩:=hs
   exact ⟨b,lo,cs,L,h1,h2,h3,fun x m o=>h4 x m (ho x o),h5⟩
  | fn f=>rw [hsl] at hs;exact hs
 ·show svU _ (rSV ρ (st.sl t))
  cases st.sl t with
  | p ag cs=>intro y my;obtain ⟨x,_,rfl⟩:=A7.1 my;exact Zut ρ x
  | tup xs=>
   intro y my
   obtain ⟨x,_,rfl⟩:=A7.1 my
   intro z mz
   obtain ⟨q,_,rfl⟩:=A7.1 mz
   exact Zut ρ q
  | bp k off=>
   simp only[rSV]
   split
   ·rename_i j hj;exact (AE.1 (Zcv hj)).1
   ·trivial
  | rp k m i off=>
   simp only[rSV]
   split
   ·rename_i j hj;exact (AE.1 (Zcv hj)).1
   ·trivial
  | _=>trivial
 ·show obU _ (match ρ[j]? with | some k=>rOb ρ (st.ob k) | none=>.gone)
  split
  ·rename_i k _
   cases st.ob k with
   | box t cs=>intro y my;obtain ⟨x,_,rfl⟩:=A7.1 my;exact Zut ρ x
   | _=>trivial
  ·trivial
 ·show (match ρ[j]? with | some k=>rOb ρ (st.ob k) | none=>.gone)=.gone
  have:ρ[j]?=none:=List.getElem?_eq_none (by omega)
  rw [this]
theorem Zu7 [NW] {g:Gh} {ob:Nat→Ob} (hI:HI W g ob w) {k e m d d':Nat} {xs:List (List CT)} (hk:ob k=.row e m xs d) (hd:d'<d):∃g1:Gh,HI W g1 (upd ob k (.row e m xs d')) w∧g1.val=g.val∧Y7 g1 g:=by
 by_cases h0:d'=0
 ·obtain ⟨g1,h1,h2,h3,_⟩:=ZhF hI k
  rw [hk] at h1
  exact ⟨g1,by rw [h0];exact h1,h2,h3⟩
 ·have ho:=hI.obs k
  rw [hk] at ho
  obtain ⟨hm,cs,L,o1,o2,o3⟩:=ho
  have h2:d=2∧g.O k=(g.val k).ownBlock.toList∧g.D k=L:=by
   rcases o3 with o3 | ⟨q,_⟩ | ⟨q,_⟩
   ·exact o3
   ·omega
   ·omega
  obtain ⟨rfl,q1,q2⟩:=h2
  obtain rfl:d'=1:=by omega
  let g1:Gh:=⟨g.val,g.O,upd g.D k [],g.Z⟩
  have hown:∀b,g1.own b↔g.own b:=fun b=>Iff.rfl
  have l:Y7 g1 g:=.of (fun b hb=>hb) fun j b mb=>by
   by_cases hj:j=k
   ·subst hj;simp [g1,upd] at mb
   ·exact ⟨j,by simpa [g1,upd,hj] using mb⟩
  have f:∀j b,b∈g1.O j++g1.D j→b∈g.O j++g.D j:=fun j b mb=>by
   by_cases hj:j=k
   ·subst hj;simp [g1,upd] at mb;simp [mb]
   ·simpa [g1,upd,hj] using mb
  refine ⟨g1,⟨hI.below,fun j=>?_,fun j=>?_,fun i j o b mb mj=>hI.apart i j o b (f i b mb) (f j b mj),fun j b mb=>⟨(hI.plain j b (f j b mb)).1,(hI.plain j b (f j b mb)).2.of (by
   by_cases hj:j=k
   ·subst hj;rw [Zy,hk];rfl
   ·rw [ZI _ _ hj])⟩,hI.gz,hI.zx,hI.nw⟩,rfl,l⟩
  ·by_cases hj:j=k
   ·subst hj
    rw [Zy]
    refine ⟨hm,cs,L,o1,o2,.inr (.inl ⟨rfl,q1,by simp [g1,upd],fun b mb hb=>?_⟩)⟩
    have mk:b∈g.D j:=by rw [q2];exact mb
    rcases hb with ⟨i,mi⟩ | hz
    ·by_cases o:i=j
     ·subst o
      have:=hI.nodup i
      rw [AO] at this
      exact this.2.2 b mi b mk rfl
     ·exact hI.apart i j o b (by simp;exact .inl mi) (by simp [mk])
    ·exact hI.nz (k:=j) (b:=b) (by simp [mk]) hz
   ·rw [ZI _ _ hj]
    have a:=hI.obs j
    cases hh:ob j with
    | gone=>rw [hh] at a;exact ⟨a.1,by simpa [g1,upd,hj] using a.2⟩
    | box t ds=>
     rw [hh] at a
     obtain ⟨b,vs,h1,h2,h3,h4,h5⟩:=a
     exact ⟨b,vs,h1,h2,by simpa [g1,upd,hj] using h3,h4,h5.mono fun x u _ hx=>AVR.less hx rfl l⟩
    | map kk vk kv=>
     rw [hh] at a
     obtain ⟨b,es,c,h1,h2,h3,h4⟩:=a
     exact ⟨b,es,c,h1,h2,by simpa [g1,upd,hj] using h3,h4⟩
    | row e' m' xs' d2=>
     rw [hh] at a
     obtain ⟨p,v,L',p1,p2,p3⟩:=a
     refine ⟨p,v,L',p1,p2,?_⟩
     have e2:g1.D j=g.D j:=by simp [g1,upd,hj]
     rw [e2]
     exact p3
  ·by_cases hj:j=k
   ·subst hj
    have:=hI.nodup j
    rw [AO] at this
    simpa [g1,upd] using this.1
   ·have:=hI.nodup j
    simpa [g1,upd,hj] using this
theorem ZuE [NW] (m:Bool × Nat × Nat) (hI:Inv W U st a w) (hk:∀k,st.n≤k→¬U k):∃U',Inv W U' (st.mat m) a w∧∀k,(st.mat m).n≤k→¬U' k:=by
 have A:∃U',Inv W U' st a w∧∀k,st.n≤k→¬U' k:=⟨U,hI,hk⟩
 have S:¬U st.n:=hk st.n (AC _)
 have N:∀k,st.n+1≤k→¬(U k∨k=st.n):=fun k l h=>by
  rcases h with h | h
  ·exact hk k yE h
  ·omega
 have T:∀(e q:Nat),0<q→∀g,HI W g st.ob w→∃g',HI W g' (upd st.ob st.n (.row e q [] 2)) w∧(∀x u,svU U x→SVR g w x u→SVR g' w x u)∧g'.val st.n=.slice none 0 0∧(∀x u,avU U x→AVR g w x u→AVR g' w x u):=fun e q hq g hH=>by
  obtain ⟨t1,t2⟩:=hH.turn (key:=st.n) (U:=U) (w':=w) (v:=.slice none 0 0) (O:=[]) (D:=[]) (o:=.row e q [] 2) hI.wf.ob S [] yG hH.below (AC _) (fun _ _ _=>rfl) yG yG yG yG
   (fun _=>⟨hq,[],[],by simpa [Gh.turn,upd] using ZiJ _ _ _ _,⟨rfl,rfl⟩,.inl ⟨rfl,by simp [Gh.turn,upd,Value.ownBlock],by simp [Gh.turn]⟩⟩)
  refine ⟨_,t1,t2,by simp [Gh.turn,upd],fun x u hx hu=>hu.move hx (fun k l=>ZI _ _ fun e=>S (e ▸ l)) (fun _ _ _=>rfl) (Zm7 yG yG)⟩
 have up:∀k,U k→(U k∨k=st.n):=fun _ h=>.inl h
 obtain ⟨⟨g,hH,hS⟩,hU,B,hh⟩:=hI
 have P:∀k e q xs d,st.ob k=.row e q xs d→∃g1:Gh,HI W g1 (upd st.ob k (.row e q xs 0)) w∧g1.val=g.val∧Y7 g1 g∧U k∧∀v,AVR g w (.row k) v→AVR g1 w (.c (.sl e q xs)) v:=fun k e q xs d f=>by
  obtain ⟨g1,i1,i2,i3,_⟩:=ZhF hH k
  rw [f] at i1
  obtain ⟨L,t1,t2⟩:=ZoZ i1 (Zy st.ob k (.row e q xs 0))
  exact ⟨g1,i1,i2,i3,Classical.byContradiction fun hn=>by have:=hU.gone _ hn;rw [f] at this;simp at this,fun v hv=>⟨L,by rw [hv.1,←i2];exact t1,t2⟩⟩
 have Q:∀{gg:Gh} {cs:List AV} {vs:List Value} {j:Nat} {y:AV} {v:Value},ZH (AVR gg w) cs vs→vs[j]?=some v→AVR gg w y v→ZH (AVR gg w) (cs.set j y) vs:=fun {gg cs vs j y v} h1 h2 h3=>by
  have:=h1.set (i:=j) h3
  obtain ⟨hl,he⟩:=AE.1 h2
  rw [←he,Ab hl] at this
  exact this
 have R:∀{gg:Gh} {ag:Bool} {cs:List AV} {v:Value} {j:Nat} {x y:AV},PVR gg w ag cs v→cs[j]?=some x→(∀u,AVR gg w x u→AVR gg w y u)→PVR gg w ag (cs.set j y) v:=fun {gg ag cs v j x y} h1 h2 h3=>by
  cases ag with
  | true=>
   obtain ⟨vs,rfl,h4⟩:=h1
   obtain ⟨u,u1,u2⟩:=h4.at h2
   exact ⟨vs,rfl,Q h4 u1 (h3 u u2)⟩
  | false=>
   obtain ⟨z,rfl,h4⟩:=h1
   cases j with
   | zero=>simp at h2;subst h2;exact ⟨y,rfl,h3 v h4⟩
   | succ j=>simp at h2
 have K:∀{V:Nat→Prop} {cs:List AV} {j:Nat} {y:AV},X6 V cs→avU V y→X6 V (cs.set j y):=fun {V cs j y} h1 h2 z mz=>by
  rcases Ac mz with mz | mz
  ·exact h1 z mz
  ·subst mz;exact h2
 unfold St.mat
 split
 ·split
  ·rename_i ag cs X
   have G:X6 U cs:=by have:=hU.sl m.2.1;rw [X] at this;exact this
   have hs:=hS m.2.1
   rw [X] at hs
   split
   ·rename_i e q H
    split
    ·rename_i hq
     obtain ⟨g',t1,t2,t3,t4⟩:=T e q hq g hH
     refine ⟨fun k=>U k∨k=st.n,⟨⟨g',t1,fun t=>?_⟩,⟨fun t=>?_,fun k=>?_,fun k l=>?_⟩,B,hh⟩,N⟩
     ·show SVR g' w (upd st.sl m.2.1 (.p ag (cs.set m.2.2 (.row st.n))) t) _
      by_cases ht:t=m.2.1
      ·subst ht
       rw [Zy]
       have h1:PVR g' w ag cs (a.tmps.getD m.2.1 undef):=t2 (.p ag cs) _ G hs
       refine R h1 H fun u hu=>?_
       have Z:u=.slice none 0 0:=hu
       rw [Z]
       exact ⟨t3.symm,rfl⟩
      ·rw [ZI _ _ ht];exact t2 _ _ (hU.sl t) (hS t)
     ·show svU _ (upd st.sl m.2.1 (.p ag (cs.set m.2.2 (.row st.n))) t)
      by_cases ht:t=m.2.1
      ·subst ht;rw [Zy];exact K (G.mono up) (.inr rfl)
      ·rw [ZI _ _ ht];exact (hU.sl t).mono up
     ·show obU _ (upd st.ob st.n _ k)
      by_cases l:k=st.n
      ·subst l;rw [Zy];trivial
      ·rw [ZI _ _ l];exact (hU.ob k).mono up
     ·show upd st.ob st.n _ k=_
      rw [ZI _ _ fun e=>l (.inr e)];exact hU.gone k fun h=>l (.inl h)
    ·exact A
   ·rename_i k H
    split
    ·rename_i e q xs d f
     obtain ⟨g1,i1,i2,i3,C,i4⟩:=P k e q xs d f
     refine ⟨U,⟨⟨g1,i1,fun t=>?_⟩,⟨fun t=>?_,fun j=>?_,fun j hj=>?_⟩,B,hh⟩,hk⟩
     ·show SVR g1 w (upd st.sl m.2.1 (.p ag (cs.set m.2.2 (.c (.sl e q xs)))) t) _
      by_cases ht:t=m.2.1
      ·subst ht
       rw [Zy]
       have h1:PVR g1 w ag cs (a.tmps.getD m.2.1 undef):=(show SVR g w (.p ag cs) _ from hs).less i2 i3
       exact R h1 H fun u hu=>i4 u ⟨hu.1.trans (by rw [i2]),hu.2⟩
      ·rw [ZI _ _ ht];exact (hS t).less i2 i3
     ·show svU _ (upd st.sl m.2.1 (.p ag (cs.set m.2.2 (.c (.sl e q xs)))) t)
      by_cases ht:t=m.2.1
      ·subst ht;rw [Zy];exact K G trivial
      ·rw [ZI _ _ ht];exact hU.sl t
     ·show obU U (upd st.ob k (.row e q xs 0) j)
      by_cases h1:j=k
      ·subst h1;rw [Zy];trivial
      ·rw [ZI _ _ h1];exact hU.ob j
     ·show upd st.ob k (.row e q xs 0) j=_
      rw [ZI _ _ (show j≠k from fun e'=>hj (e' ▸ C))];exact hU.gone j hj
    ·exact A
   ·exact A
  ·exact A
 ·split
  ·rename_i ty cs f
   split
   ·rename_i e q H
    split
    ·rename_i hq
     obtain ⟨g',t1,t2,t3,t4⟩:=T e q hq g hH
     have C:U m.2.1:=Classical.byContradiction fun hn=>by have:=hU.gone _ hn;rw [f] at this;simp at this
     have E:m.2.1≠st.n:=fun e=>S (e ▸ C)
     have G:X6 U cs:=by have:=hU.ob m.2.1;rw [f] at this;exact this
     have F:=t1.obs m.2.1
     rw [ZI _ _ E,f] at F
     obtain ⟨b,vs,b1,b2,b3,b4,b5⟩:=F
     obtain ⟨u,u1,u2⟩:=b5.at H
     have Y:u=.slice none 0 0:=u2
     have aa:vs.set m.2.2 u=vs:=by
      obtain ⟨hl,he⟩:=AE.1 u1
      rw [←he];exact Ab hl
     have I:ObR g' w m.2.1 (.box ty (cs.set m.2.2 (.row st.n))):=by
      refine ⟨b,vs,b1,b2,b3,b4,?_⟩
      have:=b5.set (i:=m.2.2) (a:=AV.row st.n) (b:=u) ⟨by rw [Y,t3],by rw [Y];rfl⟩
      rw [aa] at this
      exact this
     have J:∀k,(upd (upd st.ob m.2.1 (.box ty (cs.set m.2.2 (.row st.n)))) st.n (.row e q [] 2)) k=if k=m.2.1 then .box ty (cs.set m.2.2 (.row st.n)) else (upd st.ob st.n (.row e q [] 2)) k:=fun k=>by
      by_cases h1:k=st.n
      ·have h2:¬k=m.2.1:=fun e'=>E (e'.symm.trans h1)
       have h3:¬st.n=m.2.1:=fun e'=>E e'.symm
       simp [upd,h1,h3]
      ·by_cases h2:k=m.2.1
       ·simp [upd,h2,E]
       ·simp [upd,h1,h2]
     refine ⟨fun k=>U k∨k=st.n,⟨⟨g',⟨t1.below,fun k=>?_,t1.nodup,t1.apart,fun k b mb=>⟨(t1.plain k b mb).1,(t1.plain k b mb).2.of (by
       show ZhR ((upd (upd st.ob m.2.1 (.box ty (cs.set m.2.2 (.row st.n)))) st.n (.row e q [] 2)) k)=_
       rw [J k]
       split
       ·rename_i h1;subst h1;rw [ZI _ _ E,f];rfl
       ·rfl)⟩,t1.gz,t1.zx,t1.nw⟩,fun t=>t2 _ _ (hU.sl t) (hS t)⟩,⟨fun t=>(hU.sl t).mono up,fun k=>?_,fun k l=>?_⟩,B,hh⟩,N⟩
     ·show ObR g' w k ((upd (upd st.ob m.2.1 (.box ty (cs.set m.2.2 (.row st.n)))) st.n (.row e q [] 2)) k)
      rw [J k]
      split
      ·rename_i h1;subst h1;exact I
      ·exact t1.obs k
     ·show obU _ ((upd (upd st.ob m.2.1 (.box ty (cs.set m.2.2 (.row st.n)))) st.n (.row e q [] 2)) k)
      rw [J k]
      split
      ·intro y my
       rcases Ac my with my | my
       ·exact (G y my).mono up
       ·subst my;exact .inr rfl
      ·by_cases h1:k=st.n
       ·subst h1;rw [Zy];trivial
       ·rw [ZI _ _ h1];exact (hU.ob k).mono up
     ·show (upd (upd st.ob m.2.1 (.box ty (cs.set m.2.2 (.row st.n)))) st.n (.row e q [] 2)) k=_
      rw [J k,if_neg (show ¬k=m.2.1 from fun e'=>l (.inl (e' ▸ C))),ZI _ _ (show k≠st.n from fun e'=>l (.inr e'))]
      exact hU.gone k fun h=>l (.inl h)
    ·exact A
   ·rename_i k H
    split
    ·rename_i e q xs d M
     obtain ⟨g1,i1,i2,i3,C,i4⟩:=P k e q xs d M
     have ab:U m.2.1:=Classical.byContradiction fun hn=>by have:=hU.gone _ hn;rw [f] at this;simp at this
     have E:k≠m.2.1:=fun e'=>by rw [e',f] at M;simp at M
     have G:X6 U cs:=by have:=hU.ob m.2.1;rw [f] at this;exact this
     have F:=i1.obs m.2.1
     rw [ZI _ _ (fun e'=>E e'.symm),f] at F
     obtain ⟨b,vs,b1,b2,b3,b4,b5⟩:=F
     obtain ⟨u,u1,u2⟩:=b5.at H
     have I:ObR g1 w m.2.1 (.box ty (cs.set m.2.2 (.c (.sl e q xs)))):=⟨b,vs,b1,b2,b3,b4,Q b5 u1 (i4 u ⟨u2.1.trans (by rw [i2]),u2.2⟩)⟩
     refine ⟨U,⟨⟨g1,⟨i1.below,fun j=>?_,i1.nodup,i1.apart,fun j b mb=>⟨(i1.plain j b mb).1,(i1.plain j b mb).2.of (by
       show ZhR (upd (upd st.ob k (.row e q xs 0)) m.2.1 (.box ty (cs.set m.2.2 (.c (.sl e q xs)))) j)=_
       by_cases h1:j=m.2.1
       ·subst h1;rw [Zy,ZI _ _ (fun e'=>E e'.symm),f];rfl
       ·rw [ZI _ _ h1])⟩,i1.gz,i1.zx,i1.nw⟩,fun t=>(hS t).less i2 i3⟩,⟨hU.sl,fun j=>?_,fun j hj=>?_⟩,B,hh⟩,hk⟩
     ·show ObR g1 w j (upd (upd st.ob k (.row e q xs 0)) m.2.1 (.box ty (cs.set m.2.2 (.c (.sl e q xs)))) j)
      by_cases h1:j=m.2.1
      ·subst h1;rw [Zy];exact I
      ·rw [ZI _ _ h1];exact i1.obs j
     ·show obU U (upd (upd st.ob k (.row e q xs 0)) m.2.1 (.box ty (cs.set m.2.2 (.c (.sl e q xs)))) j)
      by_cases h1:j=m.2.1
      ·subst h1;rw [Zy];exact K G trivial
      ·rw [ZI _ _ h1]
       by_cases h2:j=k
       ·subst h2;rw [Zy];trivial
       ·rw [ZI _ _ h2];exact hU.ob j
     ·show upd (upd st.ob k (.row e q xs 0)) m.2.1 (.box ty (cs.set m.2.2 (.c (.sl e q xs)))) j=_
      rw [ZI _ _ (show j≠m.2.1 from fun e'=>hj (e' ▸ ab)),ZI _ _ (show j≠k from fun e'=>hj (e' ▸ C))];exact hU.gone j hj
    ·exact A
   ·exact A
  ·rename_i e q xs d f
   split
   ·rename_i ac
    have C:U m.2.1:=Classical.byContradiction fun hn=>by have:=hU.gone _ hn;rw [f] at this;simp at this
    obtain ⟨g1,t1,t2,t3⟩:=Zu7 hH f ac
    refine ⟨U,⟨⟨g1,t1,fun t=>(hS t).less t2 t3⟩,⟨hU.sl,fun k=>?_,fun k l=>?_⟩,B,hh⟩,hk⟩
    ·show obU U (upd st.ob m.2.1 (.row e q xs m.2.2) k)
     by_cases h1:k=m.2.1
     ·subst h1;rw [Zy];trivial
     ·rw [ZI _ _ h1];exact hU.ob k
    ·show upd st.ob m.2.1 (.row e q xs m.2.2) k=_
     rw [ZI _ _ (show k≠m.2.1 from fun e'=>l (e' ▸ C))];exact hU.gone k l
   ·exact A
  ·exact A
theorem Ztb [NW] (m:Bool × Nat × Nat) (hI:Inv W U st a w) (hk:∀k,st.n≤k→¬U k):∃U',Inv W U' (st.matN m) a w∧∀k,(st.matN m).n≤k→¬U' k:=by
 have c:∃U',Inv W U' st a w∧∀k,st.n≤k→¬U' k:=⟨U,hI,hk⟩
 obtain ⟨⟨g,hH,hS⟩,hU,o,hh⟩:=hI
 unfold St.matN
 split
 ·rename_i ag cs x
  have A:X6 U cs:=by have:=hU.sl m.2.1;rw [x] at this;exact this
  have hs:=hS m.2.1
  rw [x] at hs
  split
  ·rename_i k f
   split
   ·rename_i e q xs d l
    split
    ·rename_i hd
     subst hd
     obtain ⟨g1,i1,i2,i3,i5⟩:=ZhF hH k
     rw [l] at i1
     obtain ⟨hm,B,L,o1,o2,o3,o5⟩:=hH.deep l
     have i4:∀v,AVR g w (.row k) v→AVR g1 w (.n (.sl e q xs)) v:=fun v hv=>by
      rcases o5 with ⟨_,q1,q2⟩ | ⟨q1,_⟩ | ⟨q1,_⟩
      ·have hN:=hH.nodup k
       have hP:=hH.plain k
       have hF:=i5 ⟨_,_,_,_,l⟩
       rw [q1,q2] at hN hP hF
       rw [l] at hP
       refine ⟨e,q,xs,B,L,rfl,hm,by rw [hv.1];exact o1,o2,by rw [hv.1];exact hN,fun b mb=>?_⟩
       rw [hv.1] at mb
       exact ⟨hF b mb,hH.nw b (hP b mb).1,(hP b mb).2⟩
      ·omega
      ·omega
     have C:U k:=Classical.byContradiction fun hn=>by have:=hU.gone _ hn;rw [l] at this;simp at this
     refine ⟨U,⟨⟨g1,i1,fun t=>?_⟩,⟨fun t=>?_,fun j=>?_,fun j hj=>?_⟩,o,hh⟩,hk⟩
     ·show SVR g1 w (upd st.sl m.2.1 (.p ag (cs.set (m.2.2 - 4096) (.n (.sl e q xs)))) t) _
      by_cases ht:t=m.2.1
      ·subst ht
       rw [Zy]
       have h0:PVR g w ag cs (a.tmps.getD m.2.1 undef):=hs
       have h1:PVR g1 w ag cs (a.tmps.getD m.2.1 undef):=(show SVR g w (.p ag cs) _ from hs).less i2 i3
       cases ag with
       | true=>
        obtain ⟨vs,e1,h4⟩:=h0
        obtain ⟨D,y,E⟩:=h1
        have ev:vs=D:=by rw [e1] at y;simpa using y
        subst ev
        obtain ⟨u,u1,u2⟩:=h4.at f
        refine ⟨vs,e1,?_⟩
        have:=E.set (i:=m.2.2 - 4096) (i4 u u2)
        obtain ⟨hl,he⟩:=AE.1 u1
        rw [←he,Ab hl] at this
        exact this
       | false=>
        obtain ⟨z,rfl,h4⟩:=h0
        cases hj:m.2.2 - 4096 with
        | zero=>rw [hj] at f;simp at f;subst f;exact ⟨_,rfl,i4 _ h4⟩
        | succ j=>rw [hj] at f;simp at f
      ·rw [ZI _ _ ht];exact (hS t).less i2 i3
     ·show svU U (upd st.sl m.2.1 (.p ag (cs.set (m.2.2 - 4096) (.n (.sl e q xs)))) t)
      by_cases ht:t=m.2.1
      ·subst ht;rw [Zy]
       intro z mz
       rcases Ac mz with mz | mz
       ·exact A z mz
       ·subst mz;trivial
      ·rw [ZI _ _ ht];exact hU.sl t
     ·show obU U (upd st.ob k (.row e q xs 0) j)
      by_cases h1:j=k
      ·subst h1;rw [Zy];trivial
      ·rw [ZI _ _ h1];exact hU.ob j
     ·show upd st.ob k (.row e q xs 0) j=_
      rw [ZI _ _ (show j≠k from fun e'=>hj (e' ▸ C))];exact hU.gone j hj
    ·exact c
   ·exact c
  ·exact c
 ·exact c
theorem Zj4 [NW]:∀(ms:List (Bool × Nat × Nat)) {U:Nat→Prop} {st:St},Inv W U st a w→(∀k,st.n≤k→¬U k)→∃U',Inv W U' (st.mats ms) a w
 | [],U,st,hI,_=>⟨U,hI⟩
 | m::r,U,st,hI,hk=>by
  simp only[St.mats]
  split
  ·obtain ⟨U',h1,h2⟩:=Ztb m hI hk
   exact Zj4 r h1 h2
  ·obtain ⟨U',h1,h2⟩:=ZuE m hI hk
   exact Zj4 r h1 h2
theorem least {p:Nat→Prop} (h:∃n,p n):∃n,p n∧∀m,m<n→¬p m:=by
 obtain ⟨n,hn⟩:=h
 induction n using Nat.strongRecOn with
 | _ n ih=>
  by_cases hm:∃m,m<n∧p m
  ·obtain ⟨m,h1,h2⟩:=hm;exact ih m h1 h2
  ·exact ⟨n,hn,fun m h1 h2=>hm ⟨m,h1,h2⟩⟩
theorem Zrw [NW] {c:Code} {Q:Exit→Act→World→Prop} (J:Nat→Act→World→Prop) (n:Nat) (h₀:J n a w) (b:∀n a w,J n a w→c.wp P (Exit.then (fun a' w'=>∃m,m<n∧J m a' w') Q) a w):(Code.loop c).wp P Q a w:=by
 classical
 let μ:Act→World→Nat:=fun a w=>if h:∃n,J n a w then Classical.choose (least h) else 0
 have hμ:∀a w (h:∃n,J n a w),J (μ a w) a w∧∀m,m<μ a w→¬J m a w:=fun a w h=>by
  simp only[μ,dif_pos h]
  exact Classical.choose_spec (least h)
 refine wp_loop (fun a w=>∃n,J n a w) μ ⟨n,h₀⟩ fun a w h=>?_
 refine wp_mono (b (μ a w) a w (hμ a w h).1) fun e a' w' he=>?_
 cases e with
 | normal=>
  obtain ⟨m,h1,h2⟩:=he
  refine ⟨⟨m,h2⟩,?_⟩
  have h3:=hμ a' w' ⟨m,h2⟩
  rcases AW m (μ a' w') with h4 | h4
  ·exact absurd h2 (h3.2 m h4)
  ·omega
 | _=>exact he
mutual
theorem RC.deep {w:World}:∀{x:CT} {v:Value} {L:List Nat},RC w x v L→ctD x
 | .int _ _,_,_,_=>trivial
 | .bool _,_,_,_=>trivial
 | .str _,_,_,h=>h.2.2
 | .sl _ _ _,_,_,⟨A,cap,cs,L0,L1,h1,h2,h3,h4,h5,h6,h7⟩=>⟨by unfold maxLen at h3;omega,h7.deep⟩
 | .pt _,_,_,⟨_,_,_,_,_,_,_,h⟩=>h.deep
 | .fn _ _,_,_,⟨_,_,h⟩=>h.deep
 | .mp _ _ _,_,_,_=>trivial
 | .ifc _,_,_,_=>trivial
 | .any,_,_,_=>trivial
 | .nl _ _,_,_,_=>trivial
theorem RCs.deep {w:World}:∀{x:List CT} {v:List Value} {L:List Nat},RCs w x v L→ctsD x
 | [],_,_,_=>trivial
 | _::_,_,_,⟨v,cs,L1,L2,h1,h2,h3,h4⟩=>⟨h3.deep,h4.deep⟩
theorem REs.deep {w:World} {m:Nat}:∀{x:List (List CT)} {v:List Value} {L:List Nat},REs w m x v L→essD x
 | [],_,_,_=>trivial
 | _::_,_,_,⟨c1,c2,L1,L2,h1,h2,h3,h4⟩=>⟨h3.1.deep,h4.deep⟩
end
theorem AVR.deep [NW] {g:Gh} {w:World}:∀{x:AV} {v:Value},AVR g w x v→avD x
 | .c _,_,⟨_,h,_⟩=>h.deep
 | .n _,_,h=>by obtain ⟨_,h1,_⟩:=NR.toC h;exact h1.deep
 | .row _,_,_=>trivial
 | .nil _ _,_,_=>trivial
 | .dead,_,_=>trivial
theorem AVRs.deep [NW] {g:Gh} {w:World}:∀{x:List AV} {v:List Value},ZH (AVR g w) x v→Zti x
 | [],[],_=>trivial
 | _::_,_::_,h=>⟨h.1.deep,AVRs.deep h.2⟩
 | [],_::_,h=>h.elim
 | _::_,[],h=>h.elim
theorem Inv.deep [NW] (hI:Inv W U st a w):WF st:=by
 obtain ⟨⟨g,hH,hS⟩,hU,hdef,hh⟩:=hI
 refine ⟨fun t b cs ht=>?_,fun k t cs hk=>?_,fun k e m xs d hk=>?_⟩
 ·have h:=hS t
  rw [ht] at h
  cases b with
  | true=>obtain ⟨vs,_,h2⟩:=h;exact AVRs.deep h2
  | false=>obtain ⟨x,rfl,h2⟩:=h;exact ⟨h2.deep,trivial⟩
 ·have h:=hH.obs k
  rw [hk] at h
  obtain ⟨b,vs,_,_,_,_,h2⟩:=h
  exact AVRs.deep h2
 ·have h:=hH.obs k
  rw [hk] at h
  obtain ⟨_,cs,L,h1,h2,_⟩:=h
  refine ⟨?_,h2.deep⟩
  rcases h1.2 with ⟨_,h3⟩ | ⟨_,_,cap,_,_,_,_,h3,h4,_⟩
  ·omega
  ·unfold maxLen at h4;omega
def Zzt:Ex→Exit
 | .normal=>.normal
 | .exit id=>.exit id
 | .ret=>.ret
def Y4 (od:OD) (tt:Nat→Option TI) (hs:FuncId→Nat) (k0:Bool) (N:Nat):Code→Bool
 | .skip=>true
 | .region id ops d=>(ops.toList.all fun o=>match o.dst with | some t=>Nat.blt t N&&(!k0||Nat.blt 0 t) | none=>true)&&(match od id with | none=>!d||Zql tt hs ops | some l=>d&&Zru tt hs l.2 ops l.1)
 | .seq x y=>Y4 od tt hs k0 N x&&Y4 od tt hs k0 N y
 | .cond _ x y=>Y4 od tt hs k0 N x&&Y4 od tt hs k0 N y
 | .block _ x=>Y4 od tt hs k0 N x
 | .loop x=>Y4 od tt hs k0 N x
 | .exit _=>true
 | .ret=>true
 | _=>false
theorem X8 [NW] {od:OD} (htt:MOk P J JF W tt) (hmix:P.follows .mixedOrders=true) {hds:FuncId→Nat} {k0:Bool} (hk0:W.hv=none∨k0=true) {N:Nat}:∀(c:Code),Y4 od tt hds k0 N c=true→∀(Qs:Ex→St→Prop) (Q:Exit→Act→World→Prop),
  (∀ex U' st' a' w',Inv W U' st' a' w'→(∀k,st'.n≤k→¬U' k)→a'.tmps.size=N→Qs ex st'→Q (Zzt ex) a' w')→
  ∀U st a w,Inv W U st a w→(∀k,st.n≤k→¬U k)→a.tmps.size=N→swp tt (SC P J JF hds) od c Qs st→c.wp P Q a w
 | .skip,_,Qs,Q,hQ,U,st,a,w,hI,hk,hs,h=>wp_skip (hQ .normal U st a w hI hk hs h)
 | .exit id,_,Qs,Q,hQ,U,st,a,w,hI,hk,hs,h=>wp_exit (hQ (.exit id) U st a w hI hk hs h)
 | .ret,_,Qs,Q,hQ,U,st,a,w,hI,hk,hs,h=>wp_ret (hQ .ret U st a w hI hk hs h)
 | .region id ops d,hok,Qs,Q,hQ,U,st,a,w,hI,hk,hs,h=>by
  simp only[Y4,A6,AG] at hok
  have hN:∀o∈ops.toList,∀t,o.dst=some t→t<N∧(W.hv=none∨t≠0):=fun o mo t ht=>by
   have:=hok.1 o mo
   rw [ht] at this
   simp only[A6,AK] at this
   refine ⟨AA this.1,hk0.imp (fun h=>h) fun h=>?_⟩
   rcases this.2 with h2 | h2
   ·rw [h] at h2;simp at h2
   ·have h3:0<t:=AA h2
    exact Nat.ne_of_gt h3
  have hend:∀U' st' a' w',Inv W U' st' a' w'→(∀k,st.n+16 * ops.toList.length≤k→¬U' k)→a'.tmps.size=N→Zn5 (st.n+16 * ops.toList.length) (Qs .normal) st'→Q .normal a' w':=fun U' st' a' w' h1 h2 h3 h4=>
   hQ .normal U' { st' with n:=st.n+16 * ops.toList.length } a' w' ⟨h1.ex,⟨h1.wf.sl,h1.wf.ob,h1.wf.gone⟩,h1.defers,h1.hand⟩ h2 h3 h4
  have hdraw:Inv W U st a { w with drawn:=w.drawn+1 }:=by
   obtain ⟨⟨g,hH,hS⟩,hU,hdef,hh⟩:=hI
   have hw:∀b,b<w.heap.size→¬g.own b→({ w with drawn:=w.drawn+1 }:World).heap[b]?=w.heap[b]?:=fun _ _ _=>rfl
   refine ⟨⟨g,hH.step (U:=U) (fun _=>False) ⟨hH.below.os,hH.below.tape,hH.below.output,hH.below.size,hH.below.block⟩ rfl (fun _ _ _=>rfl) (fun _ _=>⟨rfl,rfl,rfl,rfl⟩) hU.ob (fun _ _=>rfl) (X7.refl _ _) (fun _ h=>h.elim),fun t=>?_⟩,hU,hdef,hh⟩
   exact (hS t).move (hU.sl t) (fun _ _=>rfl) hw (X7.refl _ _) (AC _)
  have open_:∀(b:Bool) (R:List Nat),Zix tt hds b ops R=true→(∀j,elB ops j=true)→R.length≤ops.size→(∀i,i∈R↔i<ops.size)→ZeD tt (SC P J JF hds) b ops.toList st.n R (Zn5 (st.n+16 * ops.toList.length) (Qs .normal)) st→(Code.region id ops true).wp P Q a w:=fun b R h1 h2 h3 h4 h5=>by
   refine wp_region_any hmix ?_
   refine ZrL (base:=st.n) htt hN h2 (fun U' st' a' w' h1 h2 h3 h4=>hend U' st' a' w' h1 (by simpa using h2) h3 h4) ops.size R (AF ops.size false) U st a _ h3 (ZmE h1) (by simp) (fun i=>?_) (fun i o ho hl=>?_) h5 hdraw (fun j _ k hk' _=>hk k (by omega)) (fun k hk'=>hk k (by omega)) hs
   ·rw [h4]
    constructor
    ·intro hi;exact ⟨hi,by simp [AB,hi]⟩
    ·exact fun hi=>hi.1
   ·exfalso
    have hi:i<ops.size:=(AY.1 ho).1
    simp [AB,hi] at hl
  cases ho:od id with
  | none=>
   have hok2:=hok.2
   simp only[ho] at hok2
   simp only[swp,ho,ZrA] at h
   have h':ZY tt (SC P J JF hds) ops.toList st.n ops.toList (Zn5 (st.n+16 * ops.toList.length) (Qs .normal)) st:=h
   cases d with
   | false=>
    refine wp_region ?_
    have:=Zl8 (Q:=Q) htt hN ops.toList 0 st.n U st a w (by simp) h' hI hk hs hend
    rw [Al]
    simpa using this
   | true=>
    have hdr:Zql tt hds ops=true:=by simpa using hok2
    simp only[Zql,A6] at hdr
    have h2:=ZqY (tt:=tt) (S:=SC P J JF hds) (all:=ops.toList) (base:=st.n) (K:=Zn5 (st.n+16 * ops.toList.length) (Qs .normal)) ops.toList 0 st (by simp) (by simpa using h')
    rw [←Al] at h2
    exact open_ false (AR ops.size) hdr.1 (ZpI hdr.2) (by simp) (by simp) (by simpa using h2)
  | some l=>
   have hok2:=hok.2
   simp only[ho,A6] at hok2
   simp only[swp,ho,ZrA] at h
   obtain ⟨rfl,hdr⟩:=hok2
   simp only[Zru,A6] at hdr
   exact open_ l.2 l.1 hdr.1.1.1.1 (ZpI hdr.1.1.1.2) (AA hdr.1.1.2) (fun i=>⟨fun mi=>AA (AG.1 hdr.1.2 i mi),fun hi=>by simpa using AG.1 hdr.2 i (by simpa using hi)⟩) h
 | .seq x y,hok,Qs,Q,hQ,U,st,a,w,hI,hk,hs,h=>by
  simp only[Y4,A6] at hok
  refine wp_seq (X8 htt hmix hk0 x hok.1 (Zfv (swp tt (SC P J JF hds) od y Qs) Qs) _ ?_ U st a w hI hk hs h)
  intro ex U' st' a' w' h1 h2 h3 h4
  cases ex with
  | normal=>exact X8 htt hmix hk0 y hok.2 Qs Q hQ U' st' a' w' h1 h2 h3 h4
  | exit id=>exact hQ (.exit id) U' st' a' w' h1 h2 h3 h4
  | ret=>exact hQ .ret U' st' a' w' h1 h2 h3 h4
 | .cond c x y,hok,Qs,Q,hQ,U,st,a,w,hI,hk,hs,h=>by
  simp only[Y4,A6] at hok
  simp only[swp,Zmp] at h
  split at h
  ·rename_i hb
   obtain ⟨b,hb'⟩:∃b,st.ev tt 0 c=.p false [.c (.bool b)]:=by
    unfold QJ at hb
    split at hb
    ·rename_i b he;exact ⟨b,he⟩
    ·simp at hb
   obtain ⟨g,hH,hS⟩:=hI.ex
   have hv:=(Zi6 (P:=P) htt.tt hS hI.wf 0 c).1
   rw [hb'] at hv
   have hv':=ZeW hv
   refine wp_cond hv' ?_
   cases b with
   | true=>rw [if_pos (by rw [hb'];rfl)] at h;exact X8 htt hmix hk0 x hok.1 Qs Q hQ U st a w hI hk hs h
   | false=>rw [if_neg (by rw [hb'];simp [XB])] at h;exact X8 htt hmix hk0 y hok.2 Qs Q hQ U st a w hI hk hs h
  ·exact h.elim
 | .block id x,hok,Qs,Q,hQ,U,st,a,w,hI,hk,hs,h=>by
  refine wp_block (X8 htt hmix hk0 x hok (Zf6 id Qs) _ ?_ U st a w hI hk hs h)
  intro ex U' st' a' w' h1 h2 h3 h4
  cases ex with
  | normal=>exact hQ .normal U' st' a' w' h1 h2 h3 h4
  | exit j=>
   show Exit.inBlock id Q (.exit j) a' w'
   simp only[Zf6] at h4
   simp only[Exit.inBlock]
   split
   ·rename_i e;rw [if_pos e] at h4;exact hQ .normal U' st' a' w' h1 h2 h3 h4
   ·rename_i e;rw [if_neg e] at h4;exact hQ (.exit j) U' st' a' w' h1 h2 h3 h4
  | ret=>exact hQ .ret U' st' a' w' h1 h2 h3 h4
 | .loop x,hok,Qs,Q,hQ,U,st,a,w,hI,hk,hs,h=>by
  obtain ⟨n,hn⟩:=h
  refine Zrw (fun n a w=>∃U st,Inv W U st a w∧(∀k,st.n≤k→¬U k)∧a.tmps.size=N∧Zi1 (swp tt (SC P J JF hds) od x) Qs n st) n ⟨U,st,hI,hk,hs,hn⟩ ?_
  rintro n a w ⟨U,st,hI,hk,hs,hn⟩
  cases n with
  | zero=>exact hn.elim
  | succ n=>
   obtain ⟨ms,ρ,hρ,hb⟩:=hn
   obtain ⟨U2,hI2⟩:=Zj4 ms hI hk
   refine X8 htt hmix hk0 x hok (Zfv (Zi1 (swp tt (SC P J JF hds) od x) Qs n) Qs) _ ?_ _ ((st.mats ms).ren ρ) a w (ZqZ hI2 hρ) (fun k hk' hU=>by simp only[St.ren] at hk';omega) hs (hb (ZqZ hI2 hρ).deep)
   intro ex U' st' a' w' h1 h2 h3 h4
   cases ex with
   | normal=>exact ⟨n,by omega,U',st',h1,h2,h3,h4⟩
   | exit id=>exact hQ (.exit id) U' st' a' w' h1 h2 h3 h4
   | ret=>exact hQ .ret U' st' a' w' h1 h2 h3 h4
 | .rangeFunc _ _ _ _,hok,_,_,_,_,_,_,_,_,_,_,_=>by simp [Y4] at hok
 | .scope _,hok,_,_,_,_,_,_,_,_,_,_,_=>by simp [Y4] at hok
 | .label _,hok,_,_,_,_,_,_,_,_,_,_,_=>by simp [Y4] at hok
 | .goto _,hok,_,_,_,_,_,_,_,_,_,_,_=>by simp [Y4] at hok
 | .refuse _,hok,_,_,_,_,_,_,_,_,_,_,_=>by simp [Y4] at hok
end
end
section
open Go.RowKit
section
variable {P:Program} {J:World→Prop} {JF:Nat→Prop} {W:QK} {U:Nat→Prop} {st:St} {w w':World} {a:Act} {tt:Nat→Option TI} {g:Gh}
def nK (g:Gh) (K:Nat→Prop) (b:Nat):Prop:=g.Z b∨∃k,K k∧b∈g.O k
theorem ZtB {k e m n B:Nat} {cs:List Value} (h:w.ownsV 0 e m (g.val k) n cs) (hB:∀b∈(g.val k).ownBlock.toList,B≤b):w.ownsV B e m (g.val k) n cs:=by
 refine ⟨h.1,?_⟩
 rcases h.2 with h0 | ⟨q,o,cap,a,hv,hg,r⟩
 ·exact .inl h0
 ·exact .inr ⟨q,o,cap,a,hv,hB q (by simp [hv,Value.ownBlock]),r⟩
variable {K:Nat→Prop}
theorem Zok [NW] (hI:HI W g st.ob w) (hK:∀k,K k→ZhR (st.ob k)=false∧∀e m xs d,st.ob k=.row e m xs d→d=2) {x:AV} {ct:Bool × CT} {ks:List Nat} {v:Value} (h:ZdV st x=some (ct,ks)) (l:∀k∈ks,K k∧∀b∈g.O k++g.D k,W.heap.size≤b) (hx:AVR g w x v):OC w W.heap.size (nK g K) ct v (g.F ks):=by
 have a:∀b,nK g K b→g.own b:=fun b hb=>by
  rcases hb with hz | ⟨k,_,mk⟩
  ·exact .inr hz
  ·exact .inl ⟨k,mk⟩
 cases x with
 | c y=>
  obtain ⟨L,h1,h2⟩:=hx
  cases y<;>simp only[ZdV,A0,A3] at h<;>obtain ⟨rfl,rfl⟩:=h
  ·exact ⟨⟨h1.1,rfl⟩,by simp [Gh.F]⟩
  ·exact ⟨⟨h1.1,rfl⟩,by simp [Gh.F]⟩
  ·exact ⟨⟨h1.1,rfl,h1.2.2⟩,by simp [Gh.F]⟩
  ·exact ⟨by simp [Gh.F],L,h1,fun b mb hb=>h2 b mb (a b hb)⟩
  ·exact ⟨by simp [Gh.F],L,h1,fun b mb hb=>h2 b mb (a b hb)⟩
  ·exact ⟨by simp [Gh.F],L,h1,fun b mb hb=>h2 b mb (a b hb)⟩
  ·exact ⟨by simp [Gh.F],L,h1,fun b mb hb=>h2 b mb (a b hb)⟩
  ·exact ⟨⟨rfl,h1.2⟩,by simp [Gh.F]⟩
  ·exact ⟨by simp [Gh.F],L,h1,fun b mb hb=>h2 b mb (a b hb)⟩
  ·exact ⟨by simp [Gh.F],L,h1,fun b mb hb=>h2 b mb (a b hb)⟩
 | row k=>
  simp only[ZdV] at h
  split at h
  ·rename_i e m xs d hk
   obtain ⟨hm,cs,L,o1,o2,o3,o5⟩:=hI.deep hk
   split at h
   ·rename_i hd
    simp only[A0,A3] at h
    obtain ⟨rfl,rfl⟩:=h
    have i:=l k yG
    rcases o5 with ⟨_,q1,q2⟩ | ⟨q,_⟩ | ⟨q,_⟩
    ·refine ⟨hm,cs,L,by rw [hx.1];exact ZtB o1 fun b mb=>i.2 b (by simp [q1,mb]),o2,by simp [Gh.F,q1,q2,hx.1],fun b mb=>.inr ⟨k,i.1,by rw [q1];rw [hx.1] at mb;exact mb⟩⟩
    ·omega
    ·omega
   ·rename_i hd
    simp only[A0,A3] at h
    obtain ⟨rfl,rfl⟩:=h
    have f:¬K k:=fun h=>hd ((hK k h).2 e m xs d hk)
    obtain ⟨A,cap,L0,s1,s2,s3,s4,s5⟩:=Sl.row o1
    refine ⟨by simp [Gh.F],L0++L,⟨A,cap,cs,L0,L,by rw [hx.1,s1],s2,s3,rfl,hm,s4,o2⟩,fun b mb hb=>?_⟩
    rcases A5.1 mb with m1 | m1
    ·have m2:=s5.subset m1
     rcases o5 with ⟨q,_⟩ | ⟨_,q1,q2⟩ | ⟨_,_,_,q⟩
     ·exact hd q
     ·have mk:b∈g.O k++g.D k:=by simp [q1,m2]
      rcases hb with hz | ⟨j,hj,mj⟩
      ·exact hI.nz mk hz
      ·exact hI.apart k j (fun e=>f (e ▸ hj)) b mk (by simp [mj])
     ·exact q b m2 (a b hb)
    ·exact o3 b m1 (a b hb)
  ·rename_i kk vk kv hk
   simp only[A0,A3] at h
   obtain ⟨rfl,rfl⟩:=h
   have ho:=hI.obs k
   rw [hk] at ho
   obtain ⟨b,es,c,q1,q2,q3,q4,q5,q6⟩:=ho
   have f:¬K k:=fun h=>by have:=(hK k h).1;rw [hk] at this;simp [ZhR] at this
   refine ⟨by simp [Gh.F],[b],⟨b,es,c,by rw [hx.1,q1],q4,q5,q6,rfl⟩,fun x mx hb=>?_⟩
   simp at mx;subst mx
   have mk:x∈g.O k++g.D k:=by simp [q2]
   rcases hb with hz | ⟨j,hj,mj⟩
   ·exact hI.nz mk hz
   ·exact hI.apart k j (fun e=>f (e ▸ hj)) x mk (by simp [mj])
  ·simp at h
 | nil e m=>
  simp only[ZdV] at h
  split at h
  ·rename_i hm
   simp only[A0,A3] at h
   obtain ⟨rfl,rfl⟩:=h
   have o:v=.slice none 0 0:=hx
   subst o
   exact ⟨hm,[],[],ZiJ _ _ _ _,⟨rfl,rfl⟩,by simp [Gh.F,Value.ownBlock],by simp [Value.ownBlock]⟩
  ·simp at h
 | n y=>
  obtain ⟨L,h1,h2⟩:=NR.toC hx
  simp only[ZdV,A0,A3] at h
  obtain ⟨rfl,rfl⟩:=h
  exact ⟨by simp [Gh.F],L,h1,fun b mb hb=>h2 b mb (a b hb)⟩
 | dead=>
  simp only[ZdV,A0,A3] at h
  obtain ⟨rfl,rfl⟩:=h
  exact ⟨by simp [Gh.F],[],⟨rfl,hx⟩,yG⟩
theorem Znb [NW] (hI:HI W g st.ob w) (hK:∀k,K k→ZhR (st.ob k)=false∧∀e m xs d,st.ob k=.row e m xs d→d=2):∀{xs:List AV} {cts:List (Bool × CT)} {ks:List Nat} {vs:List Value},Zcb st xs=some (cts,ks)→(∀k∈ks,K k∧∀b∈g.O k++g.D k,W.heap.size≤b)→ZH (AVR g w) xs vs→OCs w W.heap.size (nK g K) cts vs (g.F ks)
 | [],_,_,[],h,_,_=>by
  simp only[Zcb,A0,A3] at h
  obtain ⟨rfl,rfl⟩:=h
  exact ⟨rfl,by simp [Gh.F]⟩
 | [],_,_,_::_,_,_,h=>h.elim
 | _::_,_,_,[],_,_,h=>h.elim
 | x::r,cts,ks,v::vs,h,hks,hr=>by
  simp only[Zcb] at h
  obtain ⟨⟨c1,k1⟩,h1,h⟩:=A9.1 h
  obtain ⟨⟨c2,k2⟩,h2,h⟩:=A8.1 h
  simp only[A3] at h
  obtain ⟨rfl,rfl⟩:=h
  exact ⟨v,vs,g.F k1,g.F k2,rfl,by simp [Gh.F],Zok hI hK h1 (fun k mk=>hks k (by simp [mk])) hr.1,Znb hI hK h2 (fun k mk=>hks k (by simp [mk])) hr.2⟩
theorem ZpF [NW] (hI:HI W g st.ob w) (hK:∀k,K k→ZhR (st.ob k)=false∧∀e m xs d,st.ob k=.row e m xs d→d=2) {ag:Bool} {cs:List AV} {cts:List (Bool × CT)} {ks:List Nat} {v:Value} (h:Zcb st cs=some (cts,ks)) (a:∀k∈ks,K k∧∀b∈g.O k++g.D k,W.heap.size≤b) (hx:PVR g w ag cs v):OP w W.heap.size (nK g K) (ag,cts) v (g.F ks):=by
 cases ag with
 | true=>obtain ⟨vs,rfl,h2⟩:=hx;exact .inl ⟨rfl,vs,rfl,Znb hI hK h a h2⟩
 | false=>
  obtain ⟨x,rfl,h2⟩:=hx
  simp only[Zcb] at h
  obtain ⟨⟨c1,k1⟩,h1,h⟩:=A9.1 h
  simp at h
  obtain ⟨rfl,rfl⟩:=h
  exact .inr ⟨rfl,c1,rfl,Zok hI hK h1 a h2⟩
theorem OC.one {B:Nat} {n:Nat→Prop} {x:Bool × CT} {v:Value} {F:List Nat} (h:OC w B n x v F):v.oneCell'=true:=by
 obtain ⟨b,x⟩:=x
 cases b with
 | true=>obtain ⟨_,L,h1,_⟩:=h;exact h1.one
 | false=>
  cases x with
  | sl e q xs=>
   obtain ⟨_,cs,L,o1,_⟩:=h
   obtain ⟨A,cap,hv⟩:=Q8 o1
   rw [hv];rfl
  | int k i=>exact h.1.one
  | bool b=>exact h.1.one
  | str s=>exact h.1.one
  | ifc s=>exact h.1.one
  | any=>exact h.1.one
  | _=>exact h.elim
/- what is given is said to be lent -/
theorem Zn4 [NW] {B:Nat} {n:Nat→Prop}:∀{r res:List (Bool × CT)} {vs:List Value} {F:List Nat},OCs w B n r vs F→wkC r res→F.Nodup→∃F',F'.Sublist F∧∀m:Nat→Prop,(∀b∈F',n b→m b)→(∀b,m b→n b)→(∀b∈F,m b→b∈F')→OCs w B m res vs F'
 | [],[],vs,F,h,_,_=>⟨[],by simp,fun m _ _ _=>⟨h.1,rfl⟩⟩
 | [],_::_,_,_,_,h,_=>h.elim
 | _::_,[],_,_,_,h,_=>h.elim
 | x::r,y::res,_,_,⟨v,vs,F1,F2,rfl,rfl,h1,h2⟩,hw0,hnd=>by
  rw [AO] at hnd
  have hw0:wk1 x y (wkC r res):=hw0
  unfold wk1 at hw0
  by_cases hany:ZqX y.2=true
  ·rw [if_pos hany] at hw0
   obtain ⟨F2',s2,h2'⟩:=Zn4 h2 hw0 hnd.2.1
   refine ⟨F2',s2.trans (List.sublist_append_right _ _),fun m m1 m2 m3=>⟨v,vs,[],F2',rfl,rfl,?_,h2' m m1 m2 fun b mb hb=>m3 b (by simp [mb]) hb⟩⟩
   have h1':=h1.one
   obtain ⟨b2,y⟩:=y
   cases y<;>simp [ZqX] at hany
   cases b2 with
   | true=>exact ⟨rfl,[],⟨rfl,h1'⟩,by simp⟩
   | false=>exact ⟨⟨rfl,h1'⟩,rfl⟩
  rw [if_neg hany] at hw0
  obtain ⟨e1,e2,hw⟩:=hw0
  obtain ⟨F2',s2,h2'⟩:=Zn4 h2 hw hnd.2.1
  have key:∃F1',F1'.Sublist F1∧∀m:Nat→Prop,(∀b∈F1',n b→m b)→(∀b,m b→n b)→(∀b∈F1,m b→b∈F1')→OC w B m y v F1':=by
   obtain ⟨b1,x⟩:=x
   obtain ⟨b2,y⟩:=y
   simp only at e1 e2
   subst e1
   cases b1 with
   | true=>
    have:b2=true:=by rcases e2 with e | e<;>simp_all
    subst this
    obtain ⟨rfl,L,q1,q2⟩:=h1
    exact ⟨[],by simp,fun m _ m2 _=>⟨rfl,L,q1,fun b mb hb=>q2 b mb (m2 b hb)⟩⟩
   | false=>
    cases b2 with
    | false=>
     refine ⟨F1,Aj _,fun m m1 _ _=>?_⟩
     cases x with
     | sl e q xs=>
      obtain ⟨hm,cs,L,o1,o2,o3,o4⟩:=h1
      exact ⟨hm,cs,L,o1,o2,o3,fun b mb=>m1 b (by simp [o3,mb]) (o4 b mb)⟩
     | int k i=>exact h1
     | bool b=>exact h1
     | str s=>exact h1
     | ifc s=>exact h1
     | any=>exact h1
     | _=>exact h1.elim
    | true=>
     refine ⟨[],by simp,fun m _ _ m3=>⟨rfl,?_⟩⟩
     cases x with
     | sl e q xs=>
      obtain ⟨hm,cs,L,o1,o2,o3,o4⟩:=h1
      obtain ⟨A,cap,L0,s1,s2,s3,s4,s5⟩:=Sl.row o1
      refine ⟨L0++L,⟨A,cap,cs,L0,L,s1,s2,s3,rfl,hm,s4,o2⟩,fun b mb hb=>?_⟩
      have:b∈F1:=by
       rw [o3]
       rcases A5.1 mb with m1 | m1
       ·exact A5.2 (.inl (s5.subset m1))
       ·exact A5.2 (.inr m1)
      have:=m3 b this hb
      simp at this
     | int k i=>exact ⟨[],h1.1,by simp⟩
     | bool b=>exact ⟨[],h1.1,by simp⟩
     | str s=>exact ⟨[],h1.1,by simp⟩
     | ifc s=>exact ⟨[],h1.1,by simp⟩
     | any=>exact ⟨[],h1.1,by simp⟩
     | _=>exact h1.elim
  obtain ⟨F1',s1,h1'⟩:=key
  refine ⟨F1'++F2',Aa s1 s2,fun m m1 m2 m3=>⟨v,vs,F1',F2',rfl,rfl,h1' m (fun b mb=>m1 b (by simp [mb])) m2 (fun b mb hb=>?_),h2' m (fun b mb=>m1 b (by simp [mb])) m2 (fun b mb hb=>?_)⟩⟩
  ·rcases A5.1 (m3 b (by simp [mb]) hb) with h | h
   ·exact h
   ·exact absurd rfl (hnd.2.2 b mb b (s2.subset h))
  ·rcases A5.1 (m3 b (by simp [mb]) hb) with h | h
   ·exact absurd rfl (hnd.2.2 b (s1.subset h) b mb)
   ·exact h
theorem ZyJ [NW] {B:Nat} {n:Nat→Prop} {x y:RT} {v:Value} {F:List Nat} (h:OP w B n x v F) (e1:x.1=y.1) (hw:wkC x.2 y.2) (hnd:F.Nodup):∃F',F'.Sublist F∧∀m:Nat→Prop,(∀b∈F',n b→m b)→(∀b,m b→n b)→(∀b∈F,m b→b∈F')→OP w B m y v F':=by
 rcases h with ⟨h1,vs,rfl,h2⟩ | ⟨h1,ct,h2,h3⟩
 ·obtain ⟨F',s,h⟩:=Zn4 h2 hw hnd
  exact ⟨F',s,fun m a b c=>.inl ⟨e1 ▸ h1,vs,rfl,h m a b c⟩⟩
 ·obtain ⟨F',s,h⟩:=Zn4 (r:=x.2) (vs:=[v]) (F:=F) (by rw [h2];exact ⟨v,[],F,[],rfl,by simp,h3,rfl,rfl⟩) hw hnd
  refine ⟨F',s,fun m p1 p2 p3=>.inr ⟨e1 ▸ h1,?_⟩⟩
  have h4:=h m p1 p2 p3
  generalize y.2=l at h4 hw
  cases l with
  | nil=>rw [h2] at hw;exact hw.elim
  | cons c l=>
   cases l with
   | nil=>
    obtain ⟨v',vs',F1,F2,q1,rfl,q3,q4⟩:=h4
    simp only[AQ] at q1
    obtain ⟨rfl,rfl⟩:=q1
    obtain ⟨_,rfl⟩:=q4
    exact ⟨c,rfl,by simpa using q3⟩
   | cons _ _=>
    rw [h2] at hw
    have hw:wk1 _ _ False:=hw
    unfold wk1 at hw
    split at hw
    ·exact hw.elim
    ·exact hw.2.2.elim
theorem ZsM [NW] {B:Nat} {n:Nat→Prop}:∀{r a:List RT} {vs:List Value} {F:List Nat},OPs w B n r vs F→wkR r a→F.Nodup→∃F',F'.Sublist F∧∀m:Nat→Prop,(∀b∈F',n b→m b)→(∀b,m b→n b)→(∀b∈F,m b→b∈F')→OPs w B m a vs F'
 | [],[],vs,F,h,_,_=>⟨[],yG,fun m _ _ _=>⟨h.1,rfl⟩⟩
 | [],_::_,_,_,_,h,_=>h.elim
 | _::_,[],_,_,_,h,_=>h.elim
 | x::r,y::a,_,_,⟨v,vs,F1,F2,rfl,rfl,h1,h2⟩,⟨e1,e2,hw⟩,hnd=>by
  rw [AO] at hnd
  obtain ⟨F2',s2,c⟩:=ZsM h2 hw hnd.2.1
  obtain ⟨F1',s1,d⟩:=ZyJ h1 e1 e2 hnd.1
  refine ⟨F1'++F2',Aa s1 s2,fun m m1 m2 m3=>⟨v,vs,F1',F2',rfl,rfl,d m (fun b mb=>m1 b (by simp [mb])) m2 (fun b mb hb=>?_),c m (fun b mb=>m1 b (by simp [mb])) m2 (fun b mb hb=>?_)⟩⟩
  ·rcases A5.1 (m3 b (by simp [mb]) hb) with h | h
   ·exact h
   ·exact absurd rfl (hnd.2.2 b mb b (s2.subset h))
  ·rcases A5.1 (m3 b (by simp [mb]) hb) with h | h
   ·exact absurd rfl (hnd.2.2 b (s1.subset h) b mb)
   ·exact h
def Zes (tmps:Array Value):ResultVar→Sem Value
 | .tmp t=>pure (tmps.getD t undef)
 | .cell b t=>do loadVar t (←asAddr (tmps.getD b undef))
theorem Zg4 (fn:Func) (a:Array Value):results fn a=(do let vs ←fn.results.mapM (Zes a);pure (if h:vs.size=1 then vs[0] else .tuple vs)):=by
 unfold results
 congr 1
theorem Zk7 [NW] (htt:∀t i,tt t=some i→TOk P t i) (hI:HI W g st.ob w) (hS:∀t,SVR g w (st.sl t) (a.tmps.getD t undef)) (hU:StU U st) (hK:∀k,K k→ZhR (st.ob k)=false∧∀e m xs d,st.ob k=.row e m xs d→d=2):∀{rs:List ResultVar} {res:List RT} {ks:List Nat},Zbb tt st rs=some (res,ks)→(∀k∈ks,K k∧∀b∈g.O k++g.D k,W.heap.size≤b)→
  ∃vs:List Value,(rs.mapM (Zes a.tmps)).run P w=.ok vs w∧OPs w W.heap.size (nK g K) res vs (g.F ks)
 | [],res,ks,h,_=>by
  simp only[Zbb,A0,A3] at h
  obtain ⟨rfl,rfl⟩:=h
  exact ⟨[],by simp,rfl,by simp [Gh.F]⟩
 | .tmp t::r,res,ks,h,hks=>by
  simp only[Zbb] at h
  split at h
  ·rename_i ag cs hsl
   obtain ⟨⟨c1,k1⟩,h1,h⟩:=A9.1 h
   obtain ⟨⟨c2,k2⟩,h2,h⟩:=A8.1 h
   simp only[A3] at h
   obtain ⟨rfl,rfl⟩:=h
   obtain ⟨vs,i1,i2⟩:=Zk7 htt hI hS hU hK h2 (fun k mk=>hks k (by simp [mk]))
   have hs:=hS t
   rw [hsl] at hs
   refine ⟨a.tmps.getD t undef::vs,?_,_,vs,g.F k1,g.F k2,rfl,by simp [Gh.F],ZpF hI hK h1 (fun k mk=>hks k (by simp [mk])) hs,i2⟩
   simp only[Am,Zes,Sem.run_bind,Sem.run_pure,Result.andThen_ok,i1]
  ·simp at h
 | .cell t ty::r,res,ks,h,hks=>by
  simp only[Zbb] at h
  split at h
  ·rename_i ag cs hsl
   obtain ⟨⟨c1,k1⟩,h1,h⟩:=A9.1 h
   obtain ⟨⟨c2,k2⟩,h2,h⟩:=A8.1 h
   simp only[A3] at h
   obtain ⟨rfl,rfl⟩:=h
   obtain ⟨vs,i1,i2⟩:=Zk7 htt hI hS hU hK h2 (fun k mk=>hks k (by simp [mk]))
   obtain ⟨cv,l1,l2,_⟩:=Zq2 (P:=P) (U:=U) htt hI hU hsl (hS t)
   have hl:(do loadVar ty (←asAddr (a.tmps.getD t undef)):Sem Value).run P w=.ok cv w:=by
    have:∃b,a.tmps.getD t undef=.pointer (some b):=by
     have hs:=hS t
     cases hsl':st.sl t with
     | bp k off=>rw [hsl'] at hs;obtain ⟨b,_,hv⟩:=hs;exact ⟨_,hv⟩
     | rp k m i off=>rw [hsl'] at hs;obtain ⟨b,_,_,_,_,hv⟩:=hs;exact ⟨_,hv⟩
     | ep e off=>rw [hsl'] at hs;obtain ⟨b,_,_,_,hv,_⟩:=hs;exact ⟨_,hv⟩
     | p ag2 cs2=>
      rw [hsl'] at hs hsl
      cases ag2 with
      | true=>simp [Qa] at hsl
      | false=>
       cases cs2 with
       | nil=>simp [Qa] at hsl
       | cons y q=>
        cases q with
        | cons _ _=>cases y<;>first | (simp [Qa] at hsl;done) | (rename_i z;cases z<;>simp [Qa] at hsl)
        | nil=>cases y with
         | c z=>cases z with
          | pt e=>obtain ⟨b,_,_,hv,_⟩:=ZqT hs;exact ⟨_,hv⟩
          | _=>simp [Qa] at hsl
         | _=>simp [Qa] at hsl
     | _=>rw [hsl'] at hsl;simp [Qa] at hsl
    obtain ⟨b,hb⟩:=this
    rw [hb] at l1 ⊢
    simpa [Instr.loadAt,Instr.sureAddr,asAddr] using l1
   refine ⟨cv::vs,?_,_,vs,g.F k1,g.F k2,rfl,by simp [Gh.F],ZpF hI hK h1 (fun k mk=>hks k (by simp [mk])) l2,i2⟩
   have hl':(Zes a.tmps (.cell t ty)).run P w=.ok cv w:=hl
   simp only[Am,Sem.run_bind,hl',i1,Sem.run_pure,Result.andThen_ok]
  ·simp at h
theorem ZqF:∀{xs:List AV} {cts:List (Bool × CT)} {ks:List Nat},Zcb st xs=some (cts,ks)→∀k∈ks,∃e m xs,st.ob k=.row e m xs 2
 | [],_,_,h,k,mk=>by
  simp only[Zcb,A0,A3] at h
  rw [←h.2] at mk;simp at mk
 | x::r,cts,ks,h,k,mk=>by
  simp only[Zcb] at h
  obtain ⟨⟨c1,k1⟩,h1,h⟩:=A9.1 h
  obtain ⟨⟨c2,k2⟩,h2,h⟩:=A8.1 h
  simp only[A3] at h
  obtain ⟨rfl,rfl⟩:=h
  rcases A5.1 mk with mk | mk
  ·cases x with
   | c y=>cases y<;>simp only[ZdV,A0,A3] at h1<;>(rw [←h1.2] at mk;simp at mk)
   | row j=>
    simp only[ZdV] at h1
    split at h1
    ·rename_i e m xs d hk
     split at h1
     ·rename_i hd
      simp only[A0,A3] at h1
      rw [←h1.2] at mk
      simp at mk
      subst mk
      exact ⟨e,m,xs,by rw [hk,hd]⟩
     ·simp only[A0,A3] at h1
      rw [←h1.2] at mk;simp at mk
    ·simp only[A0,A3] at h1
     rw [←h1.2] at mk;simp at mk
    ·simp at h1
   | nil e m=>
    simp only[ZdV] at h1
    split at h1
    ·simp only[A0,A3] at h1
     rw [←h1.2] at mk;simp at mk
    ·simp at h1
   | n y=>
    simp only[ZdV,A0,A3] at h1
    rw [←h1.2] at mk;simp at mk
   | dead=>
    simp only[ZdV,A0,A3] at h1
    rw [←h1.2] at mk;simp at mk
  ·exact ZqF h2 k mk
theorem ZhP [NW]:∀{rs:List ResultVar} {a:List RT} {ks:List Nat},Zbb tt st rs=some (a,ks)→∀k∈ks,∃e m xs,st.ob k=.row e m xs 2
 | [],_,_,h,k,mk=>by
  simp only[Zbb,A0,A3] at h
  rw [←h.2] at mk;simp at mk
 | .tmp t::r,a,ks,h,k,mk=>by
  simp only[Zbb] at h
  split at h
  ·obtain ⟨⟨c1,k1⟩,h1,h⟩:=A9.1 h
   obtain ⟨⟨c2,k2⟩,h2,h⟩:=A8.1 h
   simp only[A3] at h
   obtain ⟨rfl,rfl⟩:=h
   rcases A5.1 mk with mk | mk
   ·exact ZqF h1 k mk
   ·exact ZhP h2 k mk
  ·simp at h
 | .cell t ty::r,a,ks,h,k,mk=>by
  simp only[Zbb] at h
  split at h
  ·obtain ⟨⟨c1,k1⟩,h1,h⟩:=A9.1 h
   obtain ⟨⟨c2,k2⟩,h2,h⟩:=A8.1 h
   simp only[A3] at h
   obtain ⟨rfl,rfl⟩:=h
   rcases A5.1 mk with mk | mk
   ·exact ZqF h1 k mk
   ·exact ZhP h2 k mk
  ·simp at h
theorem Zrv [NW] {x:CT} {v:Value} {L:List Nat} (h:RC w x v L) (hL:∀b∈L,¬g.own b):AVR g w (Zhh x) v:=by
 cases x with
 | nl e m=>exact h.1
 | _=>exact ⟨L,h,hL⟩
theorem ZoT [NW]:∀{e:List CT} {cs:List Value} {L:List Nat},RCs w e cs L→(∀b∈L,¬g.own b)→ZH (AVR g w) (e.map Zhh) cs
 | [],_,_,⟨h1,h2⟩,_=>by subst h1;trivial
 | x::r,_,_,⟨v,cs,L1,L2,h1,h2,h3,h4⟩,hL=>by
  subst h1 h2
  exact ⟨Zrv h3 fun b m=>hL b (by simp [m]),ZoT h4 fun b m=>hL b (by simp [m])⟩
theorem Zlc [NW] {z:Nat→Prop} {x:Bool × List CT} {v:Value} (hg:∀b,g.own b→z b) (h:Zjv w z x v):SVR g w (.p x.1 (x.2.map Zhh)) v:=by
 rcases h with ⟨h1,vs,L,rfl,h2,h4⟩ | ⟨h1,ct,L,h2,h3,h4⟩
 ·rw [h1];exact ⟨vs,rfl,ZoT h2 fun b mb hb=>h4 b mb (hg b hb)⟩
 ·rw [h1,h2];exact ⟨_,rfl,Zrv h3 fun b mb hb=>h4 b mb (hg b hb)⟩
theorem ZjT (e:List CT):X6 U (e.map Zhh):=fun y m=>by
 obtain ⟨x,_,rfl⟩:=A7.1 m
 cases x<;>trivial
theorem Zp0 [NW] (htt:∀t i,tt t=some i→TOk P t i) {fn:Func} {f:List RT} (hI:Inv W U st a w) (hH:HI W g st.ob w) (hS:∀t,SVR g w (st.sl t) (a.tmps.getD t undef)) {r:List RT} {ks:List Nat} (hx:Zbb tt st fn.results.toList=some (r,ks)) (j:ks.Nodup) (hw:wkR r f)
  (hB:∀k∈ks,∀b∈g.O k++g.D k,W.heap.size≤b) (K0:Nat→Prop) (l:∀k,K0 k→ZhR (st.ob k)=false∧∀e m xs d,st.ob k=.row e m xs d→d=2):
  ∃v m,(results fn a.tmps).run P w=.ok v w∧Ziy w W.heap.size m f v∧(∀b,m b→g.own b)∧(∀b,m b→g.Z b∨(∃k,(k∈ks∨K0 k)∧b∈g.O k))∧∀b,b∉g.F ks→(g.Z b∨∃k,K0 k∧b∈g.O k)→m b:=by
 obtain ⟨us,r1,r2⟩:=Zk7 (K:=fun k=>k∈ks∨K0 k) htt hH hS hI.wf (fun k hk=>by
  rcases hk with hk | hk
  ·obtain ⟨e',m',o,h'⟩:=ZhP hx k hk
   refine ⟨by rw [h'];rfl,fun e m xs d he=>?_⟩
   rw [he] at h'
   simp only[Ob.row.injEq] at h'
   exact h'.2.2.2
  ·exact l k hk) hx (fun k mk=>⟨.inl mk,hB k mk⟩)
 have c:=hH.nodupF j
 obtain ⟨F',s,hF⟩:=ZsM r2 hw c
 have p:∀b∈g.F ks,W.heap.size≤b:=fun b mb=>by
  obtain ⟨k,hk,mk⟩:=Zie mb
  exact hB k hk b mk
 refine ⟨(if h:us.toArray.size=1 then us.toArray[0] else .tuple us.toArray),fun b=>nK g (fun k=>k∈ks∨K0 k) b∧(b∈g.F ks→b∈F'),?_,⟨us,F',hF _ (fun b mb hb=>⟨hb,fun _=>mb⟩) (fun b hb=>hb.1) (fun b mb hb=>hb.2 mb),⟨c.sublist s,fun b mb=>p b (s.subset mb),fun b mb=>?_⟩,rfl⟩,fun b hb=>?_,fun b hb=>hb.1,fun b hb hn=>⟨?_,fun mb=>absurd mb hb⟩⟩
 ·rw [Zg4]
  have e:fn.results.mapM (Zes a.tmps)=Ad <$> fn.results.toList.mapM (Zes a.tmps):=by
   rw [←List.mapM_toArray]
  have e2:(Ad <$> fn.results.toList.mapM (Zes a.tmps)).run P w=.ok us.toArray w:=by
   rw [map_eq_pure_bind]
   simp only[Sem.run_bind,r1,Result.andThen_ok,Sem.run_pure]
  rw [e]
  simp only[Sem.run_bind,e2,Result.andThen_ok,Sem.run_pure]
 ·obtain ⟨k,hk,mk⟩:=Zie (s.subset mb)
  obtain ⟨e',m',o,h'⟩:=ZhP hx k hk
  have:=(hH.plain k b mk).2
  rw [h'] at this
  exact this
 ·rcases hb.1 with hz | ⟨k,_,mk⟩
  ·exact .inr hz
  ·exact .inl ⟨k,mk⟩
 ·rcases hn with hz | ⟨k,hk,mk⟩
  ·exact .inl hz
  ·exact .inr ⟨k,.inr hk,mk⟩
theorem ZpK [NW] {g':Gh} (hv:∀k e m xs,st.ob k=.row e m xs 2→g'.val k=g.val k∧U k) {x:AV} {v:Value} (h:AVR g w x v):AVR g' w (Zid st x) v∧avU U (Zid st x):=by
 have a:=h.one
 unfold Zid
 split
 ·obtain ⟨L,⟨h1,_⟩,_⟩:=h
  exact ⟨⟨[],⟨h1,rfl⟩,yG⟩,trivial⟩
 ·obtain ⟨L,⟨h1,_⟩,_⟩:=h
  exact ⟨⟨[],⟨h1,rfl⟩,yG⟩,trivial⟩
 ·obtain ⟨L,⟨h1,_,h3⟩,_⟩:=h
  exact ⟨⟨[],⟨h1,rfl,h3⟩,yG⟩,trivial⟩
 ·rename_i k
  cases hk:st.ob k with
  | row e m xs d=>
   simp only[Zrh]
   split
   ·rename_i hd
    subst hd
    obtain ⟨e1,e2⟩:=hv k e m xs hk
    exact ⟨⟨h.1.trans e1.symm,a⟩,e2⟩
   ·exact ⟨a,trivial⟩
  | gone=>exact ⟨a,trivial⟩
  | box _ _=>exact ⟨a,trivial⟩
  | map _ _ _=>exact ⟨a,trivial⟩
 ·exact ⟨a,trivial⟩
theorem ZiE [NW] {g':Gh} (hv:∀k e m xs,st.ob k=.row e m xs 2→g'.val k=g.val k∧U k):∀{cs:List AV} {vs:List Value},ZH (AVR g w) cs vs→ZH (AVR g' w) (cs.map (Zid st)) vs
 | [],[],_=>trivial
 | _::_,_::_,h=>⟨(ZpK hv h.1).1,ZiE hv h.2⟩
 | [],_::_,h=>h.elim
 | _::_,[],h=>h.elim
theorem Zt5 [NW] {x:SV} {v:Value} {g':Gh} (hv:∀k e m xs,st.ob k=.row e m xs 2→g'.val k=g.val k∧U k) (hu:svU U x) (a:∀k,U k→g'.val k=g.val k) (h:SVR g w x v):SVR g' w (Zmy st x) v:=by
 cases x with
 | p ag cs=>
  cases ag with
  | true=>obtain ⟨vs,e,h⟩:=h;exact ⟨vs,e,ZiE hv h⟩
  | false=>obtain ⟨y,rfl,h⟩:=h;exact ⟨_,rfl,(ZpK hv h).1⟩
 | bp k off=>obtain ⟨b,h1,h2⟩:=h;exact ⟨b,(a k hu).trans h1,h2⟩
 | _=>trivial
theorem ZqW (hv:∀k e m xs,st.ob k=.row e m xs 2→U k) (x:AV):avU U (Zid st x):=by
 unfold Zid
 split
 ·trivial
 ·trivial
 ·trivial
 ·rename_i k
  cases hk:st.ob k with
  | row e m xs d=>
   simp only[Zrh]
   split
   ·rename_i hd
    subst hd
    exact hv k e m xs hk
   ·trivial
  | gone=>trivial
  | box _ _=>trivial
  | map _ _ _=>trivial
 ·trivial
theorem Zvg (hv:∀k e m xs,st.ob k=.row e m xs 2→U k) (x:SV) (hu:svU U x):svU U (Zmy st x):=by
 cases x with
 | p ag cs=>
  intro y my
  obtain ⟨x,mx,rfl⟩:=A7.1 my
  exact ZqW hv x
 | bp k off=>exact hu
 | _=>trivial
theorem ZkY {o:Ob} (h:QW st o≠.gone):(∃e m xs,o=.row e m xs 2)∨∃t cs,o=.box t cs:=by
 cases o with
 | row e m xs d=>
  simp only[QW] at h
  split at h
  ·rename_i hd
   subst hd
   exact .inl ⟨e,m,xs,rfl⟩
  ·exact absurd rfl h
 | gone=>exact absurd rfl h
 | box t cs=>exact .inr ⟨t,cs,rfl⟩
 | map _ _ _=>exact absurd rfl h
theorem ZtS [NW] (hB:W.heap.size≤NW.B0) (t:Nat) (hI:Inv W U st a w) (B:∀k,st.n≤k→¬U k):∃U',Inv W U' (st.thaw t) a w:=by
 obtain ⟨⟨g,hH,hS⟩,hU,d,hh⟩:=hI
 unfold St.thaw
 cases hv:st.sl t with
 | p ag cs=>
  by_cases hc:∃e m xs,ag=false∧cs=[.n (.sl e m xs)]
  ·obtain ⟨e,m,xs,rfl,rfl⟩:=hc
   have hs:=hS t
   rw [hv] at hs
   obtain ⟨_,_,_,cs,L,h1,h2,h3,h4,h5,h6⟩:=ZBN hs
   simp only[CT.sl.injEq] at h1
   obtain ⟨rfl,rfl,rfl⟩:=h1
   let v:=a.tmps.getD t undef
   have hn:st.ob st.n=.gone:=hU.gone _ (B _ (AC _))
   have c:∀k e m xs,st.ob k=.row e m xs 2→k≠st.n∧U k:=fun k e m xs hk=>⟨fun e=>by rw [e,hn] at hk;simp at hk,Classical.byContradiction fun h=>by rw [hU.gone k h] at hk;simp at hk⟩
   let g':Gh:=⟨fun k=>if k=st.n then v else g.val k,fun k=>if k=st.n then v.ownBlock.toList else (match QW st (st.ob k) with | .gone=>[] | _=>g.O k),fun k=>if k=st.n then L else (match QW st (st.ob k) with | .gone=>[] | _=>g.D k),g.Z⟩
   have gn:g'.val st.n=v∧g'.O st.n=v.ownBlock.toList∧g'.D st.n=L:=⟨if_pos rfl,if_pos rfl,if_pos rfl⟩
   have gk:∀k,k≠st.n→QW st (st.ob k)≠.gone→g'.O k=g.O k∧g'.D k=g.D k:=fun k hk ho=>by
    rcases ZkY ho with ⟨e',m',f,e1⟩ | ⟨t',i,e1⟩
    ·simp [g',if_neg hk,e1,QW]
    ·simp [g',if_neg hk,e1,QW]
   have gg:∀k,k≠st.n→QW st (st.ob k)=.gone→g'.O k=[]∧g'.D k=[]:=fun k hk ho=>by
    simp only[g',if_neg hk,ho]
    exact ⟨trivial,trivial⟩
   have o:∀k b,b∈g'.O k++g'.D k→(k=st.n∧b∈v.ownBlock.toList++L)∨(k≠st.n∧QW st (st.ob k)≠.gone∧b∈g.O k++g.D k):=fun k b mb=>by
    by_cases hk:k=st.n
    ·subst hk;rw [gn.2.1,gn.2.2] at mb;exact .inl ⟨rfl,mb⟩
    ·by_cases ho:QW st (st.ob k)=.gone
     ·rw [(gg k hk ho).1,(gg k hk ho).2] at mb;simp at mb
     ·rw [(gk k hk ho).1,(gk k hk ho).2] at mb;exact .inr ⟨hk,ho,mb⟩
   have z:∀k b,b∈g.O k++g.D k→g.low b:=fun k b mb=>by
    rcases A5.1 mb with m1 | m1
    ·exact .inl (.inl ⟨k,m1⟩)
    ·exact .inr ⟨k,m1⟩
   refine ⟨fun k=>U k∨k=st.n,⟨g',⟨hH.below,fun k=>?_,fun k=>?_,fun k j C b mb mj=>?_,fun k b mb=>?_,hH.gz,hH.zx,hH.nw⟩,fun s=>?_⟩,⟨fun s=>?_,fun k=>?_,fun k hk=>?_⟩,d,hh⟩
   ·show ObR g' w k (if k=st.n then .row e m xs 2 else QW st (st.ob k))
    by_cases hk:k=st.n
    ·subst hk
     rw [if_pos rfl]
     exact ⟨h2,cs,L,by rw [gn.1];exact h3,h4,.inl ⟨rfl,by rw [gn.2.1,gn.1],gn.2.2⟩⟩
    ·rw [if_neg hk]
     by_cases ho:QW st (st.ob k)=.gone
     ·rw [ho];exact gg k hk ho
     ·have u:=hH.obs k
      have ev:g'.val k=g.val k:=if_neg hk
      obtain ⟨eO,eD⟩:=gk k hk ho
      rcases ZkY ho with ⟨e',m',f,e1⟩ | ⟨t',i,e1⟩
      ·rw [e1] at u ⊢
       obtain ⟨p1,i,L',p2,p3,p4⟩:=u
       rw [show QW st (.row e' m' f 2)=.row e' m' f 2 from by simp [QW]]
       refine ⟨p1,i,L',by rw [ev];exact p2,p3,?_⟩
       rw [ev,eO,eD]
       rcases p4 with p4 | ⟨q,_⟩ | ⟨q,_⟩
       ·exact .inl p4
       ·omega
       ·omega
      ·rw [e1] at u ⊢
       obtain ⟨b,vs,p1,p2,p3,p4,p5⟩:=u
       exact ⟨b,vs,ev.trans p1,eO.trans p2,eD.trans p3,p4,ZiE (U:=U) (fun k e m xs hk=>⟨if_neg (c k e m xs hk).1,(c k e m xs hk).2⟩) p5⟩
   ·by_cases hk:k=st.n
    ·subst hk;rw [gn.2.1,gn.2.2];exact h5
    ·by_cases ho:QW st (st.ob k)=.gone
     ·rw [(gg k hk ho).1,(gg k hk ho).2];simp
     ·rw [(gk k hk ho).1,(gk k hk ho).2];exact hH.nodup k
   ·rcases o k b mb with ⟨rfl,m1⟩ | ⟨k1,k2,m1⟩
    ·rcases o j b mj with ⟨rfl,m2⟩ | ⟨j1,j2,m2⟩
     ·exact C rfl
     ·exact (h6 b m1).1 (z j b m2)
    ·rcases o j b mj with ⟨rfl,m2⟩ | ⟨j1,j2,m2⟩
     ·exact (h6 b m2).1 (z k b m1)
     ·exact hH.apart k j C b m1 m2
   ·show _∧Xk w (if k=st.n then .row e m xs 2 else QW st (st.ob k)) b
    rcases o k b mb with ⟨rfl,m1⟩ | ⟨k1,k2,m1⟩
    ·rw [if_pos rfl]
     exact ⟨.inl (Nat.le_trans hB (h6 b m1).2.1),(h6 b m1).2.2⟩
    ·obtain ⟨q1,q2⟩:=hH.plain k b m1
     rw [if_neg k1]
     refine ⟨q1,q2.of ?_⟩
     rcases ZkY k2 with ⟨e',m',f,e1⟩ | ⟨t',i,e1⟩
     ·rw [e1];rfl
     ·rw [e1];rfl
   ·show SVR g' w (if s=t then .p false [.row st.n] else Zmy st (st.sl s)) _
    by_cases l:s=t
    ·subst l
     rw [if_pos rfl]
     obtain ⟨A,cap,E⟩:=Q8 h3
     exact ⟨_,rfl,gn.1.symm,by rw [E];rfl⟩
    ·rw [if_neg l]
     exact Zt5 (U:=U) (fun k e m xs hk=>⟨if_neg (c k e m xs hk).1,(c k e m xs hk).2⟩) (hU.sl s) (fun k hk=>if_neg fun e=>B k yE hk) (hS s)
   ·show svU _ (if s=t then .p false [.row st.n] else Zmy st (st.sl s))
    by_cases l:s=t
    ·rw [if_pos l];intro y my;simp at my;subst my;exact .inr rfl
    ·rw [if_neg l];exact Zvg (fun k e m xs hk=>.inl (c k e m xs hk).2) _ ((hU.sl s).mono fun _=>.inl)
   ·show obU _ (if k=st.n then .row e m xs 2 else QW st (st.ob k))
    split
    ·trivial
    ·cases hk:st.ob k with
     | row e' m' f d'=>simp only[QW];split<;>trivial
     | box t' i=>
      intro y my
      obtain ⟨x,mx,rfl⟩:=A7.1 my
      exact ZqW (fun k e m xs hk=>.inl (c k e m xs hk).2) x
     | _=>trivial
   ·show (if k=st.n then .row e m xs 2 else QW st (st.ob k))=.gone
    rw [if_neg fun e=>hk (.inr e),hU.gone k fun h=>hk (.inl h)]
    rfl
  ·have e:Zop st t (.p ag cs)=st:=by
    unfold Zop
    split
    ·rename_i h
     simp only[SV.p.injEq] at h
     exact absurd ⟨_,_,_,h.1,h.2⟩ hc
    ·rfl
   rw [e]
   exact ⟨U,⟨g,hH,hS⟩,hU,d,hh⟩
 | _=>exact ⟨U,⟨g,hH,hS⟩,hU,d,hh⟩
end
abbrev nw0:NW:=⟨0⟩
section
variable {P:Program} {J:World→Prop} {JF:Nat→Prop} {W:QK} {U:Nat→Prop} {st:St} {w w':World} {a:Act} {tt:Nat→Option TI} {od:OD} {g:Gh}
structure JOk (J:World→Prop) (JF:Nat→Prop):Prop where
 below:∀(x:Nat→Prop) (w w':World),J w→(∀b,x b→JF b)→w'.os=w.os→w'.tape=w.tape→w'.output=w.output→w.heap.size≤w'.heap.size→(∀k,k<w.heap.size→¬x k→w'.heap[k]?=w.heap[k]?)→J w'
 new:∀(w:World) b,J w→w.heap.size≤b→JF b
theorem Zea {args:List (Bool × List CT)} {vs:List Value} {N t o:Nat} (h:vs.length≤N) (v:Value) (hv:vs[t]?=some v):(vs.toArray++AF (N - vs.toArray.size) undef).getD t undef=v:=by
 have hl:t<vs.length:=(AE.1 hv).1
 simp only[AB,Ap,Aq,hl,if_true,List.getElem?_toArray,hv,AZ]
theorem Zh0 {vs:List Value} {N t:Nat} (ht:vs.length≤t):(vs.toArray++AF (N - vs.toArray.size) undef).getD t undef=undef:=by
 simp only[AB,Ap,Aq,show ¬t<vs.length by omega,if_false,Array.getElem?_replicate]
 split<;>rfl
theorem Zt7 (htt : ∀ t i, tt t = some i → TOk P t i) (hJ : JOk J JF) (hmix : P.follows .mixedOrders = true) {hds : FuncId → Nat} {f : FuncId} {fn : Func} {c : Code} {args : List (Bool × List CT)} {res : List RT} (hf : P.funcs[f]? = some fn) (hname : (fn.name == "runtime.NumGoroutine") = false) (hb : fn.body = some c)
  (hok:Y4 od tt hds false fn.ntmps c=true) (hlen:Nat.ble args.length fn.ntmps=true) (h:fnS od tt (SC P J JF hds) fn.results.toList c args res):Zl P J f args res:=by
 letI:NW:=nw0
 refine ⟨⟨fn,hf,hname,by rw [hb];rfl⟩,fun w z vs hj hz hargs=>?_⟩
 have hlen':args.length≤fn.ntmps:=AA hlen
 have hvl:=hargs.len
 refine calls_of_wp hf hb ?_
 let W:QK:={ w with z:=z,x:=fun _=>False,hv:=none }
 let g0:Gh:=⟨fun _=>undef,fun _=>[],fun _=>[],z⟩
 have hg0:∀b,g0.own b→z b:=fun b hb=>by
  rcases hb with ⟨k,m⟩ | h
  ·simp [g0] at m
  ·exact h
 have hI0:Inv W (fun _=>False) (Zm args) { tmps:=vs.toArray++AF (fn.ntmps - vs.toArray.size) undef,defers:=[] } w:=by
  refine ⟨⟨g0,⟨⟨rfl,rfl,rfl,AC _,fun _ _ _=>rfl⟩,fun k=>⟨rfl,rfl⟩,fun k=>by simp [g0],fun k j _ b m=>by simp [g0] at m,fun k b m=>by simp [g0] at m,rfl,fun b hb=>⟨hz b hb,fun h=>h⟩,fun _ _=>Nat.zero_le _⟩,fun t=>?_⟩,⟨fun t=>?_,fun k=>trivial,fun k _=>rfl⟩,rfl,fun v hv=>by simp [W] at hv⟩
  ·show SVR g0 w (match args[t]? with | some x=>.p x.1 (x.2.map Zhh) | none=>.und) _
   cases ht:args[t]? with
   | none=>exact Zh0 (by have:args.length≤t:=(by simpa using ht);omega)
   | some x=>
    obtain ⟨v,hv,hr⟩:=hargs.at ht
    show SVR g0 w (.p x.1 (x.2.map Zhh)) ((vs.toArray++AF (fn.ntmps - vs.toArray.size) undef).getD t undef)
    rw [Zea (args:=args) (o:=0) yE v hv]
    exact Zlc hg0 hr
  ·show svU _ (match args[t]? with | some x=>.p x.1 (x.2.map Zhh) | none=>.und)
   split
   ·exact ZjT _
   ·trivial
 have hM:MOk P J JF W tt:=⟨htt,fun w' hb=>hJ.below (fun _=>False) w w' hj (fun _ h=>h.elim) hb.os hb.tape hb.output hb.size (fun k hk hx=>hb.block k hk hx),fun b hb=>hJ.new w b hj hb,fun b h=>h.elim⟩
 refine X8 (W:=W) hM hmix (.inl rfl) c hok (ZoL tt fn.results.toList fun _ r _=>wkR r res) _ ?_ _ (Zm args) _ w hI0 (fun _ _ h=>h) (by simp;omega) h
 intro ex U' st' a' w' hI' _ _ hK
 have fin:(match Zbb tt st' fn.results.toList with | some x=>x.2.Nodup∧wkR x.1 res | none=>False)→a'.defers=[]∧∃v,(results fn a'.tmps).run P w'=.ok v w'∧∃u n,Ending.returned v=.returned u∧Ziy w' w.heap.size n res u∧(∀b,z b→n b)∧Below w.heap.size w w':=fun hK=>by
  split at hK
  ·rename_i x hx
   obtain ⟨r,ks⟩:=x
   obtain ⟨hnd,hw⟩:=hK
   obtain ⟨g,hH,hS⟩:=hI'.ex
   have hBg:∀k∈ks,∀b∈g.O k++g.D k,W.heap.size≤b:=fun k _ b mb=>(hH.plain k b mb).1.resolve_right fun h=>h
   obtain ⟨v,m,e1,e2,_,_,e4⟩:=Zp0 htt hI' hH hS hx hnd hw hBg (fun _=>False) (fun _ h=>h.elim)
   have hbel:=hH.below
   exact ⟨hI'.defers,v,e1,v,m,rfl,e2,fun b hb=>e4 b (fun mb=>by obtain ⟨k,hk,mk⟩:=Zie mb;have:=hBg k hk b mk;have:=hz b hb;have e:W.heap.size=w.heap.size:=rfl;omega) (.inl (by rw [hH.gz];exact hb)),hbel.os,hbel.tape,hbel.output,hbel.size,fun k hk=>hbel.block k hk fun h=>h⟩
  ·exact hK.elim
 cases ex with
 | normal=>exact fin hK
 | exit id=>exact hK.elim
 | ret=>exact fin hK
theorem ZrX (htt : ∀ t i, tt t = some i → TOk P t i) (hJ : JOk J JF) (hmix : P.follows .mixedOrders = true) {hds : FuncId → Nat} {f : FuncId} {fn : Func} {c : Code} {args : List (Bool × List CT)} {res : List RT} (hf : P.funcs[f]? = some fn) (hname : (fn.name == "runtime.NumGoroutine") = false) (hb : fn.body = some c)
  (hok:Y4 od tt hds false fn.ntmps c=true) (hlen:Nat.ble args.length fn.ntmps=true) (t0:Nat) (h:fnN od tt (SC P J JF hds) fn.results.toList t0 c args res):Zl P J f args res:=by
 refine ⟨⟨fn,hf,hname,by rw [hb];rfl⟩,fun w z vs hj hz hargs=>?_⟩
 letI:NW:=⟨w.heap.size⟩
 have hlen':args.length≤fn.ntmps:=AA hlen
 have hvl:=hargs.len
 refine calls_of_wp hf hb ?_
 let W:QK:={ w with z:=z,x:=fun _=>False,hv:=none }
 let g0:Gh:=⟨fun _=>undef,fun _=>[],fun _=>[],z⟩
 have hg0:∀b,g0.own b→z b:=fun b hb=>by
  rcases hb with ⟨k,m⟩ | h
  ·simp [g0] at m
  ·exact h
 have hI0:Inv W (fun _=>False) (Zm args) { tmps:=vs.toArray++AF (fn.ntmps - vs.toArray.size) undef,defers:=[] } w:=by
  refine ⟨⟨g0,⟨⟨rfl,rfl,rfl,AC _,fun _ _ _=>rfl⟩,fun k=>⟨rfl,rfl⟩,fun k=>by simp [g0],fun k j _ b m=>by simp [g0] at m,fun k b m=>by simp [g0] at m,rfl,fun b hb=>⟨hz b hb,fun h=>h⟩,fun b hb=>hb.elim (fun h=>h) fun h=>h.elim⟩,fun t=>?_⟩,⟨fun t=>?_,fun k=>trivial,fun k _=>rfl⟩,rfl,fun v hv=>by simp [W] at hv⟩
  ·show SVR g0 w (match args[t]? with | some x=>.p x.1 (x.2.map Zhh) | none=>.und) _
   cases ht:args[t]? with
   | none=>exact Zh0 (by have:args.length≤t:=(by simpa using ht);omega)
   | some x=>
    obtain ⟨v,hv,hr⟩:=hargs.at ht
    show SVR g0 w (.p x.1 (x.2.map Zhh)) ((vs.toArray++AF (fn.ntmps - vs.toArray.size) undef).getD t undef)
    rw [Zea (args:=args) (o:=0) yE v hv]
    exact Zlc hg0 hr
  ·show svU _ (match args[t]? with | some x=>.p x.1 (x.2.map Zhh) | none=>.und)
   split
   ·exact ZjT _
   ·trivial
 have hM:MOk P J JF W tt:=⟨htt,fun w' hb=>hJ.below (fun _=>False) w w' hj (fun _ h=>h.elim) hb.os hb.tape hb.output hb.size (fun k hk hx=>hb.block k hk hx),fun b hb=>hJ.new w b hj hb,fun b h=>h.elim⟩
 refine X8 (W:=W) hM hmix (.inl rfl) c hok (Zu5 t0 (ZoL tt fn.results.toList fun _ r _=>wkR r res)) _ ?_ _ (Zm args) _ w hI0 (fun _ _ h=>h) (by simp;omega) h
 intro ex U1 st1 a' w' hI1 hn1 _ hK
 obtain ⟨U',hI'⟩:=ZtS (AC _) t0 hI1 hn1
 generalize hst:st1.thaw t0=st' at hI'
 simp only[Zu5,hst] at hK
 have fin:(match Zbb tt st' fn.results.toList with | some x=>x.2.Nodup∧wkR x.1 res | none=>False)→a'.defers=[]∧∃v,(results fn a'.tmps).run P w'=.ok v w'∧∃u n,Ending.returned v=.returned u∧Ziy w' w.heap.size n res u∧(∀b,z b→n b)∧Below w.heap.size w w':=fun hK=>by
  split at hK
  ·rename_i x hx
   obtain ⟨r,ks⟩:=x
   obtain ⟨hnd,hw⟩:=hK
   obtain ⟨g,hH,hS⟩:=hI'.ex
   have hBg:∀k∈ks,∀b∈g.O k++g.D k,W.heap.size≤b:=fun k _ b mb=>(hH.plain k b mb).1.resolve_right fun h=>h
   obtain ⟨v,m,e1,e2,_,_,e4⟩:=Zp0 htt hI' hH hS hx hnd hw hBg (fun _=>False) (fun _ h=>h.elim)
   have hbel:=hH.below
   exact ⟨hI'.defers,v,e1,v,m,rfl,e2,fun b hb=>e4 b (fun mb=>by obtain ⟨k,hk,mk⟩:=Zie mb;have:=hBg k hk b mk;have:=hz b hb;have e:W.heap.size=w.heap.size:=rfl;omega) (.inl (by rw [hH.gz];exact hb)),hbel.os,hbel.tape,hbel.output,hbel.size,fun k hk=>hbel.block k hk fun h=>h⟩
  ·exact hK.elim
 cases ex with
 | normal=>exact fin hK
 | exit id=>exact hK.elim
 | ret=>exact fin hK
theorem ZsF (htt : ∀ t i, tt t = some i → TOk P t i) (hJ : JOk J JF) (hmix : P.follows .mixedOrders = true) {hds : FuncId → Nat} {f : FuncId} {fn : Func} {c : Code} {args : List (Bool × List CT)} {nb : NB} (hf : P.funcs[f]? = some fn) (hname : (fn.name == "runtime.NumGoroutine") = false) (hb : fn.body = some c)
  (hok:Y4 od tt hds false fn.ntmps c=true) (hlen:Nat.ble args.length fn.ntmps=true) (h:fnB od tt (SC P J JF hds) fn.results.toList c args nb):Zj3 P J f args nb:=by
 letI:NW:=nw0
 refine ⟨⟨fn,hf,hname,by rw [hb];rfl⟩,fun w z vs hj hz hargs=>?_⟩
 have hlen':args.length≤fn.ntmps:=AA hlen
 have hvl:=hargs.len
 refine calls_of_wp hf hb ?_
 let W:QK:={ w with z:=z,x:=fun _=>False,hv:=none }
 let g0:Gh:=⟨fun _=>undef,fun _=>[],fun _=>[],z⟩
 have hg0:∀b,g0.own b→z b:=fun b hb=>by
  rcases hb with ⟨k,m⟩ | h
  ·simp [g0] at m
  ·exact h
 have hI0:Inv W (fun _=>False) (Zm args) { tmps:=vs.toArray++AF (fn.ntmps - vs.toArray.size) undef,defers:=[] } w:=by
  refine ⟨⟨g0,⟨⟨rfl,rfl,rfl,AC _,fun _ _ _=>rfl⟩,fun k=>⟨rfl,rfl⟩,fun k=>by simp [g0],fun k j _ b m=>by simp [g0] at m,fun k b m=>by simp [g0] at m,rfl,fun b hb=>⟨hz b hb,fun h=>h⟩,fun _ _=>Nat.zero_le _⟩,fun t=>?_⟩,⟨fun t=>?_,fun k=>trivial,fun k _=>rfl⟩,rfl,fun v hv=>by simp [W] at hv⟩
  ·show SVR g0 w (match args[t]? with | some x=>.p x.1 (x.2.map Zhh) | none=>.und) _
   cases ht:args[t]? with
   | none=>exact Zh0 (by have:args.length≤t:=(by simpa using ht);omega)
   | some x=>
    obtain ⟨v,hv,hr⟩:=hargs.at ht
    show SVR g0 w (.p x.1 (x.2.map Zhh)) ((vs.toArray++AF (fn.ntmps - vs.toArray.size) undef).getD t undef)
    rw [Zea (args:=args) (o:=0) yE v hv]
    exact Zlc hg0 hr
  ·show svU _ (match args[t]? with | some x=>.p x.1 (x.2.map Zhh) | none=>.und)
   split
   ·exact ZjT _
   ·trivial
 have hM:MOk P J JF W tt:=⟨htt,fun w' hb=>hJ.below (fun _=>False) w w' hj (fun _ h=>h.elim) hb.os hb.tape hb.output hb.size (fun k hk hx=>hb.block k hk hx),fun b hb=>hJ.new w b hj hb,fun b h=>h.elim⟩
 refine X8 (W:=W) hM hmix (.inl rfl) c hok (ZuB fn.results.toList nb) _ ?_ _ (Zm args) _ w hI0 (fun _ _ h=>h) (by simp;omega) h
 intro ex U' st' a' w' hI' _ _ hK
 have fin:ZeR st' fn.results.toList nb→a'.defers=[]∧∃v,(results fn a'.tmps).run P w'=.ok v w'∧∃(b:Nat) (n:Nat→Prop),Ending.returned v=.returned (Zmc b nb)∧w.heap.size≤b∧nbR w' n b nb∧n b∧(∀x,z x→n x)∧Below w.heap.size w w':=fun hK=>by
  unfold ZeR at hK
  split at hK
  ·rename_i s hrs
   have er:fn.results=#[.tmp s]:=by
    have:=congrArg Ad hrs
    simpa using this
   obtain ⟨g,hH,hS⟩:=hI'.ex
   have hs:=hS s
   have hbel:=hH.below
   cases nb with
   | box t cs=>
    obtain ⟨k,ds,k1,k2,k3,k4⟩:=hK
    rw [k1] at hs
    obtain ⟨b,b1,b2⟩:=hs
    have hob:=hH.obs k
    rw [k2] at hob
    obtain ⟨b',us,o1,o2,o3,o4,o5⟩:=hob
    have hbb:b'=b:=by rw [b1] at o1;simpa using o1.symm
    subst hbb
    obtain ⟨L,hL,hL2⟩:=Zei hH k4 o5
    have hno:=hL2 fun y my=>by
     have:=AG.1 k3 y my
     cases y<;>simp [Zaa] at this<;>trivial
    refine ⟨hI'.defers,_,?_,b',fun x=>g.own x,rfl,(hH.plain k b' (by simp [o2])).1.resolve_right fun h=>h,⟨us,L,o4,hL,hno⟩,.inl ⟨k,by simp [o2]⟩,fun x hx=>.inr (by rw [hH.gz];exact hx),hbel.os,hbel.tape,hbel.output,hbel.size,fun k hk=>hbel.block k hk fun h=>h⟩
    rw [Zg4,er]
    simp [Zes,b2,Zmc]
   | map kk vk kv=>
    obtain ⟨k,k1,k2⟩:=hK
    rw [k1] at hs
    obtain ⟨x,hx,hx3⟩:=hs
    simp only[AQ,and_true] at hx
    subst hx
    obtain ⟨hx2,_⟩:=hx3
    have hob:=hH.obs k
    rw [k2] at hob
    obtain ⟨b,es,c,o1,o2,o3,o4,o5⟩:=hob
    refine ⟨hI'.defers,_,?_,b,fun x=>g.own x,rfl,(hH.plain k b (by simp [o2])).1.resolve_right fun h=>h,⟨es,c,o4,o5⟩,.inl ⟨k,by simp [o2]⟩,fun x hx=>.inr (by rw [hH.gz];exact hx),hbel.os,hbel.tape,hbel.output,hbel.size,fun k hk=>hbel.block k hk fun h=>h⟩
    rw [Zg4,er]
    simp [Zes,hx2,o1,Zmc]
  ·exact hK.elim
 cases ex with
 | normal=>exact fin hK
 | exit id=>exact hK.elim
 | ret=>exact fin hK
end
instance nwD:NW:=nw0
end
section
open Go.RowKit
def Zi0 {α β:Type} (f:α→β→Bool):List α→List β→Bool
 | [],[]=>true
 | a::l,b::r=>f a b&&Zi0 f l r
 | _,_=>false
theorem ZhV {α β:Type} {f:α→β→Bool} {R:α→β→Prop} (h:∀a b,f a b=true→R a b):∀{l:List α} {r:List β},Zi0 f l r=true→ZH R l r
 | [],[],_=>trivial
 | a::l,b::r,hh=>by
  simp only[Zi0,A6] at hh
  exact ⟨h a b hh.1,ZhV h hh.2⟩
 | [],_::_,hh=>by simp [Zi0] at hh
 | _::_,[],hh=>by simp [Zi0] at hh
def Zs9 (P:Program) (fi:FI) (f:Field):Bool:=
 f.offset==fi.off&&!(fi.size==0)&&match P.info? f.type,P.underlying f.type with
  | some j,some d=>j.size==fi.size&&(Zpk d==fi.agg)
  | _,_=>false
def ZyM:Value→Bool
 | .slice none 0 0=>true
 | _=>false
def Zsx (P:Program):List PK→List Field→Nat→Bool
 | [],[],_=>true
 | k :: ks, f :: fs, n => (f.name != "_") && (f.offset == n) && (match P.underlying f.type with | some d => Zc4 k d | none => false) && Zsx P ks fs (n + 1)
 | _,_,_=>false
theorem Zq8 {P:Program}:∀{ks:List PK} {fs:List Field} {n:Nat},Zsx P ks fs n=true→EqF P ks fs n
 | [],[],_,_=>trivial
 | k::ks,f::fs,n,h=>by
  simp only[Zsx,A6,bne_iff_ne,beq_iff_eq] at h
  obtain ⟨⟨⟨h1,h2⟩,h3⟩,h4⟩:=h
  split at h3
  ·rename_i d hd;exact ⟨h1,h2,⟨d,hd,h3⟩,Zq8 h4⟩
  ·simp at h3
 | [],_::_,_,h=>by simp [Zsx] at h
 | _::_,[],_,h=>by simp [Zsx] at h
def Zmn:Option TypeDesc→Bool
 | some (.struct _)=>true
 | _=>false
def ZzP (P:Program) (t:TypeId) (ks:List PK):Bool:=
 Nat.ble 4000 t&&Zmn (P.underlying (t - 4000))&&!(P.stoodInHeld (t - 4000))&&!(P.eqGuardType P.depth (t - 4000))&&Zsx P ks (P.fieldsOf (t - 4000)).toList 0
theorem Zvr {P:Program} {t:TypeId} {ks:List PK} (h:ZzP P t ks=true):TOk P t (.eqs ks):=by
 simp only[ZzP,A6,Ar] at h
 obtain ⟨⟨⟨⟨h1,h2⟩,h3⟩,h4⟩,h5⟩:=h
 refine ⟨t - 4000,?_,?_,h3,h4,Zq8 h5⟩
 ·have:4000≤t:=AA h1
  exact (Nat.sub_add_cancel this).symm
 ·unfold Zmn at h2
  split at h2
  ·rename_i fs e
   unfold Program.fieldsOf
   rw [e]
  ·simp at h2
def tOk (P:Program) (t:TypeId) (ti:TI):Bool:=
 match ti with
 | .eqs ks=>ZzP P t ks
 | _=>
 match P.underlying t,P.info? t with
 | some d,some i=>match ti with
  | .atom z=>ZgW d z&&i.size==1&&match i.zero with | some zv=>QV z zv | none=>false
  | .strct fs n z=>match d with
   | .struct fields=>i.size==n&&(match i.zero with | some (.agg zvs)=>Zi0 QV z zvs.toList | _=>false)&&Zi0 (Zs9 P) fs fields.toList
   | _=>false
  | .slice e m bytes z=>match d with
   | .slice e'=>e==e'&&Nat.blt 0 m&&Nat.ble bytes 131072&&(match P.info? e with
     | some ie=>ie.size==m&&ie.bytes==bytes&&(match ie.zero with | some zv=>Zi0 QV z zv.cells.toList | none=>false)
     | none=>false)&&z.length==m&&i.size==1&&(match i.zero with | some zv=>ZyM zv | none=>false)
   | _=>false
  | .map kk vk=>match d with
   | .map kt et=>(match P.underlying kt with | some dk=>Zc4 kk dk | none=>false)&&(match P.underlying et with | some dv=>Zc4 vk dv | none=>false)&&(match P.info? et with | some ie=>(match ie.zero with | some zv=>QV (ZdG vk) zv | none=>false) | none=>false)
   | _=>false
  | .ifc=>match d with
   | .interface _=>true
   | _=>false
  | .eqs _=>false
 | _,_=>false
theorem Zvb {v:Value} (h:ZyM v=true):v=.slice none 0 0:=by
 unfold ZyM at h
 split at h
 ·rfl
 ·simp at h
theorem Zwq {P:Program} {t:TypeId} {ti:TI} (h:tOk P t ti=true):TOk P t ti:=by
 unfold tOk at h
 split at h
 ·exact Zvr h
 split at h
 ·rename_i d i hd hi
  cases ti with
  | eqs ks=>simp at h
  | ifc=>
   simp only at h
   split at h
   ·exact ⟨_,hd⟩
   ·simp at h
  | map kk vk=>
   simp only at h
   split at h
   ·rename_i kt et
    simp only[A6] at h
    obtain ⟨⟨h1,h2⟩,h3⟩:=h
    split at h1
    ·rename_i dk c
     split at h2
     ·rename_i dv g
      split at h3
      ·rename_i ie b
       split at h3
       ·rename_i zv hz
        exact ⟨kt,et,dk,dv,ie,zv,hd,c,h1,g,h2,b,hz,h3⟩
       ·simp at h3
      ·simp at h3
     ·simp at h2
    ·simp at h1
   ·simp at h
  | atom z=>
   simp only[A6,beq_iff_eq] at h
   obtain ⟨⟨h1,h2⟩,h3⟩:=h
   split at h3
   ·rename_i zv hz;exact ⟨d,zv,i,hd,h1,hi,hz,h2,h3⟩
   ·simp at h3
  | strct fs n z=>
   simp only at h
   split at h
   ·rename_i a
    simp only[A6,beq_iff_eq] at h
    obtain ⟨⟨h1,h2⟩,h3⟩:=h
    split at h2
    ·rename_i zvs hz
     refine ⟨a,i,zvs,hd,hi,h1,hz,ZhV (fun _ _ h=>h) h2,ZhV (fun fi f hf=>?_) h3⟩
     unfold Zs9 at hf
     simp only[A6,beq_iff_eq,Ar,beq_eq_false_iff_ne] at hf
     obtain ⟨⟨f1,f2⟩,f3⟩:=hf
     split at f3
     ·rename_i j d' hj k
      simp only[A6,beq_iff_eq] at f3
      exact ⟨f1,f2,j,d',hj,f3.1,k,f3.2⟩
     ·simp at f3
    ·simp at h2
   ·simp at h
  | slice e m bytes z=>
   simp only at h
   split at h
   ·rename_i e'
    simp only[A6,beq_iff_eq] at h
    obtain ⟨⟨⟨⟨⟨⟨h1,h2⟩,h3⟩,h4⟩,h5⟩,h6⟩,h7⟩:=h
    subst h1
    split at h4
    ·rename_i ie b
     simp only[A6,beq_iff_eq] at h4
     obtain ⟨⟨k1,k2⟩,k3⟩:=h4
     split at k3
     ·rename_i zv hz
      split at h7
      ·rename_i zv' l
       exact ⟨hd,AA h2,AA h3,⟨ie,zv,b,k1,k2,hz,ZhV (fun _ _ h=>h) k3,h5⟩,i,hi,h6,by rw [l,Zvb h7]⟩
      ·simp at h7
     ·simp at k3
    ·simp at h4
   ·simp at h
 ·simp at h
def ZtC:List (Nat × TI)→Nat→Option TI
 | [],_=>none
 | p::r,t=>if p.1=t then some p.2 else ZtC r t
theorem Zs8 {P:Program}:∀(l:List (Nat × TI)),(l.all fun p=>tOk P p.1 p.2)=true→∀t i,ZtC l t=some i→TOk P t i
 | [],_,t,i,h=>by simp [ZtC] at h
 | p::r,ha,t,i,h=>by
  simp only[List.all_cons,A6] at ha
  simp only[ZtC] at h
  split at h
  ·rename_i e
   simp only[A0] at h
   subst h e
   exact Zwq ha.1
  ·exact Zs8 r ha.2 t i h
end
section
open Go.RowKit
def Zv1 (P:Program) (L:List (String × (Array Value→Prop))) (w:World):Prop:=∀x∈L,∃cs,w.var? P x.1=some cs∧x.2 cs
def ZvV (P:Program) (L:List (String × (Array Value→Prop))) (b:Nat):Prop:=∀x∈L,¬P.globalNamed x.1=some b
theorem Zvk (P:Program) (L:List (String × (Array Value→Prop))):JOk (Zv1 P L) (ZvV P L) where
 below:=fun x w w' hj hx _ _ _ hs hb y my=>by
  obtain ⟨cs,h1,h2⟩:=hj y my
  refine ⟨cs,?_,h2⟩
  unfold World.var? at h1 ⊢
  obtain ⟨g,hg,h1⟩:=A9.1 h1
  rw [hg,AH]
  have a:g<w.heap.size:=by
   rcases AW g w.heap.size with h | h
   ·exact h
   ·rw [AX h] at h1;simp at h1
  rw [hb g a (fun h=>hx g h y my hg)]
  exact h1
 new:=fun w b hj hb y my hg=>by
  obtain ⟨cs,h1,_⟩:=hj y my
  unfold World.var? at h1
  rw [hg,AH,AX hb] at h1
  simp at h1
theorem ZDP {J:World→Prop} {JF:Nat→Prop} (h:JOk J JF) {w w':World} (hj:J w) (hb:Below w.heap.size w w'):J w':=
 h.below (fun _=>False) w w' hj (fun _ h=>h.elim) hb.os hb.tape hb.output hb.size fun k hk _=>hb.block k hk
theorem Zo0 {w:World} {B:Nat} {n:Nat→Prop} {ct:CT} {v:Value} (h:OC w B n (false,ct) v []):Ziy w B n [(false,[(false,ct)])] v:=
 ⟨[v],[],⟨v,[],[],[],rfl,rfl,.inr ⟨rfl,_,rfl,h⟩,rfl,rfl⟩,Own.nil _ _,yG⟩
theorem ZpA {w:World} {B:Nat} {n:Nat→Prop} {c1 c2:CT} {v1 v2:Value} (h1:OC w B n (false,c1) v1 []) (h2:OC w B n (false,c2) v2 []):Ziy w B n [(false,[(false,c1)]),(false,[(false,c2)])] (.tuple #[v1,v2]):=
 ⟨[v1,v2],[],⟨v1,[v2],[],[],rfl,rfl,.inr ⟨rfl,_,rfl,h1⟩,v2,[],[],[],rfl,rfl,.inr ⟨rfl,_,rfl,h2⟩,rfl,rfl⟩,Own.nil _ _,yG⟩
theorem Zrp {w:World} {z:Nat→Prop} {c:CT} {v:Value} (h:Zjv w z (false,[c]) v):∃L,RC w c v L:=by
 rcases h with ⟨h,_⟩ | ⟨_,ct,L,h,hr,_⟩
 ·simp at h
 ·simp only[AQ,and_true] at h
  subst h
  exact ⟨L,hr⟩
theorem ZjO {w:World} {z:Nat→Prop} {c:CT} {vs:List Value} (h:ZH (Zjv w z) [(false,[c])] vs):∃v L,vs=[v]∧RC w c v L:=by
 cases vs with
 | nil=>exact h.elim
 | cons v r=>
  cases r with
  | nil=>obtain ⟨L,hr⟩:=Zrp h.1;exact ⟨v,L,rfl,hr⟩
  | cons _ _=>exact h.2.elim
theorem Zs7 {w:World} {z:Nat→Prop} {c d:CT} {vs:List Value} (h:ZH (Zjv w z) [(false,[c]),(false,[d])] vs):∃v u L M,vs=[v,u]∧RC w c v L∧RC w d u M:=by
 cases vs with
 | nil=>exact h.elim
 | cons v r=>
  obtain ⟨u,M,rfl,hu⟩:=ZjO h.2
  obtain ⟨L,hr⟩:=Zrp h.1
  exact ⟨v,u,L,M,rfl,hr,hu⟩
end
section
open Go.RowKit
def ttL:List (Nat × TI):=[
 (2,.atom (.c (.int .i64 0))),
 (3,.atom (.c (.int .i64 0))),
 (4,.atom (.c (.bool false))),
 (5,.atom (.c (.int .u8 0))),
 (9,.atom (.c (.str ⟨#[]⟩))),
 (12,.atom (.c (.int .u64 0))),
 (14,.strct [⟨0,1,false⟩,⟨1,1,false⟩] 2 [.c (.str ⟨#[]⟩),.c (.int .u64 0)]),
 (20,.ifc),
 (21,.atom (.c (.int .i32 0))),
 (22,.slice 100 4 72 [.c (.str ⟨#[]⟩),.c (.int .i64 0),.nil 113 5,.nil 221 3]),
 (23,.slice 66 2 40 [.c (.str ⟨#[]⟩),.nil 9 1]),
 (26,.slice 71 2 40 [.c (.str ⟨#[]⟩),.nil 9 1]),
 (28,.slice 104 4 72 [.c (.str ⟨#[]⟩),.c (.int .i64 0),.nil 60 5,.nil 166 3]),
 (36,.slice 113 5 80 [.c (.int .i64 0),.c (.str ⟨#[]⟩),.nil 9 1,.c (.str ⟨#[]⟩),.c (.str ⟨#[]⟩)]),
 (38,.slice 61 1 24 [.nil 135 2]),
 (41,.slice 60 5 80 [.c (.int .i64 0),.c (.str ⟨#[]⟩),.nil 9 1,.c (.str ⟨#[]⟩),.c (.str ⟨#[]⟩)]),
 (48,.slice 5 1 1 [.c (.int .u8 0)]),
 (56,.slice 9 1 16 [.c (.str ⟨#[]⟩)]),
 (58,.strct [⟨0,1,false⟩,⟨1,1,false⟩] 2 [.c (.str ⟨#[]⟩),.nil 9 1]),
 (60,.strct [⟨0,1,false⟩,⟨1,2,true⟩,⟨3,1,false⟩,⟨4,1,false⟩] 5 [.c (.int .i64 0),.c (.str ⟨#[]⟩),.nil 9 1,.c (.str ⟨#[]⟩),.c (.str ⟨#[]⟩)]),
 (61,.slice 135 2 32 [.c (.str ⟨#[]⟩),.c (.str ⟨#[]⟩)]),
 (66,.strct [⟨0,1,false⟩,⟨1,1,false⟩] 2 [.c (.str ⟨#[]⟩),.nil 9 1]),
 (68,.slice 86 4 80 [.c (.str ⟨#[]⟩),.nil 9 1,.c (.str ⟨#[]⟩),.nil 3 1]),
 (71,.strct [⟨0,1,false⟩,⟨1,1,false⟩] 2 [.c (.str ⟨#[]⟩),.nil 9 1]),
 (84,.slice 3 1 8 [.c (.int .i64 0)]),
 (86,.strct [⟨0,2,true⟩,⟨2,1,false⟩,⟨3,1,false⟩] 4 [.c (.str ⟨#[]⟩),.nil 9 1,.c (.str ⟨#[]⟩),.nil 3 1]),
 (89,.slice 144 3 56 [.c (.int .i64 0),.nil 3 1,.nil 3 1]),
 (91,.strct [⟨0,1,false⟩,⟨1,1,false⟩] 2 [.c (.int .i64 0),.nil 144 3]),
 (94,.slice 4 1 1 [.c (.bool false)]),
 (98,.slice 221 3 48 [.c (.int .i64 0),.c (.str ⟨#[]⟩),.nil 9 1]),
 (100,.strct [⟨0,1,false⟩,⟨1,1,false⟩,⟨2,1,false⟩,⟨3,1,false⟩] 4 [.c (.str ⟨#[]⟩),.c (.int .i64 0),.nil 113 5,.nil 221 3]),
 (102,.slice 166 3 48 [.c (.int .i64 0),.c (.str ⟨#[]⟩),.nil 9 1]),
 (104,.strct [⟨0,1,false⟩,⟨1,1,false⟩,⟨2,1,false⟩,⟨3,1,false⟩] 4 [.c (.str ⟨#[]⟩),.c (.int .i64 0),.nil 60 5,.nil 166 3]),
 (111,.strct [⟨0,1,false⟩,⟨1,1,false⟩] 2 [.c (.str ⟨#[]⟩),.nil 9 1]),
 (113,.strct [⟨0,1,false⟩,⟨1,2,true⟩,⟨3,1,false⟩,⟨4,1,false⟩] 5 [.c (.int .i64 0),.c (.str ⟨#[]⟩),.nil 9 1,.c (.str ⟨#[]⟩),.c (.str ⟨#[]⟩)]),
 (114,.slice 118 2 48 [.nil 71 2,.nil 135 2]),
 (118,.strct [⟨0,1,false⟩,⟨1,1,false⟩] 2 [.nil 71 2,.nil 135 2]),
 (135,.strct [⟨0,1,false⟩,⟨1,1,false⟩] 2 [.c (.str ⟨#[]⟩),.c (.str ⟨#[]⟩)]),
 (138,.slice 146 3 64 [.c (.str ⟨#[]⟩),.nil 71 2,.nil 135 2]),
 (144,.strct [⟨0,1,false⟩,⟨1,1,false⟩,⟨2,1,false⟩] 3 [.c (.int .i64 0),.nil 3 1,.nil 3 1]),
 (146,.strct [⟨0,1,false⟩,⟨1,2,true⟩] 3 [.c (.str ⟨#[]⟩),.nil 71 2,.nil 135 2]),
 (149,.slice 153 2 40 [.c (.str ⟨#[]⟩),.nil 71 2]),
 (153,.strct [⟨0,1,false⟩,⟨1,1,false⟩] 2 [.c (.str ⟨#[]⟩),.nil 71 2]),
 (166,.strct [⟨0,1,false⟩,⟨1,2,true⟩] 3 [.c (.int .i64 0),.c (.str ⟨#[]⟩),.nil 9 1]),
 (170,.slice 94 1 24 [.nil 4 1]),
 (184,.strct [⟨0,1,false⟩,⟨1,1,false⟩,⟨2,1,false⟩] 3 [.nil 5 1,.c (.int .i64 0),.c (.int .i64 0)]),
 (221,.strct [⟨0,1,false⟩,⟨1,2,true⟩] 3 [.c (.int .i64 0),.c (.str ⟨#[]⟩),.nil 9 1]),
 (250,.atom (.c (.int .u64 0))),
 (260,.map .str .bool),
 (263,.ifc),
 (264,.ifc),
 (288,.atom (.c (.int .u32 0))),
 (290,.atom (.c (.int .u64 0))),
 (327,.strct [⟨0,1,false⟩] 1 [.c (.str ⟨#[]⟩)]),
 (4135,.eqs [.str,.str])]
def tt (t:Nat):Option TI:=ZtC ttL t
theorem htt:∀t i,tt t=some i→TOk prog t i:=Zs8 ttL (by kernel_rfl)
theorem hmix:prog.follows .mixedOrders=true:=by kernel_rfl
def ZuR : List (String × (Array Value → Prop)) := [("internal/strconv.uint64pow10", fun cs => cs = (Lib.pow10Tab.map fun z => Value.int .u64 z).toArray), ("strconv.ErrSyntax", fun cs => ∃ tp p, cs = #[.iface tp p])]
def J0:World→Prop:=Zv1 prog ZuR
def JF0:Nat→Prop:=ZvV prog ZuR
theorem hJ0:JOk J0 JF0:=Zvk _ _
theorem ZyT (w : World) (h : J0 w) : Lib.TabIs prog w "internal/strconv.uint64pow10" .u64 Lib.pow10Tab := by
 obtain ⟨cs,h1,h2⟩:=h _ (List.mem_cons_self ..)
 rw [h2] at h1
 exact h1
theorem Zyl (w : World) (h : J0 w) : ∃ tp p, w.var? prog "strconv.ErrSyntax" = some #[.iface tp p] := by
 obtain ⟨cs, h1, tp, p, h2⟩ := h ("strconv.ErrSyntax", fun cs => ∃ tp p, cs = #[.iface tp p]) (by simp [ZuR])
 rw [h2] at h1
 exact ⟨tp,p,h1⟩
def hdL:List (Nat × Nat):=[(12,2),(15,2),(24,2),(31,2),(36,2),(77,2),(83,3),(84,1),(85,1),(92,1),(109,1),(110,1),(115,2),(125,2),(136,2),(142,1),(143,1),(144,1),(145,1),(146,1),(164,1),(165,1),(173,2),(181,1),(183,1),(191,2),(215,1),(216,1),(217,1),(218,1),(219,1),(220,1),(221,1),(223,1),(227,1),(228,1),(238,1),(248,2),(257,1),(260,1),(261,1),(264,1),(269,1),(270,1),(276,3),(280,4),(286,1)]
def Ztw:List (Nat × Nat)→Nat→Nat
 | [],_=>0
 | p::r,f=>match Nat.beq p.1 f with | true=>p.2 | false=>Ztw r f
def hds (f:FuncId):Nat:=Ztw hdL f
theorem ZCu:(SC prog J0 JF0 hds).hd 5=0:=yi (by kernel_rfl)
theorem ZCC:(SC prog J0 JF0 hds).hd 7=0:=yi (by kernel_rfl)
theorem ZCx:(SC prog J0 JF0 hds).hd 8=0:=yi (by kernel_rfl)
theorem ZCe:(SC prog J0 JF0 hds).hd 9=0:=yi (by kernel_rfl)
theorem ZBa:(SC prog J0 JF0 hds).hd 12=2:=yi (by kernel_rfl)
theorem ZAB:(SC prog J0 JF0 hds).hd 15=2:=yi (by kernel_rfl)
theorem ZBi:(SC prog J0 JF0 hds).hd 22=0:=yi (by kernel_rfl)
theorem ZBy:(SC prog J0 JF0 hds).hd 24=2:=yi (by kernel_rfl)
theorem ZBY:(SC prog J0 JF0 hds).hd 30=0:=yi (by kernel_rfl)
theorem ZBM:(SC prog J0 JF0 hds).hd 31=2:=yi (by kernel_rfl)
theorem ZBg:(SC prog J0 JF0 hds).hd 32=0:=yi (by kernel_rfl)
theorem ZBw:(SC prog J0 JF0 hds).hd 33=0:=yi (by kernel_rfl)
theorem ZAZ:(SC prog J0 JF0 hds).hd 34=0:=yi (by kernel_rfl)
theorem ZA9:(SC prog J0 JF0 hds).hd 35=0:=yi (by kernel_rfl)
theorem ZA4:(SC prog J0 JF0 hds).hd 36=2:=yi (by kernel_rfl)
theorem ZAs:(SC prog J0 JF0 hds).hd 37=0:=yi (by kernel_rfl)
theorem ZAX:(SC prog J0 JF0 hds).hd 39=0:=yi (by kernel_rfl)
theorem ZA3:(SC prog J0 JF0 hds).hd 41=0:=yi (by kernel_rfl)
theorem ZBV:(SC prog J0 JF0 hds).hd 47=0:=yi (by kernel_rfl)
theorem ZAN:(SC prog J0 JF0 hds).hd 48=0:=yi (by kernel_rfl)
theorem ZBF:(SC prog J0 JF0 hds).hd 49=0:=yi (by kernel_rfl)
theorem ZBe:(SC prog J0 JF0 hds).hd 50=0:=yi (by kernel_rfl)
theorem ZAH:(SC prog J0 JF0 hds).hd 51=0:=yi (by kernel_rfl)
theorem ZAr:(SC prog J0 JF0 hds).hd 52=0:=yi (by kernel_rfl)
theorem ZB0:(SC prog J0 JF0 hds).hd 53=0:=yi (by kernel_rfl)
theorem ZB4:(SC prog J0 JF0 hds).hd 54=0:=yi (by kernel_rfl)
theorem ZAp:(SC prog J0 JF0 hds).hd 55=0:=yi (by kernel_rfl)
theorem ZAA:(SC prog J0 JF0 hds).hd 56=0:=yi (by kernel_rfl)
theorem ZBO:(SC prog J0 JF0 hds).hd 57=0:=yi (by kernel_rfl)
theorem ZA2:(SC prog J0 JF0 hds).hd 58=0:=yi (by kernel_rfl)
theorem ZBE:(SC prog J0 JF0 hds).hd 59=0:=yi (by kernel_rfl)
theorem ZAJ:(SC prog J0 JF0 hds).hd 60=0:=yi (by kernel_rfl)
theorem ZAI:(SC prog J0 JF0 hds).hd 62=0:=yi (by kernel_rfl)
theorem ZAU:(SC prog J0 JF0 hds).hd 64=0:=yi (by kernel_rfl)
theorem ZAv:(SC prog J0 JF0 hds).hd 71=0:=yi (by kernel_rfl)
theorem ZB5:(SC prog J0 JF0 hds).hd 72=0:=yi (by kernel_rfl)
theorem ZAy:(SC prog J0 JF0 hds).hd 73=0:=yi (by kernel_rfl)
theorem ZBT:(SC prog J0 JF0 hds).hd 74=0:=yi (by kernel_rfl)
theorem ZBB:(SC prog J0 JF0 hds).hd 76=0:=yi (by kernel_rfl)
theorem ZAP:(SC prog J0 JF0 hds).hd 77=2:=yi (by kernel_rfl)
theorem ZB7:(SC prog J0 JF0 hds).hd 78=0:=yi (by kernel_rfl)
theorem ZB6:(SC prog J0 JF0 hds).hd 83=3:=yi (by kernel_rfl)
theorem ZBZ:(SC prog J0 JF0 hds).hd 84=1:=yi (by kernel_rfl)
theorem ZBx:(SC prog J0 JF0 hds).hd 85=1:=yi (by kernel_rfl)
theorem ZBb:(SC prog J0 JF0 hds).hd 86=0:=yi (by kernel_rfl)
theorem ZBQ:(SC prog J0 JF0 hds).hd 87=0:=yi (by kernel_rfl)
theorem ZBW:(SC prog J0 JF0 hds).hd 88=0:=yi (by kernel_rfl)
theorem ZBA:(SC prog J0 JF0 hds).hd 89=0:=yi (by kernel_rfl)
theorem ZBH:(SC prog J0 JF0 hds).hd 90=0:=yi (by kernel_rfl)
theorem ZBk:(SC prog J0 JF0 hds).hd 91=0:=yi (by kernel_rfl)
theorem ZBK:(SC prog J0 JF0 hds).hd 92=1:=yi (by kernel_rfl)
theorem ZAV:(SC prog J0 JF0 hds).hd 93=0:=yi (by kernel_rfl)
theorem ZBo:(SC prog J0 JF0 hds).hd 94=0:=yi (by kernel_rfl)
theorem ZBr:(SC prog J0 JF0 hds).hd 96=0:=yi (by kernel_rfl)
theorem ZBf:(SC prog J0 JF0 hds).hd 97=0:=yi (by kernel_rfl)
theorem ZBU:(SC prog J0 JF0 hds).hd 98=0:=yi (by kernel_rfl)
theorem ZBC:(SC prog J0 JF0 hds).hd 99=0:=yi (by kernel_rfl)
theorem Zzx:(SC prog J0 JF0 hds).hd 101=0:=yi (by kernel_rfl)
theorem Zwz:(SC prog J0 JF0 hds).hd 102=0:=yi (by kernel_rfl)
theorem ZyF:(SC prog J0 JF0 hds).hd 103=0:=yi (by kernel_rfl)
theorem Zwe:(SC prog J0 JF0 hds).hd 104=0:=yi (by kernel_rfl)
theorem ZyA:(SC prog J0 JF0 hds).hd 109=1:=yi (by kernel_rfl)
theorem Zxn:(SC prog J0 JF0 hds).hd 110=1:=yi (by kernel_rfl)
theorem Zxd:(SC prog J0 JF0 hds).hd 111=0:=yi (by kernel_rfl)
theorem ZxC:(SC prog J0 JF0 hds).hd 112=0:=yi (by kernel_rfl)
theorem ZwW:(SC prog J0 JF0 hds).hd 113=0:=yi (by kernel_rfl)
theorem Zwi:(SC prog J0 JF0 hds).hd 114=0:=yi (by kernel_rfl)
theorem ZyH:(SC prog J0 JF0 hds).hd 115=2:=yi (by kernel_rfl)
theorem ZxV:(SC prog J0 JF0 hds).hd 116=0:=yi (by kernel_rfl)
theorem Zzk:(SC prog J0 JF0 hds).hd 117=0:=yi (by kernel_rfl)
theorem ZxW:(SC prog J0 JF0 hds).hd 118=0:=yi (by kernel_rfl)
theorem ZwZ:(SC prog J0 JF0 hds).hd 119=0:=yi (by kernel_rfl)
theorem ZyB:(SC prog J0 JF0 hds).hd 120=0:=yi (by kernel_rfl)
theorem ZwJ:(SC prog J0 JF0 hds).hd 121=0:=yi (by kernel_rfl)
theorem Zv9:(SC prog J0 JF0 hds).hd 122=0:=yi (by kernel_rfl)
theorem Zxv:(SC prog J0 JF0 hds).hd 123=0:=yi (by kernel_rfl)
theorem Zyp:(SC prog J0 JF0 hds).hd 124=0:=yi (by kernel_rfl)
theorem Zyc:(SC prog J0 JF0 hds).hd 125=2:=yi (by kernel_rfl)
theorem Zwt:(SC prog J0 JF0 hds).hd 127=0:=yi (by kernel_rfl)
theorem Zv2:(SC prog J0 JF0 hds).hd 129=0:=yi (by kernel_rfl)
theorem Zwp:(SC prog J0 JF0 hds).hd 132=0:=yi (by kernel_rfl)
theorem Zx4:(SC prog J0 JF0 hds).hd 133=0:=yi (by kernel_rfl)
theorem Zzf:(SC prog J0 JF0 hds).hd 135=0:=yi (by kernel_rfl)
theorem ZxF:(SC prog J0 JF0 hds).hd 136=2:=yi (by kernel_rfl)
theorem Zwk:(SC prog J0 JF0 hds).hd 137=0:=yi (by kernel_rfl)
theorem Zzv:(SC prog J0 JF0 hds).hd 138=0:=yi (by kernel_rfl)
theorem Zzh:(SC prog J0 JF0 hds).hd 139=0:=yi (by kernel_rfl)
theorem ZxG:(SC prog J0 JF0 hds).hd 142=1:=yi (by kernel_rfl)
theorem Zza:(SC prog J0 JF0 hds).hd 143=1:=yi (by kernel_rfl)
theorem Zy4:(SC prog J0 JF0 hds).hd 144=1:=yi (by kernel_rfl)
theorem ZAn:(SC prog J0 JF0 hds).hd 145=1:=yi (by kernel_rfl)
theorem ZyL:(SC prog J0 JF0 hds).hd 146=1:=yi (by kernel_rfl)
theorem Zx8:(SC prog J0 JF0 hds).hd 147=0:=yi (by kernel_rfl)
theorem Zv6:(SC prog J0 JF0 hds).hd 148=0:=yi (by kernel_rfl)
theorem Zy7:(SC prog J0 JF0 hds).hd 149=0:=yi (by kernel_rfl)
theorem Zym:(SC prog J0 JF0 hds).hd 150=0:=yi (by kernel_rfl)
theorem Zw1:(SC prog J0 JF0 hds).hd 151=0:=yi (by kernel_rfl)
theorem ZwP:(SC prog J0 JF0 hds).hd 152=0:=yi (by kernel_rfl)
theorem Zxq:(SC prog J0 JF0 hds).hd 153=0:=yi (by kernel_rfl)
theorem Zyu:(SC prog J0 JF0 hds).hd 154=0:=yi (by kernel_rfl)
theorem Zxm:(SC prog J0 JF0 hds).hd 155=0:=yi (by kernel_rfl)
theorem ZyW:(SC prog J0 JF0 hds).hd 156=0:=yi (by kernel_rfl)
theorem Zz8:(SC prog J0 JF0 hds).hd 157=0:=yi (by kernel_rfl)
theorem Zxi:(SC prog J0 JF0 hds).hd 158=0:=yi (by kernel_rfl)
theorem ZzY:(SC prog J0 JF0 hds).hd 159=0:=yi (by kernel_rfl)
theorem ZzX:(SC prog J0 JF0 hds).hd 160=0:=yi (by kernel_rfl)
theorem Zyz:(SC prog J0 JF0 hds).hd 161=0:=yi (by kernel_rfl)
theorem ZAd:(SC prog J0 JF0 hds).hd 162=0:=yi (by kernel_rfl)
theorem Zz0:(SC prog J0 JF0 hds).hd 163=0:=yi (by kernel_rfl)
theorem ZzT:(SC prog J0 JF0 hds).hd 164=1:=yi (by kernel_rfl)
theorem ZxA:(SC prog J0 JF0 hds).hd 165=1:=yi (by kernel_rfl)
theorem Zwm:(SC prog J0 JF0 hds).hd 166=0:=yi (by kernel_rfl)
theorem ZwU:(SC prog J0 JF0 hds).hd 167=0:=yi (by kernel_rfl)
theorem ZyK:(SC prog J0 JF0 hds).hd 168=0:=yi (by kernel_rfl)
theorem Zwo:(SC prog J0 JF0 hds).hd 169=0:=yi (by kernel_rfl)
theorem Zw5:(SC prog J0 JF0 hds).hd 171=0:=yi (by kernel_rfl)
theorem ZwR:(SC prog J0 JF0 hds).hd 172=0:=yi (by kernel_rfl)
theorem ZxR:(SC prog J0 JF0 hds).hd 173=2:=yi (by kernel_rfl)
theorem ZAh:(SC prog J0 JF0 hds).hd 174=0:=yi (by kernel_rfl)
theorem Zzr:(SC prog J0 JF0 hds).hd 175=0:=yi (by kernel_rfl)
theorem Zyj:(SC prog J0 JF0 hds).hd 176=0:=yi (by kernel_rfl)
theorem ZxY:(SC prog J0 JF0 hds).hd 178=0:=yi (by kernel_rfl)
theorem Zwr:(SC prog J0 JF0 hds).hd 179=0:=yi (by kernel_rfl)
theorem ZzQ:(SC prog J0 JF0 hds).hd 181=1:=yi (by kernel_rfl)
theorem ZxD:(SC prog J0 JF0 hds).hd 182=0:=yi (by kernel_rfl)
theorem ZwE:(SC prog J0 JF0 hds).hd 183=1:=yi (by kernel_rfl)
theorem Zzg:(SC prog J0 JF0 hds).hd 184=0:=yi (by kernel_rfl)
theorem Zz1:(SC prog J0 JF0 hds).hd 185=0:=yi (by kernel_rfl)
theorem Zz5:(SC prog J0 JF0 hds).hd 186=0:=yi (by kernel_rfl)
theorem Zy9:(SC prog J0 JF0 hds).hd 187=0:=yi (by kernel_rfl)
theorem ZzL:(SC prog J0 JF0 hds).hd 188=0:=yi (by kernel_rfl)
theorem ZxE:(SC prog J0 JF0 hds).hd 189=0:=yi (by kernel_rfl)
theorem Zyi:(SC prog J0 JF0 hds).hd 190=0:=yi (by kernel_rfl)
theorem Zzp:(SC prog J0 JF0 hds).hd 191=2:=yi (by kernel_rfl)
theorem Zys:(SC prog J0 JF0 hds).hd 192=0:=yi (by kernel_rfl)
theorem ZzS:(SC prog J0 JF0 hds).hd 193=0:=yi (by kernel_rfl)
theorem Zw9:(SC prog J0 JF0 hds).hd 194=0:=yi (by kernel_rfl)
theorem Zyn:(SC prog J0 JF0 hds).hd 196=0:=yi (by kernel_rfl)
theorem Zv5:(SC prog J0 JF0 hds).hd 198=0:=yi (by kernel_rfl)
theorem Zyk:(SC prog J0 JF0 hds).hd 200=0:=yi (by kernel_rfl)
theorem ZwY:(SC prog J0 JF0 hds).hd 201=0:=yi (by kernel_rfl)
theorem ZzC:(SC prog J0 JF0 hds).hd 202=0:=yi (by kernel_rfl)
theorem ZzW:(SC prog J0 JF0 hds).hd 203=0:=yi (by kernel_rfl)
theorem Zx0:(SC prog J0 JF0 hds).hd 204=0:=yi (by kernel_rfl)
theorem Zx3:(SC prog J0 JF0 hds).hd 205=0:=yi (by kernel_rfl)
theorem ZAa:(SC prog J0 JF0 hds).hd 206=0:=yi (by kernel_rfl)
theorem Zxu:(SC prog J0 JF0 hds).hd 207=0:=yi (by kernel_rfl)
theorem Zxe:(SC prog J0 JF0 hds).hd 208=0:=yi (by kernel_rfl)
theorem ZxZ:(SC prog J0 JF0 hds).hd 209=0:=yi (by kernel_rfl)
theorem Zxr:(SC prog J0 JF0 hds).hd 210=0:=yi (by kernel_rfl)
theorem Zy3:(SC prog J0 JF0 hds).hd 211=0:=yi (by kernel_rfl)
theorem ZyU:(SC prog J0 JF0 hds).hd 212=0:=yi (by kernel_rfl)
theorem ZwK:(SC prog J0 JF0 hds).hd 213=0:=yi (by kernel_rfl)
theorem Zyx:(SC prog J0 JF0 hds).hd 214=0:=yi (by kernel_rfl)
theorem Zz6:(SC prog J0 JF0 hds).hd 215=1:=yi (by kernel_rfl)
theorem Zyr:(SC prog J0 JF0 hds).hd 216=1:=yi (by kernel_rfl)
theorem ZxK:(SC prog J0 JF0 hds).hd 217=1:=yi (by kernel_rfl)
theorem Zyd:(SC prog J0 JF0 hds).hd 218=1:=yi (by kernel_rfl)
theorem ZzF:(SC prog J0 JF0 hds).hd 219=1:=yi (by kernel_rfl)
theorem Zwl:(SC prog J0 JF0 hds).hd 220=1:=yi (by kernel_rfl)
theorem ZxQ:(SC prog J0 JF0 hds).hd 221=1:=yi (by kernel_rfl)
theorem Zzi:(SC prog J0 JF0 hds).hd 222=0:=yi (by kernel_rfl)
theorem ZzE:(SC prog J0 JF0 hds).hd 223=1:=yi (by kernel_rfl)
theorem ZxM:(SC prog J0 JF0 hds).hd 224=0:=yi (by kernel_rfl)
theorem Zz4:(SC prog J0 JF0 hds).hd 225=0:=yi (by kernel_rfl)
theorem Zz7:(SC prog J0 JF0 hds).hd 226=0:=yi (by kernel_rfl)
theorem ZxL:(SC prog J0 JF0 hds).hd 227=1:=yi (by kernel_rfl)
theorem ZxH:(SC prog J0 JF0 hds).hd 228=1:=yi (by kernel_rfl)
theorem ZwV:(SC prog J0 JF0 hds).hd 229=0:=yi (by kernel_rfl)
theorem Zyf:(SC prog J0 JF0 hds).hd 230=0:=yi (by kernel_rfl)
theorem ZAm:(SC prog J0 JF0 hds).hd 231=0:=yi (by kernel_rfl)
theorem ZAl:(SC prog J0 JF0 hds).hd 232=0:=yi (by kernel_rfl)
theorem Zwj:(SC prog J0 JF0 hds).hd 233=0:=yi (by kernel_rfl)
theorem Zze:(SC prog J0 JF0 hds).hd 234=0:=yi (by kernel_rfl)
theorem ZxB:(SC prog J0 JF0 hds).hd 235=0:=yi (by kernel_rfl)
theorem Zxf:(SC prog J0 JF0 hds).hd 236=0:=yi (by kernel_rfl)
theorem Zw4:(SC prog J0 JF0 hds).hd 237=0:=yi (by kernel_rfl)
theorem ZzK:(SC prog J0 JF0 hds).hd 238=1:=yi (by kernel_rfl)
theorem Zy6:(SC prog J0 JF0 hds).hd 239=0:=yi (by kernel_rfl)
theorem ZAj:(SC prog J0 JF0 hds).hd 240=0:=yi (by kernel_rfl)
theorem ZxS:(SC prog J0 JF0 hds).hd 241=0:=yi (by kernel_rfl)
theorem Zv8:(SC prog J0 JF0 hds).hd 242=0:=yi (by kernel_rfl)
theorem ZyS:(SC prog J0 JF0 hds).hd 243=0:=yi (by kernel_rfl)
theorem Zxy:(SC prog J0 JF0 hds).hd 244=0:=yi (by kernel_rfl)
theorem Zzw:(SC prog J0 JF0 hds).hd 245=0:=yi (by kernel_rfl)
theorem Zy1:(SC prog J0 JF0 hds).hd 246=0:=yi (by kernel_rfl)
theorem ZAk:(SC prog J0 JF0 hds).hd 247=0:=yi (by kernel_rfl)
theorem Zxs:(SC prog J0 JF0 hds).hd 248=2:=yi (by kernel_rfl)
theorem ZwS:(SC prog J0 JF0 hds).hd 249=0:=yi (by kernel_rfl)
theorem Zzn:(SC prog J0 JF0 hds).hd 250=0:=yi (by kernel_rfl)
theorem Zxl:(SC prog J0 JF0 hds).hd 251=0:=yi (by kernel_rfl)
theorem ZxT:(SC prog J0 JF0 hds).hd 252=0:=yi (by kernel_rfl)
theorem ZzR:(SC prog J0 JF0 hds).hd 253=0:=yi (by kernel_rfl)
theorem Zxb:(SC prog J0 JF0 hds).hd 254=0:=yi (by kernel_rfl)
theorem ZwN:(SC prog J0 JF0 hds).hd 255=0:=yi (by kernel_rfl)
theorem Zxz:(SC prog J0 JF0 hds).hd 256=0:=yi (by kernel_rfl)
theorem Zx6:(SC prog J0 JF0 hds).hd 257=1:=yi (by kernel_rfl)
theorem Zwd:(SC prog J0 JF0 hds).hd 258=0:=yi (by kernel_rfl)
theorem ZwO:(SC prog J0 JF0 hds).hd 259=0:=yi (by kernel_rfl)
theorem ZwC:(SC prog J0 JF0 hds).hd 260=1:=yi (by kernel_rfl)
theorem Zxo:(SC prog J0 JF0 hds).hd 261=1:=yi (by kernel_rfl)
theorem ZyZ:(SC prog J0 JF0 hds).hd 262=0:=yi (by kernel_rfl)
theorem Zv4:(SC prog J0 JF0 hds).hd 263=0:=yi (by kernel_rfl)
theorem ZzD:(SC prog J0 JF0 hds).hd 264=1:=yi (by kernel_rfl)
theorem Zwx:(SC prog J0 JF0 hds).hd 265=0:=yi (by kernel_rfl)
theorem ZwA:(SC prog J0 JF0 hds).hd 266=0:=yi (by kernel_rfl)
theorem Zxt:(SC prog J0 JF0 hds).hd 267=0:=yi (by kernel_rfl)
theorem ZzH:(SC prog J0 JF0 hds).hd 268=0:=yi (by kernel_rfl)
theorem Zzb:(SC prog J0 JF0 hds).hd 269=1:=yi (by kernel_rfl)
theorem Zxa:(SC prog J0 JF0 hds).hd 270=1:=yi (by kernel_rfl)
theorem Zzu:(SC prog J0 JF0 hds).hd 271=0:=yi (by kernel_rfl)
theorem ZzZ:(SC prog J0 JF0 hds).hd 272=0:=yi (by kernel_rfl)
theorem Zzs:(SC prog J0 JF0 hds).hd 273=0:=yi (by kernel_rfl)
theorem Zwv:(SC prog J0 JF0 hds).hd 274=0:=yi (by kernel_rfl)
theorem Zz9:(SC prog J0 JF0 hds).hd 275=0:=yi (by kernel_rfl)
theorem ZyN:(SC prog J0 JF0 hds).hd 276=3:=yi (by kernel_rfl)
theorem Zzj:(SC prog J0 JF0 hds).hd 277=0:=yi (by kernel_rfl)
theorem ZwH:(SC prog J0 JF0 hds).hd 279=0:=yi (by kernel_rfl)
theorem Zxx:(SC prog J0 JF0 hds).hd 280=4:=yi (by kernel_rfl)
theorem Zye:(SC prog J0 JF0 hds).hd 282=0:=yi (by kernel_rfl)
theorem Zwn:(SC prog J0 JF0 hds).hd 284=0:=yi (by kernel_rfl)
theorem Zxp:(SC prog J0 JF0 hds).hd 285=0:=yi (by kernel_rfl)
theorem Zwu:(SC prog J0 JF0 hds).hd 286=1:=yi (by kernel_rfl)
theorem Zxh:(SC prog J0 JF0 hds).hd 287=0:=yi (by kernel_rfl)
theorem ZwB:(SC prog J0 JF0 hds).hd 288=0:=yi (by kernel_rfl)
theorem ZyV:(SC prog J0 JF0 hds).hd 289=0:=yi (by kernel_rfl)
theorem ZxP:(SC prog J0 JF0 hds).hd 290=0:=yi (by kernel_rfl)
theorem Zv3:(SC prog J0 JF0 hds).hd 291=0:=yi (by kernel_rfl)
theorem Zwh:(SC prog J0 JF0 hds).hd 292=0:=yi (by kernel_rfl)
theorem Zzc:(SC prog J0 JF0 hds).hd 295=0:=yi (by kernel_rfl)
theorem Zwc:(SC prog J0 JF0 hds).hd 300=0:=yi (by kernel_rfl)
theorem ZwI:(SC prog J0 JF0 hds).hd 301=0:=yi (by kernel_rfl)
theorem Zy8:(SC prog J0 JF0 hds).hd 302=0:=yi (by kernel_rfl)
theorem ZwG:(SC prog J0 JF0 hds).hd 303=0:=yi (by kernel_rfl)
theorem tt2:tt 2=some (.atom (.c (.int .i64 0))):=yi rfl
theorem tt3:tt 3=some (.atom (.c (.int .i64 0))):=yi rfl
theorem tt4:tt 4=some (.atom (.c (.bool false))):=yi rfl
theorem tt5:tt 5=some (.atom (.c (.int .u8 0))):=yi rfl
theorem tt9:tt 9=some (.atom (.c (.str ⟨#[]⟩))):=yi rfl
theorem ZCJ:tt 12=some (.atom (.c (.int .u64 0))):=yi rfl
theorem ZCI:tt 14=some (.strct [⟨0,1,false⟩,⟨1,1,false⟩] 2 [.c (.str ⟨#[]⟩),.c (.int .u64 0)]):=yi rfl
theorem ZCm:tt 20=some (.ifc):=yi rfl
theorem ZCS:tt 21=some (.atom (.c (.int .i32 0))):=yi rfl
theorem ZCf:tt 22=some (.slice 100 4 72 [.c (.str ⟨#[]⟩),.c (.int .i64 0),.nil 113 5,.nil 221 3]):=yi rfl
theorem ZCE:tt 23=some (.slice 66 2 40 [.c (.str ⟨#[]⟩),.nil 9 1]):=yi rfl
theorem ZCi:tt 26=some (.slice 71 2 40 [.c (.str ⟨#[]⟩),.nil 9 1]):=yi rfl
theorem ZCb:tt 28=some (.slice 104 4 72 [.c (.str ⟨#[]⟩),.c (.int .i64 0),.nil 60 5,.nil 166 3]):=yi rfl
theorem ZCp:tt 36=some (.slice 113 5 80 [.c (.int .i64 0),.c (.str ⟨#[]⟩),.nil 9 1,.c (.str ⟨#[]⟩),.c (.str ⟨#[]⟩)]):=yi rfl
theorem ZCl:tt 38=some (.slice 61 1 24 [.nil 135 2]):=yi rfl
theorem ZCT:tt 41=some (.slice 60 5 80 [.c (.int .i64 0),.c (.str ⟨#[]⟩),.nil 9 1,.c (.str ⟨#[]⟩),.c (.str ⟨#[]⟩)]):=yi rfl
theorem ZCq:tt 48=some (.slice 5 1 1 [.c (.int .u8 0)]):=yi rfl
theorem ZCU:tt 56=some (.slice 9 1 16 [.c (.str ⟨#[]⟩)]):=yi rfl
theorem ZCL:tt 58=some (.strct [⟨0,1,false⟩,⟨1,1,false⟩] 2 [.c (.str ⟨#[]⟩),.nil 9 1]):=yi rfl
theorem ZCh:tt 60=some (.strct [⟨0,1,false⟩,⟨1,2,true⟩,⟨3,1,false⟩,⟨4,1,false⟩] 5 [.c (.int .i64 0),.c (.str ⟨#[]⟩),.nil 9 1,.c (.str ⟨#[]⟩),.c (.str ⟨#[]⟩)]):=yi rfl
theorem ZCB:tt 61=some (.slice 135 2 32 [.c (.str ⟨#[]⟩),.c (.str ⟨#[]⟩)]):=yi rfl
theorem ZCN:tt 66=some (.strct [⟨0,1,false⟩,⟨1,1,false⟩] 2 [.c (.str ⟨#[]⟩),.nil 9 1]):=yi rfl
theorem ZCo:tt 68=some (.slice 86 4 80 [.c (.str ⟨#[]⟩),.nil 9 1,.c (.str ⟨#[]⟩),.nil 3 1]):=yi rfl
theorem ZCz:tt 71=some (.strct [⟨0,1,false⟩,⟨1,1,false⟩] 2 [.c (.str ⟨#[]⟩),.nil 9 1]):=yi rfl
theorem ZCw:tt 84=some (.slice 3 1 8 [.c (.int .i64 0)]):=yi rfl
theorem ZCt:tt 86=some (.strct [⟨0,2,true⟩,⟨2,1,false⟩,⟨3,1,false⟩] 4 [.c (.str ⟨#[]⟩),.nil 9 1,.c (.str ⟨#[]⟩),.nil 3 1]):=yi rfl
theorem ZCv:tt 89=some (.slice 144 3 56 [.c (.int .i64 0),.nil 3 1,.nil 3 1]):=yi rfl
theorem ZCO:tt 91=some (.strct [⟨0,1,false⟩,⟨1,1,false⟩] 2 [.c (.int .i64 0),.nil 144 3]):=yi rfl
theorem ZCc:tt 94=some (.slice 4 1 1 [.c (.bool false)]):=yi rfl
theorem ZCR:tt 98=some (.slice 221 3 48 [.c (.int .i64 0),.c (.str ⟨#[]⟩),.nil 9 1]):=yi rfl
theorem ZBd:tt 100=some (.strct [⟨0,1,false⟩,⟨1,1,false⟩,⟨2,1,false⟩,⟨3,1,false⟩] 4 [.c (.str ⟨#[]⟩),.c (.int .i64 0),.nil 113 5,.nil 221 3]):=yi rfl
theorem ZAw:tt 102=some (.slice 166 3 48 [.c (.int .i64 0),.c (.str ⟨#[]⟩),.nil 9 1]):=yi rfl
theorem ZAW:tt 104=some (.strct [⟨0,1,false⟩,⟨1,1,false⟩,⟨2,1,false⟩,⟨3,1,false⟩] 4 [.c (.str ⟨#[]⟩),.c (.int .i64 0),.nil 60 5,.nil 166 3]):=yi rfl
theorem ZAq:tt 111=some (.strct [⟨0,1,false⟩,⟨1,1,false⟩] 2 [.c (.str ⟨#[]⟩),.nil 9 1]):=yi rfl
theorem ZA8:tt 113=some (.strct [⟨0,1,false⟩,⟨1,2,true⟩,⟨3,1,false⟩,⟨4,1,false⟩] 5 [.c (.int .i64 0),.c (.str ⟨#[]⟩),.nil 9 1,.c (.str ⟨#[]⟩),.c (.str ⟨#[]⟩)]):=yi rfl
theorem ZAt:tt 114=some (.slice 118 2 48 [.nil 71 2,.nil 135 2]):=yi rfl
theorem ZBJ:tt 118=some (.strct [⟨0,1,false⟩,⟨1,1,false⟩] 2 [.nil 71 2,.nil 135 2]):=yi rfl
theorem ZA0:tt 135=some (.strct [⟨0,1,false⟩,⟨1,1,false⟩] 2 [.c (.str ⟨#[]⟩),.c (.str ⟨#[]⟩)]):=yi rfl
theorem ZBp:tt 138=some (.slice 146 3 64 [.c (.str ⟨#[]⟩),.nil 71 2,.nil 135 2]):=yi rfl
theorem ZAK:tt 144=some (.strct [⟨0,1,false⟩,⟨1,1,false⟩,⟨2,1,false⟩] 3 [.c (.int .i64 0),.nil 3 1,.nil 3 1]):=yi rfl
theorem ZB1:tt 146=some (.strct [⟨0,1,false⟩,⟨1,2,true⟩] 3 [.c (.str ⟨#[]⟩),.nil 71 2,.nil 135 2]):=yi rfl
theorem ZA1:tt 149=some (.slice 153 2 40 [.c (.str ⟨#[]⟩),.nil 71 2]):=yi rfl
theorem ZAD:tt 153=some (.strct [⟨0,1,false⟩,⟨1,1,false⟩] 2 [.c (.str ⟨#[]⟩),.nil 71 2]):=yi rfl
theorem ZAu:tt 166=some (.strct [⟨0,1,false⟩,⟨1,2,true⟩] 3 [.c (.int .i64 0),.c (.str ⟨#[]⟩),.nil 9 1]):=yi rfl
theorem ZBl:tt 170=some (.slice 94 1 24 [.nil 4 1]):=yi rfl
theorem ZB2:tt 184=some (.strct [⟨0,1,false⟩,⟨1,1,false⟩,⟨2,1,false⟩] 3 [.nil 5 1,.c (.int .i64 0),.c (.int .i64 0)]):=yi rfl
theorem ZBt:tt 221=some (.strct [⟨0,1,false⟩,⟨1,2,true⟩] 3 [.c (.int .i64 0),.c (.str ⟨#[]⟩),.nil 9 1]):=yi rfl
theorem ZAE:tt 250=some (.atom (.c (.int .u64 0))):=yi rfl
theorem ZAF:tt 260=some (.map .str .bool):=yi rfl
theorem ZBc:tt 263=some (.ifc):=yi rfl
theorem ZAY:tt 264=some (.ifc):=yi rfl
theorem ZBj:tt 288=some (.atom (.c (.int .u32 0))):=yi rfl
theorem ZBS:tt 290=some (.atom (.c (.int .u64 0))):=yi rfl
theorem ZBm:tt 327=some (.strct [⟨0,1,false⟩] 1 [.c (.str ⟨#[]⟩)]):=yi rfl
theorem Zwf:tt 4135=some (.eqs [.str,.str]):=yi rfl
theorem fnk {f : FuncId} {fn : Func} {c : Code} {args : List (Bool × List CT)} {res : List RT} (hf : prog.funcs[f]? = some fn) (hb : fn.body = some c) (h : fnS (fun _ => none) tt (SC prog J0 JF0 hds) fn.results.toList c args res) (hname : (fn.name == "runtime.NumGoroutine") = false := by kernel_rfl) (hok : Y4 (fun _ => none) tt hds false fn.ntmps c = true := by kernel_rfl) (hlen : Nat.ble args.length fn.ntmps = true := by kernel_rfl) : Zl prog J0 f args res := Zt7 htt hJ0 hmix hf hname hb hok hlen h
theorem fnb {f : FuncId} {fn : Func} {c : Code} {args : List (Bool × List CT)} {nb : NB} (hf : prog.funcs[f]? = some fn) (hb : fn.body = some c) (h : fnB (fun _ => none) tt (SC prog J0 JF0 hds) fn.results.toList c args nb) (hname : (fn.name == "runtime.NumGoroutine") = false := by kernel_rfl) (hok : Y4 (fun _ => none) tt hds false fn.ntmps c = true := by kernel_rfl) (hlen : Nat.ble args.length fn.ntmps = true := by kernel_rfl) : Zj3 prog J0 f args nb := ZsF htt hJ0 hmix hf hname hb hok hlen h
theorem fnn (t0 : Nat) {f : FuncId} {fn : Func} {c : Code} {args : List (Bool × List CT)} {res : List RT} (hf : prog.funcs[f]? = some fn) (hb : fn.body = some c) (h : fnN (fun _ => none) tt (SC prog J0 JF0 hds) fn.results.toList t0 c args res) (hname : (fn.name == "runtime.NumGoroutine") = false := by kernel_rfl) (hok : Y4 (fun _ => none) tt hds false fn.ntmps c = true := by kernel_rfl) (hlen : Nat.ble args.length fn.ntmps = true := by kernel_rfl) : Zl prog J0 f args res := ZrX htt hJ0 hmix hf hname hb hok hlen t0 h
def ZlO (f:FuncId):Nat:=Ztw ([(96,2),(101,2)]++hdL) f
theorem Zxw:(SC prog J0 JF0 ZlO).hd 62=0:=yi (by kernel_rfl)
theorem Zzd:(SC prog J0 JF0 ZlO).hd 64=0:=yi (by kernel_rfl)
theorem ZzJ:(SC prog J0 JF0 ZlO).hd 96=2:=yi (by kernel_rfl)
theorem Zzm:(SC prog J0 JF0 ZlO).hd 97=0:=yi (by kernel_rfl)
theorem ZAf:(SC prog J0 JF0 ZlO).hd 98=0:=yi (by kernel_rfl)
theorem Zv7:(SC prog J0 JF0 ZlO).hd 99=0:=yi (by kernel_rfl)
theorem Zvm:(SC prog J0 JF0 ZlO).hd 101=2:=yi (by kernel_rfl)
theorem ZuX:(SC prog J0 JF0 ZlO).hd 102=0:=yi (by kernel_rfl)
theorem Zvi:(SC prog J0 JF0 ZlO).hd 103=0:=yi (by kernel_rfl)
theorem ZuF:(SC prog J0 JF0 ZlO).hd 104=0:=yi (by kernel_rfl)
theorem ZIH {f : FuncId} {fn : Func} {c : Code} {args : List (Bool × List CT)} {res : List RT} (hf : prog.funcs[f]? = some fn) (hb : fn.body = some c) (h : fnS (fun _ => none) tt (SC prog J0 JF0 ZlO) fn.results.toList c args res) (hname : (fn.name == "runtime.NumGoroutine") = false := by kernel_rfl) (hok : Y4 (fun _ => none) tt ZlO false fn.ntmps c = true := by kernel_rfl) (hlen : Nat.ble args.length fn.ntmps = true := by kernel_rfl) : Zl prog J0 f args res := Zt7 htt hJ0 hmix hf hname hb hok hlen h
def Qz (x:Zv):List CT:=[.str x.rel,.sl 9 1 (A4 Zw x.args)]
theorem Zol (x:Zv):Qz x=[.str x.rel,.sl 9 1 (A4 Zw x.args)]:=yi rfl
def ZK (x:Zr):List CT:=[.int .i64 x.kind,.str x.pattern.rel,.sl 9 1 (A4 Zw x.pattern.args),.str x.left,.str x.right]
theorem ZtH (x:Zr):ZK x=[.int .i64 x.kind,.str x.pattern.rel,.sl 9 1 (A4 Zw x.pattern.args),.str x.left,.str x.right]:=yi rfl
def Zq (x:Zd):List CT:=[.str x.rel,.sl 9 1 (A4 Zw x.args)]
theorem ZsO (x:Zd):Zq x=[.str x.rel,.sl 9 1 (A4 Zw x.args)]:=yi rfl
def ZAO (x:ZvY):List CT:=[.str x.fact.rel,.sl 9 1 (A4 Zw x.fact.args),.str x.rule,.sl 3 1 (A4 Z5 x.uses)]
theorem ZsW (x:ZvY):ZAO x=[.str x.fact.rel,.sl 9 1 (A4 Zw x.fact.args),.str x.rule,.sl 3 1 (A4 Z5 x.uses)]:=yi rfl
def ZL (x:Zg):List CT:=[.int .i64 x.for_,.sl 3 1 (A4 Z5 x.inn),.sl 3 1 (A4 Z5 x.outs)]
theorem ZqR (x:Zg):ZL x=[.int .i64 x.for_,.sl 3 1 (A4 Z5 x.inn),.sl 3 1 (A4 Z5 x.outs)]:=yi rfl
def Qw (x:Zu):List CT:=[.int .i64 x.nodes,.sl 144 3 (A4 ZL x.reasons)]
theorem Zog (x:Zu):Qw x=[.int .i64 x.nodes,.sl 144 3 (A4 ZL x.reasons)]:=yi rfl
def ZD (x:Zx):List CT:=[.int .i64 x.kind,.str x.pattern.rel,.sl 9 1 (A4 Zw x.pattern.args)]
theorem ZqO (x:Zx):ZD x=[.int .i64 x.kind,.str x.pattern.rel,.sl 9 1 (A4 Zw x.pattern.args)]:=yi rfl
def ZG (x:Zf):List CT:=[.str x.name,.int .i64 x.priority,.sl 60 5 (A4 ZK x.cond),.sl 166 3 (A4 ZD x.thn)]
theorem Zt0 (x:Zf):ZG x=[.str x.name,.int .i64 x.priority,.sl 60 5 (A4 ZK x.cond),.sl 166 3 (A4 ZD x.thn)]:=yi rfl
def ZZ (x:Zp):List CT:=[.str x.var,.str x.value]
theorem Ztc (x:Zp):ZZ x=[.str x.var,.str x.value]:=yi rfl
theorem Zqv (l:List Zp):Zal (l.map ZZ)=true:=Zbi (fun _=>rfl) l
def YE (x:Zt):List CT:=[.sl 71 2 (A4 Zq x.facts),.sl 135 2 (A4 ZZ x.binding)]
theorem ZrM (x:Zt):YE x=[.sl 71 2 (A4 Zq x.facts),.sl 135 2 (A4 ZZ x.binding)]:=yi rfl
def Zd3 (x:Xd):List CT:=[.str x.rule,.sl 71 2 (A4 Zq x.token.facts),.sl 135 2 (A4 ZZ x.token.binding)]
theorem ZnF (x:Xd):Zd3 x=[.str x.rule,.sl 71 2 (A4 Zq x.token.facts),.sl 135 2 (A4 ZZ x.token.binding)]:=yi rfl
def Zgg (x:Zac):List CT:=[.str x.rule,.sl 71 2 (A4 Zq x.facts)]
theorem Zqq (x:Zac):Zgg x=[.str x.rule,.sl 71 2 (A4 Zq x.facts)]:=yi rfl
def Za7 (x:ZF):List CT:=[.sl 5 1 (A4 Zek x.b),.int .i64 x.i,.int .i64 x.h]
theorem ZrB (x:ZF):Za7 x=[.sl 5 1 (A4 Zek x.b),.int .i64 x.i,.int .i64 x.h]:=yi rfl
def Zpr (x:(List Zp)):List CT:=[.sl 135 2 (A4 ZZ x)]
theorem Zkg (x:(List Zp)):Zpr x=[.sl 135 2 (A4 ZZ x)]:=yi rfl
def Zge (x:(List Bool)):List CT:=[.sl 4 1 (A4 ZgO x)]
theorem ZnV (x:(List Bool)):Zge x=[.sl 4 1 (A4 ZgO x)]:=yi rfl
attribute [go_sem] tt2 tt3 tt4 tt5 tt9 ZCJ ZCI ZCm ZCS ZCf ZCE ZCi ZCb ZCp ZCl ZCT ZCq ZCU ZCL ZCh ZCB ZCN ZCo ZCz ZCw ZCt ZCv ZCO ZCc ZCR ZBd ZAw ZAW ZAq ZA8 ZAt ZBJ ZA0 ZBp ZAK
attribute [go_sem] ZB1 ZA1 ZAD ZAu ZBl ZB2 ZBt ZAE ZAF ZBc ZAY ZBj ZBS ZBm Zwf ZCu ZCC ZCx ZCe ZBa ZAB ZBi ZBy ZBY ZBM ZBg ZBw ZAZ ZA9 ZA4 ZAs ZAX ZA3 ZBV ZAN ZBF ZBe ZAH ZAr ZB0
attribute [go_sem] ZB4 ZAp ZAA ZBO ZA2 ZBE ZAJ ZAI ZAU ZAv ZB5 ZAy ZBT ZBB ZAP ZB7 ZB6 ZBZ ZBx ZBb ZBQ ZBW ZBA ZBH ZBk ZBK ZAV ZBo ZBr ZBf ZBU ZBC Zzx Zwz ZyF Zwe ZyA Zxn Zxd ZxC
attribute [go_sem] ZwW Zwi ZyH ZxV Zzk ZxW ZwZ ZyB ZwJ Zv9 Zxv Zyp Zyc Zwt Zv2 Zwp Zx4 Zzf ZxF Zwk Zzv Zzh ZxG Zza Zy4 ZAn ZyL Zx8 Zv6 Zy7 Zym Zw1 ZwP Zxq Zyu Zxm ZyW Zz8 Zxi ZzY
attribute [go_sem] ZzX Zyz ZAd Zz0 ZzT ZxA Zwm ZwU ZyK Zwo Zw5 ZwR ZxR ZAh Zzr Zyj ZxY Zwr ZzQ ZxD ZwE Zzg Zz1 Zz5 Zy9 ZzL ZxE Zyi Zzp Zys ZzS Zw9 Zyn Zv5 Zyk ZwY ZzC ZzW Zx0 Zx3
attribute [go_sem] ZAa Zxu Zxe ZxZ Zxr Zy3 ZyU ZwK Zyx Zz6 Zyr ZxK Zyd ZzF Zwl ZxQ Zzi ZzE ZxM Zz4 Zz7 ZxL ZxH ZwV Zyf ZAm ZAl Zwj Zze ZxB Zxf Zw4 ZzK Zy6 ZAj ZxS Zv8 ZyS Zxy Zzw
attribute [go_sem] Zy1 ZAk Zxs ZwS Zzn Zxl ZxT ZzR Zxb ZwN Zxz Zx6 Zwd ZwO ZwC Zxo ZyZ Zv4 ZzD Zwx ZwA Zxt ZzH Zzb Zxa Zzu ZzZ Zzs Zwv Zz9 ZyN Zzj ZwH Zxx Zye Zwn Zxp Zwu Zxh ZwB
attribute [go_sem] ZyV ZxP Zv3 Zwh Zzc Zwc ZwI Zy8 ZwG Zxw Zzd ZzJ Zzm ZAf Zv7 Zvm ZuX Zvi ZuF Zol ZtH ZsO ZsW ZqR Zog ZqO Zt0 Zqv Ztc ZrM ZnF Zqq ZrB Zkg ZnV
end
end Go.Proofs.YtekbmedphidcgaaGreatDoor
