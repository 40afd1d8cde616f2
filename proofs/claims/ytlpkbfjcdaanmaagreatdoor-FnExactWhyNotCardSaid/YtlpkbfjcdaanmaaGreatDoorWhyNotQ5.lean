/- Texts of this proof, joined: BReg, BDraw, BAny, BSound, BFn, BTok, Laid, DT. What each holds is said at its theorems. -/
import Derived.Test.YtlpkbfjcdaanmaaGreatDoorWhyNotQ4
import Derived.Orders
import Derived.Test.YtlpkbfjcdaanmaaGreatDoorWhyNotQ1
import GoSem.Claims
import Derived.Test.YtlpkbfjcdaanmaaGreatDoorWhyNotQ2
import Derived.Test.YtlpkbfjcdaanmaaGreatDoorProg
import Derived.Lib.LaidTab
import Derived.Lib.ItoaNum
open Array renaming getD_eq_getD_getElem?→AB,replicate→AF,getElem?_setIfInBounds_ne→AP,getElem?_setIfInBounds→AS,getElem?_eq_none→AX,getElem?_eq_some_iff→AY,getElem?_append→Am
open Bool renaming and_eq_true→A6,or_eq_true→AK,not_eq_true'→Ao
open List renaming map→A4,mem_append→A5,mem_map→A7,mem_cons→AD,getElem?_eq_some_iff→AE,all_eq_true→AG,map_congr_left→AL,not_mem_nil→AM,nodup_cons→AN,nodup_append→AO,range→AR,mem_of_getElem?→AT,cons_append→AU,set_getElem_self→Ab,mem_or_eq_of_mem_set→Ac,toArray→Ad,map_map→Ae,length_cons→Af,range'_succ→Ag,mem_filterMap→Ah,getElem_mem→Aj,range_eq_range'→Ak,mapM_cons→Al,size_toArray→An
open List.Sublist renaming append→Aa,refl→Ai
open List.cons renaming injEq→AQ
open Nat renaming le_of_ble_eq_true→AA,le_refl→AC,lt_or_ge→AW
open Option renaming map_eq_some_iff→A8,bind_eq_some_iff→A9,bind_some→AH,map_none→AI,map_some→AJ,getD_some→AZ
open Option.some renaming injEq→A0
open Prod.mk renaming injEq→A3
open Go.Proofs.Tryz
set_option linter.unusedSimpArgs false
set_option linter.unusedVariables false
set_option maxRecDepth 1000000
set_option maxHeartbeats 4000000
namespace Go.Proofs.YtlpkbfjcdaanmaaGreatDoor
theorem yO{p:Prop}(h:p:=by kernel_rfl):p:=h
theorem yP{α:Type}{a:Option α}{b c:α}(h:a=some b)(e:b=c:=by kernel_rfl):a=some c:=h.trans (congrArg some e)
section
open Go.RowKit
section
variable {P:Program} {J:World→Prop} {JF:Nat→Prop} {W:ZaK} {U:Nat→Prop} {key:Nat} {st:St} {w w':World} {a:Act} {tt:Nat→Option TI} {hs:FuncId→Nat} {Q:Exit→Act→World→Prop}
theorem Zc4 (a:Act) (d:Option Nat) (v:Value):(a.put d v).tmps.size=a.tmps.size:=by cases d<;>simp [Act.put]
theorem Zf5 [NW] {g g':Gh} {d:Option Nat} {v:SV} {u:List (Nat × Ob)} {cv:Value} (hS:∀t,SVR g w (st.sl t) (a.tmps.getD t undef)) (hU:StU U st) (b:a.defers=[]) (hh:∀v,W.hv=some v→a.tmps.getD 0 undef=v) (hd:∀t,d=some t→t<a.tmps.size∧(W.hv=none∨t≠0))
  (h1:HI W g' (Zn st.ob u) w') (h2:SVR g' w' v cv) (h3:∀x c,svU U x→SVR g w x c→SVR g' w' x c) (h4:svU (Uk U key) v) (h5:∀k,obU (Uk U key) (Zn st.ob u k)) (h6:∀k,¬Uk U key k→Zn st.ob u k=.gone):
  Inv W (Uk U key) ((st.put d v).app u) (a.put d cv) w':=by
 cases d with
 | none=>
  refine ⟨⟨g',h1,fun t=>h3 _ _ (hU.sl t) (hS t)⟩,⟨fun t=>(hU.sl t).mono fun _=>.inl,h5,h6⟩,b,hh⟩
 | some d=>
  have f:=(hd d rfl).1
  refine ⟨⟨g',h1,fun t=>?_⟩,⟨fun t=>?_,h5,h6⟩,b,fun u hu=>?_⟩
  ·show SVR g' w' (upd st.sl d v t) ((a.tmps.setIfInBounds d cv).getD t undef)
   by_cases ht:t=d
   ·subst ht
    rw [ZF]
    simpa [AB,AS,f] using h2
   ·rw [ZP _ _ ht]
    have:(a.tmps.setIfInBounds d cv).getD t undef=a.tmps.getD t undef:=by
     simp [AB,AP (fun e:d=t=>ht e.symm)]
    rw [this]
    exact h3 _ _ (hU.sl t) (hS t)
  ·show svU (Uk U key) (upd st.sl d v t)
   by_cases ht:t=d
   ·subst ht;rw [ZF];exact h4
   ·rw [ZP _ _ ht];exact (hU.sl t).mono fun _=>.inl
  ·show (a.tmps.setIfInBounds d cv).getD 0 undef=u
   have i:d≠0:=by
    rcases (hd d rfl).2 with h | h
    ·rw [h] at hu;simp at hu
    ·exact h
   rw [←hh u hu]
   simp [AB,AP i]
theorem Zs6 [NW] {g:Gh} {x:SV} {v:Value} {fc:FuncId × List CT} (a:Zo2 x=some fc) (hs:SVR g w x v):∃cs:List Value,v=.func (.func fc.1) #[] cs.toArray∧ZM (SVR g w) (fc.2.map Zk9) cs:=by
 unfold Zo2 at a
 split at a
 ·rename_i f es
  simp only[A0] at a
  subst a
  obtain ⟨y,hy,hs⟩:=hs
  simp at hy;subst hy
  obtain ⟨L,⟨vs,h1,h2⟩,h3⟩:=hs
  refine ⟨vs,h1,?_⟩
  have:=h2.avr (g:=g) h3
  have b:∀(es:List CT) (vs:List Value),ZM (AVR g w) (es.map AV.c) vs→ZM (SVR g w) (es.map Zk9) vs:=by
   intro es
   induction es with
   | nil=>intro vs h;cases vs with
    | nil=>trivial
    | cons _ _=>exact h.elim
   | cons e es ih=>intro vs h;cases vs with
    | nil=>exact h.elim
    | cons v vs=>exact ⟨⟨_,rfl,h.1⟩,ih vs h.2⟩
  exact b _ _ this
 ·rename_i f
  simp only[A0] at a
  subst a
  exact ⟨[],hs,trivial⟩
 ·simp at a
theorem ZpG [NW] (htt:MOk P J JF W tt) {o:Oper} {K:St→Prop} (h:opS tt (SC P J JF hs) key o K st) (hI:Inv W U st a w) (hkey:∀k,key≤k→k<key+16→¬U k) (hd:∀t,o.dst=some t→t<a.tmps.size∧(W.hv=none∨t≠0)):
  o.wp P a w (fun a' w'=>∃st',Inv W (Uk U key) st' a' w'∧a'.tmps.size=a.tmps.size∧K st') Q:=by
 obtain ⟨⟨g,hH,hS⟩,hU,hdef,hh⟩:=hI
 have evals:∀(args:Array Operand) (ts:Array TypeId),ZM (SVR g w) (evs tt st ts.toList args.toList) (args.toList.map a.eval)∧∀x∈evs tt st ts.toList args.toList,svU U x:=fun args ts=>by
  have he:args.toList.map a.eval=(ZjB ts.toList args.toList).map fun p=>a.eval p.2:=by
   have:=congrArg (A4 a.eval) (Zfx ts.toList args.toList)
   rw [←this,Ae];rfl
  refine ⟨?_,fun x mx=>?_⟩
  ·rw [he]
   exact ZM.of_map _ _ fun p _=>(Zlm htt.tt hS hU p.1 p.2).1
  ·obtain ⟨p,_,rfl⟩:=A7.1 mx
   exact (Zlm htt.tt hS hU p.1 p.2).2
 have arm:∀(f:FuncId) (n:Nat) (vs:List SV) (cvs:List Value),spK (SC P J JF hs) f n key o.dst K st vs→ZM (SVR g w) vs cvs→(∀x∈vs,svU U x)→(Zez P f→(execOp a.eval o).run P w=.ok (.enter f cvs.toArray) w)→
   o.wp P a w (fun a' w'=>∃st',Inv W (Uk U key) st' a' w'∧a'.tmps.size=a.tmps.size∧K st') Q:=fun f n vs cvs h hargs hargU hrun=>by
  obtain ⟨v,u,hr,hK⟩:=ZlZ.1 h
  obtain ⟨hc,hcall⟩:=Zg1 htt hr hH hU hkey hargs hargU
  unfold Oper.wp
  rw [hrun hc,Oper.upon_enter]
  refine hcall.mono ?_
  rintro e w' ⟨cv,rfl,g',t1,t2,t3,t4,t5,t6⟩
  exact ⟨_,Zf5 hS hU hdef hh hd t1 t2 t3 t4 t5 t6,Zc4 _ _ _,hK⟩
 unfold opS at h
 split at h
 ·rename_i c hc
  obtain ⟨f,l1,l2⟩:=c
  have hop:∃args ts,o.op=.call ⟨.value (.func f),args,ts⟩∧l1=ts.toList∧l2=args.toList:=by
   unfold Y7 at hc
   split at hc
   ·rename_i f' args ts he
    simp only[A0,A3] at hc
    obtain ⟨rfl,rfl,rfl⟩:=hc
    exact ⟨args,ts,he,rfl,rfl⟩
   ·simp at hc
  obtain ⟨args,ts,hop,rfl,rfl⟩:=hop
  refine arm f _ _ _ h (evals args ts).1 (evals args ts).2 ?_
  rintro ⟨fn,f1,f2,f3⟩
  have f2' : ¬ fn.name = "runtime.NumGoroutine" := by simpa using f2
  have f3':¬fn.body=none:=fun e=>by rw [e] at f3;simp at f3
  have e1:(args.toList.map a.eval).toArray=args.map a.eval:=by
   apply Array.ext'
   simp
  rw [e1]
  simp [execOp,hop,resolve,Act.eval,Deferred.ofValue,invoke,callFunc,program,Sem.run,f1,f2',f3']
 ·split at h
  ·rename_i c hc
   obtain ⟨s,l1,l2⟩:=c
   have hop:∃args ts,o.op=.call ⟨.value (.tmp s),args,ts⟩∧l1=ts.toList∧l2=args.toList:=by
    unfold Xl at hc
    split at hc
    ·rename_i s' args ts he
     simp only[A0,A3] at hc
     obtain ⟨rfl,rfl,rfl⟩:=hc
     exact ⟨args,ts,he,rfl,rfl⟩
    ·simp at hc
   obtain ⟨args,ts,hop,rfl,rfl⟩:=hop
   unfold YZ at h
   split at h
   ·rename_i fc hfc
    obtain ⟨_,h⟩:=h
    have hval:=Zs6 hfc (hS s)
    obtain ⟨cs,hv',hcs⟩:=hval
    have hv:a.eval (.tmp s)=.func (.func fc.1) #[] cs.toArray:=hv'
    refine arm fc.1 0 _ (args.toList.map a.eval++cs) h ((evals args ts).1.append hcs) (fun x mx=>?_) ?_
    ·rcases A5.1 mx with m | m
     ·exact (evals args ts).2 x m
     ·obtain ⟨c,_,rfl⟩:=A7.1 m
      exact XK _
    ·rintro ⟨fn,f1,f2,f3⟩
     have f2' : ¬ fn.name = "runtime.NumGoroutine" := by simpa using f2
     have f3':¬fn.body=none:=fun e=>by rw [e] at f3;simp at f3
     have e1:(args.toList.map a.eval++cs).toArray=args.map a.eval++cs.toArray:=by
      apply Array.ext'
      simp
     rw [e1]
     simp [execOp,hop,resolve,hv,Deferred.ofValue,invoke,callFunc,program,Sem.run,f1,f2',f3']
   ·exact h.elim
  ·unfold YZ at h
   split at h
   ·rename_i r hr
    obtain ⟨g',cv,w',hrun,t1,t2,t3,t4,t5,t6⟩:=ZpA (P:=P) (W:=W) (a:=a) htt.tt o hr hH hS hU (hkey key (AC _) yE)
    unfold Oper.wp
    rcases hrun with hrun | ⟨hrun,rfl⟩
    ·rw [hrun]
     exact ⟨_,Zf5 hS hU hdef hh hd t1 t2 t3 t4 t5 t6,Zc4 _ _ _,h⟩
    ·rw [hrun]
     exact ⟨_,Zf5 hS hU hdef hh hd t1 t2 t3 t4 t5 t6,Zc4 _ _ _,h⟩
   ·exact h.elim
theorem ZuR [NW] (hI:Inv W U st a w) (d:Option Nat) (hd:∀t,d=some t→t<a.tmps.size∧(W.hv=none∨t≠0)):Inv W (Uk U key) (st.put d .und) (a.put d undef) w:=by
 obtain ⟨⟨g,hH,hS⟩,hU,b,hh⟩:=hI
 exact Zf5 (u:=[]) (key:=key) hS hU b hh hd hH rfl (fun _ _ _ h=>h) trivial (fun k=>(hU.ob k).mono fun _=>.inl) (fun k hk=>hU.gone k fun h=>hk (.inl h))
theorem Zpd [NW] (htt:MOk P J JF W tt) {d:Array Oper} {i:Nat} {o:Oper} {K:St→Prop} (ho:d[i]?=some o) (h:opG tt (SC P J JF hs) d.toList key o K st) (hI:Inv W U st a w) (v:∀k,key≤k→k<key+16→¬U k) (hd:∀t,o.dst=some t→t<a.tmps.size∧(W.hv=none∨t≠0)):
  wpOp P d Q i (fun a' w'=>∃st',Inv W (Uk U key) st' a' w'∧a'.tmps.size=a.tmps.size∧K st') a w:=by
 have f:K (st.put o.dst .und)→∃st',Inv W (Uk U key) st' (a.put o.dst undef) w∧(a.put o.dst undef).tmps.size=a.tmps.size∧K st':=fun hK=>⟨_,ZuR hI _ hd,Zc4 _ _ _,hK⟩
 unfold wpOp
 simp only[ho]
 unfold opG ZaO at h
 cases hg:o.guard with
 | none=>
  rw [hg] at h
  rw [if_pos (by simp [Region.wanted,hg])]
  exact .inl (ZpG htt h hI v hd)
 | some jw=>
  obtain ⟨j,l⟩:=jw
  rw [hg] at h
  simp only at h
  cases hj:(d.toList[j]?).bind (·.dst) with
  | none=>
   rw [hj] at h
   have m:(d[j]?).bind (·.dst)=none:=by simpa using hj
   rw [if_neg (by simp [Region.wanted,hg,yielded,m])]
   exact f h
  | some t=>
   rw [hj] at h
   have m:(d[j]?).bind (·.dst)=some t:=by simpa using hj
   obtain ⟨⟨g,hH,hS⟩,hU,y,hh⟩:=hI
   have u:=hS t
   simp only at h
   unfold gK at h
   split at h
   ·rename_i hb
    have:∃b,st.sl t=.p false [.c (.bool b)]:=by
     unfold Zav at hb
     split at hb
     ·rename_i b he;exact ⟨b,he⟩
     ·simp at hb
    obtain ⟨b,x⟩:=this
    rw [x] at u h
    have hv:=Zgr u
    have hy:yielded d a.tmps j=some b:=by
     unfold yielded
     rw [m,AH]
     have:a.tmps[t]?=some (.bool b):=by
      rw [AB] at hv
      cases he:a.tmps[t]? with
      | none=>rw [he] at hv;simp [undef] at hv
      | some q=>rw [he] at hv;simpa using hv
     rw [this]
    by_cases hw:(b==l)=true
    ·rw [if_pos (show (Qg (.p false [.c (.bool b)])==l)=true from hw)] at h
     rw [if_pos (by simpa [Region.wanted,hg,hy] using hw)]
     exact .inl (ZpG htt h ⟨⟨g,hH,hS⟩,hU,y,hh⟩ v hd)
    ·rw [if_neg (show ¬(Qg (.p false [.c (.bool b)])==l)=true from hw)] at h
     rw [if_neg (by simpa [Region.wanted,hg,hy] using hw)]
     exact f h
   ·split at h
    ·rename_i hu
     have x:st.sl t=.und:=by
      unfold ZrT at hu
      split at hu
      ·rename_i he;exact he
      ·simp at hu
     rw [x] at u
     have e:a.tmps.getD t undef=undef:=u
     have hy:yielded d a.tmps j=none:=by
      unfold yielded
      rw [m,AH]
      rw [AB] at e
      cases he:a.tmps[t]? with
      | none=>rfl
      | some q=>rw [he] at e;simp at e;rw [e];rfl
     rw [if_neg (by simp [Region.wanted,hg,hy])]
     exact f h
    ·exact h.elim
theorem ZoZ [NW] (htt:MOk P J JF W tt) {b:Array Oper} {N:Nat} (hN:∀o∈b.toList,∀t,o.dst=some t→t<N∧(W.hv=none∨t≠0)) {K:St→Prop}:∀(r:List Oper) (i key:Nat) (U:Nat→Prop) (st:St) (a:Act) (w:World),b.toList.drop i=r→Z7 tt (SC P J JF hs) b.toList key r K st→Inv W U st a w→(∀k,key≤k→¬U k)→a.tmps.size=N→
  (∀U' st' a' w',Inv W U' st' a' w'→(∀k,key+16 * r.length≤k→¬U' k)→a'.tmps.size=N→K st'→Q .normal a' w')→wpOps P b Q (List.range' i r.length) a w
 | [],i,key,U,st,a,w,_,h,hI,hk,hs,hQ=>hQ U st a w hI (by simpa using hk) hs h
 | o::r,i,key,U,st,a,w,hr,h,hI,hk,hs,hQ=>by
  have hi:b.toList[i]?=some o:=by
   have:=congrArg (fun l=>l[0]?) hr
   simpa using this
  have d:b.toList.drop (i+1)=r:=by
   have:=congrArg List.tail hr
   simpa using this
  rw [Af,Ag,wpOps_cons]
  refine wpOp_mono ?_ (Zpd htt (by simpa using hi) h hI (fun k a _=>hk k a) (fun t ht=>by rw [hs];exact hN o (AT hi) t ht))
  rintro a' w' ⟨st',e,hs',f⟩
  refine ZoZ htt hN r (i+1) (key+16) _ st' a' w' d f e (fun k c hU=>?_) yE (fun U' g a2 w2 h1 h2 h3 h4=>hQ U' g a2 w2 h1 (fun k c=>h2 k (by simp at c;omega)) h3 h4)
  rcases hU with hU | hU
  ·exact hk k yE hU
  ·omega
end
end
section
open Go.RowKit
def Zxr:Option TI→Bool
 | some (.slice _ _ _ z)=>z.all Zkq
 | _=>false
def cls (tt:Nat→Option TI) (hs:FuncId→Nat):Op→Nat
 | .move _=>0
 | .assign _=>0
 | .pick _ _ _=>0
 | .build _ _=>0
 | .nilCheck _=>0
 | .binOp _ _ _ _ _=>0
 | .unOp _ _ _=>0
 | .convert _ t _=>if ZcV (tt t)=true then 1 else 0
 | .slice t _ lo hi _=>if ZcV (tt t)=true then 0 else if lo.isSome&&hi.isNone then 4 else 3
 | .fieldAddr _ _ _=>0
 | .field _ _ _=>0
 | .index _ _ _=>0
 | .extract _ _=>0
 | .alloc _=>1
 | .box _ _=>1
 | .load _ _=>1
 | .makeMap _ _=>1
 | .lookup _ _ _ _=>1
 | .makeSlice _ _ _=>1
 | .indexAddr _ _ _=>1
 | .buildSlice t _ ps=>if ps.size=0∨Zxr (tt t)=true then 2 else 3
 | .call ⟨.builtin .len,_,_⟩=>1
 | .call ⟨.builtin .max,_,_⟩=>0
 | .call ⟨.builtin .min,_,_⟩=>0
 | .call ⟨.value (.func f),_,_⟩=>if hs f=0∨hs f=4 then 1 else 4
 | _=>4
section
variable {P:Program} {W:ZaK} {U:Nat→Prop} {key:Nat} {st st':St} {w w':World} {a:Act} {tt:Nat→Option TI} {S:Ctx} {Q:Exit→Act→World→Prop}
def Za0 (tt:Nat→Option TI) (S:Ctx) (key:Nat) (o:Oper) (st:St) (v:SV) (u:List (Nat × Ob)):Prop:=
 match Y7 o.op with
 | some c=>Zbs S c.1 (S.hd c.1) key st (evs tt st c.2.1 c.2.2) v u
 | none=>match Xl o.op with
  | some c=>∃fc,Zo2 (st.sl c.1)=some fc∧S.hd fc.1=0∧Zbs S fc.1 0 key st (evs tt st c.2.1 c.2.2++fc.2.map Zk9) v u
  | none=>opE tt key o st=some (v,u)
def opR (tt:Nat→Option TI) (S:Ctx) (all:List Oper) (key:Nat) (o:Oper) (st:St) (v:SV) (u:List (Nat × Ob)):Prop:=
 match ZaO all o with
 | none=>Za0 tt S key o st v u
 | some (none,_)=>v=.und∧u=[]
 | some (some t,want)=>gK (st.sl t) want (Za0 tt S key o st v u) (v=.und∧u=[])
theorem ZuA [NW] {o:Oper} {K:St→Prop}:opS tt S key o K st↔∃v u,Za0 tt S key o st v u∧K ((st.put o.dst v).app u):=by
 cases hc:Y7 o.op with
 | some c=>
  simp only[opS,Za0,hc]
  exact ZlZ
 | none=>
  simp only[opS,Za0,hc]
  cases hd:Xl o.op with
  | some c=>
   simp only
   constructor
   ·intro h
    unfold YZ at h
    split at h
    ·rename_i fc a
     obtain ⟨h0,h⟩:=h
     obtain ⟨v,u,h1,h2⟩:=ZlZ.1 h
     exact ⟨v,u,⟨fc,a,h0,h1⟩,h2⟩
    ·exact h.elim
   ·rintro ⟨v,u,⟨fc,a,h0,h1⟩,h2⟩
    rw [a]
    exact ⟨h0,ZlZ.2 ⟨v,u,h1,h2⟩⟩
  | none=>
   simp only
   constructor
   ·intro h
    unfold YZ at h
    split at h
    ·rename_i r hr
     exact ⟨r.1,r.2,hr,h⟩
    ·exact h.elim
   ·rintro ⟨v,u,h1,h2⟩
    rw [h1]
    exact h2
theorem ZhZ [NW] {all:List Oper} {o:Oper} {K:St→Prop}:opG tt S all key o K st↔∃v u,opR tt S all key o st v u∧K ((st.put o.dst v).app u):=by
 have a:K (st.put o.dst .und)↔∃v u,(v=SV.und∧u=[])∧K ((st.put o.dst v).app u):=by
  constructor
  ·intro h;exact ⟨.und,[],⟨rfl,rfl⟩,h⟩
  ·rintro ⟨v,u,⟨rfl,rfl⟩,h⟩;exact h
 cases hg:ZaO all o with
 | none=>simp only[opG,opR,hg];exact ZuA
 | some q=>
  obtain ⟨q,b⟩:=q
  cases q with
  | none=>simp only[opG,opR,hg];exact a
  | some t=>
   simp only[opG,opR,hg,gK]
   by_cases h1:Zav (st.sl t)=true
   ·by_cases h2:(Qg (st.sl t)==b)=true
    ·simp only[h1,h2,if_true];exact ZuA
    ·simp only[h1,h2,if_true,if_false];exact a
   ·by_cases h2:ZrT (st.sl t)=true
    ·simp only[h1,h2,if_true,if_false];exact a
    ·simp only[h1,h2,if_false];simp
theorem ZdI [NW] {ts:List TypeId} {xs:List Operand} (h:∀x∈xs,∀t,st.ev tt t x=st'.ev tt t x):evs tt st ts xs=evs tt st' ts xs:=by
 unfold evs
 refine AL fun p hp=>h p.2 ?_ p.1
 rw [←Zfx ts xs]
 exact A7.2 ⟨p,hp,rfl⟩
def Wk (st st':St) (U:Nat→Prop):Prop:=∀k,U k→st'.ob k=st.ob k∨st'.ob k=Yc (st.ob k)
theorem Wk.of (h:∀k,U k→st.ob k=st'.ob k):Wk st st' U:=fun k hk=>.inl (h k hk).symm
theorem ZhB (a:Wk st st' U):∀{xs:List AV},QW U xs→Y0 st xs=Y0 st' xs
 | [],_=>rfl
 | x::r,h=>by
  have hx:Zb9 st x=Zb9 st' x:=by
   cases x with
   | row k=>
    simp only[Zb9]
    rcases a k (h (.row k) yG) with e | e
    ·rw [e]
    ·rw [e];cases st.ob k<;>rfl
   | _=>rfl
  have hr:=ZhB a (xs:=r) (fun y m=>h y (by simp [m]))
  simp only[Y0,hx,hr]
theorem ZeZ [NW] (a:Wk st st' U):∀{xs:List SV},(∀x∈xs,svU U x)→Z1 st xs=Z1 st' xs
 | [],_=>rfl
 | x::r,h=>by
  have hx:Zdh st x=Zdh st' x:=by
   cases x with
   | p ag cs=>simp only[Zdh,ZhB a (h (.p ag cs) yG)]
   | _=>rfl
  have hr:=ZeZ a (xs:=r) (fun y m=>h y (by simp [m]))
  simp only[Z1,hx,hr]
theorem ZtS (a:Wk st st' U) {t:Option TI} {x:SV} (hx:svU U x):QZ st t x=QZ st' t x:=by
 cases x with
 | bp k off=>
  simp only[QZ]
  rcases a k hx with e | e
  ·rw [e]
  ·rw [e];cases st.ob k<;>rfl
 | rp k m i off=>
  simp only[QZ]
  rcases a k hx with e | e
  ·rw [e]
  ·rw [e];cases st.ob k<;>rfl
 | p ag cs=>cases ag with
  | true=>rfl
  | false=>cases cs with
   | nil=>rfl
   | cons y r=>cases r<;>cases y<;>first | rfl | (rename_i z;cases z<;>rfl) | (rename_i z _ _;cases z<;>rfl)
 | _=>rfl
theorem Zvo (a:Wk st st' U) {t:Option TI} {x:SV} (hx:svU U x):Zn4 st t x=Zn4 st' t x:=by
 unfold Zn4
 split<;>try rfl
 rename_i k
 rcases a k (hx (.row k) yG) with e | e
 ·rw [e]
 ·rw [e];cases st.ob k<;>rfl
theorem Zp6 (a:Wk st st' U) {m:Nat} {x i:SV} (hx:svU U x):ZbC st m x i=ZbC st' m x i:=by
 unfold ZbC
 split<;>try rfl
 rename_i k _ _
 rcases a k (hx (.row k) yG) with e | e
 ·rw [e]
 ·rw [e];cases st.ob k<;>rfl
theorem Zvt (a:st.ob=st'.ob) (x:SV):ZjZ st x=ZjZ st' x:=by
 unfold ZjZ
 rw [a]
theorem ZnJ [NW] (a:st.ob=st'.ob):∀xs:List SV,ZeM st xs=ZeM st' xs
 | []=>rfl
 | x::r=>by simp only[ZeM,Zvt a x,ZnJ a r]
theorem ZtR (a:Wk st st' U) {t:Option TI} {x i:SV} {ok:Bool} (hx:svU U x):Zhf st t x i ok=Zhf st' t x i ok:=by
 unfold Zhf
 split<;>try rfl
 rename_i k
 rcases a k (hx (.row k) yG) with e | e
 ·rw [e]
 ·rw [e];cases st.ob k<;>rfl
theorem ZtL (a:Wk st st' U) {x:SV} (hx:svU U x):ZiG st x=ZiG st' x:=by
 unfold ZiG
 split<;>try rfl
 rename_i k
 rcases a k (hx (.row k) yG) with e | e
 ·rw [e]
 ·rw [e];cases st.ob k<;>rfl
theorem ZtM [NW] (a:Wk st st' U) {s t:Nat} {x:SV} (hx:svU U x):ZgN tt st s t x=ZgN tt st' s t x:=by
 unfold ZgN
 rw [ZtL a hx]
def Mk (st st':St) (U:Nat→Prop):Prop:=∀k,U k→st'.ob k=st.ob k∨st'.ob k=.gone
theorem Zk8 (c:Mk st st' U):∀{xs:List AV} {r:List CT},QW U xs→Y0 st' xs=some r→Y0 st xs=some r
 | [],_,_,h=>h
 | x::xs,r,hu,h=>by
  simp only[Y0] at h ⊢
  obtain ⟨a,h1,h⟩:=A9.1 h
  obtain ⟨b,h2,rfl⟩:=A8.1 h
  have hx:Zb9 st x=some a:=by
   cases x with
   | row k=>
    simp only[Zb9] at h1 ⊢
    rcases c k (hu (.row k) yG) with e | e
    ·rwa [e] at h1
    ·rw [e] at h1;simp at h1
   | _=>exact h1
  rw [hx,AH,Zk8 c (fun y m=>hu y (by simp [m])) h2]
  rfl
theorem ZhD [NW] (c:Mk st st' U):∀{xs:List SV} {r:List (Bool × List CT)},(∀x∈xs,svU U x)→Z1 st' xs=some r→Z1 st xs=some r
 | [],_,_,h=>h
 | x::xs,r,hu,h=>by
  simp only[Z1] at h ⊢
  obtain ⟨a,h1,h⟩:=A9.1 h
  obtain ⟨b,h2,rfl⟩:=A8.1 h
  have hx:Zdh st x=some a:=by
   cases x with
   | p ag cs=>
    simp only[Zdh] at h1 ⊢
    obtain ⟨l,h3,rfl⟩:=A8.1 h1
    rw [Zk8 c (hu (.p ag cs) yG) h3]
    rfl
   | _=>exact h1
  rw [hx,AH,ZhD c (fun y m=>hu y (by simp [m])) h2]
  rfl
theorem Ztk (a:Mk st st' U) {t:Option TI} {x r:SV} (hx:svU U x) (h:QZ st' t x=some r):QZ st t x=some r:=by
 cases x with
 | bp k off=>
  simp only[QZ] at h ⊢
  rcases a k hx with e | e
  ·rwa [e] at h
  ·rw [e] at h;simp at h
 | rp k m i off=>
  simp only[QZ] at h ⊢
  rcases a k hx with e | e
  ·rwa [e] at h
  ·rw [e] at h;simp at h
 | p ag cs=>cases ag with
  | true=>exact h
  | false=>cases cs with
   | nil=>exact h
   | cons y r=>cases r<;>cases y<;>first | exact h | (rename_i z;cases z<;>exact h) | (rename_i z _ _;cases z<;>exact h)
 | _=>exact h
theorem Zvg (a:Mk st st' U) {t:Option TI} {x r:SV} (hx:svU U x) (h:Zn4 st' t x=some r):Zn4 st t x=some r:=by
 unfold Zn4 at h ⊢
 split at h<;>try exact h
 rename_i k
 rcases a k (hx (.row k) yG) with e | e
 ·rwa [e] at h
 ·rw [e] at h;simp at h
theorem ZqW (a:Mk st st' U) {m:Nat} {x i r:SV} (hx:svU U x) (h:ZbC st' m x i=some r):ZbC st m x i=some r:=by
 unfold ZbC at h ⊢
 split at h<;>try exact h
 rename_i k _ _
 rcases a k (hx (.row k) yG) with e | e
 ·rwa [e] at h
 ·rw [e] at h;simp at h
theorem Zti (a:Mk st st' U) {t:Option TI} {x i r:SV} {ok:Bool} (hx:svU U x) (h:Zhf st' t x i ok=some r):Zhf st t x i ok=some r:=by
 unfold Zhf at h ⊢
 split at h<;>try exact h
 rename_i k
 rcases a k (hx (.row k) yG) with e | e
 ·rwa [e] at h
 ·rw [e] at h;simp at h
theorem ZtG (a:Mk st st' U) {x r:SV} (hx:svU U x) (h:ZiG st' x=some r):ZiG st x=some r:=by
 unfold ZiG at h ⊢
 split at h<;>try exact h
 rename_i k
 rcases a k (hx (.row k) yG) with e | e
 ·rwa [e] at h
 ·rw [e] at h;simp at h
theorem ZpQ [NW] {o:Oper} {sl a:Nat→SV} {ob:Nat→Ob} {n n':Nat} (hl:∀x∈o.op.operands,∀t,St.ev tt ⟨sl,ob,n⟩ t x=St.ev tt ⟨a,ob,n'⟩ t x):opE tt key o ⟨sl,ob,n⟩=opE tt key o ⟨a,ob,n'⟩:=by
 obtain ⟨dst,op,ty,pos,af,gd⟩:=o
 cases op with
 | build t d=>
  have hp:∀fs z,d.toList.map (ZgA tt ⟨sl,ob,n⟩ fs z)=d.toList.map (ZgA tt ⟨a,ob,n'⟩ fs z):=fun fs z=>AL fun p hp=>by
   have:=hl p.2 (by simp [Op.operands];exact ⟨p.1,by simpa using hp⟩) 0
   unfold ZgA
   split
   ·rfl
   ·rw [this]
  simp only[opE,hp]
 | buildSlice t len d=>
  have hp:∀e,(d.toList.map fun p=>St.ev tt ⟨sl,ob,n⟩ e p.2)=d.toList.map fun p=>St.ev tt ⟨a,ob,n'⟩ e p.2:=fun e=>AL fun p hp=>hl p.2 (by simp [Op.operands];exact ⟨p.1,by simpa using hp⟩) e
  have he:∀m l,Xi ⟨sl,ob,n⟩ m l=Xi ⟨a,ob,n'⟩ m l:=fun m l=>by
   have h1:∀x,avT ⟨sl,ob,n⟩ x=avT ⟨a,ob,n'⟩ x:=fun x=>by cases x<;>rfl
   have h2:∀xs,ZgE ⟨sl,ob,n⟩ xs=ZgE ⟨a,ob,n'⟩ xs:=fun xs=>by
    induction xs with
    | nil=>rfl
    | cons x xs ih=>simp only[ZgE,h1,ih]
   induction l with
   | nil=>rfl
   | cons x xs ih=>cases x<;>simp only[Xi,h2,ih]
  have hz:∀ks,ZU ⟨sl,ob,n⟩ ks=ZU ⟨a,ob,n'⟩ ks:=fun ks=>by
   induction ks with
   | nil=>rfl
   | cons k r ih=>simp only[ZU,ih]
  simp only[opE,hp,he,hz]
 | slice t x lo hi mx=>
  simp only[Op.operands] at hl
  cases mx with
  | some _=>rfl
  | none=>
   have hx:=fun t=>hl x yG t
   cases lo with
   | none=>cases hi with
    | none=>simp only[opE,hx,AI];rfl
    | some h=>have hh:=fun t=>hl h yG t;simp only[opE,hx,hh,AI,AJ];rfl
   | some l=>
    have q:=fun t=>hl l yG t
    cases hi with
    | none=>simp only[opE,hx,q,AI,AJ];rfl
    | some h=>have hh:=fun t=>hl h yG t;simp only[opE,hx,q,hh,AJ];rfl
 | call c=>
  obtain ⟨g,args,ts⟩:=c
  cases g with
  | builtin b=>
   have:=ZdI (tt:=tt) (st:=⟨sl,ob,n⟩) (st':=⟨a,ob,n'⟩) (ts:=ts.toList) (xs:=args.toList) (fun x m t=>hl x (by simp [Op.operands,Call.operands];simpa using m) t)
   simp only[opE,this]
   unfold Zf7
   split<;>rfl
  | value f=>rfl
  | invoke r m=>rfl
 | move x=>have:=fun t=>hl x (by simp [Op.operands]) t;simp only[opE,this]
 | assign x=>have:=fun t=>hl x (by simp [Op.operands]) t;simp only[opE,this]
 | pick c x y=>have h1:=fun t=>hl c (by simp [Op.operands]) t;have h2:=fun t=>hl x (by simp [Op.operands]) t;have h3:=fun t=>hl y (by simp [Op.operands]) t;simp only[opE,h1,h2,h3]
 | alloc t=>rfl
 | box t x=>have:=fun t=>hl x (by simp [Op.operands]) t;simp only[opE,this]
 | load t x=>have:=fun t=>hl x (by simp [Op.operands]) t;simp only[opE,this];rfl
 | store t x v=>have h1:=fun t=>hl x (by simp [Op.operands]) t;have h2:=fun t=>hl v (by simp [Op.operands]) t;simp only[opE,h1,h2];rfl
 | nilCheck x=>have:=fun t=>hl x (by simp [Op.operands]) t;simp only[opE,this]
 | binOp op t x y t'=>have h1:=fun t=>hl x (by simp [Op.operands]) t;have h2:=fun t=>hl y (by simp [Op.operands]) t;simp only[opE,h1,h2]
 | unOp op t x=>have:=fun t=>hl x (by simp [Op.operands]) t;simp only[opE,this]
 | convert s t x=>have:=fun t=>hl x (by simp [Op.operands]) t;simp only[opE,this];rfl
 | makeFunc fn first j=>
  cases fn with
  | func f=>
   have hc:j.toList.map (St.ev tt ⟨sl,ob,n⟩ 0)=j.toList.map (St.ev tt ⟨a,ob,n'⟩ 0):=AL fun x hx=>hl x (by simp [Op.operands];exact .inr (by simpa using hx)) 0
   simp only[opE,hc,ZnJ (st:=⟨sl,ob,n⟩) (st':=⟨a,ob,n'⟩) rfl]
  | _=>rfl
 | makeMap t r=>cases r<;>rfl
 | lookup t x i ok=>have h1:=fun t=>hl x (by simp [Op.operands]) t;have h2:=fun t=>hl i (by simp [Op.operands]) t;simp only[opE,h1,h2];rfl
 | mapUpdate t x i v=>have h1:=fun t=>hl x (by simp [Op.operands]) t;have h2:=fun t=>hl i (by simp [Op.operands]) t;have h3:=fun t=>hl v (by simp [Op.operands]) t;simp only[opE,h1,h2,h3];rfl
 | makeSlice t x y=>have h1:=fun t=>hl x (by simp [Op.operands]) t;have h2:=fun t=>hl y (by simp [Op.operands]) t;simp only[opE,h1,h2]
 | fieldAddr t x f=>have:=fun t=>hl x (by simp [Op.operands]) t;simp only[opE,this]
 | field t x f=>have:=fun t=>hl x (by simp [Op.operands]) t;simp only[opE,this]
 | indexAddr t x y=>have h1:=fun t=>hl x (by simp [Op.operands]) t;have h2:=fun t=>hl y (by simp [Op.operands]) t;simp only[opE,h1,h2];rfl
 | index t x y=>have h1:=fun t=>hl x (by simp [Op.operands]) t;have h2:=fun t=>hl y (by simp [Op.operands]) t;simp only[opE,h1,h2]
 | extract x i=>have:=fun t=>hl x (by simp [Op.operands]) t;simp only[opE,this]
 | _=>rfl
theorem ZuI (sl:Nat→SV) (ob ob':Nat→Ob) (n n' t:Nat) (x:Operand):St.ev tt ⟨sl,ob,n⟩ t x=St.ev tt ⟨sl,ob',n'⟩ t x:=by cases x<;>rfl
theorem ZxV {st st':St} (h:∀k,U k→st.ob k=st'.ob k) {x:AV} (hx:avU U x):avT st x=avT st' x:=by
 cases x with
 | row k=>simp only[avT];rw [h k hx]
 | c x=>cases x<;>rfl
 | nil e m=>rfl
 | n x=>rfl
 | dead=>rfl
theorem ZpD [NW] {st st':St} (h:∀k,U k→st.ob k=st'.ob k):∀{xs:List AV},QW U xs→ZgE st xs=ZgE st' xs
 | [],_=>rfl
 | x::r,hx=>by simp only[ZgE];rw [ZxV h (hx x yG),ZpD h fun y m=>hx y (by simp [m])]
theorem Zlf [NW] {st st':St} {m:Nat} (h:∀k,U k→st.ob k=st'.ob k):∀{xs:List SV},(∀v∈xs,svU U v)→Xi st m xs=Xi st' m xs
 | [],_=>rfl
 | .p a cs::r,hx=>by
  simp only[Xi]
  rw [ZpD h (hx (.p a cs) yG),Zlf h fun v mv=>hx v (by simp [mv])]
 | .any::r,_=>rfl
 | .und::r,_=>rfl
 | .tup _::r,_=>rfl
 | .bp _ _::r,_=>rfl
 | .rp _ _ _ _::r,_=>rfl
 | .ep _ _::r,_=>rfl
 | .fn _::r,_=>rfl
theorem Zwh {x:AV} {ct:CT} {ks:List Nat} {d:Nat} (h:avT st x=some (ct,ks,d)) (hx:avU U x):∀k∈ks,U k:=by
 intro k mk
 cases x with
 | c y=>cases y<;>simp only[avT,A0,A3] at h<;>(rw [←h.2.1] at mk;simp at mk)
 | nil e m=>
  simp only[avT] at h
  split at h<;>simp only[A0,A3,reduceCtorEq] at h
  rw [←h.2.1] at mk;simp at mk
 | row j=>
  simp only[avT] at h
  split at h
  ·split at h<;>simp only[A0,A3] at h
   ·rw [←h.2.1] at mk;simp at mk
   ·rw [←h.2.1] at mk;simp at mk;subst mk;exact hx
  ·simp at h
 | n x=>simp [avT] at h
 | dead=>simp [avT] at h
theorem ZnY [NW]:∀{xs:List AV} {cts:List CT} {ks:List Nat} {d:Nat},ZgE st xs=some (cts,ks,d)→QW U xs→∀k∈ks,U k
 | [],_,_,_,h,_,k,mk=>by simp only[ZgE,A0,A3] at h;rw [←h.2.1] at mk;simp at mk
 | x::r,_,_,_,h,hu,k,mk=>by
  simp only[ZgE] at h
  obtain ⟨⟨c1,k1,d1⟩,h1,h⟩:=A9.1 h
  obtain ⟨⟨c2,k2,d2⟩,h2,h⟩:=A8.1 h
  simp only[A3] at h
  rw [←h.2.1] at mk
  rcases A5.1 mk with mk | mk
  ·exact Zwh h1 (hu x yG) k mk
  ·exact ZnY h2 (fun y my=>hu y (by simp [my])) k mk
theorem ZfY [NW] {m:Nat}:∀{xs:List SV} {es:List (List CT)} {ks:List Nat} {d:Nat},Xi st m xs=some (es,ks,d)→(∀v∈xs,svU U v)→∀k∈ks,U k
 | [],_,_,_,h,_,k,mk=>by simp only[Xi,A0,A3] at h;rw [←h.2.1] at mk;simp at mk
 | x::r,_,_,_,h,hu,k,mk=>by
  cases x with
  | p a cs=>
   simp only[Xi] at h
   split at h
   ·obtain ⟨⟨c1,k1,d1⟩,h1,h⟩:=A9.1 h
    obtain ⟨⟨c2,k2,d2⟩,h2,h⟩:=A8.1 h
    simp only[A3] at h
    rw [←h.2.1] at mk
    rcases A5.1 mk with mk | mk
    ·exact ZnY h1 (hu (.p a cs) yG) k mk
    ·exact ZfY h2 (fun v mv=>hu v (by simp [mv])) k mk
   ·simp at h
  | _=>simp [Xi] at h
theorem Zrs {st st':St} {ks:List Nat} (h:∀k∈ks,st.ob k=st'.ob k):ZU st ks=ZU st' ks:=by
 induction ks with
 | nil=>rfl
 | cons k r ih=>simp only[ZU,h k yG,ih fun j mj=>h j (by simp [mj])]
theorem ZmG {ks:List Nat} {p:Nat × Ob} (h:p∈ZU st ks):p.1∈ks∧p.2=Yc (st.ob p.1):=by
 induction ks with
 | nil=>simp [ZU] at h
 | cons k r ih=>
  simp only[ZU,AD] at h
  rcases h with rfl | h
  ·exact ⟨yG,rfl⟩
  ·exact ⟨by simp [(ih h).1],(ih h).2⟩
theorem Zl0 [NW] {hs:FuncId→Nat} {o:Oper} {sl:Nat→SV} {ob ob':Nat→Ob} {n n':Nat} (h:cls tt hs o.op=0∨(cls tt hs o.op≤3∧(∀k,U k→ob k=ob' k)∧∀t x,svU U (St.ev tt ⟨sl,ob,n⟩ t x))∨(cls tt hs o.op≤1∧Wk ⟨sl,ob,n⟩ ⟨sl,ob',n'⟩ U∧∀t x,svU U (St.ev tt ⟨sl,ob,n⟩ t x))):opE tt key o ⟨sl,ob,n⟩=opE tt key o ⟨sl,ob',n'⟩:=by
 have he:=fun t x=>ZuI (tt:=tt) sl ob ob' n n' t x
 have q:cls tt hs o.op≤3:=by rcases h with h | h | h<;>omega
 have j:cls tt hs o.op=0∨(Wk ⟨sl,ob,n⟩ ⟨sl,ob',n'⟩ U∧∀t x,svU U (St.ev tt ⟨sl,ob',n'⟩ t x)):=by
  rcases h with h | h | h
  ·exact .inl h
  ·exact .inr ⟨fun k hk=>.inl (h.2.1 k hk).symm,fun t x=>he t x ▸ h.2.2 t x⟩
  ·exact .inr ⟨h.2.1,fun t x=>he t x ▸ h.2.2 t x⟩
 obtain ⟨dst,op,ty,pos,af,gd⟩:=o
 cases op with
 | build t d=>
  have hp:∀fs z,d.toList.map (ZgA tt ⟨sl,ob,n⟩ fs z)=d.toList.map (ZgA tt ⟨sl,ob',n'⟩ fs z):=fun fs z=>AL fun p hp=>by
   unfold ZgA
   split
   ·rfl
   ·rw [he]
  simp only[opE,hp]
 | buildSlice t len d=>
  have hc:2≤cls tt hs (.buildSlice t len d):=by simp only[cls];split<;>omega
  have h':(∀k,U k→ob k=ob' k)∧∀t x,svU U (St.ev tt ⟨sl,ob,n⟩ t x):=by
   rcases h with h | h | h
   ·simp only at h;omega
   ·exact h.2
   ·simp only at h;omega
  obtain ⟨h1,h2⟩:=h'
  simp only[opE,he]
  split
  ·rename_i e m _ z _
   have hu:∀v∈d.toList.map (fun p=>St.ev tt ⟨sl,ob',n'⟩ e p.2),svU U v:=fun v mv=>by obtain ⟨p,_,rfl⟩:=A7.1 mv;rw [←he];exact h2 _ _
   rw [Zlf (U:=U) (st:=⟨sl,ob,n⟩) (st':=⟨sl,ob',n'⟩) h1 hu]
   cases hel:Xi ⟨sl,ob',n'⟩ m (d.toList.map fun p=>St.ev tt ⟨sl,ob',n'⟩ e p.2) with
   | none=>rfl
   | some a=>
    have hk:=ZfY (U:=U) hel hu
    have:=Zrs (st:=⟨sl,ob,n⟩) (st':=⟨sl,ob',n'⟩) (ks:=a.2.1) (fun k mk=>h1 k (hk k mk))
    simp only[AH,this]
  ·rfl
 | load t x=>
  obtain ⟨h1,h2⟩:=j.resolve_left (by simp [cls])
  simp only[opE,he]
  rw [ZtS (U:=U) (st:=⟨sl,ob,n⟩) (st':=⟨sl,ob',n'⟩) h1 (h2 0 x)]
 | indexAddr t x y=>
  obtain ⟨h1,h2⟩:=j.resolve_left (by simp [cls])
  simp only[opE,he]
  split
  ·rw [Zp6 (U:=U) (st:=⟨sl,ob,n⟩) (st':=⟨sl,ob',n'⟩) h1 (h2 0 x)]
  ·rfl
 | call c=>
  obtain ⟨u,args,ts⟩:=c
  cases u with
  | builtin b=>
   have A:evs tt ⟨sl,ob,n⟩ ts.toList args.toList=evs tt ⟨sl,ob',n'⟩ ts.toList args.toList:=ZdI fun x _ t=>he t x
   simp only[opE,A]
   unfold Zf7
   split
   ·rename_i t _ v he1 B
    obtain ⟨h1,h2⟩:=j.resolve_left (by simp [cls])
    have hu:svU U v:=by
     have hm:v∈evs tt ⟨sl,ob',n'⟩ ts.toList args.toList:=by simp [B]
     obtain ⟨p,_,rfl⟩:=A7.1 hm
     exact h2 _ _
    rw [Zvo (U:=U) (st:=⟨sl,ob,n⟩) (st':=⟨sl,ob',n'⟩) h1 hu]
   ·simp [cls] at q
   ·rfl
   ·rfl
   ·rfl
  | value f=>rfl
  | invoke r m=>rfl
 | store t x v=>simp [cls] at q
 | makeFunc fn first caps=>simp [cls] at q
 | mapUpdate t x i v=>simp [cls] at q
 | makeMap t r=>cases r<;>rfl
 | lookup t x i ok=>
  obtain ⟨h1,h2⟩:=j.resolve_left (by simp [cls])
  simp only[opE,he]
  rw [ZtR (U:=U) (st:=⟨sl,ob,n⟩) (st':=⟨sl,ob',n'⟩) h1 (h2 0 x)]
 | convert s t x=>
  simp only[opE,he]
  by_cases w:ZcV (tt t)=true
  ·obtain ⟨h1,h2⟩:=j.resolve_left (by simp [cls,w])
   rw [ZtM (U:=U) (st:=⟨sl,ob,n⟩) (st':=⟨sl,ob',n'⟩) h1 (h2 0 x)]
  ·have e:∀st:St,ZgN tt st s t (St.ev tt ⟨sl,ob',n'⟩ 0 x)=ZrI (tt s) (tt t) (St.ev tt ⟨sl,ob',n'⟩ 0 x):=fun st=>by
    unfold ZgN
    rw [if_neg (by simp [w])]
   rw [e,e]
 | slice t x lo hi mx=>
  cases mx with
  | some _=>rfl
  | none=>
   by_cases g:ZcV (tt t)=true
   ·have C:Zb4 (tt t)=false:=by
     unfold ZcV at g
     split at g
     ·rename_i e;rw [e];rfl
     ·simp at g
    have hu:∀l h v,Zaf ⟨sl,ob,n⟩ key (tt t) l h v=Zaf ⟨sl,ob',n'⟩ key (tt t) l h v:=fun l h v=>by
     unfold Zaf
     split
     ·simp [C]
     ·rfl
     ·rfl
    cases lo<;>cases hi<;>simp only[opE,he,AI,AJ,hu]
   ·have hc:2<cls tt hs (.slice t x lo hi none):=by simp only[cls];rw [if_neg g];split<;>omega
    have h':(∀k,U k→ob k=ob' k)∧∀t x,svU U (St.ev tt ⟨sl,ob,n⟩ t x):=by
     rcases h with h | h | h
     ·simp only at h;omega
     ·exact h.2
     ·simp only at h;omega
    obtain ⟨h1,h2⟩:=h'
    have hu:∀l h v,svU U v→Zaf ⟨sl,ob,n⟩ key (tt t) l h v=Zaf ⟨sl,ob',n'⟩ key (tt t) l h v:=fun l h v hv=>by
     unfold Zaf
     split
     ·rename_i k
      have hk:U k:=hv (.row k) yG
      simp only[h1 k hk]
     ·rfl
     ·rfl
    simp only[opE,he]
    exact hu _ _ _ (he 0 x ▸ h2 0 x)
 | _=>first | rfl | simp only[opE,he]
theorem Zew {x y:Option SV} {r:SV × List (Nat × Ob)} (h:∀v,x=some v→y=some v) (hx:Zbo x=some r):Zbo y=some r:=by
 obtain ⟨v,h1,rfl⟩:=A8.1 hx
 rw [h v h1]
 rfl
theorem Zxu [NW] {hs:FuncId→Nat} {o:Oper} {sl:Nat→SV} {ob ob':Nat→Ob} {n n':Nat} {r:SV × List (Nat × Ob)} (hc:cls tt hs o.op≤1) (a:Mk ⟨sl,ob,n⟩ ⟨sl,ob',n'⟩ U) (hu:∀t x,svU U (St.ev tt ⟨sl,ob,n⟩ t x)) (h:opE tt key o ⟨sl,ob',n'⟩=some r):opE tt key o ⟨sl,ob,n⟩=some r:=by
 have he:=fun t x=>ZuI (tt:=tt) sl ob ob' n n' t x
 by_cases h0:cls tt hs o.op=0
 ·rw [Zl0 (U:=U) (n':=n') (ob':=ob') (.inl h0)];exact h
 obtain ⟨dst,op,ty,pos,af,gd⟩:=o
 cases op with
 | load t x=>
  simp only[opE,he] at h ⊢
  exact Zew (fun v hv=>Ztk a (he 0 x ▸ hu 0 x) hv) h
 | indexAddr t x y=>
  simp only[opE,he] at h ⊢
  split at h
  ·exact Zew (fun v hv=>ZqW a (he 0 x ▸ hu 0 x) hv) h
  ·simp at h
 | lookup t x i ok=>
  simp only[opE,he] at h ⊢
  exact Zew (fun v hv=>Zti a (he 0 x ▸ hu 0 x) hv) h
 | convert s t x=>
  simp only[opE,he] at h ⊢
  refine Zew (fun v hv=>?_) h
  unfold ZgN at hv ⊢
  split at hv
  ·rename_i hb
   rw [if_pos hb]
   exact ZtG a (he 0 x ▸ hu 0 x) hv
  ·rename_i hb
   rw [if_neg hb]
   exact hv
 | call c=>
  obtain ⟨d,args,ts⟩:=c
  cases d with
  | builtin b=>
   have e:evs tt ⟨sl,ob,n⟩ ts.toList args.toList=evs tt ⟨sl,ob',n'⟩ ts.toList args.toList:=ZdI fun x _ t=>he t x
   simp only[opE,e] at h ⊢
   unfold Zf7 at h ⊢
   split at h
   ·rename_i t _ v he1 g
    have j:svU U v:=by
     have hm:v∈evs tt ⟨sl,ob',n'⟩ ts.toList args.toList:=by simp [g]
     obtain ⟨p,_,rfl⟩:=A7.1 hm
     rw [←he];exact hu _ _
    exact Zew (fun w hw=>Zvg a j hw) h
   ·simp [cls] at hc
   ·exact h
   ·exact h
   ·exact h
  | value f=>exact h
  | invoke r m=>exact h
 | slice t x lo hi mx=>simp only[cls] at hc h0;split at hc<;>rename_i hq<;>simp [hq] at h0<;>(split at hc<;>omega)
 | buildSlice t len parts=>simp only[cls] at hc;split at hc<;>omega
 | store t x v=>simp [cls] at hc
 | makeFunc fn first caps=>simp [cls] at hc
 | mapUpdate t x i v=>simp [cls] at hc
 | makeMap t r=>cases r<;>exact h
 | _=>first | exact h | (simp only[opE,he] at h ⊢;exact h)
theorem YX:∀(cts:List (Bool × CT)) (key:Nat),key≤(Ya key cts).2.2∧∀p∈(Ya key cts).2.1,key≤p.1∧p.1<(Ya key cts).2.2
 | [],key=>by simp [Ya]
 | (true,x)::r,key=>YX r key
 | (false,ct)::r,key=>by
  cases ct with
  | sl e m xs=>
   obtain ⟨h1,h2⟩:=YX r (key+1)
   refine ⟨by simp only[Ya];omega,fun p hp=>?_⟩
   simp only[Ya,AD] at hp ⊢
   rcases hp with rfl | hp
   ·exact ⟨AC _,by simp only;omega⟩
   ·have:=h2 p hp;omega
  | int k n=>exact YX r key
  | bool b=>exact YX r key
  | str s=>exact YX r key
  | ifc s=>exact YX r key
  | any=>exact YX r key
  | nl a b=>exact YX r key
  | pt s=>exact YX r key
  | fn f s=>exact YX r key
  | mp a b s=>exact YX r key
theorem Zht [NW]:∀(a:List RT) (key:Nat),key≤(ZK key a).2.2∧∀p∈(ZK key a).2.1,key≤p.1∧p.1<(ZK key a).2.2
 | [],key=>by simp [ZK]
 | x::r,key=>by
  obtain ⟨h1,h2⟩:=YX x.2 key
  obtain ⟨h3,h4⟩:=Zht r (Ya key x.2).2.2
  refine ⟨by simp only[ZK];omega,fun p hp=>?_⟩
  simp only[ZK,A5] at hp ⊢
  rcases hp with hp | hp
  ·have:=h2 p hp;omega
  ·have:=h4 p hp;omega
theorem Xf {v:Option SV} {r:SV × List (Nat × Ob)} (h:Zbo v=some r):r.2=[]:=by
 obtain ⟨u,_,rfl⟩:=A8.1 h;rfl
theorem Zxj [NW] {hs:FuncId→Nat} {o:Oper} {r:SV × List (Nat × Ob)} (hU:∀t x,svU U (st.ev tt t x)) (h:opE tt key o st=some r):(cls tt hs o.op=0→r.2=[])∧(cls tt hs o.op≤2→∀p∈r.2,key≤p.1∧p.1<key+16)∧(cls tt hs o.op≤3→∀p∈r.2,(key≤p.1∧p.1<key+16)∨(U p.1∧p.2=Yc (st.ob p.1))):=by
 have nil:r.2=[]→(cls tt hs o.op=0→r.2=[])∧(cls tt hs o.op≤2→∀p∈r.2,key≤p.1∧p.1<key+16)∧(cls tt hs o.op≤3→∀p∈r.2,(key≤p.1∧p.1<key+16)∨(U p.1∧p.2=Yc (st.ob p.1))):=fun e=>⟨fun _=>e,fun _ p hp=>by simp [e] at hp,fun _ p hp=>by simp [e] at hp⟩
 obtain ⟨dst,op,ty,pos,af,gd⟩:=o
 cases op with
 | move x=>simp only[opE,A0] at h;exact nil (by rw [←h])
 | assign x=>simp only[opE,A0] at h;exact nil (by rw [←h])
 | pick c x y=>
  simp only[opE] at h
  split at h
  ·simp only[A0] at h;exact nil (by rw [←h])
  ·simp at h
 | alloc t=>
  simp only[opE] at h
  obtain ⟨z,_,rfl⟩:=A8.1 h
  exact ⟨fun e=>by simp [cls] at e,fun _ p hp=>by simp at hp;subst hp;simp,fun _ p hp=>by simp at hp;subst hp;simp⟩
 | box t x=>
  simp only[opE] at h
  split at h
  ·simp only[A0] at h
   subst h
   exact ⟨fun e=>by simp [cls] at e,fun _ p hp=>by simp at hp;subst hp;simp,fun _ p hp=>by simp at hp;subst hp;simp⟩
  ·simp at h
 | build t a=>
  simp only[opE] at h
  split at h
  ·obtain ⟨cs,_,rfl⟩:=A8.1 h;exact nil rfl
  ·simp at h
 | buildSlice t len a=>
  simp only[opE] at h
  split at h
  ·obtain ⟨⟨xs,ks,d⟩,h1,h⟩:=A9.1 h
   split at h
   ·simp only[A0] at h
    subst h
    rename_i e0 _ _ z q l
    have hu:∀v∈a.toList.map (fun p=>st.ev tt e0 p.2),svU U v:=fun v mv=>by obtain ⟨p,_,rfl⟩:=A7.1 mv;exact hU _ _
    have hk:=ZfY (U:=U) h1 hu
    refine ⟨fun e=>by simp only[cls] at e;split at e<;>simp at e,fun e p hp=>?_,fun e p hp=>?_⟩
    ·by_cases hs:a.size=0
     ·have:a=#[]:=by simpa using hs
      subst this
      simp [Xi] at h1
      obtain ⟨_,rfl,_⟩:=h1
      simp [ZU] at hp;subst hp;simp
     ·by_cases hf:Zxr (tt t)=true
      ·have hz:z.all Zkq=true:=by rw [q] at hf;exact hf
       have u:ks=[]:=by
        have h3:=l.2.2.2
        rw [hz] at h3
        simpa using h3
       subst u
       simp [ZU] at hp;subst hp;simp
      ·simp [cls,hs,hf] at e
    ·rcases A5.1 hp with hp | hp
     ·obtain ⟨p1,p2⟩:=ZmG hp
      exact .inr ⟨hk _ p1,p2⟩
     ·simp at hp;subst hp;simp
   ·simp at h
  ·simp at h
 | load t x=>exact nil (Xf h)
 | store t x v=>exact ⟨fun e=>by simp [cls] at e,fun e=>by simp [cls] at e,fun e=>by simp [cls] at e⟩
 | makeFunc fn first caps=>exact ⟨fun e=>by simp [cls] at e,fun e=>by simp [cls] at e,fun e=>by simp [cls] at e⟩
 | mapUpdate t x i v=>exact ⟨fun e=>by simp [cls] at e,fun e=>by simp [cls] at e,fun e=>by simp [cls] at e⟩
 | lookup t x i ok=>exact nil (Xf h)
 | makeMap t r=>
  cases r with
  | none=>
   simp only[opE,Zo7] at h
   split at h
   ·simp only[A0] at h
    subst h
    exact ⟨fun e=>by simp [cls] at e,fun _ p hp=>by simp at hp;subst hp;simp,fun _ p hp=>by simp at hp;subst hp;simp⟩
   ·simp at h
  | some _=>simp [opE] at h
 | nilCheck x=>
  simp only[opE] at h
  split at h<;>simp only[A0,reduceCtorEq] at h<;>exact nil (by rw [←h])
 | binOp op t x y t'=>exact nil (Xf h)
 | unOp op t x=>exact nil (Xf h)
 | convert s t x=>exact nil (Xf h)
 | makeSlice t n c=>
  simp only[opE,Zso] at h
  split at h
  ·split at h
   ·obtain ⟨ze,_,h⟩:=A9.1 h
    split at h
    ·simp only[A0] at h
     subst h
     exact ⟨fun e=>by simp [cls] at e,fun _ p hp=>by simp at hp;subst hp;simp,fun _ p hp=>by simp at hp;subst hp;simp⟩
    ·simp at h
   ·simp at h
  ·simp at h
 | slice t x lo hi mx=>
  cases mx with
  | some _=>simp [opE] at h
  | none=>
   by_cases g:ZcV (tt t)=true
   ·have w:Zb4 (tt t)=false:=by
     unfold ZcV at g
     split at g
     ·rename_i e;rw [e];rfl
     ·simp at g
    refine nil ?_
    simp only[opE,Zaf] at h
    split at h
    ·simp [w] at h
    ·obtain ⟨v,_,rfl⟩:=A8.1 h;rfl
    ·simp at h
   ·have hc:3≤cls tt hs (.slice t x lo hi none):=by simp only[cls];rw [if_neg g];split<;>omega
    refine ⟨fun e=>by simp only at e;omega,fun e=>by simp only at e;omega,fun e p hp=>?_⟩
    have A:∀d,mvS d (lo.map (st.ev tt 0)) (hi.map (st.ev tt 0))=false:=fun d=>by
     cases lo with
     | none=>rfl
     | some _=>cases hi with
      | none=>simp [cls,g] at e
      | some _=>rfl
    simp only[opE,Zaf] at h
    split at h
    ·rename_i k hv
     have hk:U k:=by
      have:=hU 0 x
      rw [hv] at this
      exact this (.row k) yG
     split at h
     ·split at h
      ·rename_i B
       split at h
       ·rw [A,if_neg yG] at h
        obtain ⟨_,_,h⟩:=A9.1 h
        obtain ⟨_,_,rfl⟩:=A8.1 h
        simp at hp
        subst hp
        exact .inr ⟨hk,by rw [B];rfl⟩
       ·simp at h
      ·simp at h
     ·simp at h
    ·obtain ⟨v,_,rfl⟩:=A8.1 h
     simp at hp
    ·simp at h
 | fieldAddr t x f=>
  simp only[opE] at h
  split at h
  ·exact nil (Xf h)
  ·simp at h
 | field t x f=>
  simp only[opE] at h
  split at h
  ·exact nil (Xf h)
  ·simp at h
 | indexAddr t x i=>
  simp only[opE] at h
  split at h
  ·exact nil (Xf h)
  ·simp at h
 | index t x i=>exact nil (Xf h)
 | extract x i=>exact nil (Xf h)
 | call c=>
  obtain ⟨j,args,ts⟩:=c
  cases j with
  | builtin b=>
   simp only[opE,Zf7] at h
   split at h
   ·exact nil (Xf h)
   ·exact ⟨fun e=>by simp [cls] at e,fun e=>by simp [cls] at e,fun e=>by simp [cls] at e⟩
   ·exact nil (Xf h)
   ·exact nil (Xf h)
   ·simp at h
  | value f=>simp [opE] at h
  | invoke r m=>simp [opE] at h
 | _=>simp [opE] at h
theorem Zbe {hs:FuncId→Nat} {o:Op} {c:FuncId × List TypeId × List Operand} (h:Y7 o=some c):cls tt hs o=if hs c.1=0∨hs c.1=4 then 1 else 4:=by
 unfold Y7 at h
 split at h
 ·simp only[A0] at h;rw [←h];rfl
 ·simp at h
theorem ZnS {o:Op} {c:Nat × List TypeId × List Operand} (h:Xl o=some c):∃args ts,o=.call ⟨.value (.tmp c.1),args,ts⟩∧c.2.1=ts.toList∧c.2.2=args.toList:=by
 unfold Xl at h
 split at h
 ·rename_i s args ts
  simp only[A0] at h
  rw [←h]
  exact ⟨args,ts,rfl,rfl,rfl⟩
 ·simp at h
theorem Zhj [NW] {hs:FuncId→Nat} {o:Op} {c:Nat × List TypeId × List Operand} (h:Xl o=some c):cls tt hs o=4:=by
 obtain ⟨args,ts,rfl,_⟩:=ZnS h
 rfl
theorem Zmt [NW] (hU:∀t x,svU U (st.ev tt t x)) {all:List Oper} {o:Oper} {v:SV} {u:List (Nat × Ob)} (h:opR tt S all key o st v u):(cls tt S.hd o.op=0→u=[])∧(cls tt S.hd o.op≤2→∀p∈u,key≤p.1∧p.1<key+16)∧(cls tt S.hd o.op≤3→∀p∈u,(key≤p.1∧p.1<key+16)∨(U p.1∧p.2=Yc (st.ob p.1))):=by
 have nil:u=[]→(cls tt S.hd o.op=0→u=[])∧(cls tt S.hd o.op≤2→∀p∈u,key≤p.1∧p.1<key+16)∧(cls tt S.hd o.op≤3→∀p∈u,(key≤p.1∧p.1<key+16)∨(U p.1∧p.2=Yc (st.ob p.1))):=fun e=>⟨fun _=>e,fun _ p hp=>by simp [e] at hp,fun _ p hp=>by simp [e] at hp⟩
 have b:Za0 tt S key o st v u→(cls tt S.hd o.op=0→u=[])∧(cls tt S.hd o.op≤2→∀p∈u,key≤p.1∧p.1<key+16)∧(cls tt S.hd o.op≤3→∀p∈u,(key≤p.1∧p.1<key+16)∨(U p.1∧p.2=Yc (st.ob p.1))):=fun h=>by
  unfold Za0 at h
  split at h
  ·rename_i c hc
   by_cases h0:S.hd c.1=0∨S.hd c.1=4
   ·have h':∃a,(ZK key a).2.2≤key+16∧u=(ZK key a).2.1:=by
     rcases h0 with h0 | h0
     ·rw [h0] at h
      obtain ⟨l,a,_,_,_,h3,_,e⟩:=h
      exact ⟨a,h3,e⟩
     ·rw [h0] at h
      obtain ⟨l,a,_,_,_,h3,_,e⟩:=h
      exact ⟨a,h3,e⟩
    obtain ⟨a,h3,rfl⟩:=h'
    have hp:∀p∈(ZK key a).2.1,key≤p.1∧p.1<key+16:=fun p hp=>by
     have:=(Zht a key).2 p hp
     omega
    exact ⟨fun e=>by rw [Zbe hc,if_pos h0] at e;simp at e,fun _=>hp,fun _ p m=>.inl (hp p m)⟩
   ·refine ⟨fun e=>by rw [Zbe hc,if_neg h0] at e;simp at e,fun e=>by rw [Zbe hc,if_neg h0] at e;simp at e,fun e=>by rw [Zbe hc,if_neg h0] at e;simp at e⟩
  ·split at h
   ·rename_i c hc
    have h4:=Zhj (tt:=tt) (hs:=S.hd) hc
    exact ⟨fun e=>by rw [h4] at e;simp at e,fun e=>by rw [h4] at e;simp at e,fun e=>by rw [h4] at e;simp at e⟩
   ·exact Zxj hU h
 unfold opR at h
 split at h
 ·exact b h
 ·exact nil h.2
 ·unfold gK at h
  split at h
  ·split at h
   ·exact b h
   ·exact nil h.2
  ·split at h
   ·exact nil h.2
   ·exact h.elim
theorem ZhW (h:st.ob=st'.ob):∀ks:List Nat,ZU st ks=ZU st' ks
 | []=>rfl
 | k::r=>by simp only[ZU,ZhW h r,h]
theorem ZFH (s:SV):svU (fun _=>True) s:=by
 cases s<;>first | trivial | (intro y my;cases y<;>trivial) | (intro y my z mz;cases z<;>trivial)
theorem Zvl [NW] (h:st.ob=st'.ob) (v:SV):Zf1 st v=Zf1 st' v:=by
 have ha:∀cs,Y0 st cs=Y0 st' cs:=fun cs=>ZhB (U:=fun _=>True) (fun k _=>.inl (by rw [h])) (fun x _=>by cases x<;>trivial)
 unfold Zf1
 split
 ·rw [h]
  split
  ·rw [ha]
  ·rfl
 ·rw [h]
 ·rfl
theorem Zm8 [NW] (h:st.ob=st'.ob) {f:FuncId} {n:Nat} {vs:List SV} {v:SV} {u:List (Nat × Ob)}:Zbs S f n key st vs v u↔Zbs S f n key st' vs v u:=by
 have hs:∀xs,Z1 st xs=Z1 st' xs:=fun xs=>ZeZ (U:=fun _=>True) (fun k _=>.inl (by rw [h])) (fun x _=>ZFH x)
 unfold Zbs
 split
 ·simp only[hs]
 ·simp only[hs,Zvl h,ZhW h]
 ·simp only[hs,ZhW h]
 ·simp only[hs]
 ·simp only[hs,ZhW h]
theorem Zwe [NW] {o:Oper} {v:SV} {u:List (Nat × Ob)} (hl:∀x∈o.op.operands,∀t,st.ev tt t x=st'.ev tt t x)
  (a:cls tt S.hd o.op=0∨st.ob=st'.ob∨(∀t x,svU U (st.ev tt t x))∧((cls tt S.hd o.op≤3∧∀k,U k→st.ob k=st'.ob k)∨(cls tt S.hd o.op≤1∧Wk st st' U))):Za0 tt S key o st v u↔Za0 tt S key o st' v u:=by
 cases hc:Y7 o.op with
 | some c=>
  simp only[Za0,hc]
  have l:∃args ts,o.op=.call ⟨.value (.func c.1),args,ts⟩∧c.2.1=ts.toList∧c.2.2=args.toList:=by
   unfold Y7 at hc
   split at hc
   ·rename_i f args ts he
    simp only[A0] at hc
    rw [←hc]
    exact ⟨args,ts,he,rfl,rfl⟩
   ·simp at hc
  obtain ⟨args,ts,ho,e1,e2⟩:=l
  have d:evs tt st c.2.1 c.2.2=evs tt st' c.2.1 c.2.2:=ZdI fun x m t=>hl x (by rw [ho];rw [e2] at m;simp [Op.operands,Call.operands];exact .inr (by simpa using m)) t
  rw [←d]
  rcases a with e | a | ⟨hu,a⟩
  ·rw [Zbe hc] at e
   split at e<;>simp at e
  ·exact Zm8 a
  ·have g:cls tt S.hd o.op≤3:=by rcases a with h | h<;>omega
   have j:Wk st st' U:=by
    rcases a with h | h
    ·exact .of h.2
    ·exact h.2
   have h0:S.hd c.1=0∨S.hd c.1=4:=by
    rw [Zbe hc] at g
    split at g
    ·assumption
    ·simp at g
   have b:∀x∈evs tt st c.2.1 c.2.2,svU U x:=fun x hx=>by
    obtain ⟨p,_,rfl⟩:=A7.1 hx
    exact hu _ _
   rcases h0 with h0 | h0
   ·have i:Z1 st (evs tt st c.2.1 c.2.2)=Z1 st' (evs tt st c.2.1 c.2.2):=ZeZ (U:=U) j b
    rw [h0]
    simp only[Zbs,i]
   ·have i:Z1 st ((evs tt st c.2.1 c.2.2).map nlS)=Z1 st' ((evs tt st c.2.1 c.2.2).map nlS):=ZeZ (U:=U) j (fun x hx=>by
     obtain ⟨y,my,rfl⟩:=A7.1 hx
     exact Zwx (b y my))
    rw [h0]
    simp only[Zbs,i]
 | none=>
  simp only[Za0,hc]
  have:opE tt key o st=opE tt key o st':=by
   obtain ⟨sl,ob,n⟩:=st
   obtain ⟨q,ob',n'⟩:=st'
   have s1:opE tt key o ⟨q,ob',n'⟩=opE tt key o ⟨sl,ob',n⟩:=ZpQ fun x m t=>by
    rw [←hl x m t];exact ZuI _ _ _ _ _ _ _
   rw [s1]
   rcases a with hc | a | ⟨hu,⟨hc,a⟩ | ⟨hc,a⟩⟩
   ·exact Zl0 (U:=U) (.inl hc)
   ·simp only at a;subst a;rfl
   ·exact Zl0 (U:=U) (.inr (.inl ⟨hc,a,hu⟩))
   ·exact Zl0 (U:=U) (.inr (.inr ⟨hc,a,hu⟩))
  cases hd:Xl o.op with
  | none=>simp only[this]
  | some c=>
   simp only
   obtain ⟨args,ts,ho,e1,e2⟩:=ZnS hd
   have d:evs tt st c.2.1 c.2.2=evs tt st' c.2.1 c.2.2:=ZdI fun x m t=>hl x (by rw [ho];rw [e2] at m;simp [Op.operands,Call.operands];exact .inr (by simpa using m)) t
   have w:st.sl c.1=st'.sl c.1:=hl (.tmp c.1) (by rw [ho];simp [Op.operands,Call.operands]) 0
   have h4:=Zhj (tt:=tt) (hs:=S.hd) hd
   rcases a with h0 | h0 | ⟨_,⟨h0,_⟩ | ⟨h0,_⟩⟩
   ·omega
   ·rw [d,w]
    constructor
    ·rintro ⟨fc,f1,f2,f3⟩;exact ⟨fc,f1,f2,(Zm8 h0).1 f3⟩
    ·rintro ⟨fc,f1,f2,f3⟩;exact ⟨fc,f1,f2,(Zm8 h0).2 f3⟩
   ·omega
   ·omega
theorem ZcO [NW] {a:Array Oper} {o:Oper} {v:SV} {u:List (Nat × Ob)} (hl:∀s∈o.looksAt a,st.sl s=st'.sl s)
  (b:cls tt S.hd o.op=0∨st.ob=st'.ob∨(∀t x,svU U (st.ev tt t x))∧((cls tt S.hd o.op≤3∧∀k,U k→st.ob k=st'.ob k)∨(cls tt S.hd o.op≤1∧Wk st st' U))):opR tt S a.toList key o st v u↔opR tt S a.toList key o st' v u:=by
 have c:∀x∈o.op.operands,∀t,st.ev tt t x=st'.ev tt t x:=fun x m t=>by
  cases x with
  | tmp s=>exact hl s (by
    unfold Oper.looksAt
    refine A5.2 (.inl (Ah.2 ⟨.tmp s,by simpa using m,rfl⟩)))
  | _=>rfl
 have h1:=Zwe (S:=S) (key:=key) (v:=v) (u:=u) c b
 unfold opR
 cases hg:ZaO a.toList o with
 | none=>exact h1
 | some q=>
  obtain ⟨q,want⟩:=q
  cases q with
  | none=>rfl
  | some t=>
   have ht:st.sl t=st'.sl t:=hl t (by
    unfold ZaO at hg
    split at hg
    ·simp at hg
    ·rename_i g d
     simp only[A0,A3] at hg
     unfold Oper.looksAt
     refine A5.2 (.inr ?_)
     rw [d]
     have:(a[g.1]?).bind (·.dst)=some t:=by simpa using hg.1
     simp [this])
   simp only[gK,ht,h1]
theorem ZEL [NW] (hU:StU U st) (t:Nat) (x:Operand):svU U (st.ev tt t x):=by
 cases x with
 | tmp s=>exact hU.sl s
 | const v=>
  show svU U (cvT (tt t) v)
  unfold cvT
  split
  ·exact XK _
  ·exact XK _
  ·split
   ·exact XK _
   ·trivial
  ·split
   ·intro y m;simp at m;subst m;trivial
   ·trivial
  ·trivial
 | global _=>trivial
 | func _=>trivial
theorem X6 [NW]:∀{u:List (Nat × Ob)} {ob:Nat→Ob} {k:Nat},(∀p∈u,p.1≠k)→Zn ob u k=ob k
 | [],_,_,_=>rfl
 | p::r,ob,k,h=>by
  rw [Zn,X6 fun q m=>h q (by simp [m])]
  exact ZP _ _ fun e=>h p yG e.symm
theorem ZkJ [NW]:∀{u:List (Nat × Ob)} {ob ob':Nat→Ob} {k:Nat},(∃p∈u,p.1=k)→Zn ob u k=Zn ob' u k
 | [],_,_,_,h=>by simp at h
 | p::r,ob,ob',k,h=>by
  rw [Zn,Zn]
  by_cases hr:∃q∈r,q.1=k
  ·exact ZkJ hr
  ·have hn:∀q∈r,q.1≠k:=fun q m e=>hr ⟨q,m,e⟩
   rw [X6 hn,X6 hn]
   obtain ⟨q,mq,e⟩:=h
   rcases AD.1 mq with rfl | mq
   ·rw [←e,ZF,ZF]
   ·exact absurd e (hn q mq)
theorem Zr5 [NW] {u1 u2:List (Nat × Ob)} {ob:Nat→Ob} (h:∀p∈u1,∀q∈u2,p.1≠q.1):Zn (Zn ob u1) u2=Zn (Zn ob u2) u1:=by
 funext k
 by_cases h1:∃p∈u1,p.1=k
 ·obtain ⟨p,mp,rfl⟩:=h1
  rw [X6 fun q mq e=>h p mp q mq e.symm]
  exact ZkJ ⟨p,mp,rfl⟩
 ·have hn:∀q∈u1,q.1≠k:=fun q m e=>h1 ⟨q,m,e⟩
  rw [X6 (ob:=Zn ob u2) hn]
  by_cases h2:∃p∈u2,p.1=k
  ·exact ZkJ h2
  ·have a:∀q∈u2,q.1≠k:=fun q m e=>h2 ⟨q,m,e⟩
   rw [X6 a,X6 a,X6 hn]
theorem ZcR [NW] (st:St) (d:Option Nat) (v:SV) (s:Nat) (h:∀t,d=some t→s≠t):(st.put d v).sl s=st.sl s:=by
 cases d with
 | none=>rfl
 | some t=>exact ZP _ _ (h t rfl)
theorem Zau (st:St) (d:Option Nat) (v:SV):(st.put d v).ob=st.ob:=by cases d<;>rfl
theorem Zr3 (st:St) (d:Option Nat) (v:SV):(st.put d v).n=st.n:=by cases d<;>rfl
theorem Zo8 (st:St) (d e:Option Nat) (v u:SV) (h:∀t,d=some t→e≠some t):((st.put d v).put e u).sl=((st.put e u).put d v).sl:=by
 cases d with
 | none=>rfl
 | some t=>cases e with
  | none=>rfl
  | some s=>
   have a:t≠s:=fun e=>h t rfl (e ▸ rfl)
   funext k
   show upd (upd st.sl t v) s u k=upd (upd st.sl s u) t v k
   unfold upd
   by_cases h1:k=s
   ·by_cases h2:k=t
    ·exact absurd (h2.symm.trans h1) a
    ·have b:¬s=t:=fun e=>a e.symm
     simp [h1,b]
   ·simp [h1]
def Zvh (tt:Nat→Option TI):Op→Bool
 | .slice t _ (some _) none none=>!ZcV (tt t)
 | .call ⟨.builtin .append,_,_⟩=>true
 | _=>false
theorem Zh2 [NW] {a:Array Oper} {o:Oper} {v:SV} {u:List (Nat × Ob)} (hl:∀s∈o.looksAt a,st.sl s=st'.sl s) (h1:Za0 tt S key o st' v u→Za0 tt S key o st v u) (h:opR tt S a.toList key o st' v u):opR tt S a.toList key o st v u:=by
 unfold opR at h ⊢
 cases hg:ZaO a.toList o with
 | none=>rw [hg] at h;exact h1 h
 | some q=>
  obtain ⟨q,want⟩:=q
  rw [hg] at h
  cases q with
  | none=>exact h
  | some t=>
   have ht:st.sl t=st'.sl t:=hl t (by
    unfold ZaO at hg
    split at hg
    ·simp at hg
    ·rename_i g c
     simp only[A0,A3] at hg
     unfold Oper.looksAt
     refine A5.2 (.inr ?_)
     rw [c]
     have:(a[g.1]?).bind (·.dst)=some t:=by simpa using hg.1
     simp [this])
   simp only[gK,ht] at h ⊢
   split at h
   ·rename_i hb
    rw [if_pos hb]
    split at h
    ·rename_i b;rw [if_pos b];exact h1 h
    ·rename_i b;rw [if_neg b];exact h
   ·rename_i hb
    rw [if_neg hb]
    exact h
theorem ZcU {a:Array Oper} {o:Oper} (hl:∀s∈o.looksAt a,st.sl s=st'.sl s):∀x∈o.op.operands,∀t,st.ev tt t x=st'.ev tt t x:=fun x m t=>by
 cases x with
 | tmp s=>exact hl s (by
   unfold Oper.looksAt
   refine A5.2 (.inl (Ah.2 ⟨.tmp s,by simpa using m,rfl⟩)))
 | _=>rfl
theorem Zva [NW] {o:Oper} {v:SV} {u:List (Nat × Ob)} (hl:∀x∈o.op.operands,∀t,st.ev tt t x=st'.ev tt t x) (a:cls tt S.hd o.op≤1) (hu:∀t x,svU U (st.ev tt t x)) (d:Mk st st' U) (h:Za0 tt S key o st' v u):Za0 tt S key o st v u:=by
 cases hc:Y7 o.op with
 | some c=>
  simp only[Za0,hc] at h ⊢
  have g:∃args ts,o.op=.call ⟨.value (.func c.1),args,ts⟩∧c.2.1=ts.toList∧c.2.2=args.toList:=by
   unfold Y7 at hc
   split at hc
   ·rename_i f args ts he
    simp only[A0] at hc
    rw [←hc]
    exact ⟨args,ts,he,rfl,rfl⟩
   ·simp at hc
  obtain ⟨args,ts,ho,e1,e2⟩:=g
  have i:evs tt st c.2.1 c.2.2=evs tt st' c.2.1 c.2.2:=ZdI fun x m t=>hl x (by rw [ho];rw [e2] at m;simp [Op.operands,Call.operands];exact .inr (by simpa using m)) t
  rw [←i] at h
  have h0:S.hd c.1=0∨S.hd c.1=4:=by
   rw [Zbe hc] at a
   split at a
   ·assumption
   ·simp at a
  have b:∀x∈evs tt st c.2.1 c.2.2,svU U x:=fun x hx=>by
   obtain ⟨p,_,rfl⟩:=A7.1 hx
   exact hu _ _
  rcases h0 with h0 | h0
  ·rw [h0] at h ⊢
   simp only[Zbs] at h ⊢
   obtain ⟨al,e,h1,h2⟩:=h
   exact ⟨al,e,ZhD d b h1,h2⟩
  ·rw [h0] at h ⊢
   simp only[Zbs] at h ⊢
   obtain ⟨al,e,h1,h2⟩:=h
   exact ⟨al,e,ZhD d (fun x hx=>by
    obtain ⟨y,my,rfl⟩:=A7.1 hx
    exact Zwx (b y my)) h1,h2⟩
 | none=>
  simp only[Za0,hc] at h ⊢
  cases hd:Xl o.op with
  | some c=>have h4:=Zhj (tt:=tt) (hs:=S.hd) hd;omega
  | none=>
   rw [hd] at h
   simp only at h ⊢
   obtain ⟨sl,ob,n⟩:=st
   obtain ⟨j,ob',n'⟩:=st'
   have s1:opE tt key o ⟨j,ob',n'⟩=opE tt key o ⟨sl,ob',n⟩:=ZpQ fun x m t=>by
    rw [←hl x m t];exact ZuI _ _ _ _ _ _ _
   rw [s1] at h
   exact Zxu a d hu h
theorem ZzI {o:Op} (h:Zvh tt o=true):(∃t x lo,o=.slice t x (some lo) none none∧ZcV (tt t)=false)∨∃args ts,o=.call ⟨.builtin .append,args,ts⟩:=by
 unfold Zvh at h
 split at h
 ·exact .inl ⟨_,_,_,rfl,by simpa using h⟩
 ·exact .inr ⟨_,_,rfl⟩
 ·simp at h
theorem Zw8 [NW] {s:SV} {a:List (List CT) × List Nat × Nat} (hs:svU U s) (h:Zgk st s=some a):∀k∈a.2.1,U k:=by
 unfold Zgk at h
 split at h
 ·simp only[A0] at h;rw [←h];simp
 ·split at h
  ·split at h
   ·simp at h
   ·simp only[A0] at h
    rw [←h]
    intro k hk
    simp only[AD,AM,or_false] at hk
    subst hk
    exact hs (.row _) yG
  ·simp at h
 ·simp at h
theorem ZwM [NW] {fl:Bool} {s:SV} {a:List (List CT) × List Nat × Nat} (hs:svU U s) (h:Zgh st fl s=some a):∀k∈a.2.1,U k:=by
 unfold Zgh at h
 split at h
 ·simp only[A0] at h;rw [←h];simp
 ·simp only[A0] at h;rw [←h];simp
 ·split at h
  ·split at h
   ·simp only[A0] at h;rw [←h];simp
   ·simp only[A0] at h
    rw [←h]
    intro k hk
    simp only[AD,AM,or_false] at hk
    subst hk
    exact hs (.row _) yG
  ·simp at h
 ·simp at h
theorem Zv3 [NW] {t:Option TI} {s x:SV} (hs:svU U s) (hx:svU U x) (a:∀k,U k→st.ob k=st'.ob k):Zor st key t s x=Zor st' key t s x:=by
 have e1:Zgk st s=Zgk st' s:=by
  unfold Zgk
  split
  ·rfl
  ·rename_i k
   rw [a k (hs (.row k) yG)]
  ·rfl
 have e2:∀fl,Zgh st fl x=Zgh st' fl x:=fun fl=>by
  unfold Zgh
  split
  ·rfl
  ·rfl
  ·rename_i k
   rw [a k (hx (.row k) yG)]
  ·rfl
 have e3:∀e m,Zmi st e m s=Zmi st' e m s:=fun e m=>by
  unfold Zmi
  split
  ·rename_i k
   rw [a k (hs (.row k) yG)]
  ·rfl
  ·rfl
 have e4:∀m,Zk2 st m x=Zk2 st' m x:=fun m=>by
  unfold Zk2
  split
  ·rename_i k
   rw [a k (hx (.row k) yG)]
  ·rfl
  ·rfl
  ·rfl
 unfold Zor
 split
 ·simp only[e1,e2,e3,e4]
 ·rfl
theorem ZuD {ts:List TypeId} {vs:List SV} {r:SV × List (Nat × Ob)} (h:Zf7 tt st key .append ts vs=some r):∃t s x,ts=[t,t]∧vs=[s,x]∧Zor st key (tt t) s x=some r:=by
 match ts,vs,h with
 | [t,u],[s,x],h=>
  simp only[Zf7] at h
  split at h
  ·rename_i e;subst e;exact ⟨t,s,x,rfl,rfl,h⟩
  ·simp at h
 | [],_,h=>simp [Zf7] at h
 | [_],_,h=>simp [Zf7] at h
 | _::_::_::_,_,h=>simp [Zf7] at h
 | [_,_],[],h=>simp [Zf7] at h
 | [_,_],[_],h=>simp [Zf7] at h
 | [_,_],_::_::_::_,h=>simp [Zf7] at h
theorem ZzA [NW] {o:Oper} {v:SV} {u:List (Nat × Ob)} (hm:Zvh tt o.op=true) (hU:∀t x,svU U (st.ev tt t x)) (h:Za0 tt S key o st v u):(∀p∈u,(key≤p.1∧p.1<key+16)∨(U p.1∧(p.2=st.ob p.1∨p.2=.gone))):=by
 obtain ⟨g,op,ty,i,af,gd⟩:=o
 obtain ⟨t,x,lo,ho,hs⟩ | ⟨args,ts,ho⟩:=ZzI hm
 rotate_left
 ·simp only at ho
  subst ho
  have h':Zf7 tt st key .append ts.toList (evs tt st ts.toList args.toList)=some (v,u):=h
  obtain ⟨t,s,x,_,he,h'⟩:=ZuD h'
  have c:svU U s∧svU U x:=by
   have d:∀y∈evs tt st ts.toList args.toList,svU U y:=fun y my=>by
    obtain ⟨p,_,rfl⟩:=A7.1 my
    exact hU _ _
   exact ⟨d s (by rw [he];simp),d x (by rw [he];simp)⟩
  unfold Zor at h'
  split at h'
  ·obtain ⟨a,h1,h'⟩:=A9.1 h'
   obtain ⟨b,h2,h'⟩:=A9.1 h'
   split at h'
   ·simp only[A0,A3] at h'
    rw [←h'.2]
    intro p hp
    rcases A5.1 hp with hp | hp
    ·obtain ⟨k,mk,rfl⟩:=A7.1 hp
     refine .inr ⟨?_,.inr rfl⟩
     rcases A5.1 mk with mk | mk
     ·exact Zw8 c.1 h1 k mk
     ·exact ZwM c.2 h2 k mk
    ·simp only[AD,AM,or_false] at hp
     subst hp
     exact .inl ⟨AC _,by simp only;omega⟩
   ·simp at h'
  ·simp at h'
 simp only at ho
 subst ho
 have h':opE tt key ⟨g,.slice t x (some lo) none none,ty,i,af,gd⟩ st=some (v,u):=h
 simp only[opE,Zaf,AJ,AI] at h'
 intro p hp
 split at h'
 ·rename_i k hv
  have hk:U k:=by
   have:=hU 0 x
   rw [hv] at this
   exact this (.row k) yG
  split at h'
  ·split at h'
   ·rename_i j
    split at h'
    ·split at h'
     ·obtain ⟨l,_,e⟩:=A8.1 h'
      simp only[A3] at e
      rw [←e.2] at hp
      simp only[AD,AM,or_false] at hp
      rcases hp with rfl | rfl
      ·exact .inr ⟨hk,.inr rfl⟩
      ·exact .inl ⟨AC _,by simp only;omega⟩
     ·rename_i f
      obtain ⟨_,_,h'⟩:=A9.1 h'
      obtain ⟨_,_,e⟩:=A8.1 h'
      simp only[A3] at e
      rw [←e.2] at hp
      simp only[AD,AM,or_false] at hp
      subst hp
      refine .inr ⟨hk,.inl ?_⟩
      simp only[mvS] at f
      split at f
      ·rename_i hd;rw [j,hd]
      ·simp at f
    ·simp at h'
   ·simp at h'
  ·simp at h'
 ·obtain ⟨_,_,e⟩:=A8.1 h'
  simp only[A3] at e
  rw [←e.2] at hp
  simp at hp
 ·simp at h'
theorem ZyD [NW] {o:Oper} {v:SV} {u:List (Nat × Ob)} (hm:Zvh tt o.op=true) (hl:∀x∈o.op.operands,∀t,st.ev tt t x=st'.ev tt t x) (hU:∀t x,svU U (st'.ev tt t x)) (b:∀k,U k→st.ob k=st'.ob k) (h:Za0 tt S key o st' v u):Za0 tt S key o st v u:=by
 obtain ⟨c,op,ty,d,af,gd⟩:=o
 obtain ⟨t,x,lo,ho,hs⟩ | ⟨args,ts,ho⟩:=ZzI hm
 rotate_left
 ·simp only at ho
  subst ho
  have h':Zf7 tt st' key .append ts.toList (evs tt st' ts.toList args.toList)=some (v,u):=h
  show Zf7 tt st key .append ts.toList (evs tt st ts.toList args.toList)=some (v,u)
  have e:evs tt st ts.toList args.toList=evs tt st' ts.toList args.toList:=ZdI fun x m t=>hl x (by simpa [Op.operands,Call.operands] using m) t
  have a:∀y∈evs tt st' ts.toList args.toList,svU U y:=fun y my=>by
   obtain ⟨p,_,rfl⟩:=A7.1 my
   exact hU _ _
  obtain ⟨t,s,x,et,he,h'⟩:=ZuD h'
  rw [e,he,et]
  rw [he] at a
  show (if t=t then Zor st key (tt t) s x else none)=_
  rw [if_pos rfl,Zv3 (a s yG) (a x yG) b,h']
 simp only at ho
 subst ho
 have h':opE tt key ⟨c,.slice t x (some lo) none none,ty,d,af,gd⟩ st'=some (v,u):=h
 show opE tt key ⟨c,.slice t x (some lo) none none,ty,d,af,gd⟩ st=some (v,u)
 have e1:=hl x (by simp [Op.operands]) 0
 have e2:=hl lo (by simp [Op.operands]) 0
 simp only[opE,AJ,AI,e1,e2] at h' ⊢
 rw [←h']
 have hx:=hU 0 x
 unfold Zaf
 split
 ·rename_i k hv
  rw [hv] at hx
  have hk:U k:=hx (.row k) yG
  simp only[b k hk]
 ·rfl
 ·rfl
theorem ZdA [NW] {a:List Oper} {o:Oper} {v:SV} {u:List (Nat × Ob)} {C:Prop} (h:opR tt S a key o st v u) (h1:Za0 tt S key o st v u→C) (h2:u=[]→C):C:=by
 unfold opR at h
 split at h
 ·exact h1 h
 ·exact h2 h.2
 ·unfold gK at h
  split at h
  ·split at h
   ·exact h1 h
   ·exact h2 h.2
  ·split at h
   ·exact h2 h.2
   ·exact h.elim
def ZuF (tt:Nat→Option TI) (hs:FuncId→Nat) (x y:Op):Bool:=cls tt hs x==0||cls tt hs y==0||(Nat.ble (cls tt hs x) 2&&Nat.ble (cls tt hs y) 2)||(Nat.ble (cls tt hs x) 1&&Nat.ble (cls tt hs y) 3)||(Nat.ble (cls tt hs x) 3&&Nat.ble (cls tt hs y) 1)||(Zvh tt x&&Nat.ble (cls tt hs y) 1)
theorem comm [NW] {c:Array Oper} {oi oj:Oper} {ki kj:Nat} {vi vj:SV} {ui uj:List (Nat × Ob)} (G:oi.apart c oj=true) (hc:ZuF tt S.hd oi.op oj.op=true) (hU:StU U st) (m:∀k,ki≤k→k<ki+16→¬U k) (j:∀k,kj≤k→k<kj+16→¬U k) (hdis:ki+16≤kj∨kj+16≤ki)
  (h:opR tt S c.toList ki oi st vi ui) (h':opR tt S c.toList kj oj ((st.put oi.dst vi).app ui) vj uj):
  opR tt S c.toList kj oj st vj uj∧opR tt S c.toList ki oi ((st.put oj.dst vj).app uj) vi ui∧((((st.put oi.dst vi).app ui).put oj.dst vj).app uj)=((((st.put oj.dst vj).app uj).put oi.dst vi).app ui):=by
 obtain ⟨a1,a2,a3⟩:=Oper.apart_spec G
 have b:∀t x,svU U (st.ev tt t x):=fun t x=>ZEL hU t x
 obtain ⟨i1,i2,i3⟩:=Zmt (U:=U) b h
 have l:(∀p∈ui,∀q∈uj,p.1≠q.1)→((((st.put oi.dst vi).app ui).put oj.dst vj).app uj)=((((st.put oj.dst vj).app uj).put oi.dst vi).app ui):=fun H=>by
  have o:((((st.put oi.dst vi).app ui).put oj.dst vj).app uj).sl=((((st.put oj.dst vj).app uj).put oi.dst vi).app ui).sl:=by
   have e1:∀(s:St) (u:List (Nat × Ob)) (d:Option Nat) (v:SV),((s.app u).put d v).sl=(s.put d v).sl:=fun s u d v=>by cases d<;>rfl
   show (((st.put oi.dst vi).app ui).put oj.dst vj).sl=(((st.put oj.dst vj).app uj).put oi.dst vi).sl
   rw [e1,e1]
   exact Zo8 st _ _ _ _ fun t ht=>a2 t ht
  have i:((((st.put oi.dst vi).app ui).put oj.dst vj).app uj).ob=((((st.put oj.dst vj).app uj).put oi.dst vi).app ui).ob:=by
   show Zn (((st.put oi.dst vi).app ui).put oj.dst vj).ob uj=Zn (((st.put oj.dst vj).app uj).put oi.dst vi).ob ui
   rw [Zau,Zau]
   show Zn (Zn (st.put oi.dst vi).ob ui) uj=Zn (Zn (st.put oj.dst vj).ob uj) ui
   rw [Zau,Zau]
   exact Zr5 H
  have hn:((((st.put oi.dst vi).app ui).put oj.dst vj).app uj).n=((((st.put oj.dst vj).app uj).put oi.dst vi).app ui).n:=by
   show (((st.put oi.dst vi).app ui).put oj.dst vj).n=(((st.put oj.dst vj).app uj).put oi.dst vi).n
   rw [Zr3,Zr3]
   show (st.put oi.dst vi).n=(st.put oj.dst vj).n
   rw [Zr3,Zr3]
  generalize ((((st.put oi.dst vi).app ui).put oj.dst vj).app uj)=s1 at o i hn ⊢
  generalize ((((st.put oj.dst vj).app uj).put oi.dst vi).app ui)=s2 at o i hn ⊢
  cases s1;cases s2
  simp only at o i hn
  subst o i hn
  rfl
 by_cases A:Zvh tt oi.op=true∧cls tt S.hd oj.op≤1
 ·obtain ⟨hm,hj⟩:=A
  have B:∀p∈ui,(ki≤p.1∧p.1<ki+16)∨(U p.1∧(p.2=st.ob p.1∨p.2=.gone)):=ZdA h (fun h=>ZzA hm b h) fun e p hp=>by rw [e] at hp;simp at hp
  have I:Mk st ((st.put oi.dst vi).app ui) U:=fun k hk=>by
   show Zn (st.put oi.dst vi).ob ui k=st.ob k∨Zn (st.put oi.dst vi).ob ui k=.gone
   rw [Zau]
   have z:∀(u:List (Nat × Ob)) (ob:Nat→Ob),(∀p∈u,(ki≤p.1∧p.1<ki+16)∨(U p.1∧(p.2=st.ob p.1∨p.2=.gone)))→(ob k=st.ob k∨ob k=.gone)→(Zn ob u k=st.ob k∨Zn ob u k=.gone):=by
    intro u
    induction u with
    | nil=>intro ob _ h;exact h
    | cons p u ih=>
     intro ob hp h
     refine ih _ (fun x mx=>hp x (by simp [mx])) ?_
     by_cases g:k=p.1
     ·rcases hp p yG with h1 | h1
      ·exact absurd (g ▸ hk) (m p.1 h1.1 h1.2)
      ·rw [g,ZF];exact h1.2
     ·rw [ZP _ _ g];exact h
   exact z ui st.ob B (.inl rfl)
  have C:∀s∈oj.looksAt c,st.sl s=((st.put oi.dst vi).app ui).sl s:=fun s ms=>(ZcR st oi.dst vi s fun t ht e=>a1 t ht (e ▸ ms)).symm
  have hA:opR tt S c.toList kj oj st vj uj:=Zh2 C (Zva (ZcU C) hj b I) h'
  obtain ⟨_,j2,_⟩:=Zmt (U:=U) b hA
  have D:∀s∈oi.looksAt c,((st.put oj.dst vj).app uj).sl s=st.sl s:=fun s ms=>ZcR st oj.dst vj s fun t ht e=>a3 t ht (e ▸ ms)
  have J:∀k,U k→((st.put oj.dst vj).app uj).ob k=st.ob k:=fun k hk=>by
   show Zn (st.put oj.dst vj).ob uj k=st.ob k
   rw [Zau]
   exact X6 fun p mp e=>j p.1 (j2 yE p mp).1 (j2 yE p mp).2 (e ▸ hk)
  refine ⟨hA,Zh2 D (ZyD hm (ZcU D) b J) h,l fun p mp q mq e=>?_⟩
  have h2:=j2 yE q mq
  rcases B p mp with h1 | h1
  ·omega
  ·exact j q.1 h2.1 h2.2 (e ▸ h1.1)
 have a:cls tt S.hd oi.op=0∨cls tt S.hd oj.op=0∨(cls tt S.hd oi.op≤2∧cls tt S.hd oj.op≤2)∨(cls tt S.hd oi.op≤1∧cls tt S.hd oj.op≤3)∨(cls tt S.hd oi.op≤3∧cls tt S.hd oj.op≤1):=by
  unfold ZuF at hc
  simp only[AK,beq_iff_eq,A6] at hc
  rcases hc with ((((hc | hc) | hc) | hc) | hc) | hc
  ·exact .inl hc
  ·exact .inr (.inl hc)
  ·exact .inr (.inr (.inl ⟨AA hc.1,AA hc.2⟩))
  ·exact .inr (.inr (.inr (.inl ⟨AA hc.1,AA hc.2⟩)))
  ·exact .inr (.inr (.inr (.inr ⟨AA hc.1,AA hc.2⟩)))
  ·exact absurd ⟨hc.1,AA hc.2⟩ A
 have f:∀{u:List (Nat × Ob)} {q:Nat},(∀p∈u,q≤p.1∧p.1<q+16)→(∀k,q≤k→k<q+16→¬U k)→∀k,U k→st.ob k=Zn st.ob u k:=fun hu hq k hk=>(X6 fun p mp e=>hq p.1 (hu p mp).1 (hu p mp).2 (e ▸ hk)).symm
 have y:∀{u:List (Nat × Ob)} {q:Nat},(∀p∈u,(q≤p.1∧p.1<q+16)∨(U p.1∧p.2=Yc (st.ob p.1)))→(∀k,q≤k→k<q+16→¬U k)→∀k,U k→Zn st.ob u k=st.ob k∨Zn st.ob u k=Yc (st.ob k):=fun {u q} hu hq k hk=>by
  have z:∀(u:List (Nat × Ob)) (ob:Nat→Ob),(∀p∈u,(q≤p.1∧p.1<q+16)∨(U p.1∧p.2=Yc (st.ob p.1)))→(ob k=st.ob k∨ob k=Yc (st.ob k))→(Zn ob u k=st.ob k∨Zn ob u k=Yc (st.ob k)):=by
   intro u
   induction u with
   | nil=>intro ob _ h;exact h
   | cons p u ih=>
    intro ob hp h
    refine ih _ (fun x mx=>hp x (by simp [mx])) ?_
    by_cases g:k=p.1
    ·rcases hp p yG with h1 | h1
     ·exact absurd (g ▸ hk) (hq p.1 h1.1 h1.2)
     ·right;rw [g,ZF];exact h1.2
    ·rw [ZP _ _ g];exact h
  exact z u st.ob hu (.inl rfl)
 have hA:opR tt S c.toList kj oj st vj uj:=by
  refine (ZcO (U:=U) (st:=st) (st':=(st.put oi.dst vi).app ui) (fun s ms=>(ZcR st oi.dst vi s fun t ht e=>a1 t ht (e ▸ ms)).symm) ?_).2 h'
  show cls tt S.hd oj.op=0∨st.ob=Zn (st.put oi.dst vi).ob ui∨_∧((cls tt S.hd oj.op≤3∧∀k,U k→st.ob k=Zn (st.put oi.dst vi).ob ui k)∨(cls tt S.hd oj.op≤1∧∀k,U k→Zn (st.put oi.dst vi).ob ui k=st.ob k∨Zn (st.put oi.dst vi).ob ui k=Yc (st.ob k)))
  rw [Zau]
  rcases a with a | a | ⟨c1,c2⟩ | ⟨c1,c2⟩ | ⟨c1,c2⟩
  ·right;left;rw [i1 a];rfl
  ·left;exact a
  ·right;right;exact ⟨b,.inl ⟨yE,f (i2 c1) m⟩⟩
  ·right;right;exact ⟨b,.inl ⟨c2,f (i2 yE) m⟩⟩
  ·right;right;exact ⟨b,.inr ⟨c2,y (i3 c1) m⟩⟩
 obtain ⟨E,w,F⟩:=Zmt (U:=U) b hA
 refine ⟨hA,?_,?_⟩
 ·refine (ZcO (U:=U) (st:=st) (st':=(st.put oj.dst vj).app uj) (fun s ms=>(ZcR st oj.dst vj s fun t ht e=>a3 t ht (e ▸ ms)).symm) ?_).1 h
  show cls tt S.hd oi.op=0∨st.ob=Zn (st.put oj.dst vj).ob uj∨_∧((cls tt S.hd oi.op≤3∧∀k,U k→st.ob k=Zn (st.put oj.dst vj).ob uj k)∨(cls tt S.hd oi.op≤1∧∀k,U k→Zn (st.put oj.dst vj).ob uj k=st.ob k∨Zn (st.put oj.dst vj).ob uj k=Yc (st.ob k)))
  rw [Zau]
  rcases a with a | a | ⟨c1,c2⟩ | ⟨c1,c2⟩ | ⟨c1,c2⟩
  ·left;exact a
  ·right;left;rw [E a];rfl
  ·right;right;exact ⟨b,.inl ⟨yE,f (w c2) j⟩⟩
  ·right;right;exact ⟨b,.inr ⟨c1,y (F c2) j⟩⟩
  ·right;right;exact ⟨b,.inl ⟨c1,f (w yE) j⟩⟩
 ·rcases a with a | a | ⟨c1,c2⟩ | ⟨c1,c2⟩ | ⟨c1,c2⟩
  ·exact l fun p mp=>by rw [i1 a] at mp;simp at mp
  ·exact l fun p mp q mq=>by rw [E a] at mq;simp at mq
  ·refine l fun p mp q mq e=>?_
   have:=i2 c1 p mp
   have:=w c2 q mq
   omega
  ·refine l fun p mp q mq e=>?_
   have h1:=i2 yE p mp
   rcases F c2 q mq with h2 | h2
   ·omega
   ·exact m p.1 h1.1 h1.2 (e ▸ h2.1)
  ·refine l fun p mp q mq e=>?_
   have h1:=w yE q mq
   rcases i3 c1 p mp with h2 | h2
   ·omega
   ·exact j q.1 h1.1 h1.2 (e ▸ h2.1)
/- a load and a call into which something is handed: what is handed in stands at the key 0, the load looks elsewhere -/
def ZsB:Op→Bool
 | .load _ _=>true
 | _=>false
def ZvU (hs:FuncId→Nat) (o:Op):Bool:=match Y7 o with
 | some c=>hs c.1==1
 | none=>false
def Zo9:Op→Bool
 | .slice _ _ _ _ none=>true
 | _=>false
def Zvj (tt:Nat→Option TI) (hs:FuncId→Nat) (b:Bool) (x y:Op):Bool:=ZuF tt hs x y||(b&&((ZsB x&&ZvU hs y)||(ZvU hs x&&ZsB y)||Zo9 x||Zo9 y))
theorem Zr0 {o:Op} {c:FuncId × List TypeId × List Operand} (h:Y7 o=some c):∃args ts,o=.call ⟨.value (.func c.1),args,ts⟩∧c.2.2=args.toList:=by
 unfold Y7 at h
 split at h
 ·rename_i f args ts
  simp only[A0] at h
  rw [←h]
  exact ⟨args,ts,rfl,rfl⟩
 ·simp at h
theorem Zst {o:Op} (h:∀x∈o.operands,∀t,st.ev tt t x=st'.ev tt t x):stk tt S o st=stk tt S o st':=by
 unfold stk
 split
 ·rename_i t x
  rw [h x (by simp [Op.operands])]
 ·rename_i t x _ _ _
  rw [h x (by simp [Op.operands])]
 ·split
  ·rename_i c hc
   obtain ⟨args,ts,ho,e⟩:=Zr0 hc
   unfold hdC
   split
   ·cases hh:c.2.2.head? with
    | none=>rfl
    | some x=>
     have mx:x∈args.toList:=by rw [←e];exact List.mem_of_mem_head? hh
     simp only
     rw [h x (by rw [ho];simp [Op.operands,Call.operands];exact .inr (by simpa using mx))]
   ·rfl
  ·rfl
theorem ZgS [NW] {a:Array Oper} {oi oj:Oper} {vi vj:SV} {ui uj:List (Nat × Ob)} (b:oi.apart a oj=true):stk tt S oj.op st=stk tt S oj.op ((st.put oi.dst vi).app ui)∧stk tt S oi.op ((st.put oj.dst vj).app uj)=stk tt S oi.op st:=by
 obtain ⟨a1,a2,a3⟩:=Oper.apart_spec b
 exact ⟨Zst (ZcU fun s ms=>(ZcR st oi.dst vi s fun t ht e=>a1 t ht (e ▸ ms)).symm),Zst (ZcU fun s ms=>ZcR st oj.dst vj s fun t ht e=>a3 t ht (e ▸ ms))⟩
theorem ZpK [NW] {o:Oper} {v:SV} {u:List (Nat × Ob)} (ho:ZvU S.hd o.op=true) (hs:stk tt S o.op st=true) (h:Za0 tt S key o st v u):∀p∈u,p.1=0∨(key≤p.1∧p.1<key+16)∨p.2=Yc (st.ob p.1):=by
 unfold ZvU at ho
 split at ho
 rotate_left
 ·simp at ho
 rename_i c hc
 have h1:S.hd c.1=1:=by simpa using ho
 unfold Za0 at h
 rw [hc] at h
 simp only[h1,Zbs] at h
 obtain ⟨v0,r,k,hh,l,b,h',hv,hk,hl,hs',hne,hn,rfl,rfl⟩:=h
 have h2:hdC tt 1 c.2.2.head? st=true:=by
  have e:stk tt S o.op st=hdC tt (S.hd c.1) c.2.2.head? st:=by
   unfold stk
   split
   ·rename_i hq;rw [hq] at hc;simp [Y7] at hc
   ·rename_i hq;rw [hq] at hc;simp [Y7] at hc
   ·rw [hc]
  rw [←h1,←e];exact hs
 have d:∃off,v0=.bp 0 off:=by
  unfold hdC at h2
  simp only at h2
  cases hx:c.2.2 with
  | nil=>rw [hx] at h2;simp at h2
  | cons x xs=>
   rw [hx] at h2 hv
   simp only[List.head?_cons] at h2
   have e0:∀ts:List TypeId,∃t q,evs tt st ts (x::xs)=st.ev tt t x::q:=fun ts=>by cases ts<;>exact ⟨_,_,rfl⟩
   obtain ⟨t,q,e0⟩:=e0 c.2.1
   rw [e0] at hv
   simp only[AQ] at hv
   have hb:hdB (st.ev tt 0 x)=true:=h2
   have ht:∀t',hdB (st.ev tt t' x)=true→∃off,st.ev tt t x=.bp 0 off:=fun t' hb=>by
    cases x with
    | tmp s=>
     have a:hdB (st.sl s)=true:=hb
     unfold hdB at a
     split at a
     ·rename_i k' off e;exact ⟨off,by show st.sl s=_;rw [e,of_decide_eq_true a]⟩
     ·simp at a
    | const u=>
     exfalso
     have a:hdB (cvT (tt t') u)=true:=hb
     unfold cvT at a
     split at a<;>first | (simp [hdB] at a;done) | (split at a<;>simp [hdB] at a)
    | func f=>simp [St.ev,hdB] at hb
    | global g=>simp [St.ev,hdB] at hb
   obtain ⟨off,e⟩:=ht 0 hb
   exact ⟨off,by rw [←hv.1,e]⟩
 obtain ⟨off,rfl⟩:=d
 have i:k=0:=by
  unfold Zf1 at hk
  split at hk
  ·rename_i k' e
   simp only[SV.bp.injEq] at e
   obtain ⟨rfl,rfl⟩:=e
   split at hk
   ·rename_i t cs hb
    split at hk
    ·obtain ⟨_,_,e⟩:=A8.1 hk
     simp only[A3] at e
     exact e.1.symm
    ·simp at hk
   ·simp at hk
  ·rename_i e;simp at e
  ·simp at hk
 subst i
 intro p mp
 rcases A5.1 mp with mp | mp
 ·exact .inr (.inr (ZmG mp).2)
 ·rcases AD.1 mp with rfl | mp
  ·exact .inl rfl
  ·have:=(Zht b key).2 p mp
   exact .inr (.inl yE)
theorem Zpb [NW] {o:Oper} {v:SV} {u:List (Nat × Ob)} (ho:ZsB o.op=true) (hl:∀x∈o.op.operands,∀t,st.ev tt t x=st'.ev tt t x) (hs:stk tt S o.op st=true) (hU:∀t x,svU U (st.ev tt t x)) (c:∀k,U k→k≠0→st'.ob k=st.ob k∨st'.ob k=Yc (st.ob k)):Za0 tt S key o st v u↔Za0 tt S key o st' v u:=by
 obtain ⟨dst,op,ty,pos,af,gd⟩:=o
 unfold ZsB at ho
 simp only at ho
 split at ho
 rotate_left
 ·simp at ho
 rename_i t x
 have e1:=hl x (by simp [Op.operands]) 0
 have hx:=hU 0 x
 have a:ldB (st.ev tt 0 x)=true:=hs
 have key:QZ st (tt t) (st.ev tt 0 x)=QZ st' (tt t) (st'.ev tt 0 x):=by
  rw [←e1]
  unfold QZ
  split
  ·rename_i k off hv
   rw [hv] at hx a
   have b:k≠0:=fun e=>by subst e;simp [ldB] at a
   rcases c k hx b with h | h
   ·rw [h]
   ·rw [h]
    cases st.ob k<;>rfl
  ·rename_i k m i off hv
   rw [hv] at hx a
   have b:k≠0:=fun e=>by subst e;simp [ldB] at a
   rcases c k hx b with h | h
   ·rw [h]
   ·rw [h]
    cases st.ob k<;>rfl
  ·rfl
  ·rfl
  ·rfl
 show opE tt _ _ st=some (v,u)↔opE tt _ _ st'=some (v,u)
 simp only[opE,key]
theorem ZxF [NW] {a:List Oper} {o:Oper} {v:SV} {u:List (Nat × Ob)} (ho:ZsB o.op=true) (h:opR tt S a key o st v u):u=[]:=by
 refine ZdA h (fun h=>?_) id
 obtain ⟨b,op,ty,c,af,gd⟩:=o
 unfold ZsB at ho
 simp only at ho
 split at ho
 ·have h':opE tt key ⟨b,.load _ _,ty,c,af,gd⟩ st=some (v,u):=h
  exact Xf h'
 ·simp at ho
theorem ZuZ {a:Array Oper} {o:Oper} {v:SV} {u:List (Nat × Ob)} (hl:∀s∈o.looksAt a,st.sl s=st'.sl s) (h1:Za0 tt S key o st v u↔Za0 tt S key o st' v u) [NW]:opR tt S a.toList key o st v u↔opR tt S a.toList key o st' v u:=⟨Zh2 (fun s ms=>(hl s ms).symm) h1.1,Zh2 hl h1.2⟩
theorem Zl5 [NW] {o:Oper} {v:SV} {u:List (Nat × Ob)} (ho:Zo9 o.op=true) (hs:stk tt S o.op st=true) (h:Za0 tt S key o st v u):u=[]∧∀{st':St},(∀x∈o.op.operands,∀t,st.ev tt t x=st'.ev tt t x)→Za0 tt S key o st' v u:=by
 obtain ⟨b,op,ty,c,af,gd⟩:=o
 unfold Zo9 at ho
 simp only at ho
 split at ho
 rotate_left
 ·simp at ho
 rename_i t x lo hi
 have a:slB (st.ev tt 0 x)=true:=hs
 have h':opE tt key ⟨b,.slice t x lo hi none,ty,c,af,gd⟩ st=some (v,u):=h
 unfold slB at a
 split at a
 rotate_left
 ·simp at a
 rename_i y hy
 constructor
 ·simp only[opE] at h'
  rw [hy] at h'
  simp only[Zaf] at h'
  obtain ⟨_,_,e⟩:=A8.1 h'
  simp only[A3] at e
  exact e.2.symm
 ·intro st' hl
  show opE tt key ⟨b,.slice t x lo hi none,ty,c,af,gd⟩ st'=some (v,u)
  have e1:=hl x (by simp [Op.operands]) 0
  have e2:lo.map (st.ev tt 0)=lo.map (st'.ev tt 0):=by
   cases lo with
   | none=>rfl
   | some l=>exact congrArg some (hl l (by simp [Op.operands]) 0)
  have e3:hi.map (st.ev tt 0)=hi.map (st'.ev tt 0):=by
   cases hi with
   | none=>rfl
   | some l=>exact congrArg some (hl l (by simp [Op.operands]) 0)
  rw [←h']
  simp only[opE,←e1,←e2,←e3,hy,Zaf]
theorem ZFh [NW] {b:Bool} {f:Array Oper} {oi oj:Oper} {ki kj:Nat} {vi vj:SV} {ui uj:List (Nat × Ob)} (j:oi.apart f oj=true) (hc:Zvj tt S.hd b oi.op oj.op=true) (hU:StU U st) (C:∀k,ki≤k→k<ki+16→¬U k) (D:∀k,kj≤k→k<kj+16→¬U k) (E:ki+16≤kj∨kj+16≤ki)
  (B:b=true→stk tt S oi.op st=true) (l:b=true→stk tt S oj.op ((st.put oi.dst vi).app ui)=true) (h:opR tt S f.toList ki oi st vi ui) (h':opR tt S f.toList kj oj ((st.put oi.dst vi).app ui) vj uj):
  opR tt S f.toList kj oj st vj uj∧opR tt S f.toList ki oi ((st.put oj.dst vj).app uj) vi ui∧((((st.put oi.dst vi).app ui).put oj.dst vj).app uj)=((((st.put oj.dst vj).app uj).put oi.dst vi).app ui):=by
 by_cases F:ZuF tt S.hd oi.op oj.op=true
 ·exact comm j F hU C D E h h'
 have hb:b=true∧(((ZsB oi.op=true∧ZvU S.hd oj.op=true)∨(ZvU S.hd oi.op=true∧ZsB oj.op=true))∨Zo9 oi.op=true∨Zo9 oj.op=true):=by
  unfold Zvj at hc
  rw [AK] at hc
  have:=hc.resolve_left F
  simp only[A6,AK] at this
  obtain ⟨q1,q2⟩:=this
  exact ⟨q1,by rcases q2 with (q | q) | q;exact .inl q;exact .inr (.inl q);exact .inr (.inr q)⟩
 obtain ⟨hb,hc⟩:=hb
 obtain ⟨a1,a2,a3⟩:=Oper.apart_spec j
 have G:∀t x,svU U (st.ev tt t x):=fun t x=>ZEL hU t x
 have g:∀s∈oj.looksAt f,st.sl s=((st.put oi.dst vi).app ui).sl s:=fun s ms=>(ZcR st oi.dst vi s fun t ht e=>a1 t ht (e ▸ ms)).symm
 have i:∀s∈oi.looksAt f,st.sl s=((st.put oj.dst vj).app uj).sl s:=fun s ms=>(ZcR st oj.dst vj s fun t ht e=>a3 t ht (e ▸ ms)).symm
 have c:(((st.put oi.dst vi).put oj.dst vj)).sl=(((st.put oj.dst vj).put oi.dst vi)).sl:=Zo8 st _ _ _ _ fun t ht=>a2 t ht
 have e1:∀(s:St) (u:List (Nat × Ob)) (d:Option Nat) (v:SV),((s.app u).put d v)=((s.put d v).app u):=fun s u d v=>by cases d<;>rfl
 have y:ui=[]∨uj=[]→((((st.put oi.dst vi).app ui).put oj.dst vj).app uj)=((((st.put oj.dst vj).app uj).put oi.dst vi).app ui):=fun hn=>by
  rw [e1,e1]
  have hs:((st.put oi.dst vi).put oj.dst vj)=((st.put oj.dst vj).put oi.dst vi):=by
   have h2:((st.put oi.dst vi).put oj.dst vj).ob=((st.put oj.dst vj).put oi.dst vi).ob:=by simp only[Zau]
   have h3:((st.put oi.dst vi).put oj.dst vj).n=((st.put oj.dst vj).put oi.dst vi).n:=by simp only[Zr3]
   generalize ((st.put oi.dst vi).put oj.dst vj)=s1 at c h2 h3
   generalize ((st.put oj.dst vj).put oi.dst vi)=s2 at c h2 h3
   cases s1;cases s2
   simp only at c h2 h3
   subst c h2 h3
   rfl
  rw [hs]
  rcases hn with rfl | rfl<;>rfl
 rcases hc with hc | o | o
 rotate_left
 ·-- the first is a slice that is only read
  have hs:=B hb
  have hn:ui=[]:=ZdA h (fun h=>(Zl5 o hs h).1) id
  subst hn
  have hA:opR tt S f.toList kj oj st vj uj:=(ZcO (U:=U) g (.inr (.inl (by show st.ob=(st.put oi.dst vi).ob;rw [Zau])))).2 h'
  refine ⟨hA,Zh2 (fun s ms=>(i s ms).symm) (fun h=>(Zl5 o hs h).2 (ZcU i)) h,y (.inl rfl)⟩
 ·-- the second is one
  have hs:=(ZgS (tt:=tt) (S:=S) (st:=st) (vi:=vi) (ui:=ui) (vj:=vj) (uj:=uj) j).1.trans (l hb)
  have hn:uj=[]:=ZdA h' (fun h=>(Zl5 o (l hb) h).1) id
  subst hn
  have hA:opR tt S f.toList kj oj st vj []:=Zh2 g (fun h=>(Zl5 o (l hb) h).2 (fun x m t=>(ZcU g x m t).symm)) h'
  refine ⟨hA,?_,y (.inr rfl)⟩
  exact (ZcO (U:=U) i (.inr (.inl (by show st.ob=(st.put oj.dst vj).ob;rw [Zau])))).1 h
 have A:∀{u:List (Nat × Ob)} {q:Nat},(∀p∈u,p.1=0∨(q≤p.1∧p.1<q+16)∨p.2=Yc (st.ob p.1))→(∀k,q≤k→k<q+16→¬U k)→∀k,U k→k≠0→Zn st.ob u k=st.ob k∨Zn st.ob u k=Yc (st.ob k):=fun {u q} hu hq k hk w=>by
  have K:∀(u:List (Nat × Ob)) (ob:Nat→Ob),(∀p∈u,p.1=0∨(q≤p.1∧p.1<q+16)∨p.2=Yc (st.ob p.1))→(ob k=st.ob k∨ob k=Yc (st.ob k))→(Zn ob u k=st.ob k∨Zn ob u k=Yc (st.ob k)):=by
   intro u
   induction u with
   | nil=>intro ob _ h;exact h
   | cons p u ih=>
    intro ob hp h
    refine ih _ (fun x mx=>hp x (by simp [mx])) ?_
    by_cases z:k=p.1
    ·rcases hp p yG with h1 | h1 | h1
     ·exact absurd (z.trans h1) w
     ·exact absurd (z ▸ hk) (hq p.1 h1.1 h1.2)
     ·right;rw [z,ZF];exact h1
    ·rw [ZP _ _ z];exact h
  exact K u st.ob hu (.inl rfl)
 rcases hc with ⟨l1,l2⟩ | ⟨l1,l2⟩
 ·have H:=ZxF l1 h
  have I:st.ob=((st.put oi.dst vi).app ui).ob:=by
   subst H
   show st.ob=(st.put oi.dst vi).ob
   rw [Zau]
  have hA:=(ZcO (U:=U) g (.inr (.inl I))).2 h'
  have hs:=(ZgS (tt:=tt) (S:=S) (st:=st) (vi:=vi) (ui:=ui) (vj:=vj) (uj:=uj) j).1.trans (l hb)
  refine ⟨hA,?_,y (.inl H)⟩
  refine ZdA hA (fun hx=>?_) (fun e=>?_)
  ·refine (ZuZ i (Zpb (U:=U) l1 (ZcU i) (B hb) G fun k hk w=>?_)).1 h
   show Zn (st.put oj.dst vj).ob uj k=_∨Zn (st.put oj.dst vj).ob uj k=_
   rw [Zau]
   exact A (ZpK l2 hs hx) D k hk w
  ·refine (ZcO (U:=U) i (.inr (.inl ?_))).1 h
   subst e
   show st.ob=(st.put oj.dst vj).ob
   rw [Zau]
 ·have J:=ZxF l2 h'
  have hs:=(ZgS (tt:=tt) (S:=S) (st:=st) (vi:=vi) (ui:=ui) (vj:=vj) (uj:=uj) j).1.trans (l hb)
  have hA:opR tt S f.toList kj oj st vj uj:=by
   refine ZdA h (fun hx=>?_) (fun e=>?_)
   ·refine (ZuZ g (Zpb (U:=U) l2 (ZcU g) hs G fun k hk w=>?_)).2 h'
    show Zn (st.put oi.dst vi).ob ui k=_∨Zn (st.put oi.dst vi).ob ui k=_
    rw [Zau]
    exact A (ZpK l1 (B hb) hx) C k hk w
   ·refine (ZcO (U:=U) g (.inr (.inl ?_))).2 h'
    subst e
    show st.ob=(st.put oi.dst vi).ob
    rw [Zau]
  refine ⟨hA,(ZcO (U:=U) i (.inr (.inl ?_))).1 h,y (.inr J)⟩
  subst J
  show st.ob=(st.put oj.dst vj).ob
  rw [Zau]
end
end
section
open Go.RowKit
section
variable {P:Program} {J:World→Prop} {JF:Nat→Prop} {W:ZaK} {U:Nat→Prop} {key:Nat} {st st':St} {w w':World} {a:Act} {tt:Nat→Option TI} {hds:FuncId→Nat} {Q:Exit→Act→World→Prop}
def ZwX [NW] (W:ZaK) (N:Nat) (U:Nat→Prop) (st:St):Prop:=∃a w,Inv W U st a w∧a.tmps.size=N
theorem Zws [NW] (htt:MOk P J JF W tt) {N:Nat} {all:List Oper} {o:Oper} {v:SV} {u:List (Nat × Ob)} (h:opR tt (SC P J JF hds) all key o st v u) (hR:ZwX W N U st) (d:∀k,key≤k→k<key+16→¬U k) (hd:∀t,o.dst=some t→t<N∧(W.hv=none∨t≠0)):
  ZwX W N (Uk U key) ((st.put o.dst v).app u):=by
 obtain ⟨a,w,hI,hN⟩:=hR
 have i:∀t,o.dst=some t→t<a.tmps.size∧(W.hv=none∨t≠0):=fun t ht=>hN ▸ hd t ht
 have j:v=.und∧u=[]→ZwX W N (Uk U key) ((st.put o.dst v).app u):=fun ⟨e1,e2⟩=>by
  subst e1 e2
  exact ⟨_,w,ZuR hI _ i,by rw [Zc4];exact hN⟩
 have l:Za0 tt (SC P J JF hds) key o st v u→ZwX W N (Uk U key) ((st.put o.dst v).app u):=fun h=>by
  obtain ⟨⟨g,hH,hS⟩,hU,f,hh⟩:=hI
  have evals:∀(ts:List TypeId) (args:List Operand),ZM (SVR g w) (evs tt st ts args) (args.map a.eval)∧∀x∈evs tt st ts args,svU U x:=fun ts args=>by
   have he:args.map a.eval=(ZjB ts args).map fun p=>a.eval p.2:=by
    have:=congrArg (A4 a.eval) (Zfx ts args)
    rw [←this,Ae];rfl
   refine ⟨?_,fun x mx=>?_⟩
   ·rw [he]
    exact ZM.of_map _ _ fun p _=>(Zlm htt.tt hS hU p.1 p.2).1
   ·obtain ⟨p,_,rfl⟩:=A7.1 mx
    exact (Zlm htt.tt hS hU p.1 p.2).2
  cases hc:Y7 o.op with
  | some c=>
   simp only[Za0,hc] at h
   obtain ⟨_,b⟩:=Zg1 htt h hH hU d (evals c.2.1 c.2.2).1 (evals c.2.1 c.2.2).2
   obtain ⟨e,w',fr,⟨rv,_,g',t1,t2,t3,t4,t5,t6⟩,_⟩:=b []
   exact ⟨_,_,Zf5 hS hU f hh i t1 t2 t3 t4 t5 t6,by rw [Zc4];exact hN⟩
  | none=>
   simp only[Za0,hc] at h
   cases hd2:Xl o.op with
   | some c=>
    rw [hd2] at h
    simp only at h
    obtain ⟨fc,h1,_,h⟩:=h
    obtain ⟨cs,_,q⟩:=Zs6 h1 (hS c.1)
    obtain ⟨_,b⟩:=Zg1 htt h hH hU d ((evals c.2.1 c.2.2).1.append q) (fun x mx=>by
     rcases A5.1 mx with m | m
     ·exact (evals c.2.1 c.2.2).2 x m
     ·obtain ⟨c,_,rfl⟩:=A7.1 m
      exact XK _)
    obtain ⟨e,w',fr,⟨rv,_,g',t1,t2,t3,t4,t5,t6⟩,_⟩:=b []
    exact ⟨_,_,Zf5 hS hU f hh i t1 t2 t3 t4 t5 t6,by rw [Zc4];exact hN⟩
   | none=>
    rw [hd2] at h
    simp only at h
    obtain ⟨g',cv,w',_,t1,t2,t3,t4,t5,t6⟩:=ZpA (P:=P) (W:=W) (a:=a) htt.tt o h hH hS hU (d key (AC _) yE)
    exact ⟨_,_,Zf5 hS hU f hh i t1 t2 t3 t4 t5 t6,by rw [Zc4];exact hN⟩
 unfold opR at h
 split at h
 ·exact l h
 ·exact j h
 ·unfold gK at h
  split at h
  ·split at h
   ·exact l h
   ·exact j h
  ·split at h
   ·exact j h
   ·exact h.elim
theorem ZhO {S:Ctx} {b:Bool} {all:List Oper} {base i:Nat} {r:List Nat} {K:St→Prop} {o:Oper} (ho:all[i]?=some o):Zf3 tt S b all base (i::r) K st=ifB b (stk tt S o.op st) (opG tt S all (base+16 * i) o (Zf3 tt S b all base r K) st):=by simp only[Zf3,ho]
theorem ZuG [NW] {S:Ctx} {all:List Oper} {base:Nat} {K:St→Prop}:∀(r:List Oper) (i:Nat) (st:St),all.drop i=r→Z7 tt S all (base+16 * i) r K st→Zf3 tt S false all base (List.range' i r.length) K st
 | [],_,_,_,h=>h
 | o::r,i,st,hr,h=>by
  have hi:all[i]?=some o:=by
   have:=congrArg (fun l=>l[0]?) hr
   simpa using this
  have a:all.drop (i+1)=r:=by
   have:=congrArg List.tail hr
   simpa using this
  rw [Af,Ag,ZhO hi]
  obtain ⟨v,u,h1,h2⟩:=ZhZ.1 h
  refine ZhZ.2 ⟨v,u,h1,ZuG r (i+1) _ a ?_⟩
  rw [show base+16 * (i+1)=base+16 * i+16 by omega]
  exact h2
theorem Zqz {b c:Bool} {P:Prop}:ifB b c P↔(b=true→c=true)∧P:=by
 cases b<;>simp [ifB]
theorem ZES [NW] (htt:MOk P J JF W tt) {b:Bool} {f:Array Oper} {N base i:Nat} {o:Oper} (ho:f.toList[i]?=some o) (hN:∀o∈f.toList,∀t,o.dst=some t→t<N∧(W.hv=none∨t≠0)) {K:St→Prop} {R2:List Nat}:∀(R1:List Nat) (U:Nat→Prop) (st:St),(R1++i::R2).Nodup→
  (∀j∈R1,∃oj,f.toList[j]?=some oj∧oj.apart f o=true∧Zvj tt hds b oj.op o.op=true)→(∀j∈R1++i::R2,∀k,base+16 * j≤k→k<base+16 * j+16→¬U k)→ZwX W N U st→
  Zf3 tt (SC P J JF hds) b f.toList base (R1++i::R2) K st→(b=true→stk tt (SC P J JF hds) o.op st=true)∧opG tt (SC P J JF hds) f.toList (base+16 * i) o (Zf3 tt (SC P J JF hds) b f.toList base (R1++R2) K) st:=by
 intro R1
 induction R1 with
 | nil=>
  intro U st _ _ _ _ h
  rw [List.nil_append,ZhO ho] at h
  exact Zqz.1 h
 | cons j R1 ih=>
  intro U st l g hk hR h
  obtain ⟨oj,hj,m,u⟩:=g j yG
  rw [AU,ZhO hj] at h
  obtain ⟨sj,h⟩:=Zqz.1 h
  obtain ⟨vj,uj,h1,h2⟩:=ZhZ.1 h
  have p:=hk j yG
  have v:=hk i yG
  rw [AU,AN] at l
  have hij:i≠j:=fun e=>l.1 (by simp [e])
  have w:=Zws htt h1 hR p (hN oj (AT hj))
  obtain ⟨si,h3⟩:=ih (Uk U (base+16 * j)) _ l.2 (fun q mq=>g q (by simp [mq])) (fun q mq k a b hU=>by
   rcases hU with hU | ⟨c,d⟩
   ·exact hk q (by simp;simp at mq;exact .inr mq) k a b hU
   ·have:q=j:=by omega
    subst this
    exact l.1 mq) w h2
  obtain ⟨vi,ui,h4,h5⟩:=ZhZ.1 h3
  obtain ⟨_,_,x,_⟩:=hR
  obtain ⟨c1,c2,c3⟩:=ZFh (tt:=tt) (S:=SC P J JF hds) (b:=b) m u x.wf p v yE sj si h1 h4
  have e1:=(ZgS (tt:=tt) (S:=SC P J JF hds) (st:=st) (vi:=vj) (ui:=uj) (vj:=vi) (uj:=ui) m).1
  have e2:=(ZgS (tt:=tt) (S:=SC P J JF hds) (st:=st) (vi:=vj) (ui:=uj) (vj:=vi) (uj:=ui) m).2
  refine ⟨fun hb=>e1.trans (si hb),ZhZ.2 ⟨vi,ui,c1,?_⟩⟩
  rw [AU,ZhO hj]
  exact Zqz.2 ⟨fun hb=>e2.trans (sj hb),ZhZ.2 ⟨vj,uj,c2,c3 ▸ h5⟩⟩
def anc (ops:Array Oper):Nat→Nat→List Nat
 | 0,_=>[]
 | n+1,j=>match ops[j]? with
  | some o=>(o.after.toList.filter (Region.binds .any)).flatMap fun e=>e.on::anc ops n e.on
  | none=>[]
def Zpg (tt:Nat→Option TI) (hds:FuncId→Nat) (b:Bool) (ops:Array Oper) (i j:Nat):Bool:=!Nat.beq i j&&match ops[i]?,ops[j]? with
 | some oi,some oj=>(oi.after.toList.all fun e=>!Region.binds .any e||!Nat.beq e.on j)&&((anc ops ops.size j).contains i||(oi.apart ops oj&&Zvj tt hds b oi.op oj.op))
 | _,_=>true
def Zku (tt:Nat→Option TI) (hds:FuncId→Nat) (b:Bool) (ops:Array Oper):List Nat→Bool
 | []=>true
 | i::r=>r.all (Zpg tt hds b ops i)&&Zku tt hds b ops r
def elB (ops:Array Oper) (j:Nat):Bool:=match ops[j]? with
 | some oj=>oj.after.toList.all fun e=>!Region.binds .any e||(Nat.blt e.on ops.size&&!Nat.beq e.on j)
 | none=>true
def ZBa (ops:Array Oper):Bool:=(AR ops.size).all (elB ops)
def ZtF (tt:Nat→Option TI) (hds:FuncId→Nat) (ops:Array Oper):Bool:=Zku tt hds false ops (AR ops.size)&&ZBa ops
def Zuy (tt:Nat→Option TI) (hds:FuncId→Nat) (b:Bool) (ops:Array Oper) (l:List Nat):Bool:=Zku tt hds b ops l&&ZBa ops&&Nat.ble l.length ops.size&&l.all (Nat.blt · ops.size)&&(AR ops.size).all l.contains
theorem ZrD {a:Array Oper} (h:ZBa a=true) (j:Nat):elB a j=true:=by
 rcases AW j a.size with hj | hj
 ·exact AG.1 h j (by simpa using hj)
 ·unfold elB
  rw [AX hj]
theorem ZpU {b:Bool} {a:Array Oper}:∀{l:List Nat},Zku tt hds b a l=true→l.Pairwise fun i j=>Zpg tt hds b a i j=true
 | [],_=>List.Pairwise.nil
 | i::r,h=>by
  simp only[Zku,A6,AG] at h
  exact List.Pairwise.cons h.1 (ZpU h.2)
theorem ZtW {i j:Nat} (h:(!Nat.beq i j)=true):i≠j:=fun e=>by subst e;simp at h
theorem ZmE {b:Bool} {a:Array Oper} {i j:Nat} {oi oj:Oper} (h:Zpg tt hds b a i j=true) (hi:a[i]?=some oi) (hj:a[j]?=some oj):(∀e∈oi.after,Region.binds .any e=true→e.on≠j)∧(i∈anc a a.size j∨(oi.apart a oj=true∧Zvj tt hds b oi.op oj.op=true)):=by
 simp only[Zpg,hi,hj,A6,AG,AK] at h
 refine ⟨fun e me hb=>?_,h.2.2.imp (fun h=>by simpa using h) fun h=>h⟩
 have h1:=h.2.1 e (by simpa using me)
 rw [hb] at h1
 exact ZtW (h1.resolve_left yG)
theorem Zmk {b:Array Oper} {a:Array Bool} (c:∀i o,b[i]?=some o→a.getD i false=true→∀e∈o.after,Region.binds .any e=true→a.getD e.on false=true):
  ∀(n j:Nat) (o:Oper),b[j]?=some o→(∀e∈o.after,Region.binds .any e=true→a.getD e.on false=true)→∀i∈anc b n j,a.getD i false=true
 | 0,j,o,_,_,i,mi=>by simp [anc] at mi
 | n+1,j,o,ho,he,i,mi=>by
  simp only[anc,ho,List.mem_flatMap,List.mem_filter] at mi
  obtain ⟨e,⟨me,hb⟩,mi⟩:=mi
  have hl:=he e (by simpa using me) hb
  rcases AD.1 mi with rfl | mi
  ·exact hl
  ·cases ho':b[e.on]? with
   | none=>cases n<;>simp [anc,ho'] at mi
   | some o'=>exact Zmk c n e.on o' ho' (fun e' d f=>c e.on o' ho' hl e' d f) i mi
theorem Zvz [NW] (htt:MOk P J JF W tt) {b:Bool} {g:Array Oper} {N base:Nat} (hN:∀o∈g.toList,∀t,o.dst=some t→t<N∧(W.hv=none∨t≠0)) (hE:∀j,elB g j=true) {K:St→Prop}
  (hQ:∀U' st' a' w',Inv W U' st' a' w'→(∀k,base+16 * g.size≤k→¬U' k)→a'.tmps.size=N→K st'→Q .normal a' w'):
  ∀(p:Nat) (R:List Nat) (f:Array Bool) (U:Nat→Prop) (st:St) (a:Act) (w:World),R.length≤p→R.Pairwise (fun i j=>Zpg tt hds b g i j=true)→f.size=g.size→(∀i,i∈R↔(i<g.size∧f.getD i true=false))→
   (∀i o,g[i]?=some o→f.getD i false=true→∀e∈o.after,Region.binds .any e=true→f.getD e.on false=true)→
   Zf3 tt (SC P J JF hds) b g.toList base R K st→Inv W U st a w→(∀j∈R,∀k,base+16 * j≤k→k<base+16 * j+16→¬U k)→(∀k,base+16 * g.size≤k→¬U k)→a.tmps.size=N→wpAny P .any g Q p f a w:=by
 have L:∀j oj,g[j]?=some oj→∀e∈oj.after,Region.binds .any e=true→e.on<g.size∧e.on≠j:=fun j oj hj e me hb=>by
  have h1:=hE j
  simp only[elB,hj,AG,AK,A6] at h1
  have h2:=h1 e (by simpa using me)
  rw [hb] at h2
  have h3:=h2.resolve_left yG
  exact ⟨AA h3.1,ZtW h3.2⟩
 intro p
 induction p with
 | zero=>
  intro R f U st a w B _ y l _ h hI _ hU hs
  have hR:R=[]:=List.eq_nil_of_length_eq_zero yE
  subst hR
  refine ⟨?_,hQ U st a w hI hU hs h⟩
  rw [List.eq_nil_iff_forall_not_mem]
  intro i mi
  obtain ⟨h1,o,h2,_⟩:=mem_ready.1 mi
  exact absurd ((l i).2 ⟨(AY.1 h2).1,h1⟩) yG
 | succ p ih=>
  intro R f U st a w B z y l F h hI hk hU hs
  refine ⟨fun hr=>?_,fun i mi=>?_⟩
  ·cases R with
   | nil=>exact hQ U st a w hI hU hs h
   | cons r0 R=>
    exfalso
    obtain ⟨m1,m2⟩:=(l r0).1 yG
    have:r0∈Region.ready .any g f:=mem_ready.2 ⟨m2,g[r0],by simp [m1],fun e me hb=>by
     have x:=L r0 g[r0] (by simp [m1]) e me hb
     by_cases hl:f.getD e.on true=false
     ·have mR:=(l e.on).2 ⟨x.1,hl⟩
      rcases AD.1 mR with e1 | mR
      ·exact absurd e1 x.2
      ·exact absurd rfl ((ZmE ((List.pairwise_cons.1 z).1 _ mR) (oi:=g[r0]) (oj:=g[e.on]'x.1) (by simp [m1]) (by simp [x.1])).1 e me hb)
     ·have G:e.on<f.size:=by omega
      simp only[AB,G,getElem?_pos,AZ,Bool.not_eq_false] at hl ⊢
      exact hl⟩
    rw [hr] at this
    simp at this
  ·obtain ⟨i1,o,i2,i3⟩:=mem_ready.1 mi
   have C:i<g.size:=(AY.1 i2).1
   have M:i∈R:=(l i).2 ⟨C,i1⟩
   obtain ⟨R1,R2,rfl⟩:=List.append_of_mem M
   have A:(R1++i::R2).Nodup:=z.imp fun h=>by
    simp only[Zpg,A6] at h
    exact ZtW h.1
   have ho:g.toList[i]?=some o:=by simpa using i2
   have H:=Zmk F g.size i o i2 i3
   have D:∀j∈R1,∃oj,g.toList[j]?=some oj∧oj.apart g o=true∧Zvj tt hds b oj.op o.op=true:=fun j mj=>by
    obtain ⟨j1,j2⟩:=(l j).1 (by simp [mj])
    have O:=(List.pairwise_append.1 z).2.2 j mj i yG
    have hj:g[j]?=some g[j]:=by simp [j1]
    refine ⟨g[j],by simp [j1],(ZmE O hj i2).2.resolve_left fun ma=>?_⟩
    have:=H j ma
    have x:j<f.size:=by omega
    simp only[AB,x,getElem?_pos,AZ] at this j2
    rw [this] at j2;simp at j2
   have S:=(ZES htt ho hN R1 U st A D hk ⟨a,w,hI,hs⟩ h).2
   refine wpOp_mono ?_ (Zpd htt i2 S hI (hk i yG) (fun t ht=>by rw [hs];exact hN o (AT ho) t ht))
   rintro a' w' ⟨st',T,hs',V⟩
   have I:∀q,(f.setIfInBounds i true).getD q true=if q=i then true else f.getD q true:=fun q=>by
    by_cases e:q=i
    ·subst e;simp [AB,AS,y,C]
    ·simp [AB,AP (fun e':i=q=>e e'.symm),e]
   have E:∀q,(f.setIfInBounds i true).getD q false=if q=i then true else f.getD q false:=fun q=>by
    by_cases e:q=i
    ·subst e;simp [AB,AS,y,C]
    ·simp [AB,AP (fun e':i=q=>e e'.symm),e]
   have v:i∉R1++R2:=by
    rw [AO] at A
    intro m
    rcases A5.1 m with m | m
    ·exact A.2.2 i m i yG rfl
    ·exact (AN.1 A.2.1).1 m
   refine ih (R1++R2) _ (Uk U (base+16 * i)) st' a' w' (by simp at B ⊢;omega) (z.sublist (Aa (Ai _) (List.sublist_cons_self i R2))) (by simp [y]) (fun q=>?_) (fun q oq hq hl e me hb=>?_) V T (fun q mq k c d u=>?_) (fun k X u=>?_) yE
   ·rw [I q]
    by_cases e:q=i
    ·subst e;simp only[if_true,Bool.true_eq_false,and_false,iff_false];exact v
    ·rw [if_neg e,←l q];simp [e]
   ·rw [E] at hl ⊢
    by_cases e1:e.on=i
    ·simp [e1]
    ·rw [if_neg e1]
     by_cases e2:q=i
     ·subst e2
      rw [i2] at hq
      simp only[A0] at hq
      subst hq
      exact i3 e me hb
     ·rw [if_neg e2] at hl
      exact F q oq hq hl e me hb
   ·have Y:q∈R1++i::R2:=by simp at mq ⊢;rcases mq with mq | mq<;>simp [mq]
    rcases u with u | ⟨c',d'⟩
    ·exact hk q Y k c d u
    ·have:q=i:=by omega
     subst this
     exact v mq
   ·rcases u with u | ⟨c',d'⟩
    ·exact hU k X u
    ·omega
end
end
section
open Go.RowKit
theorem Zux:∀{ρ:List Nat} {k i j:Nat},ZqU ρ k i=some j→i≤j∧ρ[j - i]?=some k
 | [],_,_,_,h=>by simp [ZqU] at h
 | x::r,k,i,j,h=>by
  simp only[ZqU] at h
  split at h
  ·rename_i e
   simp only[A0] at h
   subst h e
   exact ⟨AC _,yG⟩
  ·obtain ⟨h1,h2⟩:=Zux h
   refine ⟨yE,?_⟩
   rw [show j - i=(j - (i+1))+1 by omega]
   simpa using h2
theorem ZdG [NW] {ρ:List Nat} {k j:Nat} (h:ZqU ρ k 0=some j):ρ[j]?=some k:=by simpa using (Zux h).2
theorem ZpJ {α:Type}:∀{l:List α},l.Nodup→∀{i j:Nat} (hi:i<l.length) (hj:j<l.length),l[i]=l[j]→i=j
 | [],_,_,_,hi,_,_=>by simp at hi
 | x::l,h,0,0,_,_,_=>rfl
 | x::l,h,0,j+1,_,hj,e=>by
  rw [AN] at h
  exact absurd (by simp at e;rw [e];exact Aj _) h.1
 | x::l,h,i+1,0,hi,_,e=>by
  rw [AN] at h
  exact absurd (by simp at e;rw [←e];exact Aj _) h.1
 | x::l,h,i+1,j+1,hi,hj,e=>by
  rw [AN] at h
  have:=ZpJ h.2 (i:=i) (j:=j) (by simpa using hi) (by simpa using hj) (by simpa using e)
  omega
section
variable {P:Program} {J:World→Prop} {JF:Nat→Prop} {W:ZaK} {U:Nat→Prop} {st st':St} {w w':World} {a:Act} {tt:Nat→Option TI} {S:Ctx}
theorem Zz9 [NW] {g g':Gh} {ρ:List Nat} (hv:∀j k,ρ[j]?=some k→g'.val j=g.val k) (ho:XJ g' g) {x:AV} {v:Value} (h:AVR g w x v):AVR g' w (rAV ρ x) v:=by
 cases x with
 | c x=>obtain ⟨L,h1,h2⟩:=h;exact ⟨L,h1,fun b m o=>h2 b m (ho.own b o)⟩
 | n x=>exact NR.move h (fun _ _ _=>rfl) (ho.grow _)
 | row k=>
  simp only[rAV]
  split
  ·rename_i j hj
   exact ⟨by rw [hv j k (ZdG hj)];exact h.1,h.2⟩
  ·exact h.2
 | nil e m=>exact h
 | dead=>exact h
theorem ZM.map_left {α β γ:Type} {R:α→γ→Prop} {R':β→γ→Prop} (f:α→β) (h:∀a c,R a c→R' (f a) c):∀{l:List α} {r:List γ},ZM R l r→ZM R' (l.map f) r
 | [],[],_=>trivial
 | _::_,_::_,hh=>⟨h _ _ hh.1,hh.2.map_left f h⟩
 | [],_::_,h=>h.elim
 | _::_,[],h=>h.elim
theorem ZwC [NW] (ρ:List Nat) (x:AV):avU (fun j=>j<ρ.length) (rAV ρ x):=by
 cases x with
 | row k=>
  simp only[rAV]
  split
  ·rename_i j hj
   exact (AE.1 (ZdG hj)).1
  ·trivial
 | _=>trivial
theorem Zuv [NW] (hI:Inv W U st a w) {ρ:List Nat} (hρ:ρ.Nodup):Inv W (fun j=>j<ρ.length) (st.ren ρ) a w:=by
 obtain ⟨⟨g,hH,hS⟩,hU,B,hh⟩:=hI
 let g':Gh:=⟨fun j=>match ρ[j]? with | some k=>g.val k | none=>undef,fun j=>match ρ[j]? with | some k=>g.O k | none=>[],fun j=>match ρ[j]? with | some k=>g.D k | none=>[],g.Z⟩
 have gs:∀j k,ρ[j]?=some k→g'.val j=g.val k∧g'.O j=g.O k∧g'.D j=g.D k:=fun j k h=>by simp [g',h]
 have gn:∀j,ρ[j]?=none→g'.O j=[]∧g'.D j=[]:=fun j h=>by simp [g',h]
 have ho:∀b,g'.own b→g.own b:=fun b hb=>by
  rcases hb with ⟨j,mj⟩ | hz
  ·cases h:ρ[j]? with
   | none=>rw [(gn j h).1] at mj;simp at mj
   | some k=>rw [(gs j k h).2.1] at mj;exact .inl ⟨k,mj⟩
  ·exact .inr hz
 have A:XJ g' g:=.of ho fun j b mb=>by
  cases h:ρ[j]? with
  | none=>rw [(gn j h).2] at mb;simp at mb
  | some k=>rw [(gs j k h).2.2] at mb;exact ⟨k,mb⟩
 have C:∀x v,AVR g w x v→AVR g' w (rAV ρ x) v:=fun x v h=>Zz9 (fun j k F=>(gs j k F).1) A h
 have u:∀xs vs,ZM (AVR g w) xs vs→ZM (AVR g' w) (xs.map (rAV ρ)) vs:=fun xs vs h=>h.map_left _ C
 have E:∀ag cs v,PVR g w ag cs v→PVR g' w ag (cs.map (rAV ρ)) v:=fun ag cs v h=>by
  cases ag with
  | true=>obtain ⟨vs,h1,h2⟩:=h;exact ⟨vs,h1,u _ _ h2⟩
  | false=>obtain ⟨x,rfl,h2⟩:=h;exact ⟨_,rfl,C _ _ h2⟩
 refine ⟨⟨g',⟨hH.below,fun j=>?_,fun j=>?_,fun j i G b mb=>?_,fun j b mb=>?_,hH.gz,hH.zx,hH.nw⟩,fun t=>?_⟩,⟨fun t=>?_,fun j=>?_,fun j hj=>?_⟩,B,hh⟩
 ·show ObR g' w j (match ρ[j]? with | some k=>rOb ρ (st.ob k) | none=>.gone)
  cases h:ρ[j]? with
  | none=>exact gn j h
  | some k=>
   obtain ⟨e1,e2,e3⟩:=gs j k h
   have l:=hH.obs k
   show ObR g' w j (rOb ρ (st.ob k))
   cases hok:st.ob k with
   | gone=>rw [hok] at l;exact ⟨e2.trans l.1,e3.trans l.2⟩
   | box t cs=>
    rw [hok] at l
    obtain ⟨b,vs,h1,h2,h3,h4,h5⟩:=l
    exact ⟨b,vs,e1.trans h1,e2.trans h2,e3.trans h3,h4,u _ _ h5⟩
   | map kk vk kv=>
    rw [hok] at l
    obtain ⟨b,es,c,h1,h2,h3,h4⟩:=l
    exact ⟨b,es,c,e1.trans h1,e2.trans h2,e3.trans h3,h4⟩
   | row e m xs d=>
    rw [hok] at l
    obtain ⟨hm,cs,L,h1,h2,h4⟩:=l
    refine ⟨hm,cs,L,by rw [e1];exact h1,h2,?_⟩
    rw [e1,e2,e3]
    rcases h4 with h4 | ⟨hd,h3,h4,h5⟩ | ⟨hd,h3,h4,h5⟩
    ·exact .inl h4
    ·exact .inr (.inl ⟨hd,h3,h4,fun b mb o=>h5 b mb (ho b o)⟩)
    ·exact .inr (.inr ⟨hd,h3,h4,fun b mb o=>h5 b mb (ho b o)⟩)
 ·cases h:ρ[j]? with
  | none=>rw [(gn j h).1,(gn j h).2];simp
  | some k=>rw [(gs j k h).2.1,(gs j k h).2.2];exact hH.nodup k
 ·cases h:ρ[j]? with
  | none=>rw [(gn j h).1,(gn j h).2] at mb;simp at mb
  | some k=>
   rw [(gs j k h).2.1,(gs j k h).2.2] at mb
   cases h':ρ[i]? with
   | none=>rw [(gn i h').1,(gn i h').2];simp
   | some q=>
    rw [(gs i q h').2.1,(gs i q h').2.2]
    refine hH.apart k q (fun e=>G ?_) b mb
    subst e
    obtain ⟨l1,e1⟩:=AE.1 h
    obtain ⟨l2,e2⟩:=AE.1 h'
    exact ZpJ hρ l1 l2 (e1.trans e2.symm)
 ·cases h:ρ[j]? with
  | none=>rw [(gn j h).1,(gn j h).2] at mb;simp at mb
  | some k=>
   rw [(gs j k h).2.1,(gs j k h).2.2] at mb
   refine ⟨(hH.plain k b mb).1,(hH.plain k b mb).2.of ?_⟩
   show ZkR (match ρ[j]? with | some k=>rOb ρ (st.ob k) | none=>.gone)=_
   rw [h]
   show ZkR (rOb ρ (st.ob k))=_
   cases st.ob k<;>rfl
 ·have hs:=hS t
  show SVR g' w (rSV ρ (st.sl t)) _
  cases hsl:st.sl t with
  | any=>trivial
  | und=>rw [hsl] at hs;exact hs
  | p ag cs=>rw [hsl] at hs;exact E _ _ _ hs
  | tup xs=>
   rw [hsl] at hs
   obtain ⟨vs,h1,h2⟩:=hs
   exact ⟨vs,h1,h2.map_left (fun x:Bool × List AV=>(x.1,x.2.map (rAV ρ))) fun x v h=>E x.1 x.2 v h⟩
  | bp k off=>
   rw [hsl] at hs
   simp only[rSV]
   split
   ·rename_i j hj
    obtain ⟨b,h1,h2⟩:=hs
    exact ⟨b,((gs j k (ZdG hj)).1).trans h1,h2⟩
   ·trivial
  | rp k m i off=>
   rw [hsl] at hs
   simp only[rSV]
   split
   ·rename_i j hj
    obtain ⟨b,o,n,c,h1,h2⟩:=hs
    exact ⟨b,o,n,c,((gs j k (ZdG hj)).1).trans h1,h2⟩
   ·trivial
  | ep e off=>
   rw [hsl] at hs
   obtain ⟨b,lo,cs,L,h1,h2,h3,h4,h5⟩:=hs
   exact ⟨b,lo,cs,L,h1,h2,h3,fun x m o=>h4 x m (ho x o),h5⟩
  | fn f=>rw [hsl] at hs;exact hs
 ·show svU _ (rSV ρ (st.sl t))
  cases st.sl t with
  | p ag cs=>intro y my;obtain ⟨x,_,rfl⟩:=A7.1 my;exact ZwC ρ x
  | tup xs=>
   intro y my
   obtain ⟨x,_,rfl⟩:=A7.1 my
   intro z mz
   obtain ⟨q,_,rfl⟩:=A7.1 mz
   exact ZwC ρ q
  | bp k off=>
   simp only[rSV]
   split
   ·rename_i j hj;exact (AE.1 (ZdG hj)).1
   ·trivial
  | rp k m i off=>
   simp only[rSV]
   split
   ·rename_i j hj;exact (AE.1 (ZdG hj)).1
   ·trivial
  | _=>trivial
 ·show obU _ (match ρ[j]? with | some k=>rOb ρ (st.ob k) | none=>.gone)
  split
  ·rename_i k _
   cases st.ob k with
   | box t cs=>intro y my;obtain ⟨x,_,rfl⟩:=A7.1 my;exact ZwC ρ x
   | _=>trivial
  ·trivial
 ·show (match ρ[j]? with | some k=>rOb ρ (st.ob k) | none=>.gone)=.gone
  have:ρ[j]?=none:=List.getElem?_eq_none yE
  rw [this]
theorem ZyI [NW] {g:Gh} {ob:Nat→Ob} (hI:HI W g ob w) {k e m d d':Nat} {xs:List (List CT)} (hk:ob k=.row e m xs d) (hd:d'<d):∃g1:Gh,HI W g1 (upd ob k (.row e m xs d')) w∧g1.val=g.val∧XJ g1 g:=by
 by_cases h0:d'=0
 ·obtain ⟨g1,h1,h2,h3,_⟩:=Zju hI k
  rw [hk] at h1
  exact ⟨g1,by rw [h0];exact h1,h2,h3⟩
 ·have ho:=hI.obs k
  rw [hk] at ho
  obtain ⟨hm,cs,L,o1,o2,o3⟩:=ho
  have h2:d=2∧g.O k=(g.val k).ownBlock.toList∧g.D k=L:=by
   rcases o3 with o3 | ⟨q,_⟩ | ⟨q,_⟩
   ·exact o3
   ·omega
   ·omega
  obtain ⟨rfl,q1,q2⟩:=h2
  obtain rfl:d'=1:=by omega
  let g1:Gh:=⟨g.val,g.O,upd g.D k [],g.Z⟩
  have hown:∀b,g1.own b↔g.own b:=fun b=>Iff.rfl
  have l:XJ g1 g:=.of (fun b hb=>hb) fun j b mb=>by
   by_cases hj:j=k
   ·subst hj;simp [g1,upd] at mb
   ·exact ⟨j,by simpa [g1,upd,hj] using mb⟩
  have f:∀j b,b∈g1.O j++g1.D j→b∈g.O j++g.D j:=fun j b mb=>by
   by_cases hj:j=k
   ·subst hj;simp [g1,upd] at mb;simp [mb]
   ·simpa [g1,upd,hj] using mb
  refine ⟨g1,⟨hI.below,fun j=>?_,fun j=>?_,fun i j o b mb mj=>hI.apart i j o b (f i b mb) (f j b mj),fun j b mb=>⟨(hI.plain j b (f j b mb)).1,(hI.plain j b (f j b mb)).2.of (by
   by_cases hj:j=k
   ·subst hj;rw [ZF,hk];rfl
   ·rw [ZP _ _ hj])⟩,hI.gz,hI.zx,hI.nw⟩,rfl,l⟩
  ·by_cases hj:j=k
   ·subst hj
    rw [ZF]
    refine ⟨hm,cs,L,o1,o2,.inr (.inl ⟨rfl,q1,by simp [g1,upd],fun b mb hb=>?_⟩)⟩
    have mk:b∈g.D j:=by rw [q2];exact mb
    rcases hb with ⟨i,mi⟩ | hz
    ·by_cases o:i=j
     ·subst o
      have:=hI.nodup i
      rw [AO] at this
      exact this.2.2 b mi b mk rfl
     ·exact hI.apart i j o b (by simp;exact .inl mi) (by simp [mk])
    ·exact hI.nz (k:=j) (b:=b) (by simp [mk]) hz
   ·rw [ZP _ _ hj]
    have a:=hI.obs j
    cases hh:ob j with
    | gone=>rw [hh] at a;exact ⟨a.1,by simpa [g1,upd,hj] using a.2⟩
    | box t ds=>
     rw [hh] at a
     obtain ⟨b,vs,h1,h2,h3,h4,h5⟩:=a
     exact ⟨b,vs,h1,h2,by simpa [g1,upd,hj] using h3,h4,h5.mono fun x u _ hx=>AVR.less hx rfl l⟩
    | map kk vk kv=>
     rw [hh] at a
     obtain ⟨b,es,c,h1,h2,h3,h4⟩:=a
     exact ⟨b,es,c,h1,h2,by simpa [g1,upd,hj] using h3,h4⟩
    | row e' m' xs' d2=>
     rw [hh] at a
     obtain ⟨p,v,L',p1,p2,p3⟩:=a
     refine ⟨p,v,L',p1,p2,?_⟩
     have e2:g1.D j=g.D j:=by simp [g1,upd,hj]
     rw [e2]
     exact p3
  ·by_cases hj:j=k
   ·subst hj
    have:=hI.nodup j
    rw [AO] at this
    simpa [g1,upd] using this.1
   ·have:=hI.nodup j
    simpa [g1,upd,hj] using this
theorem Zyf [NW] (m:Bool × Nat × Nat) (hI:Inv W U st a w) (hk:∀k,st.n≤k→¬U k):∃U',Inv W U' (st.mat m) a w∧∀k,(st.mat m).n≤k→¬U' k:=by
 have A:∃U',Inv W U' st a w∧∀k,st.n≤k→¬U' k:=⟨U,hI,hk⟩
 have S:¬U st.n:=hk st.n (AC _)
 have N:∀k,st.n+1≤k→¬(U k∨k=st.n):=fun k l h=>by
  rcases h with h | h
  ·exact hk k yE h
  ·omega
 have T:∀(e q:Nat),0<q→∀g,HI W g st.ob w→∃g',HI W g' (upd st.ob st.n (.row e q [] 2)) w∧(∀x u,svU U x→SVR g w x u→SVR g' w x u)∧g'.val st.n=.slice none 0 0∧(∀x u,avU U x→AVR g w x u→AVR g' w x u):=fun e q hq g hH=>by
  obtain ⟨t1,t2⟩:=hH.turn (key:=st.n) (U:=U) (w':=w) (v:=.slice none 0 0) (O:=[]) (D:=[]) (o:=.row e q [] 2) hI.wf.ob S [] yG hH.below (AC _) (fun _ _ _=>rfl) yG yG yG yG
   (fun _=>⟨hq,[],[],by simpa [Gh.turn,upd] using ZfF _ _ _ _,⟨rfl,rfl⟩,.inl ⟨rfl,by simp [Gh.turn,upd,Value.ownBlock],by simp [Gh.turn]⟩⟩)
  refine ⟨_,t1,t2,by simp [Gh.turn,upd],fun x u hx hu=>hu.move hx (fun k l=>ZP _ _ fun e=>S (e ▸ l)) (fun _ _ _=>rfl) (ZpN yG yG)⟩
 have up:∀k,U k→(U k∨k=st.n):=fun _ h=>.inl h
 obtain ⟨⟨g,hH,hS⟩,hU,B,hh⟩:=hI
 have P:∀k e q xs d,st.ob k=.row e q xs d→∃g1:Gh,HI W g1 (upd st.ob k (.row e q xs 0)) w∧g1.val=g.val∧XJ g1 g∧U k∧∀v,AVR g w (.row k) v→AVR g1 w (.c (.sl e q xs)) v:=fun k e q xs d f=>by
  obtain ⟨g1,i1,i2,i3,_⟩:=Zju hH k
  rw [f] at i1
  obtain ⟨L,t1,t2⟩:=Zs5 i1 (ZF st.ob k (.row e q xs 0))
  exact ⟨g1,i1,i2,i3,Classical.byContradiction fun hn=>by have:=hU.gone _ hn;rw [f] at this;simp at this,fun v hv=>⟨L,by rw [hv.1,←i2];exact t1,t2⟩⟩
 have Q:∀{gg:Gh} {cs:List AV} {vs:List Value} {j:Nat} {y:AV} {v:Value},ZM (AVR gg w) cs vs→vs[j]?=some v→AVR gg w y v→ZM (AVR gg w) (cs.set j y) vs:=fun {gg cs vs j y v} h1 h2 h3=>by
  have:=h1.set (i:=j) h3
  obtain ⟨hl,he⟩:=AE.1 h2
  rw [←he,Ab hl] at this
  exact this
 have R:∀{gg:Gh} {ag:Bool} {cs:List AV} {v:Value} {j:Nat} {x y:AV},PVR gg w ag cs v→cs[j]?=some x→(∀u,AVR gg w x u→AVR gg w y u)→PVR gg w ag (cs.set j y) v:=fun {gg ag cs v j x y} h1 h2 h3=>by
  cases ag with
  | true=>
   obtain ⟨vs,rfl,h4⟩:=h1
   obtain ⟨u,u1,u2⟩:=h4.at h2
   exact ⟨vs,rfl,Q h4 u1 (h3 u u2)⟩
  | false=>
   obtain ⟨z,rfl,h4⟩:=h1
   cases j with
   | zero=>simp at h2;subst h2;exact ⟨y,rfl,h3 v h4⟩
   | succ j=>simp at h2
 have K:∀{V:Nat→Prop} {cs:List AV} {j:Nat} {y:AV},QW V cs→avU V y→QW V (cs.set j y):=fun {V cs j y} h1 h2 z mz=>by
  rcases Ac mz with mz | mz
  ·exact h1 z mz
  ·subst mz;exact h2
 unfold St.mat
 split
 ·split
  ·rename_i ag cs X
   have G:QW U cs:=by have:=hU.sl m.2.1;rw [X] at this;exact this
   have hs:=hS m.2.1
   rw [X] at hs
   split
   ·rename_i e q H
    split
    ·rename_i hq
     obtain ⟨g',t1,t2,t3,t4⟩:=T e q hq g hH
     refine ⟨fun k=>U k∨k=st.n,⟨⟨g',t1,fun t=>?_⟩,⟨fun t=>?_,fun k=>?_,fun k l=>?_⟩,B,hh⟩,N⟩
     ·show SVR g' w (upd st.sl m.2.1 (.p ag (cs.set m.2.2 (.row st.n))) t) _
      by_cases ht:t=m.2.1
      ·subst ht
       rw [ZF]
       have h1:PVR g' w ag cs (a.tmps.getD m.2.1 undef):=t2 (.p ag cs) _ G hs
       refine R h1 H fun u hu=>?_
       have Z:u=.slice none 0 0:=hu
       rw [Z]
       exact ⟨t3.symm,rfl⟩
      ·rw [ZP _ _ ht];exact t2 _ _ (hU.sl t) (hS t)
     ·show svU _ (upd st.sl m.2.1 (.p ag (cs.set m.2.2 (.row st.n))) t)
      by_cases ht:t=m.2.1
      ·subst ht;rw [ZF];exact K (G.mono up) (.inr rfl)
      ·rw [ZP _ _ ht];exact (hU.sl t).mono up
     ·show obU _ (upd st.ob st.n _ k)
      by_cases l:k=st.n
      ·subst l;rw [ZF];trivial
      ·rw [ZP _ _ l];exact (hU.ob k).mono up
     ·show upd st.ob st.n _ k=_
      rw [ZP _ _ fun e=>l (.inr e)];exact hU.gone k fun h=>l (.inl h)
    ·exact A
   ·rename_i k H
    split
    ·rename_i e q xs d f
     obtain ⟨g1,i1,i2,i3,C,i4⟩:=P k e q xs d f
     refine ⟨U,⟨⟨g1,i1,fun t=>?_⟩,⟨fun t=>?_,fun j=>?_,fun j hj=>?_⟩,B,hh⟩,hk⟩
     ·show SVR g1 w (upd st.sl m.2.1 (.p ag (cs.set m.2.2 (.c (.sl e q xs)))) t) _
      by_cases ht:t=m.2.1
      ·subst ht
       rw [ZF]
       have h1:PVR g1 w ag cs (a.tmps.getD m.2.1 undef):=(show SVR g w (.p ag cs) _ from hs).less i2 i3
       exact R h1 H fun u hu=>i4 u ⟨hu.1.trans (by rw [i2]),hu.2⟩
      ·rw [ZP _ _ ht];exact (hS t).less i2 i3
     ·show svU _ (upd st.sl m.2.1 (.p ag (cs.set m.2.2 (.c (.sl e q xs)))) t)
      by_cases ht:t=m.2.1
      ·subst ht;rw [ZF];exact K G trivial
      ·rw [ZP _ _ ht];exact hU.sl t
     ·show obU U (upd st.ob k (.row e q xs 0) j)
      by_cases h1:j=k
      ·subst h1;rw [ZF];trivial
      ·rw [ZP _ _ h1];exact hU.ob j
     ·show upd st.ob k (.row e q xs 0) j=_
      rw [ZP _ _ (show j≠k from fun e'=>hj (e' ▸ C))];exact hU.gone j hj
    ·exact A
   ·exact A
  ·exact A
 ·split
  ·rename_i ty cs f
   split
   ·rename_i e q H
    split
    ·rename_i hq
     obtain ⟨g',t1,t2,t3,t4⟩:=T e q hq g hH
     have C:U m.2.1:=Classical.byContradiction fun hn=>by have:=hU.gone _ hn;rw [f] at this;simp at this
     have E:m.2.1≠st.n:=fun e=>S (e ▸ C)
     have G:QW U cs:=by have:=hU.ob m.2.1;rw [f] at this;exact this
     have F:=t1.obs m.2.1
     rw [ZP _ _ E,f] at F
     obtain ⟨b,vs,b1,b2,b3,b4,b5⟩:=F
     obtain ⟨u,u1,u2⟩:=b5.at H
     have Y:u=.slice none 0 0:=u2
     have aa:vs.set m.2.2 u=vs:=by
      obtain ⟨hl,he⟩:=AE.1 u1
      rw [←he];exact Ab hl
     have I:ObR g' w m.2.1 (.box ty (cs.set m.2.2 (.row st.n))):=by
      refine ⟨b,vs,b1,b2,b3,b4,?_⟩
      have:=b5.set (i:=m.2.2) (a:=AV.row st.n) (b:=u) ⟨by rw [Y,t3],by rw [Y];rfl⟩
      rw [aa] at this
      exact this
     have J:∀k,(upd (upd st.ob m.2.1 (.box ty (cs.set m.2.2 (.row st.n)))) st.n (.row e q [] 2)) k=if k=m.2.1 then .box ty (cs.set m.2.2 (.row st.n)) else (upd st.ob st.n (.row e q [] 2)) k:=fun k=>by
      by_cases h1:k=st.n
      ·have h2:¬k=m.2.1:=fun e'=>E (e'.symm.trans h1)
       have h3:¬st.n=m.2.1:=fun e'=>E e'.symm
       simp [upd,h1,h3]
      ·by_cases h2:k=m.2.1
       ·simp [upd,h2,E]
       ·simp [upd,h1,h2]
     refine ⟨fun k=>U k∨k=st.n,⟨⟨g',⟨t1.below,fun k=>?_,t1.nodup,t1.apart,fun k b mb=>⟨(t1.plain k b mb).1,(t1.plain k b mb).2.of (by
       show ZkR ((upd (upd st.ob m.2.1 (.box ty (cs.set m.2.2 (.row st.n)))) st.n (.row e q [] 2)) k)=_
       rw [J k]
       split
       ·rename_i h1;subst h1;rw [ZP _ _ E,f];rfl
       ·rfl)⟩,t1.gz,t1.zx,t1.nw⟩,fun t=>t2 _ _ (hU.sl t) (hS t)⟩,⟨fun t=>(hU.sl t).mono up,fun k=>?_,fun k l=>?_⟩,B,hh⟩,N⟩
     ·show ObR g' w k ((upd (upd st.ob m.2.1 (.box ty (cs.set m.2.2 (.row st.n)))) st.n (.row e q [] 2)) k)
      rw [J k]
      split
      ·rename_i h1;subst h1;exact I
      ·exact t1.obs k
     ·show obU _ ((upd (upd st.ob m.2.1 (.box ty (cs.set m.2.2 (.row st.n)))) st.n (.row e q [] 2)) k)
      rw [J k]
      split
      ·intro y my
       rcases Ac my with my | my
       ·exact (G y my).mono up
       ·subst my;exact .inr rfl
      ·by_cases h1:k=st.n
       ·subst h1;rw [ZF];trivial
       ·rw [ZP _ _ h1];exact (hU.ob k).mono up
     ·show (upd (upd st.ob m.2.1 (.box ty (cs.set m.2.2 (.row st.n)))) st.n (.row e q [] 2)) k=_
      rw [J k,if_neg (show ¬k=m.2.1 from fun e'=>l (.inl (e' ▸ C))),ZP _ _ (show k≠st.n from fun e'=>l (.inr e'))]
      exact hU.gone k fun h=>l (.inl h)
    ·exact A
   ·rename_i k H
    split
    ·rename_i e q xs d M
     obtain ⟨g1,i1,i2,i3,C,i4⟩:=P k e q xs d M
     have ab:U m.2.1:=Classical.byContradiction fun hn=>by have:=hU.gone _ hn;rw [f] at this;simp at this
     have E:k≠m.2.1:=fun e'=>by rw [e',f] at M;simp at M
     have G:QW U cs:=by have:=hU.ob m.2.1;rw [f] at this;exact this
     have F:=i1.obs m.2.1
     rw [ZP _ _ (fun e'=>E e'.symm),f] at F
     obtain ⟨b,vs,b1,b2,b3,b4,b5⟩:=F
     obtain ⟨u,u1,u2⟩:=b5.at H
     have I:ObR g1 w m.2.1 (.box ty (cs.set m.2.2 (.c (.sl e q xs)))):=⟨b,vs,b1,b2,b3,b4,Q b5 u1 (i4 u ⟨u2.1.trans (by rw [i2]),u2.2⟩)⟩
     refine ⟨U,⟨⟨g1,⟨i1.below,fun j=>?_,i1.nodup,i1.apart,fun j b mb=>⟨(i1.plain j b mb).1,(i1.plain j b mb).2.of (by
       show ZkR (upd (upd st.ob k (.row e q xs 0)) m.2.1 (.box ty (cs.set m.2.2 (.c (.sl e q xs)))) j)=_
       by_cases h1:j=m.2.1
       ·subst h1;rw [ZF,ZP _ _ (fun e'=>E e'.symm),f];rfl
       ·rw [ZP _ _ h1])⟩,i1.gz,i1.zx,i1.nw⟩,fun t=>(hS t).less i2 i3⟩,⟨hU.sl,fun j=>?_,fun j hj=>?_⟩,B,hh⟩,hk⟩
     ·show ObR g1 w j (upd (upd st.ob k (.row e q xs 0)) m.2.1 (.box ty (cs.set m.2.2 (.c (.sl e q xs)))) j)
      by_cases h1:j=m.2.1
      ·subst h1;rw [ZF];exact I
      ·rw [ZP _ _ h1];exact i1.obs j
     ·show obU U (upd (upd st.ob k (.row e q xs 0)) m.2.1 (.box ty (cs.set m.2.2 (.c (.sl e q xs)))) j)
      by_cases h1:j=m.2.1
      ·subst h1;rw [ZF];exact K G trivial
      ·rw [ZP _ _ h1]
       by_cases h2:j=k
       ·subst h2;rw [ZF];trivial
       ·rw [ZP _ _ h2];exact hU.ob j
     ·show upd (upd st.ob k (.row e q xs 0)) m.2.1 (.box ty (cs.set m.2.2 (.c (.sl e q xs)))) j=_
      rw [ZP _ _ (show j≠m.2.1 from fun e'=>hj (e' ▸ ab)),ZP _ _ (show j≠k from fun e'=>hj (e' ▸ C))];exact hU.gone j hj
    ·exact A
   ·exact A
  ·rename_i e q xs d f
   split
   ·rename_i ac
    have C:U m.2.1:=Classical.byContradiction fun hn=>by have:=hU.gone _ hn;rw [f] at this;simp at this
    obtain ⟨g1,t1,t2,t3⟩:=ZyI hH f ac
    refine ⟨U,⟨⟨g1,t1,fun t=>(hS t).less t2 t3⟩,⟨hU.sl,fun k=>?_,fun k l=>?_⟩,B,hh⟩,hk⟩
    ·show obU U (upd st.ob m.2.1 (.row e q xs m.2.2) k)
     by_cases h1:k=m.2.1
     ·subst h1;rw [ZF];trivial
     ·rw [ZP _ _ h1];exact hU.ob k
    ·show upd st.ob m.2.1 (.row e q xs m.2.2) k=_
     rw [ZP _ _ (show k≠m.2.1 from fun e'=>l (e' ▸ C))];exact hU.gone k l
   ·exact A
  ·exact A
theorem Zxi [NW] (m:Bool × Nat × Nat) (hI:Inv W U st a w) (hk:∀k,st.n≤k→¬U k):∃U',Inv W U' (st.matN m) a w∧∀k,(st.matN m).n≤k→¬U' k:=by
 have c:∃U',Inv W U' st a w∧∀k,st.n≤k→¬U' k:=⟨U,hI,hk⟩
 obtain ⟨⟨g,hH,hS⟩,hU,o,hh⟩:=hI
 unfold St.matN
 split
 ·rename_i ag cs x
  have A:QW U cs:=by have:=hU.sl m.2.1;rw [x] at this;exact this
  have hs:=hS m.2.1
  rw [x] at hs
  split
  ·rename_i k f
   split
   ·rename_i e q xs d l
    split
    ·rename_i hd
     subst hd
     obtain ⟨g1,i1,i2,i3,i5⟩:=Zju hH k
     rw [l] at i1
     obtain ⟨hm,B,L,o1,o2,o3,o5⟩:=hH.deep l
     have i4:∀v,AVR g w (.row k) v→AVR g1 w (.n (.sl e q xs)) v:=fun v hv=>by
      rcases o5 with ⟨_,q1,q2⟩ | ⟨q1,_⟩ | ⟨q1,_⟩
      ·have hN:=hH.nodup k
       have hP:=hH.plain k
       have hF:=i5 ⟨_,_,_,_,l⟩
       rw [q1,q2] at hN hP hF
       rw [l] at hP
       refine ⟨e,q,xs,B,L,rfl,hm,by rw [hv.1];exact o1,o2,by rw [hv.1];exact hN,fun b mb=>?_⟩
       rw [hv.1] at mb
       exact ⟨hF b mb,hH.nw b (hP b mb).1,(hP b mb).2⟩
      ·omega
      ·omega
     have C:U k:=Classical.byContradiction fun hn=>by have:=hU.gone _ hn;rw [l] at this;simp at this
     refine ⟨U,⟨⟨g1,i1,fun t=>?_⟩,⟨fun t=>?_,fun j=>?_,fun j hj=>?_⟩,o,hh⟩,hk⟩
     ·show SVR g1 w (upd st.sl m.2.1 (.p ag (cs.set (m.2.2 - 4096) (.n (.sl e q xs)))) t) _
      by_cases ht:t=m.2.1
      ·subst ht
       rw [ZF]
       have h0:PVR g w ag cs (a.tmps.getD m.2.1 undef):=hs
       have h1:PVR g1 w ag cs (a.tmps.getD m.2.1 undef):=(show SVR g w (.p ag cs) _ from hs).less i2 i3
       cases ag with
       | true=>
        obtain ⟨vs,e1,h4⟩:=h0
        obtain ⟨D,y,E⟩:=h1
        have ev:vs=D:=by rw [e1] at y;simpa using y
        subst ev
        obtain ⟨u,u1,u2⟩:=h4.at f
        refine ⟨vs,e1,?_⟩
        have:=E.set (i:=m.2.2 - 4096) (i4 u u2)
        obtain ⟨hl,he⟩:=AE.1 u1
        rw [←he,Ab hl] at this
        exact this
       | false=>
        obtain ⟨z,rfl,h4⟩:=h0
        cases hj:m.2.2 - 4096 with
        | zero=>rw [hj] at f;simp at f;subst f;exact ⟨_,rfl,i4 _ h4⟩
        | succ j=>rw [hj] at f;simp at f
      ·rw [ZP _ _ ht];exact (hS t).less i2 i3
     ·show svU U (upd st.sl m.2.1 (.p ag (cs.set (m.2.2 - 4096) (.n (.sl e q xs)))) t)
      by_cases ht:t=m.2.1
      ·subst ht;rw [ZF]
       intro z mz
       rcases Ac mz with mz | mz
       ·exact A z mz
       ·subst mz;trivial
      ·rw [ZP _ _ ht];exact hU.sl t
     ·show obU U (upd st.ob k (.row e q xs 0) j)
      by_cases h1:j=k
      ·subst h1;rw [ZF];trivial
      ·rw [ZP _ _ h1];exact hU.ob j
     ·show upd st.ob k (.row e q xs 0) j=_
      rw [ZP _ _ (show j≠k from fun e'=>hj (e' ▸ C))];exact hU.gone j hj
    ·exact c
   ·exact c
  ·exact c
 ·exact c
theorem Znp [NW]:∀(ms:List (Bool × Nat × Nat)) {U:Nat→Prop} {st:St},Inv W U st a w→(∀k,st.n≤k→¬U k)→∃U',Inv W U' (st.mats ms) a w
 | [],U,st,hI,_=>⟨U,hI⟩
 | m::r,U,st,hI,hk=>by
  simp only[St.mats]
  split
  ·obtain ⟨U',h1,h2⟩:=Zxi m hI hk
   exact Znp r h1 h2
  ·obtain ⟨U',h1,h2⟩:=Zyf m hI hk
   exact Znp r h1 h2
theorem least {p:Nat→Prop} (h:∃n,p n):∃n,p n∧∀m,m<n→¬p m:=by
 obtain ⟨n,hn⟩:=h
 induction n using Nat.strongRecOn with
 | _ n ih=>
  by_cases hm:∃m,m<n∧p m
  ·obtain ⟨m,h1,h2⟩:=hm;exact ih m h1 h2
  ·exact ⟨n,hn,fun m h1 h2=>hm ⟨m,h1,h2⟩⟩
theorem ZvN [NW] {c:Code} {Q:Exit→Act→World→Prop} (J:Nat→Act→World→Prop) (n:Nat) (h₀:J n a w) (b:∀n a w,J n a w→c.wp P (Exit.then (fun a' w'=>∃m,m<n∧J m a' w') Q) a w):(Code.loop c).wp P Q a w:=by
 classical
 let μ:Act→World→Nat:=fun a w=>if h:∃n,J n a w then Classical.choose (least h) else 0
 have hμ:∀a w (h:∃n,J n a w),J (μ a w) a w∧∀m,m<μ a w→¬J m a w:=fun a w h=>by
  simp only[μ,dif_pos h]
  exact Classical.choose_spec (least h)
 refine wp_loop (fun a w=>∃n,J n a w) μ ⟨n,h₀⟩ fun a w h=>?_
 refine wp_mono (b (μ a w) a w (hμ a w h).1) fun e a' w' he=>?_
 cases e with
 | normal=>
  obtain ⟨m,h1,h2⟩:=he
  refine ⟨⟨m,h2⟩,?_⟩
  have h3:=hμ a' w' ⟨m,h2⟩
  rcases AW m (μ a' w') with h4 | h4
  ·exact absurd h2 (h3.2 m h4)
  ·omega
 | _=>exact he
mutual
theorem RC.deep {w:World}:∀{x:CT} {v:Value} {L:List Nat},RC w x v L→ctD x
 | .int _ _,_,_,_=>trivial
 | .bool _,_,_,_=>trivial
 | .str _,_,_,h=>h.2.2
 | .sl _ _ _,_,_,⟨A,cap,cs,L0,L1,h1,h2,h3,h4,h5,h6,h7⟩=>⟨by unfold maxLen at h3;omega,h7.deep⟩
 | .pt _,_,_,⟨_,_,_,_,_,_,_,h⟩=>h.deep
 | .fn _ _,_,_,⟨_,_,h⟩=>h.deep
 | .mp _ _ _,_,_,_=>trivial
 | .ifc _,_,_,_=>trivial
 | .any,_,_,_=>trivial
 | .nl _ _,_,_,_=>trivial
theorem RCs.deep {w:World}:∀{x:List CT} {v:List Value} {L:List Nat},RCs w x v L→ctsD x
 | [],_,_,_=>trivial
 | _::_,_,_,⟨v,cs,L1,L2,h1,h2,h3,h4⟩=>⟨h3.deep,h4.deep⟩
theorem REs.deep {w:World} {m:Nat}:∀{x:List (List CT)} {v:List Value} {L:List Nat},REs w m x v L→essD x
 | [],_,_,_=>trivial
 | _::_,_,_,⟨c1,c2,L1,L2,h1,h2,h3,h4⟩=>⟨h3.1.deep,h4.deep⟩
end
theorem AVR.deep [NW] {g:Gh} {w:World}:∀{x:AV} {v:Value},AVR g w x v→avD x
 | .c _,_,⟨_,h,_⟩=>h.deep
 | .n _,_,h=>by obtain ⟨_,h1,_⟩:=NR.toC h;exact h1.deep
 | .row _,_,_=>trivial
 | .nil _ _,_,_=>trivial
 | .dead,_,_=>trivial
theorem AVRs.deep [NW] {g:Gh} {w:World}:∀{x:List AV} {v:List Value},ZM (AVR g w) x v→ZwH x
 | [],[],_=>trivial
 | _::_,_::_,h=>⟨h.1.deep,AVRs.deep h.2⟩
 | [],_::_,h=>h.elim
 | _::_,[],h=>h.elim
theorem Inv.deep [NW] (hI:Inv W U st a w):WF st:=by
 obtain ⟨⟨g,hH,hS⟩,hU,hdef,hh⟩:=hI
 refine ⟨fun t b cs ht=>?_,fun k t cs hk=>?_,fun k e m xs d hk=>?_⟩
 ·have h:=hS t
  rw [ht] at h
  cases b with
  | true=>obtain ⟨vs,_,h2⟩:=h;exact AVRs.deep h2
  | false=>obtain ⟨x,rfl,h2⟩:=h;exact ⟨h2.deep,trivial⟩
 ·have h:=hH.obs k
  rw [hk] at h
  obtain ⟨b,vs,_,_,_,_,h2⟩:=h
  exact AVRs.deep h2
 ·have h:=hH.obs k
  rw [hk] at h
  obtain ⟨_,cs,L,h1,h2,_⟩:=h
  refine ⟨?_,h2.deep⟩
  rcases h1.2 with ⟨_,h3⟩ | ⟨_,_,cap,_,_,_,_,h3,h4,_⟩
  ·omega
  ·unfold maxLen at h4;omega
def ZCS:Ex→Exit
 | .normal=>.normal
 | .exit id=>.exit id
 | .ret=>.ret
def X7 (od:OD) (tt:Nat→Option TI) (hs:FuncId→Nat) (k0:Bool) (N:Nat):Code→Bool
 | .skip=>true
 | .region id ops d=>(ops.toList.all fun o=>match o.dst with | some t=>Nat.blt t N&&(!k0||Nat.blt 0 t) | none=>true)&&(match od id with | none=>!d||ZtF tt hs ops | some l=>d&&Zuy tt hs l.2 ops l.1)
 | .seq x y=>X7 od tt hs k0 N x&&X7 od tt hs k0 N y
 | .cond _ x y=>X7 od tt hs k0 N x&&X7 od tt hs k0 N y
 | .block _ x=>X7 od tt hs k0 N x
 | .loop x=>X7 od tt hs k0 N x
 | .exit _=>true
 | .ret=>true
 | _=>false
theorem ZaD [NW] {od:OD} (htt:MOk P J JF W tt) (hmix:P.follows .mixedOrders=true) {hds:FuncId→Nat} {k0:Bool} (v:W.hv=none∨k0=true) {N:Nat}:∀(c:Code),X7 od tt hds k0 N c=true→∀(Qs:Ex→St→Prop) (Q:Exit→Act→World→Prop),
  (∀ex U' st' a' w',Inv W U' st' a' w'→(∀k,st'.n≤k→¬U' k)→a'.tmps.size=N→Qs ex st'→Q (ZCS ex) a' w')→
  ∀U st a w,Inv W U st a w→(∀k,st.n≤k→¬U k)→a.tmps.size=N→swp tt (SC P J JF hds) od c Qs st→c.wp P Q a w
 | .skip,_,Qs,Q,hQ,U,st,a,w,hI,hk,hs,h=>wp_skip (hQ .normal U st a w hI hk hs h)
 | .exit id,_,Qs,Q,hQ,U,st,a,w,hI,hk,hs,h=>wp_exit (hQ (.exit id) U st a w hI hk hs h)
 | .ret,_,Qs,Q,hQ,U,st,a,w,hI,hk,hs,h=>wp_ret (hQ .ret U st a w hI hk hs h)
 | .region id m d,f,Qs,Q,hQ,U,st,a,w,hI,hk,hs,h=>by
  simp only[X7,A6,AG] at f
  have hN:∀o∈m.toList,∀t,o.dst=some t→t<N∧(W.hv=none∨t≠0):=fun o mo t ht=>by
   have:=f.1 o mo
   rw [ht] at this
   simp only[A6,AK] at this
   refine ⟨AA this.1,v.imp (fun h=>h) fun h=>?_⟩
   rcases this.2 with h2 | h2
   ·rw [h] at h2;simp at h2
   ·have h3:0<t:=AA h2
    exact Nat.ne_of_gt h3
  have A:∀U' st' a' w',Inv W U' st' a' w'→(∀k,st.n+16 * m.toList.length≤k→¬U' k)→a'.tmps.size=N→Zqd (st.n+16 * m.toList.length) (Qs .normal) st'→Q .normal a' w':=fun U' st' a' w' h1 h2 h3 h4=>
   hQ .normal U' { st' with n:=st.n+16 * m.toList.length } a' w' ⟨h1.ex,⟨h1.wf.sl,h1.wf.ob,h1.wf.gone⟩,h1.defers,h1.hand⟩ h2 h3 h4
  have B:Inv W U st a { w with drawn:=w.drawn+1 }:=by
   obtain ⟨⟨g,hH,hS⟩,hU,E,hh⟩:=hI
   have hw:∀b,b<w.heap.size→¬g.own b→({ w with drawn:=w.drawn+1 }:World).heap[b]?=w.heap[b]?:=fun _ _ _=>rfl
   refine ⟨⟨g,hH.step (U:=U) (fun _=>False) ⟨hH.below.os,hH.below.tape,hH.below.output,hH.below.size,hH.below.block⟩ rfl (fun _ _ _=>rfl) (fun _ _=>⟨rfl,rfl,rfl,rfl⟩) hU.ob (fun _ _=>rfl) (QU.refl _ _) (fun _ h=>h.elim),fun t=>?_⟩,hU,E,hh⟩
   exact (hS t).move (hU.sl t) (fun _ _=>rfl) hw (QU.refl _ _) (AC _)
  have z:∀(b:Bool) (R:List Nat),Zku tt hds b m R=true→(∀j,elB m j=true)→R.length≤m.size→(∀i,i∈R↔i<m.size)→Zf3 tt (SC P J JF hds) b m.toList st.n R (Zqd (st.n+16 * m.toList.length) (Qs .normal)) st→(Code.region id m true).wp P Q a w:=fun b R h1 h2 h3 h4 h5=>by
   refine wp_region_any hmix ?_
   refine Zvz (base:=st.n) htt hN h2 (fun U' st' a' w' h1 h2 h3 h4=>A U' st' a' w' h1 (by simpa using h2) h3 h4) m.size R (AF m.size false) U st a _ h3 (ZpU h1) yG (fun i=>?_) (fun i o ho hl=>?_) h5 B (fun j _ k C _=>hk k yE) (fun k C=>hk k yE) hs
   ·rw [h4]
    constructor
    ·intro hi;exact ⟨hi,by simp [AB,hi]⟩
    ·exact fun hi=>hi.1
   ·exfalso
    have hi:i<m.size:=(AY.1 ho).1
    simp [AB,hi] at hl
  cases ho:od id with
  | none=>
   have u:=f.2
   simp only[ho] at u
   simp only[swp,ho,Zvi] at h
   have h':Z7 tt (SC P J JF hds) m.toList st.n m.toList (Zqd (st.n+16 * m.toList.length) (Qs .normal)) st:=h
   cases d with
   | false=>
    refine wp_region ?_
    have:=ZoZ (Q:=Q) htt hN m.toList 0 st.n U st a w yG h' hI hk hs A
    rw [Ak]
    simpa using this
   | true=>
    have q:ZtF tt hds m=true:=by simpa using u
    simp only[ZtF,A6] at q
    have h2:=ZuG (tt:=tt) (S:=SC P J JF hds) (all:=m.toList) (base:=st.n) (K:=Zqd (st.n+16 * m.toList.length) (Qs .normal)) m.toList 0 st yG (by simpa using h')
    rw [←Ak] at h2
    exact z false (AR m.size) q.1 (ZrD q.2) yG yG (by simpa using h2)
  | some l=>
   have u:=f.2
   simp only[ho,A6] at u
   simp only[swp,ho,Zvi] at h
   obtain ⟨rfl,q⟩:=u
   simp only[Zuy,A6] at q
   exact z l.2 l.1 q.1.1.1.1 (ZrD q.1.1.1.2) (AA q.1.1.2) (fun i=>⟨fun mi=>AA (AG.1 q.1.2 i mi),fun hi=>by simpa using AG.1 q.2 i (by simpa using hi)⟩) h
 | .seq x y,f,Qs,Q,hQ,U,st,a,w,hI,hk,hs,h=>by
  simp only[X7,A6] at f
  refine wp_seq (ZaD htt hmix v x f.1 (ZgR (swp tt (SC P J JF hds) od y Qs) Qs) _ ?_ U st a w hI hk hs h)
  intro ex U' st' a' w' h1 h2 h3 h4
  cases ex with
  | normal=>exact ZaD htt hmix v y f.2 Qs Q hQ U' st' a' w' h1 h2 h3 h4
  | exit id=>exact hQ (.exit id) U' st' a' w' h1 h2 h3 h4
  | ret=>exact hQ .ret U' st' a' w' h1 h2 h3 h4
 | .cond c x y,f,Qs,Q,hQ,U,st,a,w,hI,hk,hs,h=>by
  simp only[X7,A6] at f
  simp only[swp,ZpB] at h
  split at h
  ·rename_i hb
   obtain ⟨b,D⟩:∃b,st.ev tt 0 c=.p false [.c (.bool b)]:=by
    unfold Zav at hb
    split at hb
    ·rename_i b he;exact ⟨b,he⟩
    ·simp at hb
   obtain ⟨g,hH,hS⟩:=hI.ex
   have hv:=(Zlm (P:=P) htt.tt hS hI.wf 0 c).1
   rw [D] at hv
   have G:=Zgr hv
   refine wp_cond G ?_
   cases b with
   | true=>rw [if_pos (by rw [D];rfl)] at h;exact ZaD htt hmix v x f.1 Qs Q hQ U st a w hI hk hs h
   | false=>rw [if_neg (by rw [D];simp [Qg])] at h;exact ZaD htt hmix v y f.2 Qs Q hQ U st a w hI hk hs h
  ·exact h.elim
 | .block id x,f,Qs,Q,hQ,U,st,a,w,hI,hk,hs,h=>by
  refine wp_block (ZaD htt hmix v x f (Zhd id Qs) _ ?_ U st a w hI hk hs h)
  intro ex U' st' a' w' h1 h2 h3 h4
  cases ex with
  | normal=>exact hQ .normal U' st' a' w' h1 h2 h3 h4
  | exit j=>
   show Exit.inBlock id Q (.exit j) a' w'
   simp only[Zhd] at h4
   simp only[Exit.inBlock]
   split
   ·rename_i e;rw [if_pos e] at h4;exact hQ .normal U' st' a' w' h1 h2 h3 h4
   ·rename_i e;rw [if_neg e] at h4;exact hQ (.exit j) U' st' a' w' h1 h2 h3 h4
  | ret=>exact hQ .ret U' st' a' w' h1 h2 h3 h4
 | .loop x,f,Qs,Q,hQ,U,st,a,w,hI,hk,hs,h=>by
  obtain ⟨n,hn⟩:=h
  refine ZvN (fun n a w=>∃U st,Inv W U st a w∧(∀k,st.n≤k→¬U k)∧a.tmps.size=N∧Zlo (swp tt (SC P J JF hds) od x) Qs n st) n ⟨U,st,hI,hk,hs,hn⟩ ?_
  rintro n a w ⟨U,st,hI,hk,hs,hn⟩
  cases n with
  | zero=>exact hn.elim
  | succ n=>
   obtain ⟨ms,ρ,hρ,hb⟩:=hn
   obtain ⟨U2,F⟩:=Znp ms hI hk
   refine ZaD htt hmix v x f (ZgR (Zlo (swp tt (SC P J JF hds) od x) Qs n) Qs) _ ?_ _ ((st.mats ms).ren ρ) a w (Zuv F hρ) (fun k C hU=>by simp only[St.ren] at C;omega) hs (hb (Zuv F hρ).deep)
   intro ex U' st' a' w' h1 h2 h3 h4
   cases ex with
   | normal=>exact ⟨n,yE,U',st',h1,h2,h3,h4⟩
   | exit id=>exact hQ (.exit id) U' st' a' w' h1 h2 h3 h4
   | ret=>exact hQ .ret U' st' a' w' h1 h2 h3 h4
 | .rangeFunc _ _ _ _,f,_,_,_,_,_,_,_,_,_,_,_=>by simp [X7] at f
 | .scope _,f,_,_,_,_,_,_,_,_,_,_,_=>by simp [X7] at f
 | .label _,f,_,_,_,_,_,_,_,_,_,_,_=>by simp [X7] at f
 | .goto _,f,_,_,_,_,_,_,_,_,_,_,_=>by simp [X7] at f
 | .refuse _,f,_,_,_,_,_,_,_,_,_,_,_=>by simp [X7] at f
end
end
section
open Go.RowKit
section
variable {P:Program} {J:World→Prop} {JF:Nat→Prop} {W:ZaK} {U:Nat→Prop} {st:St} {w w':World} {a:Act} {tt:Nat→Option TI} {g:Gh}
def nK (g:Gh) (K:Nat→Prop) (b:Nat):Prop:=g.Z b∨∃k,K k∧b∈g.O k
theorem ZwB {k e m n B:Nat} {cs:List Value} (h:w.ownsV 0 e m (g.val k) n cs) (hB:∀b∈(g.val k).ownBlock.toList,B≤b):w.ownsV B e m (g.val k) n cs:=by
 refine ⟨h.1,?_⟩
 rcases h.2 with h0 | ⟨q,o,cap,a,hv,hg,r⟩
 ·exact .inl h0
 ·exact .inr ⟨q,o,cap,a,hv,hB q (by simp [hv,Value.ownBlock]),r⟩
variable {K:Nat→Prop}
theorem Zr1 [NW] (hI:HI W g st.ob w) (hK:∀k,K k→ZkR (st.ob k)=false∧∀e m xs d,st.ob k=.row e m xs d→d=2) {x:AV} {ct:Bool × CT} {ks:List Nat} {v:Value} (h:ZfT st x=some (ct,ks)) (l:∀k∈ks,K k∧∀b∈g.O k++g.D k,W.heap.size≤b) (hx:AVR g w x v):OC w W.heap.size (nK g K) ct v (g.F ks):=by
 have a:∀b,nK g K b→g.own b:=fun b hb=>by
  rcases hb with hz | ⟨k,_,mk⟩
  ·exact .inr hz
  ·exact .inl ⟨k,mk⟩
 cases x with
 | c y=>
  obtain ⟨L,h1,h2⟩:=hx
  cases y<;>simp only[ZfT,A0,A3] at h<;>obtain ⟨rfl,rfl⟩:=h
  ·exact ⟨⟨h1.1,rfl⟩,by simp [Gh.F]⟩
  ·exact ⟨⟨h1.1,rfl⟩,by simp [Gh.F]⟩
  ·exact ⟨⟨h1.1,rfl,h1.2.2⟩,by simp [Gh.F]⟩
  ·exact ⟨by simp [Gh.F],L,h1,fun b mb hb=>h2 b mb (a b hb)⟩
  ·exact ⟨by simp [Gh.F],L,h1,fun b mb hb=>h2 b mb (a b hb)⟩
  ·exact ⟨by simp [Gh.F],L,h1,fun b mb hb=>h2 b mb (a b hb)⟩
  ·exact ⟨by simp [Gh.F],L,h1,fun b mb hb=>h2 b mb (a b hb)⟩
  ·exact ⟨⟨rfl,h1.2⟩,by simp [Gh.F]⟩
  ·exact ⟨by simp [Gh.F],L,h1,fun b mb hb=>h2 b mb (a b hb)⟩
  ·exact ⟨by simp [Gh.F],L,h1,fun b mb hb=>h2 b mb (a b hb)⟩
 | row k=>
  simp only[ZfT] at h
  split at h
  ·rename_i e m xs d hk
   obtain ⟨hm,cs,L,o1,o2,o3,o5⟩:=hI.deep hk
   split at h
   ·rename_i hd
    simp only[A0,A3] at h
    obtain ⟨rfl,rfl⟩:=h
    have i:=l k yG
    rcases o5 with ⟨_,q1,q2⟩ | ⟨q,_⟩ | ⟨q,_⟩
    ·refine ⟨hm,cs,L,by rw [hx.1];exact ZwB o1 fun b mb=>i.2 b (by simp [q1,mb]),o2,by simp [Gh.F,q1,q2,hx.1],fun b mb=>.inr ⟨k,i.1,by rw [q1];rw [hx.1] at mb;exact mb⟩⟩
    ·omega
    ·omega
   ·rename_i hd
    simp only[A0,A3] at h
    obtain ⟨rfl,rfl⟩:=h
    have f:¬K k:=fun h=>hd ((hK k h).2 e m xs d hk)
    obtain ⟨A,cap,L0,s1,s2,s3,s4,s5⟩:=Sl.row o1
    refine ⟨by simp [Gh.F],L0++L,⟨A,cap,cs,L0,L,by rw [hx.1,s1],s2,s3,rfl,hm,s4,o2⟩,fun b mb hb=>?_⟩
    rcases A5.1 mb with m1 | m1
    ·have m2:=s5.subset m1
     rcases o5 with ⟨q,_⟩ | ⟨_,q1,q2⟩ | ⟨_,_,_,q⟩
     ·exact hd q
     ·have mk:b∈g.O k++g.D k:=by simp [q1,m2]
      rcases hb with hz | ⟨j,hj,mj⟩
      ·exact hI.nz mk hz
      ·exact hI.apart k j (fun e=>f (e ▸ hj)) b mk (by simp [mj])
     ·exact q b m2 (a b hb)
    ·exact o3 b m1 (a b hb)
  ·rename_i kk vk kv hk
   simp only[A0,A3] at h
   obtain ⟨rfl,rfl⟩:=h
   have ho:=hI.obs k
   rw [hk] at ho
   obtain ⟨b,es,c,q1,q2,q3,q4,q5,q6⟩:=ho
   have f:¬K k:=fun h=>by have:=(hK k h).1;rw [hk] at this;simp [ZkR] at this
   refine ⟨by simp [Gh.F],[b],⟨b,es,c,by rw [hx.1,q1],q4,q5,q6,rfl⟩,fun x mx hb=>?_⟩
   simp at mx;subst mx
   have mk:x∈g.O k++g.D k:=by simp [q2]
   rcases hb with hz | ⟨j,hj,mj⟩
   ·exact hI.nz mk hz
   ·exact hI.apart k j (fun e=>f (e ▸ hj)) x mk (by simp [mj])
  ·simp at h
 | nil e m=>
  simp only[ZfT] at h
  split at h
  ·rename_i hm
   simp only[A0,A3] at h
   obtain ⟨rfl,rfl⟩:=h
   have o:v=.slice none 0 0:=hx
   subst o
   exact ⟨hm,[],[],ZfF _ _ _ _,⟨rfl,rfl⟩,by simp [Gh.F,Value.ownBlock],by simp [Value.ownBlock]⟩
  ·simp at h
 | n y=>
  obtain ⟨L,h1,h2⟩:=NR.toC hx
  simp only[ZfT,A0,A3] at h
  obtain ⟨rfl,rfl⟩:=h
  exact ⟨by simp [Gh.F],L,h1,fun b mb hb=>h2 b mb (a b hb)⟩
 | dead=>
  simp only[ZfT,A0,A3] at h
  obtain ⟨rfl,rfl⟩:=h
  exact ⟨by simp [Gh.F],[],⟨rfl,hx⟩,yG⟩
theorem Zpn [NW] (hI:HI W g st.ob w) (hK:∀k,K k→ZkR (st.ob k)=false∧∀e m xs d,st.ob k=.row e m xs d→d=2):∀{xs:List AV} {cts:List (Bool × CT)} {ks:List Nat} {vs:List Value},Zdc st xs=some (cts,ks)→(∀k∈ks,K k∧∀b∈g.O k++g.D k,W.heap.size≤b)→ZM (AVR g w) xs vs→OCs w W.heap.size (nK g K) cts vs (g.F ks)
 | [],_,_,[],h,_,_=>by
  simp only[Zdc,A0,A3] at h
  obtain ⟨rfl,rfl⟩:=h
  exact ⟨rfl,by simp [Gh.F]⟩
 | [],_,_,_::_,_,_,h=>h.elim
 | _::_,_,_,[],_,_,h=>h.elim
 | x::r,cts,ks,v::vs,h,hks,hr=>by
  simp only[Zdc] at h
  obtain ⟨⟨c1,k1⟩,h1,h⟩:=A9.1 h
  obtain ⟨⟨c2,k2⟩,h2,h⟩:=A8.1 h
  simp only[A3] at h
  obtain ⟨rfl,rfl⟩:=h
  exact ⟨v,vs,g.F k1,g.F k2,rfl,by simp [Gh.F],Zr1 hI hK h1 (fun k mk=>hks k (by simp [mk])) hr.1,Zpn hI hK h2 (fun k mk=>hks k (by simp [mk])) hr.2⟩
theorem Zr7 [NW] (hI:HI W g st.ob w) (hK:∀k,K k→ZkR (st.ob k)=false∧∀e m xs d,st.ob k=.row e m xs d→d=2) {ag:Bool} {cs:List AV} {cts:List (Bool × CT)} {ks:List Nat} {v:Value} (h:Zdc st cs=some (cts,ks)) (a:∀k∈ks,K k∧∀b∈g.O k++g.D k,W.heap.size≤b) (hx:PVR g w ag cs v):OP w W.heap.size (nK g K) (ag,cts) v (g.F ks):=by
 cases ag with
 | true=>obtain ⟨vs,rfl,h2⟩:=hx;exact .inl ⟨rfl,vs,rfl,Zpn hI hK h a h2⟩
 | false=>
  obtain ⟨x,rfl,h2⟩:=hx
  simp only[Zdc] at h
  obtain ⟨⟨c1,k1⟩,h1,h⟩:=A9.1 h
  simp at h
  obtain ⟨rfl,rfl⟩:=h
  exact .inr ⟨rfl,c1,rfl,Zr1 hI hK h1 a h2⟩
theorem OC.one {B:Nat} {n:Nat→Prop} {x:Bool × CT} {v:Value} {F:List Nat} (h:OC w B n x v F):v.oneCell'=true:=by
 obtain ⟨b,x⟩:=x
 cases b with
 | true=>obtain ⟨_,L,h1,_⟩:=h;exact h1.one
 | false=>
  cases x with
  | sl e q xs=>
   obtain ⟨_,cs,L,o1,_⟩:=h
   obtain ⟨A,cap,hv⟩:=Zdl o1
   rw [hv];rfl
  | int k i=>exact h.1.one
  | bool b=>exact h.1.one
  | str s=>exact h.1.one
  | ifc s=>exact h.1.one
  | any=>exact h.1.one
  | _=>exact h.elim
/- what is given is said to be lent -/
theorem ZqN [NW] {B:Nat} {n:Nat→Prop}:∀{r d:List (Bool × CT)} {vs:List Value} {F:List Nat},OCs w B n r vs F→wkC r d→F.Nodup→∃F',F'.Sublist F∧∀m:Nat→Prop,(∀b∈F',n b→m b)→(∀b,m b→n b)→(∀b∈F,m b→b∈F')→OCs w B m d vs F'
 | [],[],vs,F,h,_,_=>⟨[],yG,fun m _ _ _=>⟨h.1,rfl⟩⟩
 | [],_::_,_,_,_,h,_=>h.elim
 | _::_,[],_,_,_,h,_=>h.elim
 | x::r,y::d,_,_,⟨v,vs,F1,F2,rfl,rfl,h1,h2⟩,a,hnd=>by
  rw [AO] at hnd
  have a:wk1 x y (wkC r d):=a
  unfold wk1 at a
  by_cases c:ZuL y.2=true
  ·rw [if_pos c] at a
   obtain ⟨F2',s2,g⟩:=ZqN h2 a hnd.2.1
   refine ⟨F2',s2.trans (List.sublist_append_right _ _),fun m m1 m2 m3=>⟨v,vs,[],F2',rfl,rfl,?_,g m m1 m2 fun b mb hb=>m3 b (by simp [mb]) hb⟩⟩
   have f:=h1.one
   obtain ⟨b2,y⟩:=y
   cases y<;>simp [ZuL] at c
   cases b2 with
   | true=>exact ⟨rfl,[],⟨rfl,f⟩,yG⟩
   | false=>exact ⟨⟨rfl,f⟩,rfl⟩
  rw [if_neg c] at a
  obtain ⟨e1,e2,hw⟩:=a
  obtain ⟨F2',s2,g⟩:=ZqN h2 hw hnd.2.1
  have key:∃F1',F1'.Sublist F1∧∀m:Nat→Prop,(∀b∈F1',n b→m b)→(∀b,m b→n b)→(∀b∈F1,m b→b∈F1')→OC w B m y v F1':=by
   obtain ⟨b1,x⟩:=x
   obtain ⟨b2,y⟩:=y
   simp only at e1 e2
   subst e1
   cases b1 with
   | true=>
    have:b2=true:=by rcases e2 with e | e<;>simp_all
    subst this
    obtain ⟨rfl,L,q1,q2⟩:=h1
    exact ⟨[],yG,fun m _ m2 _=>⟨rfl,L,q1,fun b mb hb=>q2 b mb (m2 b hb)⟩⟩
   | false=>
    cases b2 with
    | false=>
     refine ⟨F1,Ai _,fun m m1 _ _=>?_⟩
     cases x with
     | sl e q xs=>
      obtain ⟨hm,cs,L,o1,o2,o3,o4⟩:=h1
      exact ⟨hm,cs,L,o1,o2,o3,fun b mb=>m1 b (by simp [o3,mb]) (o4 b mb)⟩
     | int k i=>exact h1
     | bool b=>exact h1
     | str s=>exact h1
     | ifc s=>exact h1
     | any=>exact h1
     | _=>exact h1.elim
    | true=>
     refine ⟨[],yG,fun m _ _ m3=>⟨rfl,?_⟩⟩
     cases x with
     | sl e q xs=>
      obtain ⟨hm,cs,L,o1,o2,o3,o4⟩:=h1
      obtain ⟨A,cap,L0,s1,s2,s3,s4,s5⟩:=Sl.row o1
      refine ⟨L0++L,⟨A,cap,cs,L0,L,s1,s2,s3,rfl,hm,s4,o2⟩,fun b mb hb=>?_⟩
      have:b∈F1:=by
       rw [o3]
       rcases A5.1 mb with m1 | m1
       ·exact A5.2 (.inl (s5.subset m1))
       ·exact A5.2 (.inr m1)
      have:=m3 b this hb
      simp at this
     | int k i=>exact ⟨[],h1.1,yG⟩
     | bool b=>exact ⟨[],h1.1,yG⟩
     | str s=>exact ⟨[],h1.1,yG⟩
     | ifc s=>exact ⟨[],h1.1,yG⟩
     | any=>exact ⟨[],h1.1,yG⟩
     | _=>exact h1.elim
  obtain ⟨F1',s1,f⟩:=key
  refine ⟨F1'++F2',Aa s1 s2,fun m m1 m2 m3=>⟨v,vs,F1',F2',rfl,rfl,f m (fun b mb=>m1 b (by simp [mb])) m2 (fun b mb hb=>?_),g m (fun b mb=>m1 b (by simp [mb])) m2 (fun b mb hb=>?_)⟩⟩
  ·rcases A5.1 (m3 b (by simp [mb]) hb) with h | h
   ·exact h
   ·exact absurd rfl (hnd.2.2 b mb b (s2.subset h))
  ·rcases A5.1 (m3 b (by simp [mb]) hb) with h | h
   ·exact absurd rfl (hnd.2.2 b (s1.subset h) b mb)
   ·exact h
theorem ZDe [NW] {B:Nat} {n:Nat→Prop} {x y:RT} {v:Value} {F:List Nat} (h:OP w B n x v F) (e1:x.1=y.1) (hw:wkC x.2 y.2) (d:F.Nodup):∃F',F'.Sublist F∧∀m:Nat→Prop,(∀b∈F',n b→m b)→(∀b,m b→n b)→(∀b∈F,m b→b∈F')→OP w B m y v F':=by
 rcases h with ⟨h1,vs,rfl,h2⟩ | ⟨h1,ct,h2,h3⟩
 ·obtain ⟨F',s,h⟩:=ZqN h2 hw d
  exact ⟨F',s,fun m a b c=>.inl ⟨e1 ▸ h1,vs,rfl,h m a b c⟩⟩
 ·obtain ⟨F',s,h⟩:=ZqN (r:=x.2) (vs:=[v]) (F:=F) (by rw [h2];exact ⟨v,[],F,[],rfl,yG,h3,rfl,rfl⟩) hw d
  refine ⟨F',s,fun m p1 p2 p3=>.inr ⟨e1 ▸ h1,?_⟩⟩
  have h4:=h m p1 p2 p3
  generalize y.2=l at h4 hw
  cases l with
  | nil=>rw [h2] at hw;exact hw.elim
  | cons c l=>
   cases l with
   | nil=>
    obtain ⟨v',vs',F1,F2,q1,rfl,q3,q4⟩:=h4
    simp only[AQ] at q1
    obtain ⟨rfl,rfl⟩:=q1
    obtain ⟨_,rfl⟩:=q4
    exact ⟨c,rfl,by simpa using q3⟩
   | cons _ _=>
    rw [h2] at hw
    have hw:wk1 _ _ False:=hw
    unfold wk1 at hw
    split at hw
    ·exact hw.elim
    ·exact hw.2.2.elim
theorem ZxM [NW] {B:Nat} {n:Nat→Prop}:∀{r a:List RT} {vs:List Value} {F:List Nat},OPs w B n r vs F→wkR r a→F.Nodup→∃F',F'.Sublist F∧∀m:Nat→Prop,(∀b∈F',n b→m b)→(∀b,m b→n b)→(∀b∈F,m b→b∈F')→OPs w B m a vs F'
 | [],[],vs,F,h,_,_=>⟨[],yG,fun m _ _ _=>⟨h.1,rfl⟩⟩
 | [],_::_,_,_,_,h,_=>h.elim
 | _::_,[],_,_,_,h,_=>h.elim
 | x::r,y::a,_,_,⟨v,vs,F1,F2,rfl,rfl,h1,h2⟩,⟨e1,e2,hw⟩,hnd=>by
  rw [AO] at hnd
  obtain ⟨F2',s2,c⟩:=ZxM h2 hw hnd.2.1
  obtain ⟨F1',s1,d⟩:=ZDe h1 e1 e2 hnd.1
  refine ⟨F1'++F2',Aa s1 s2,fun m m1 m2 m3=>⟨v,vs,F1',F2',rfl,rfl,d m (fun b mb=>m1 b (by simp [mb])) m2 (fun b mb hb=>?_),c m (fun b mb=>m1 b (by simp [mb])) m2 (fun b mb hb=>?_)⟩⟩
  ·rcases A5.1 (m3 b (by simp [mb]) hb) with h | h
   ·exact h
   ·exact absurd rfl (hnd.2.2 b mb b (s2.subset h))
  ·rcases A5.1 (m3 b (by simp [mb]) hb) with h | h
   ·exact absurd rfl (hnd.2.2 b (s1.subset h) b mb)
   ·exact h
def ZfZ (tmps:Array Value):ResultVar→Sem Value
 | .tmp t=>pure (tmps.getD t undef)
 | .cell b t=>do loadVar t (←asAddr (tmps.getD b undef))
theorem ZiZ (fn:Func) (a:Array Value):results fn a=(do let vs ←fn.results.mapM (ZfZ a);pure (if h:vs.size=1 then vs[0] else .tuple vs)):=by
 unfold results
 congr 1
theorem ZmR [NW] (htt:∀t i,tt t=some i→TOk P t i) (hI:HI W g st.ob w) (hS:∀t,SVR g w (st.sl t) (a.tmps.getD t undef)) (hU:StU U st) (hK:∀k,K k→ZkR (st.ob k)=false∧∀e m xs d,st.ob k=.row e m xs d→d=2):∀{rs:List ResultVar} {j:List RT} {ks:List Nat},Zc3 tt st rs=some (j,ks)→(∀k∈ks,K k∧∀b∈g.O k++g.D k,W.heap.size≤b)→
  ∃vs:List Value,(rs.mapM (ZfZ a.tmps)).run P w=.ok vs w∧OPs w W.heap.size (nK g K) j vs (g.F ks)
 | [],j,ks,h,_=>by
  simp only[Zc3,A0,A3] at h
  obtain ⟨rfl,rfl⟩:=h
  exact ⟨[],yG,rfl,by simp [Gh.F]⟩
 | .tmp t::r,j,ks,h,hks=>by
  simp only[Zc3] at h
  split at h
  ·rename_i ag cs f
   obtain ⟨⟨c1,k1⟩,h1,h⟩:=A9.1 h
   obtain ⟨⟨c2,k2⟩,h2,h⟩:=A8.1 h
   simp only[A3] at h
   obtain ⟨rfl,rfl⟩:=h
   obtain ⟨vs,i1,i2⟩:=ZmR htt hI hS hU hK h2 (fun k mk=>hks k (by simp [mk]))
   have hs:=hS t
   rw [f] at hs
   refine ⟨a.tmps.getD t undef::vs,?_,_,vs,g.F k1,g.F k2,rfl,by simp [Gh.F],Zr7 hI hK h1 (fun k mk=>hks k (by simp [mk])) hs,i2⟩
   simp only[Al,ZfZ,Sem.run_bind,Sem.run_pure,Result.andThen_ok,i1]
  ·simp at h
 | .cell t ty::r,j,ks,h,hks=>by
  simp only[Zc3] at h
  split at h
  ·rename_i ag cs f
   obtain ⟨⟨c1,k1⟩,h1,h⟩:=A9.1 h
   obtain ⟨⟨c2,k2⟩,h2,h⟩:=A8.1 h
   simp only[A3] at h
   obtain ⟨rfl,rfl⟩:=h
   obtain ⟨vs,i1,i2⟩:=ZmR htt hI hS hU hK h2 (fun k mk=>hks k (by simp [mk]))
   obtain ⟨cv,l1,l2,_⟩:=Zu6 (P:=P) (U:=U) htt hI hU f (hS t)
   have hl:(do loadVar ty (←asAddr (a.tmps.getD t undef)):Sem Value).run P w=.ok cv w:=by
    have:∃b,a.tmps.getD t undef=.pointer (some b):=by
     have hs:=hS t
     cases hsl':st.sl t with
     | bp k off=>rw [hsl'] at hs;obtain ⟨b,_,hv⟩:=hs;exact ⟨_,hv⟩
     | rp k m i off=>rw [hsl'] at hs;obtain ⟨b,_,_,_,_,hv⟩:=hs;exact ⟨_,hv⟩
     | ep e off=>rw [hsl'] at hs;obtain ⟨b,_,_,_,hv,_⟩:=hs;exact ⟨_,hv⟩
     | p l o=>
      rw [hsl'] at hs f
      cases l with
      | true=>simp [QZ] at f
      | false=>
       cases o with
       | nil=>simp [QZ] at f
       | cons y q=>
        cases q with
        | cons _ _=>cases y<;>first | (simp [QZ] at f;done) | (rename_i z;cases z<;>simp [QZ] at f)
        | nil=>cases y with
         | c z=>cases z with
          | pt e=>obtain ⟨b,_,_,hv,_⟩:=Zu3 hs;exact ⟨_,hv⟩
          | _=>simp [QZ] at f
         | _=>simp [QZ] at f
     | _=>rw [hsl'] at f;simp [QZ] at f
    obtain ⟨b,hb⟩:=this
    rw [hb] at l1 ⊢
    simpa [Instr.loadAt,Instr.sureAddr,asAddr] using l1
   refine ⟨cv::vs,?_,_,vs,g.F k1,g.F k2,rfl,by simp [Gh.F],Zr7 hI hK h1 (fun k mk=>hks k (by simp [mk])) l2,i2⟩
   have u:(ZfZ a.tmps (.cell t ty)).run P w=.ok cv w:=hl
   simp only[Al,Sem.run_bind,u,i1,Sem.run_pure,Result.andThen_ok]
  ·simp at h
theorem Ztr:∀{xs:List AV} {cts:List (Bool × CT)} {ks:List Nat},Zdc st xs=some (cts,ks)→∀k∈ks,∃e m xs,st.ob k=.row e m xs 2
 | [],_,_,h,k,mk=>by
  simp only[Zdc,A0,A3] at h
  rw [←h.2] at mk;simp at mk
 | x::r,cts,ks,h,k,mk=>by
  simp only[Zdc] at h
  obtain ⟨⟨c1,k1⟩,h1,h⟩:=A9.1 h
  obtain ⟨⟨c2,k2⟩,h2,h⟩:=A8.1 h
  simp only[A3] at h
  obtain ⟨rfl,rfl⟩:=h
  rcases A5.1 mk with mk | mk
  ·cases x with
   | c y=>cases y<;>simp only[ZfT,A0,A3] at h1<;>(rw [←h1.2] at mk;simp at mk)
   | row j=>
    simp only[ZfT] at h1
    split at h1
    ·rename_i e m xs d hk
     split at h1
     ·rename_i hd
      simp only[A0,A3] at h1
      rw [←h1.2] at mk
      simp at mk
      subst mk
      exact ⟨e,m,xs,by rw [hk,hd]⟩
     ·simp only[A0,A3] at h1
      rw [←h1.2] at mk;simp at mk
    ·simp only[A0,A3] at h1
     rw [←h1.2] at mk;simp at mk
    ·simp at h1
   | nil e m=>
    simp only[ZfT] at h1
    split at h1
    ·simp only[A0,A3] at h1
     rw [←h1.2] at mk;simp at mk
    ·simp at h1
   | n y=>
    simp only[ZfT,A0,A3] at h1
    rw [←h1.2] at mk;simp at mk
   | dead=>
    simp only[ZfT,A0,A3] at h1
    rw [←h1.2] at mk;simp at mk
  ·exact Ztr h2 k mk
theorem Zl3 [NW]:∀{rs:List ResultVar} {a:List RT} {ks:List Nat},Zc3 tt st rs=some (a,ks)→∀k∈ks,∃e m xs,st.ob k=.row e m xs 2
 | [],_,_,h,k,mk=>by
  simp only[Zc3,A0,A3] at h
  rw [←h.2] at mk;simp at mk
 | .tmp t::r,a,ks,h,k,mk=>by
  simp only[Zc3] at h
  split at h
  ·obtain ⟨⟨c1,k1⟩,h1,h⟩:=A9.1 h
   obtain ⟨⟨c2,k2⟩,h2,h⟩:=A8.1 h
   simp only[A3] at h
   obtain ⟨rfl,rfl⟩:=h
   rcases A5.1 mk with mk | mk
   ·exact Ztr h1 k mk
   ·exact Zl3 h2 k mk
  ·simp at h
 | .cell t ty::r,a,ks,h,k,mk=>by
  simp only[Zc3] at h
  split at h
  ·obtain ⟨⟨c1,k1⟩,h1,h⟩:=A9.1 h
   obtain ⟨⟨c2,k2⟩,h2,h⟩:=A8.1 h
   simp only[A3] at h
   obtain ⟨rfl,rfl⟩:=h
   rcases A5.1 mk with mk | mk
   ·exact Ztr h1 k mk
   ·exact Zl3 h2 k mk
  ·simp at h
theorem Zu4 [NW] {x:CT} {v:Value} {L:List Nat} (h:RC w x v L) (hL:∀b∈L,¬g.own b):AVR g w (Zjj x) v:=by
 cases x with
 | nl e m=>exact h.1
 | _=>exact ⟨L,h,hL⟩
theorem ZsY [NW]:∀{e:List CT} {cs:List Value} {L:List Nat},RCs w e cs L→(∀b∈L,¬g.own b)→ZM (AVR g w) (e.map Zjj) cs
 | [],_,_,⟨h1,h2⟩,_=>by subst h1;trivial
 | x::r,_,_,⟨v,cs,L1,L2,h1,h2,h3,h4⟩,hL=>by
  subst h1 h2
  exact ⟨Zu4 h3 fun b m=>hL b (by simp [m]),ZsY h4 fun b m=>hL b (by simp [m])⟩
theorem Znq [NW] {z:Nat→Prop} {x:Bool × List CT} {v:Value} (hg:∀b,g.own b→z b) (h:ZnX w z x v):SVR g w (.p x.1 (x.2.map Zjj)) v:=by
 rcases h with ⟨h1,vs,L,rfl,h2,h4⟩ | ⟨h1,ct,L,h2,h3,h4⟩
 ·rw [h1];exact ⟨vs,rfl,ZsY h2 fun b mb hb=>h4 b mb (hg b hb)⟩
 ·rw [h1,h2];exact ⟨_,rfl,Zu4 h3 fun b mb hb=>h4 b mb (hg b hb)⟩
theorem Zmw (e:List CT):QW U (e.map Zjj):=fun y m=>by
 obtain ⟨x,_,rfl⟩:=A7.1 m
 cases x<;>trivial
theorem Zxd [NW] (htt:∀t i,tt t=some i→TOk P t i) {fn:Func} {f:List RT} (hI:Inv W U st a w) (hH:HI W g st.ob w) (hS:∀t,SVR g w (st.sl t) (a.tmps.getD t undef)) {r:List RT} {ks:List Nat} (hx:Zc3 tt st fn.results.toList=some (r,ks)) (j:ks.Nodup) (hw:wkR r f)
  (hB:∀k∈ks,∀b∈g.O k++g.D k,W.heap.size≤b) (K0:Nat→Prop) (l:∀k,K0 k→ZkR (st.ob k)=false∧∀e m xs d,st.ob k=.row e m xs d→d=2):
  ∃v m,(results fn a.tmps).run P w=.ok v w∧ZkF w W.heap.size m f v∧(∀b,m b→g.own b)∧(∀b,m b→g.Z b∨(∃k,(k∈ks∨K0 k)∧b∈g.O k))∧∀b,b∉g.F ks→(g.Z b∨∃k,K0 k∧b∈g.O k)→m b:=by
 obtain ⟨us,r1,r2⟩:=ZmR (K:=fun k=>k∈ks∨K0 k) htt hH hS hI.wf (fun k hk=>by
  rcases hk with hk | hk
  ·obtain ⟨e',m',o,h'⟩:=Zl3 hx k hk
   refine ⟨by rw [h'];rfl,fun e m xs d he=>?_⟩
   rw [he] at h'
   simp only[Ob.row.injEq] at h'
   exact h'.2.2.2
  ·exact l k hk) hx (fun k mk=>⟨.inl mk,hB k mk⟩)
 have c:=hH.nodupF j
 obtain ⟨F',s,hF⟩:=ZxM r2 hw c
 have p:∀b∈g.F ks,W.heap.size≤b:=fun b mb=>by
  obtain ⟨k,hk,mk⟩:=ZkZ mb
  exact hB k hk b mk
 refine ⟨(if h:us.toArray.size=1 then us.toArray[0] else .tuple us.toArray),fun b=>nK g (fun k=>k∈ks∨K0 k) b∧(b∈g.F ks→b∈F'),?_,⟨us,F',hF _ (fun b mb hb=>⟨hb,fun _=>mb⟩) (fun b hb=>hb.1) (fun b mb hb=>hb.2 mb),⟨c.sublist s,fun b mb=>p b (s.subset mb),fun b mb=>?_⟩,rfl⟩,fun b hb=>?_,fun b hb=>hb.1,fun b hb hn=>⟨?_,fun mb=>absurd mb hb⟩⟩
 ·rw [ZiZ]
  have e:fn.results.mapM (ZfZ a.tmps)=Ad <$> fn.results.toList.mapM (ZfZ a.tmps):=by
   rw [←List.mapM_toArray]
  have e2:(Ad <$> fn.results.toList.mapM (ZfZ a.tmps)).run P w=.ok us.toArray w:=by
   rw [map_eq_pure_bind]
   simp only[Sem.run_bind,r1,Result.andThen_ok,Sem.run_pure]
  rw [e]
  simp only[Sem.run_bind,e2,Result.andThen_ok,Sem.run_pure]
 ·obtain ⟨k,hk,mk⟩:=ZkZ (s.subset mb)
  obtain ⟨e',m',o,h'⟩:=Zl3 hx k hk
  have:=(hH.plain k b mk).2
  rw [h'] at this
  exact this
 ·rcases hb.1 with hz | ⟨k,_,mk⟩
  ·exact .inr hz
  ·exact .inl ⟨k,mk⟩
 ·rcases hn with hz | ⟨k,hk,mk⟩
  ·exact .inl hz
  ·exact .inr ⟨k,.inr hk,mk⟩
theorem Zru [NW] {g':Gh} (hv:∀k e m xs,st.ob k=.row e m xs 2→g'.val k=g.val k∧U k) {x:AV} {v:Value} (h:AVR g w x v):AVR g' w (ZjS st x) v∧avU U (ZjS st x):=by
 have one:=h.one
 unfold ZjS
 split
 ·obtain ⟨L,⟨h1,_⟩,_⟩:=h
  exact ⟨⟨[],⟨h1,rfl⟩,yG⟩,trivial⟩
 ·obtain ⟨L,⟨h1,_⟩,_⟩:=h
  exact ⟨⟨[],⟨h1,rfl⟩,yG⟩,trivial⟩
 ·obtain ⟨L,⟨h1,_,h3⟩,_⟩:=h
  exact ⟨⟨[],⟨h1,rfl,h3⟩,yG⟩,trivial⟩
 ·rename_i k
  cases hk:st.ob k with
  | row e m xs d=>
   simp only[Zus]
   split
   ·rename_i hd
    subst hd
    obtain ⟨e1,e2⟩:=hv k e m xs hk
    exact ⟨⟨h.1.trans e1.symm,one⟩,e2⟩
   ·exact ⟨one,trivial⟩
  | gone=>exact ⟨one,trivial⟩
  | box _ _=>exact ⟨one,trivial⟩
  | map _ _ _=>exact ⟨one,trivial⟩
 ·exact ⟨one,trivial⟩
theorem Zkv [NW] {g':Gh} (hv:∀k e m xs,st.ob k=.row e m xs 2→g'.val k=g.val k∧U k):∀{cs:List AV} {vs:List Value},ZM (AVR g w) cs vs→ZM (AVR g' w) (cs.map (ZjS st)) vs
 | [],[],_=>trivial
 | _::_,_::_,h=>⟨(Zru hv h.1).1,Zkv hv h.2⟩
 | [],_::_,h=>h.elim
 | _::_,[],h=>h.elim
theorem ZxQ [NW] {x:SV} {v:Value} {g':Gh} (hv:∀k e m xs,st.ob k=.row e m xs 2→g'.val k=g.val k∧U k) (hu:svU U x) (a:∀k,U k→g'.val k=g.val k) (h:SVR g w x v):SVR g' w (ZoV st x) v:=by
 cases x with
 | p ag cs=>
  cases ag with
  | true=>obtain ⟨vs,e,h⟩:=h;exact ⟨vs,e,Zkv hv h⟩
  | false=>obtain ⟨y,rfl,h⟩:=h;exact ⟨_,rfl,(Zru hv h).1⟩
 | bp k off=>obtain ⟨b,h1,h2⟩:=h;exact ⟨b,(a k hu).trans h1,h2⟩
 | _=>trivial
theorem ZuH (hv:∀k e m xs,st.ob k=.row e m xs 2→U k) (x:AV):avU U (ZjS st x):=by
 unfold ZjS
 split
 ·trivial
 ·trivial
 ·trivial
 ·rename_i k
  cases hk:st.ob k with
  | row e m xs d=>
   simp only[Zus]
   split
   ·rename_i hd
    subst hd
    exact hv k e m xs hk
   ·trivial
  | gone=>trivial
  | box _ _=>trivial
  | map _ _ _=>trivial
 ·trivial
theorem ZyO (hv:∀k e m xs,st.ob k=.row e m xs 2→U k) (x:SV) (hu:svU U x):svU U (ZoV st x):=by
 cases x with
 | p ag cs=>
  intro y my
  obtain ⟨x,mx,rfl⟩:=A7.1 my
  exact ZuH hv x
 | bp k off=>exact hu
 | _=>trivial
theorem ZnB {o:Ob} (h:ZaX st o≠.gone):(∃e m xs,o=.row e m xs 2)∨∃t cs,o=.box t cs:=by
 cases o with
 | row e m xs d=>
  simp only[ZaX] at h
  split at h
  ·rename_i hd
   subst hd
   exact .inl ⟨e,m,xs,rfl⟩
  ·exact absurd rfl h
 | gone=>exact absurd rfl h
 | box t cs=>exact .inr ⟨t,cs,rfl⟩
 | map _ _ _=>exact absurd rfl h
theorem Zxg [NW] (hB:W.heap.size≤NW.B0) (t:Nat) (hI:Inv W U st a w) (B:∀k,st.n≤k→¬U k):∃U',Inv W U' (st.thaw t) a w:=by
 obtain ⟨⟨g,hH,hS⟩,hU,d,hh⟩:=hI
 unfold St.thaw
 cases hv:st.sl t with
 | p ag cs=>
  by_cases hc:∃e m xs,ag=false∧cs=[.n (.sl e m xs)]
  ·obtain ⟨e,m,xs,rfl,rfl⟩:=hc
   have hs:=hS t
   rw [hv] at hs
   obtain ⟨_,_,_,cs,L,h1,h2,h3,h4,h5,h6⟩:=ZFF hs
   simp only[CT.sl.injEq] at h1
   obtain ⟨rfl,rfl,rfl⟩:=h1
   let v:=a.tmps.getD t undef
   have hn:st.ob st.n=.gone:=hU.gone _ (B _ (AC _))
   have c:∀k e m xs,st.ob k=.row e m xs 2→k≠st.n∧U k:=fun k e m xs hk=>⟨fun e=>by rw [e,hn] at hk;simp at hk,Classical.byContradiction fun h=>by rw [hU.gone k h] at hk;simp at hk⟩
   let g':Gh:=⟨fun k=>if k=st.n then v else g.val k,fun k=>if k=st.n then v.ownBlock.toList else (match ZaX st (st.ob k) with | .gone=>[] | _=>g.O k),fun k=>if k=st.n then L else (match ZaX st (st.ob k) with | .gone=>[] | _=>g.D k),g.Z⟩
   have gn:g'.val st.n=v∧g'.O st.n=v.ownBlock.toList∧g'.D st.n=L:=⟨if_pos rfl,if_pos rfl,if_pos rfl⟩
   have gk:∀k,k≠st.n→ZaX st (st.ob k)≠.gone→g'.O k=g.O k∧g'.D k=g.D k:=fun k hk ho=>by
    rcases ZnB ho with ⟨e',m',f,e1⟩ | ⟨t',i,e1⟩
    ·simp [g',if_neg hk,e1,ZaX]
    ·simp [g',if_neg hk,e1,ZaX]
   have gg:∀k,k≠st.n→ZaX st (st.ob k)=.gone→g'.O k=[]∧g'.D k=[]:=fun k hk ho=>by
    simp only[g',if_neg hk,ho]
    exact ⟨trivial,trivial⟩
   have o:∀k b,b∈g'.O k++g'.D k→(k=st.n∧b∈v.ownBlock.toList++L)∨(k≠st.n∧ZaX st (st.ob k)≠.gone∧b∈g.O k++g.D k):=fun k b mb=>by
    by_cases hk:k=st.n
    ·subst hk;rw [gn.2.1,gn.2.2] at mb;exact .inl ⟨rfl,mb⟩
    ·by_cases ho:ZaX st (st.ob k)=.gone
     ·rw [(gg k hk ho).1,(gg k hk ho).2] at mb;simp at mb
     ·rw [(gk k hk ho).1,(gk k hk ho).2] at mb;exact .inr ⟨hk,ho,mb⟩
   have z:∀k b,b∈g.O k++g.D k→g.low b:=fun k b mb=>by
    rcases A5.1 mb with m1 | m1
    ·exact .inl (.inl ⟨k,m1⟩)
    ·exact .inr ⟨k,m1⟩
   refine ⟨fun k=>U k∨k=st.n,⟨g',⟨hH.below,fun k=>?_,fun k=>?_,fun k j C b mb mj=>?_,fun k b mb=>?_,hH.gz,hH.zx,hH.nw⟩,fun s=>?_⟩,⟨fun s=>?_,fun k=>?_,fun k hk=>?_⟩,d,hh⟩
   ·show ObR g' w k (if k=st.n then .row e m xs 2 else ZaX st (st.ob k))
    by_cases hk:k=st.n
    ·subst hk
     rw [if_pos rfl]
     exact ⟨h2,cs,L,by rw [gn.1];exact h3,h4,.inl ⟨rfl,by rw [gn.2.1,gn.1],gn.2.2⟩⟩
    ·rw [if_neg hk]
     by_cases ho:ZaX st (st.ob k)=.gone
     ·rw [ho];exact gg k hk ho
     ·have u:=hH.obs k
      have ev:g'.val k=g.val k:=if_neg hk
      obtain ⟨eO,eD⟩:=gk k hk ho
      rcases ZnB ho with ⟨e',m',f,e1⟩ | ⟨t',i,e1⟩
      ·rw [e1] at u ⊢
       obtain ⟨p1,i,L',p2,p3,p4⟩:=u
       rw [show ZaX st (.row e' m' f 2)=.row e' m' f 2 from by simp [ZaX]]
       refine ⟨p1,i,L',by rw [ev];exact p2,p3,?_⟩
       rw [ev,eO,eD]
       rcases p4 with p4 | ⟨q,_⟩ | ⟨q,_⟩
       ·exact .inl p4
       ·omega
       ·omega
      ·rw [e1] at u ⊢
       obtain ⟨b,vs,p1,p2,p3,p4,p5⟩:=u
       exact ⟨b,vs,ev.trans p1,eO.trans p2,eD.trans p3,p4,Zkv (U:=U) (fun k e m xs hk=>⟨if_neg (c k e m xs hk).1,(c k e m xs hk).2⟩) p5⟩
   ·by_cases hk:k=st.n
    ·subst hk;rw [gn.2.1,gn.2.2];exact h5
    ·by_cases ho:ZaX st (st.ob k)=.gone
     ·rw [(gg k hk ho).1,(gg k hk ho).2];simp
     ·rw [(gk k hk ho).1,(gk k hk ho).2];exact hH.nodup k
   ·rcases o k b mb with ⟨rfl,m1⟩ | ⟨k1,k2,m1⟩
    ·rcases o j b mj with ⟨rfl,m2⟩ | ⟨j1,j2,m2⟩
     ·exact C rfl
     ·exact (h6 b m1).1 (z j b m2)
    ·rcases o j b mj with ⟨rfl,m2⟩ | ⟨j1,j2,m2⟩
     ·exact (h6 b m2).1 (z k b m1)
     ·exact hH.apart k j C b m1 m2
   ·show _∧Qf w (if k=st.n then .row e m xs 2 else ZaX st (st.ob k)) b
    rcases o k b mb with ⟨rfl,m1⟩ | ⟨k1,k2,m1⟩
    ·rw [if_pos rfl]
     exact ⟨.inl (Nat.le_trans hB (h6 b m1).2.1),(h6 b m1).2.2⟩
    ·obtain ⟨q1,q2⟩:=hH.plain k b m1
     rw [if_neg k1]
     refine ⟨q1,q2.of ?_⟩
     rcases ZnB k2 with ⟨e',m',f,e1⟩ | ⟨t',i,e1⟩
     ·rw [e1];rfl
     ·rw [e1];rfl
   ·show SVR g' w (if s=t then .p false [.row st.n] else ZoV st (st.sl s)) _
    by_cases l:s=t
    ·subst l
     rw [if_pos rfl]
     obtain ⟨A,cap,E⟩:=Zdl h3
     exact ⟨_,rfl,gn.1.symm,by rw [E];rfl⟩
    ·rw [if_neg l]
     exact ZxQ (U:=U) (fun k e m xs hk=>⟨if_neg (c k e m xs hk).1,(c k e m xs hk).2⟩) (hU.sl s) (fun k hk=>if_neg fun e=>B k yE hk) (hS s)
   ·show svU _ (if s=t then .p false [.row st.n] else ZoV st (st.sl s))
    by_cases l:s=t
    ·rw [if_pos l];intro y my;simp at my;subst my;exact .inr rfl
    ·rw [if_neg l];exact ZyO (fun k e m xs hk=>.inl (c k e m xs hk).2) _ ((hU.sl s).mono fun _=>.inl)
   ·show obU _ (if k=st.n then .row e m xs 2 else ZaX st (st.ob k))
    split
    ·trivial
    ·cases hk:st.ob k with
     | row e' m' f d'=>simp only[ZaX];split<;>trivial
     | box t' i=>
      intro y my
      obtain ⟨x,mx,rfl⟩:=A7.1 my
      exact ZuH (fun k e m xs hk=>.inl (c k e m xs hk).2) x
     | _=>trivial
   ·show (if k=st.n then .row e m xs 2 else ZaX st (st.ob k))=.gone
    rw [if_neg fun e=>hk (.inr e),hU.gone k fun h=>hk (.inl h)]
    rfl
  ·have e:ZrO st t (.p ag cs)=st:=by
    unfold ZrO
    split
    ·rename_i h
     simp only[SV.p.injEq] at h
     exact absurd ⟨_,_,_,h.1,h.2⟩ hc
    ·rfl
   rw [e]
   exact ⟨U,⟨g,hH,hS⟩,hU,d,hh⟩
 | _=>exact ⟨U,⟨g,hH,hS⟩,hU,d,hh⟩
end
abbrev nw0:NW:=⟨0⟩
section
variable {P:Program} {J:World→Prop} {JF:Nat→Prop} {W:ZaK} {U:Nat→Prop} {st:St} {w w':World} {a:Act} {tt:Nat→Option TI} {od:OD} {g:Gh}
structure JOk (J:World→Prop) (JF:Nat→Prop):Prop where
 below:∀(x:Nat→Prop) (w w':World),J w→(∀b,x b→JF b)→w'.os=w.os→w'.tape=w.tape→w'.output=w.output→w.heap.size≤w'.heap.size→(∀k,k<w.heap.size→¬x k→w'.heap[k]?=w.heap[k]?)→J w'
 new:∀(w:World) b,J w→w.heap.size≤b→JF b
theorem Znc {args:List (Bool × List CT)} {vs:List Value} {N t o:Nat} (h:vs.length≤N) (v:Value) (hv:vs[t]?=some v):(vs.toArray++AF (N - vs.toArray.size) undef).getD t undef=v:=by
 have hl:t<vs.length:=(AE.1 hv).1
 simp only[AB,Am,An,hl,if_true,List.getElem?_toArray,hv,AZ]
theorem ZnE {vs:List Value} {N t:Nat} (ht:vs.length≤t):(vs.toArray++AF (N - vs.toArray.size) undef).getD t undef=undef:=by
 simp only[AB,Am,An,show ¬t<vs.length by omega,if_false,Array.getElem?_replicate]
 split<;>rfl
theorem ZwK (htt : ∀ t i, tt t = some i → TOk P t i) (hJ : JOk J JF) (hmix : P.follows .mixedOrders = true) {hds : FuncId → Nat} {f : FuncId} {fn : Func} {c : Code} {args : List (Bool × List CT)} {res : List RT} (hf : P.funcs[f]? = some fn) (hname : (fn.name == "runtime.NumGoroutine") = false) (hb : fn.body = some c)
  (hok:X7 od tt hds false fn.ntmps c=true) (hlen:Nat.ble args.length fn.ntmps=true) (h:fnS od tt (SC P J JF hds) fn.results.toList c args res):Zm P J f args res:=by
 letI:NW:=nw0
 refine ⟨⟨fn,hf,hname,by rw [hb];rfl⟩,fun w z vs hj hz hargs=>?_⟩
 have hlen':args.length≤fn.ntmps:=AA hlen
 have hvl:=hargs.len
 refine calls_of_wp hf hb ?_
 let W:ZaK:={ w with z:=z,x:=fun _=>False,hv:=none }
 let g0:Gh:=⟨fun _=>undef,fun _=>[],fun _=>[],z⟩
 have hg0:∀b,g0.own b→z b:=fun b hb=>by
  rcases hb with ⟨k,m⟩ | h
  ·simp [g0] at m
  ·exact h
 have hI0:Inv W (fun _=>False) (Zo args) { tmps:=vs.toArray++AF (fn.ntmps - vs.toArray.size) undef,defers:=[] } w:=by
  refine ⟨⟨g0,⟨⟨rfl,rfl,rfl,AC _,fun _ _ _=>rfl⟩,fun k=>⟨rfl,rfl⟩,fun k=>by simp [g0],fun k j _ b m=>by simp [g0] at m,fun k b m=>by simp [g0] at m,rfl,fun b hb=>⟨hz b hb,fun h=>h⟩,fun _ _=>Nat.zero_le _⟩,fun t=>?_⟩,⟨fun t=>?_,fun k=>trivial,fun k _=>rfl⟩,rfl,fun v hv=>by simp [W] at hv⟩
  ·show SVR g0 w (match args[t]? with | some x=>.p x.1 (x.2.map Zjj) | none=>.und) _
   cases ht:args[t]? with
   | none=>exact ZnE (by have:args.length≤t:=(by simpa using ht);omega)
   | some x=>
    obtain ⟨v,hv,hr⟩:=hargs.at ht
    show SVR g0 w (.p x.1 (x.2.map Zjj)) ((vs.toArray++AF (fn.ntmps - vs.toArray.size) undef).getD t undef)
    rw [Znc (args:=args) (o:=0) yE v hv]
    exact Znq hg0 hr
  ·show svU _ (match args[t]? with | some x=>.p x.1 (x.2.map Zjj) | none=>.und)
   split
   ·exact Zmw _
   ·trivial
 have hM:MOk P J JF W tt:=⟨htt,fun w' hb=>hJ.below (fun _=>False) w w' hj (fun _ h=>h.elim) hb.os hb.tape hb.output hb.size (fun k hk hx=>hb.block k hk hx),fun b hb=>hJ.new w b hj hb,fun b h=>h.elim⟩
 refine ZaD (W:=W) hM hmix (.inl rfl) c hok (ZvT tt fn.results.toList fun _ r _=>wkR r res) _ ?_ _ (Zo args) _ w hI0 (fun _ _ h=>h) (by simp;omega) h
 intro ex U' st' a' w' hI' _ _ hK
 have fin:(match Zc3 tt st' fn.results.toList with | some x=>x.2.Nodup∧wkR x.1 res | none=>False)→a'.defers=[]∧∃v,(results fn a'.tmps).run P w'=.ok v w'∧∃u n,Ending.returned v=.returned u∧ZkF w' w.heap.size n res u∧(∀b,z b→n b)∧Below w.heap.size w w':=fun hK=>by
  split at hK
  ·rename_i x hx
   obtain ⟨r,ks⟩:=x
   obtain ⟨hnd,hw⟩:=hK
   obtain ⟨g,hH,hS⟩:=hI'.ex
   have hBg:∀k∈ks,∀b∈g.O k++g.D k,W.heap.size≤b:=fun k _ b mb=>(hH.plain k b mb).1.resolve_right fun h=>h
   obtain ⟨v,m,e1,e2,_,_,e4⟩:=Zxd htt hI' hH hS hx hnd hw hBg (fun _=>False) (fun _ h=>h.elim)
   have hbel:=hH.below
   exact ⟨hI'.defers,v,e1,v,m,rfl,e2,fun b hb=>e4 b (fun mb=>by obtain ⟨k,hk,mk⟩:=ZkZ mb;have:=hBg k hk b mk;have:=hz b hb;have e:W.heap.size=w.heap.size:=rfl;omega) (.inl (by rw [hH.gz];exact hb)),hbel.os,hbel.tape,hbel.output,hbel.size,fun k hk=>hbel.block k hk fun h=>h⟩
  ·exact hK.elim
 cases ex with
 | normal=>exact fin hK
 | exit id=>exact hK.elim
 | ret=>exact fin hK
theorem Zwj (htt : ∀ t i, tt t = some i → TOk P t i) (hJ : JOk J JF) (hmix : P.follows .mixedOrders = true) {hds : FuncId → Nat} {f : FuncId} {fn : Func} {c : Code} {args : List (Bool × List CT)} {res : List RT} (hf : P.funcs[f]? = some fn) (hname : (fn.name == "runtime.NumGoroutine") = false) (hb : fn.body = some c)
  (hok:X7 od tt hds false fn.ntmps c=true) (hlen:Nat.ble args.length fn.ntmps=true) (t0:Nat) (h:fnN od tt (SC P J JF hds) fn.results.toList t0 c args res):Zm P J f args res:=by
 refine ⟨⟨fn,hf,hname,by rw [hb];rfl⟩,fun w z vs hj hz hargs=>?_⟩
 letI:NW:=⟨w.heap.size⟩
 have hlen':args.length≤fn.ntmps:=AA hlen
 have hvl:=hargs.len
 refine calls_of_wp hf hb ?_
 let W:ZaK:={ w with z:=z,x:=fun _=>False,hv:=none }
 let g0:Gh:=⟨fun _=>undef,fun _=>[],fun _=>[],z⟩
 have hg0:∀b,g0.own b→z b:=fun b hb=>by
  rcases hb with ⟨k,m⟩ | h
  ·simp [g0] at m
  ·exact h
 have hI0:Inv W (fun _=>False) (Zo args) { tmps:=vs.toArray++AF (fn.ntmps - vs.toArray.size) undef,defers:=[] } w:=by
  refine ⟨⟨g0,⟨⟨rfl,rfl,rfl,AC _,fun _ _ _=>rfl⟩,fun k=>⟨rfl,rfl⟩,fun k=>by simp [g0],fun k j _ b m=>by simp [g0] at m,fun k b m=>by simp [g0] at m,rfl,fun b hb=>⟨hz b hb,fun h=>h⟩,fun b hb=>hb.elim (fun h=>h) fun h=>h.elim⟩,fun t=>?_⟩,⟨fun t=>?_,fun k=>trivial,fun k _=>rfl⟩,rfl,fun v hv=>by simp [W] at hv⟩
  ·show SVR g0 w (match args[t]? with | some x=>.p x.1 (x.2.map Zjj) | none=>.und) _
   cases ht:args[t]? with
   | none=>exact ZnE (by have:args.length≤t:=(by simpa using ht);omega)
   | some x=>
    obtain ⟨v,hv,hr⟩:=hargs.at ht
    show SVR g0 w (.p x.1 (x.2.map Zjj)) ((vs.toArray++AF (fn.ntmps - vs.toArray.size) undef).getD t undef)
    rw [Znc (args:=args) (o:=0) yE v hv]
    exact Znq hg0 hr
  ·show svU _ (match args[t]? with | some x=>.p x.1 (x.2.map Zjj) | none=>.und)
   split
   ·exact Zmw _
   ·trivial
 have hM:MOk P J JF W tt:=⟨htt,fun w' hb=>hJ.below (fun _=>False) w w' hj (fun _ h=>h.elim) hb.os hb.tape hb.output hb.size (fun k hk hx=>hb.block k hk hx),fun b hb=>hJ.new w b hj hb,fun b h=>h.elim⟩
 refine ZaD (W:=W) hM hmix (.inl rfl) c hok (Zzu t0 (ZvT tt fn.results.toList fun _ r _=>wkR r res)) _ ?_ _ (Zo args) _ w hI0 (fun _ _ h=>h) (by simp;omega) h
 intro ex U1 st1 a' w' hI1 hn1 _ hK
 obtain ⟨U',hI'⟩:=Zxg (AC _) t0 hI1 hn1
 generalize hst:st1.thaw t0=st' at hI'
 simp only[Zzu,hst] at hK
 have fin:(match Zc3 tt st' fn.results.toList with | some x=>x.2.Nodup∧wkR x.1 res | none=>False)→a'.defers=[]∧∃v,(results fn a'.tmps).run P w'=.ok v w'∧∃u n,Ending.returned v=.returned u∧ZkF w' w.heap.size n res u∧(∀b,z b→n b)∧Below w.heap.size w w':=fun hK=>by
  split at hK
  ·rename_i x hx
   obtain ⟨r,ks⟩:=x
   obtain ⟨hnd,hw⟩:=hK
   obtain ⟨g,hH,hS⟩:=hI'.ex
   have hBg:∀k∈ks,∀b∈g.O k++g.D k,W.heap.size≤b:=fun k _ b mb=>(hH.plain k b mb).1.resolve_right fun h=>h
   obtain ⟨v,m,e1,e2,_,_,e4⟩:=Zxd htt hI' hH hS hx hnd hw hBg (fun _=>False) (fun _ h=>h.elim)
   have hbel:=hH.below
   exact ⟨hI'.defers,v,e1,v,m,rfl,e2,fun b hb=>e4 b (fun mb=>by obtain ⟨k,hk,mk⟩:=ZkZ mb;have:=hBg k hk b mk;have:=hz b hb;have e:W.heap.size=w.heap.size:=rfl;omega) (.inl (by rw [hH.gz];exact hb)),hbel.os,hbel.tape,hbel.output,hbel.size,fun k hk=>hbel.block k hk fun h=>h⟩
  ·exact hK.elim
 cases ex with
 | normal=>exact fin hK
 | exit id=>exact hK.elim
 | ret=>exact fin hK
theorem Zvs (htt : ∀ t i, tt t = some i → TOk P t i) (hJ : JOk J JF) (hmix : P.follows .mixedOrders = true) {hds : FuncId → Nat} {f : FuncId} {fn : Func} {c : Code} {args : List (Bool × List CT)} {nb : NB} (hf : P.funcs[f]? = some fn) (hname : (fn.name == "runtime.NumGoroutine") = false) (hb : fn.body = some c)
  (hok:X7 od tt hds false fn.ntmps c=true) (hlen:Nat.ble args.length fn.ntmps=true) (h:fnB od tt (SC P J JF hds) fn.results.toList c args nb):ZqL P J f args nb:=by
 letI:NW:=nw0
 refine ⟨⟨fn,hf,hname,by rw [hb];rfl⟩,fun w z vs hj hz hargs=>?_⟩
 have hlen':args.length≤fn.ntmps:=AA hlen
 have hvl:=hargs.len
 refine calls_of_wp hf hb ?_
 let W:ZaK:={ w with z:=z,x:=fun _=>False,hv:=none }
 let g0:Gh:=⟨fun _=>undef,fun _=>[],fun _=>[],z⟩
 have hg0:∀b,g0.own b→z b:=fun b hb=>by
  rcases hb with ⟨k,m⟩ | h
  ·simp [g0] at m
  ·exact h
 have hI0:Inv W (fun _=>False) (Zo args) { tmps:=vs.toArray++AF (fn.ntmps - vs.toArray.size) undef,defers:=[] } w:=by
  refine ⟨⟨g0,⟨⟨rfl,rfl,rfl,AC _,fun _ _ _=>rfl⟩,fun k=>⟨rfl,rfl⟩,fun k=>by simp [g0],fun k j _ b m=>by simp [g0] at m,fun k b m=>by simp [g0] at m,rfl,fun b hb=>⟨hz b hb,fun h=>h⟩,fun _ _=>Nat.zero_le _⟩,fun t=>?_⟩,⟨fun t=>?_,fun k=>trivial,fun k _=>rfl⟩,rfl,fun v hv=>by simp [W] at hv⟩
  ·show SVR g0 w (match args[t]? with | some x=>.p x.1 (x.2.map Zjj) | none=>.und) _
   cases ht:args[t]? with
   | none=>exact ZnE (by have:args.length≤t:=(by simpa using ht);omega)
   | some x=>
    obtain ⟨v,hv,hr⟩:=hargs.at ht
    show SVR g0 w (.p x.1 (x.2.map Zjj)) ((vs.toArray++AF (fn.ntmps - vs.toArray.size) undef).getD t undef)
    rw [Znc (args:=args) (o:=0) yE v hv]
    exact Znq hg0 hr
  ·show svU _ (match args[t]? with | some x=>.p x.1 (x.2.map Zjj) | none=>.und)
   split
   ·exact Zmw _
   ·trivial
 have hM:MOk P J JF W tt:=⟨htt,fun w' hb=>hJ.below (fun _=>False) w w' hj (fun _ h=>h.elim) hb.os hb.tape hb.output hb.size (fun k hk hx=>hb.block k hk hx),fun b hb=>hJ.new w b hj hb,fun b h=>h.elim⟩
 refine ZaD (W:=W) hM hmix (.inl rfl) c hok (Zzf fn.results.toList nb) _ ?_ _ (Zo args) _ w hI0 (fun _ _ h=>h) (by simp;omega) h
 intro ex U' st' a' w' hI' _ _ hK
 have fin:Zf6 st' fn.results.toList nb→a'.defers=[]∧∃v,(results fn a'.tmps).run P w'=.ok v w'∧∃(b:Nat) (n:Nat→Prop),Ending.returned v=.returned (ZpM b nb)∧w.heap.size≤b∧nbR w' n b nb∧n b∧(∀x,z x→n x)∧Below w.heap.size w w':=fun hK=>by
  unfold Zf6 at hK
  split at hK
  ·rename_i s hrs
   have er:fn.results=#[.tmp s]:=by
    have:=congrArg Ad hrs
    simpa using this
   obtain ⟨g,hH,hS⟩:=hI'.ex
   have hs:=hS s
   have hbel:=hH.below
   cases nb with
   | box t cs=>
    obtain ⟨k,ds,k1,k2,k3,k4⟩:=hK
    rw [k1] at hs
    obtain ⟨b,b1,b2⟩:=hs
    have hob:=hH.obs k
    rw [k2] at hob
    obtain ⟨b',us,o1,o2,o3,o4,o5⟩:=hob
    have hbb:b'=b:=by rw [b1] at o1;simpa using o1.symm
    subst hbb
    obtain ⟨L,hL,hL2⟩:=Zh1 hH k4 o5
    have hno:=hL2 fun y my=>by
     have:=AG.1 k3 y my
     cases y<;>simp [ZbX] at this<;>trivial
    refine ⟨hI'.defers,_,?_,b',fun x=>g.own x,rfl,(hH.plain k b' (by simp [o2])).1.resolve_right fun h=>h,⟨us,L,o4,hL,hno⟩,.inl ⟨k,by simp [o2]⟩,fun x hx=>.inr (by rw [hH.gz];exact hx),hbel.os,hbel.tape,hbel.output,hbel.size,fun k hk=>hbel.block k hk fun h=>h⟩
    rw [ZiZ,er]
    simp [ZfZ,b2,ZpM]
   | map kk vk kv=>
    obtain ⟨k,k1,k2⟩:=hK
    rw [k1] at hs
    obtain ⟨x,hx,hx3⟩:=hs
    simp only[AQ,and_true] at hx
    subst hx
    obtain ⟨hx2,_⟩:=hx3
    have hob:=hH.obs k
    rw [k2] at hob
    obtain ⟨b,es,c,o1,o2,o3,o4,o5⟩:=hob
    refine ⟨hI'.defers,_,?_,b,fun x=>g.own x,rfl,(hH.plain k b (by simp [o2])).1.resolve_right fun h=>h,⟨es,c,o4,o5⟩,.inl ⟨k,by simp [o2]⟩,fun x hx=>.inr (by rw [hH.gz];exact hx),hbel.os,hbel.tape,hbel.output,hbel.size,fun k hk=>hbel.block k hk fun h=>h⟩
    rw [ZiZ,er]
    simp [ZfZ,hx2,o1,ZpM]
  ·exact hK.elim
 cases ex with
 | normal=>exact fin hK
 | exit id=>exact hK.elim
 | ret=>exact fin hK
end
instance nwD:NW:=nw0
end
section
open Go.RowKit
def Zlc {α β:Type} (f:α→β→Bool):List α→List β→Bool
 | [],[]=>true
 | a::l,b::r=>f a b&&Zlc f l r
 | _,_=>false
theorem ZjP {α β:Type} {f:α→β→Bool} {R:α→β→Prop} (h:∀a b,f a b=true→R a b):∀{l:List α} {r:List β},Zlc f l r=true→ZM R l r
 | [],[],_=>trivial
 | a::l,b::r,hh=>by
  simp only[Zlc,A6] at hh
  exact ⟨h a b hh.1,ZjP h hh.2⟩
 | [],_::_,hh=>by simp [Zlc] at hh
 | _::_,[],hh=>by simp [Zlc] at hh
def ZwA (P:Program) (fi:FI) (f:Field):Bool:=
 f.offset==fi.off&&!(fi.size==0)&&match P.info? f.type,P.underlying f.type with
  | some j,some d=>j.size==fi.size&&(ZsK d==fi.agg)
  | _,_=>false
def ZAU:Value→Bool
 | .slice none 0 0=>true
 | _=>false
def Zv5 (P:Program):List PK→List Field→Nat→Bool
 | [],[],_=>true
 | k :: ks, f :: fs, n => (f.name != "_") && (f.offset == n) && (match P.underlying f.type with | some d => Zd8 k d | none => false) && Zv5 P ks fs (n + 1)
 | _,_,_=>false
theorem ZuU {P:Program}:∀{ks:List PK} {fs:List Field} {n:Nat},Zv5 P ks fs n=true→EqF P ks fs n
 | [],[],_,_=>trivial
 | k::ks,f::fs,n,h=>by
  simp only[Zv5,A6,bne_iff_ne,beq_iff_eq] at h
  obtain ⟨⟨⟨h1,h2⟩,h3⟩,h4⟩:=h
  split at h3
  ·rename_i d hd;exact ⟨h1,h2,⟨d,hd,h3⟩,ZuU h4⟩
  ·simp at h3
 | [],_::_,_,h=>by simp [Zv5] at h
 | _::_,[],_,h=>by simp [Zv5] at h
def ZoX:Option TypeDesc→Bool
 | some (.struct _)=>true
 | _=>false
def ZBL (P:Program) (t:TypeId) (ks:List PK):Bool:=
 Nat.ble 4000 t&&ZoX (P.underlying (t - 4000))&&!(P.stoodInHeld (t - 4000))&&!(P.eqGuardType P.depth (t - 4000))&&Zv5 P ks (P.fieldsOf (t - 4000)).toList 0
theorem ZyB {P:Program} {t:TypeId} {ks:List PK} (h:ZBL P t ks=true):TOk P t (.eqs ks):=by
 simp only[ZBL,A6,Ao] at h
 obtain ⟨⟨⟨⟨h1,h2⟩,h3⟩,h4⟩,h5⟩:=h
 refine ⟨t - 4000,?_,?_,h3,h4,ZuU h5⟩
 ·have:4000≤t:=AA h1
  exact (Nat.sub_add_cancel this).symm
 ·unfold ZoX at h2
  split at h2
  ·rename_i fs e
   unfold Program.fieldsOf
   rw [e]
  ·simp at h2
def tOk (P:Program) (t:TypeId) (ti:TI):Bool:=
 match ti with
 | .eqs ks=>ZBL P t ks
 | _=>
 match P.underlying t,P.info? t with
 | some d,some i=>match ti with
  | .atom z=>Zif d z&&i.size==1&&match i.zero with | some zv=>ZaM z zv | none=>false
  | .strct fs n z=>match d with
   | .struct fields=>i.size==n&&(match i.zero with | some (.agg zvs)=>Zlc ZaM z zvs.toList | _=>false)&&Zlc (ZwA P) fs fields.toList
   | _=>false
  | .slice e m bytes z=>match d with
   | .slice e'=>e==e'&&Nat.blt 0 m&&Nat.ble bytes 131072&&(match P.info? e with
     | some ie=>ie.size==m&&ie.bytes==bytes&&(match ie.zero with | some zv=>Zlc ZaM z zv.cells.toList | none=>false)
     | none=>false)&&z.length==m&&i.size==1&&(match i.zero with | some zv=>ZAU zv | none=>false)
   | _=>false
  | .map kk vk=>match d with
   | .map kt et=>(match P.underlying kt with | some dk=>Zd8 kk dk | none=>false)&&(match P.underlying et with | some dv=>Zd8 vk dv | none=>false)&&(match P.info? et with | some ie=>(match ie.zero with | some zv=>ZaM (Zfc vk) zv | none=>false) | none=>false)
   | _=>false
  | .ifc=>match d with
   | .interface _=>true
   | _=>false
  | .eqs _=>false
 | _,_=>false
theorem Zyj {v:Value} (h:ZAU v=true):v=.slice none 0 0:=by
 unfold ZAU at h
 split at h
 ·rfl
 ·simp at h
theorem ZzO {P:Program} {t:TypeId} {ti:TI} (h:tOk P t ti=true):TOk P t ti:=by
 unfold tOk at h
 split at h
 ·exact ZyB h
 split at h
 ·rename_i d i hd hi
  cases ti with
  | eqs ks=>simp at h
  | ifc=>
   simp only at h
   split at h
   ·exact ⟨_,hd⟩
   ·simp at h
  | map kk vk=>
   simp only at h
   split at h
   ·rename_i kt et
    simp only[A6] at h
    obtain ⟨⟨h1,h2⟩,h3⟩:=h
    split at h1
    ·rename_i dk c
     split at h2
     ·rename_i dv g
      split at h3
      ·rename_i ie b
       split at h3
       ·rename_i zv hz
        exact ⟨kt,et,dk,dv,ie,zv,hd,c,h1,g,h2,b,hz,h3⟩
       ·simp at h3
      ·simp at h3
     ·simp at h2
    ·simp at h1
   ·simp at h
  | atom z=>
   simp only[A6,beq_iff_eq] at h
   obtain ⟨⟨h1,h2⟩,h3⟩:=h
   split at h3
   ·rename_i zv hz;exact ⟨d,zv,i,hd,h1,hi,hz,h2,h3⟩
   ·simp at h3
  | strct fs n z=>
   simp only at h
   split at h
   ·rename_i a
    simp only[A6,beq_iff_eq] at h
    obtain ⟨⟨h1,h2⟩,h3⟩:=h
    split at h2
    ·rename_i zvs hz
     refine ⟨a,i,zvs,hd,hi,h1,hz,ZjP (fun _ _ h=>h) h2,ZjP (fun fi f hf=>?_) h3⟩
     unfold ZwA at hf
     simp only[A6,beq_iff_eq,Ao,beq_eq_false_iff_ne] at hf
     obtain ⟨⟨f1,f2⟩,f3⟩:=hf
     split at f3
     ·rename_i j d' hj k
      simp only[A6,beq_iff_eq] at f3
      exact ⟨f1,f2,j,d',hj,f3.1,k,f3.2⟩
     ·simp at f3
    ·simp at h2
   ·simp at h
  | slice e m bytes z=>
   simp only at h
   split at h
   ·rename_i e'
    simp only[A6,beq_iff_eq] at h
    obtain ⟨⟨⟨⟨⟨⟨h1,h2⟩,h3⟩,h4⟩,h5⟩,h6⟩,h7⟩:=h
    subst h1
    split at h4
    ·rename_i ie b
     simp only[A6,beq_iff_eq] at h4
     obtain ⟨⟨k1,k2⟩,k3⟩:=h4
     split at k3
     ·rename_i zv hz
      split at h7
      ·rename_i zv' l
       exact ⟨hd,AA h2,AA h3,⟨ie,zv,b,k1,k2,hz,ZjP (fun _ _ h=>h) k3,h5⟩,i,hi,h6,by rw [l,Zyj h7]⟩
      ·simp at h7
     ·simp at k3
    ·simp at h4
   ·simp at h
 ·simp at h
def Zx2:List (Nat × TI)→Nat→Option TI
 | [],_=>none
 | p::r,t=>if p.1=t then some p.2 else Zx2 r t
theorem Zxw {P:Program}:∀(l:List (Nat × TI)),(l.all fun p=>tOk P p.1 p.2)=true→∀t i,Zx2 l t=some i→TOk P t i
 | [],_,t,i,h=>by simp [Zx2] at h
 | p::r,ha,t,i,h=>by
  simp only[List.all_cons,A6] at ha
  simp only[Zx2] at h
  split at h
  ·rename_i e
   simp only[A0] at h
   subst h e
   exact ZzO ha.1
  ·exact Zxw r ha.2 t i h
end
section
open Go.RowKit
def ZzE (P:Program) (L:List (String × (Array Value→Prop))) (w:World):Prop:=∀x∈L,∃cs,w.var? P x.1=some cs∧x.2 cs
def ZzH (P:Program) (L:List (String × (Array Value→Prop))) (b:Nat):Prop:=∀x∈L,¬P.globalNamed x.1=some b
theorem Zyc (P:Program) (L:List (String × (Array Value→Prop))):JOk (ZzE P L) (ZzH P L) where
 below:=fun x w w' hj hx _ _ _ hs hb y my=>by
  obtain ⟨cs,h1,h2⟩:=hj y my
  refine ⟨cs,?_,h2⟩
  unfold World.var? at h1 ⊢
  obtain ⟨g,hg,h1⟩:=A9.1 h1
  rw [hg,AH]
  have a:g<w.heap.size:=by
   rcases AW g w.heap.size with h | h
   ·exact h
   ·rw [AX h] at h1;simp at h1
  rw [hb g a (fun h=>hx g h y my hg)]
  exact h1
 new:=fun w b hj hb y my hg=>by
  obtain ⟨cs,h1,_⟩:=hj y my
  unfold World.var? at h1
  rw [hg,AH,AX hb] at h1
  simp at h1
theorem Qt {J:World→Prop} {JF:Nat→Prop} (h:JOk J JF) {w w':World} (hj:J w) (hb:Below w.heap.size w w'):J w':=
 h.below (fun _=>False) w w' hj (fun _ h=>h.elim) hb.os hb.tape hb.output hb.size fun k hk _=>hb.block k hk
theorem Ztg {w:World} {B:Nat} {n:Nat→Prop} {ct:CT} {v:Value} (h:OC w B n (false,ct) v []):ZkF w B n [(false,[(false,ct)])] v:=
 ⟨[v],[],⟨v,[],[],[],rfl,rfl,.inr ⟨rfl,_,rfl,h⟩,rfl,rfl⟩,Own.nil _ _,yG⟩
theorem ZrA {w:World} {B:Nat} {n:Nat→Prop} {c1 c2:CT} {v1 v2:Value} (h1:OC w B n (false,c1) v1 []) (h2:OC w B n (false,c2) v2 []):ZkF w B n [(false,[(false,c1)]),(false,[(false,c2)])] (.tuple #[v1,v2]):=
 ⟨[v1,v2],[],⟨v1,[v2],[],[],rfl,rfl,.inr ⟨rfl,_,rfl,h1⟩,v2,[],[],[],rfl,rfl,.inr ⟨rfl,_,rfl,h2⟩,rfl,rfl⟩,Own.nil _ _,yG⟩
theorem ZuT {w:World} {z:Nat→Prop} {c:CT} {v:Value} (h:ZnX w z (false,[c]) v):∃L,RC w c v L:=by
 rcases h with ⟨h,_⟩ | ⟨_,ct,L,h,hr,_⟩
 ·simp at h
 ·simp only[AQ,and_true] at h
  subst h
  exact ⟨L,hr⟩
theorem ZmB {w:World} {z:Nat→Prop} {c:CT} {vs:List Value} (h:ZM (ZnX w z) [(false,[c])] vs):∃v L,vs=[v]∧RC w c v L:=by
 cases vs with
 | nil=>exact h.elim
 | cons v r=>
  cases r with
  | nil=>obtain ⟨L,hr⟩:=ZuT h.1;exact ⟨v,L,rfl,hr⟩
  | cons _ _=>exact h.2.elim
theorem ZxX {w:World} {z:Nat→Prop} {c d:CT} {vs:List Value} (h:ZM (ZnX w z) [(false,[c]),(false,[d])] vs):∃v u L M,vs=[v,u]∧RC w c v L∧RC w d u M:=by
 cases vs with
 | nil=>exact h.elim
 | cons v r=>
  obtain ⟨u,M,rfl,hu⟩:=ZmB h.2
  obtain ⟨L,hr⟩:=ZuT h.1
  exact ⟨v,u,L,M,rfl,hr,hu⟩
end
section
open Go.RowKit
def ttL:List (Nat × TI):=[
 (2,.atom (.c (.int .i64 0))),
 (3,.atom (.c (.int .i64 0))),
 (4,.atom (.c (.bool false))),
 (5,.atom (.c (.int .u8 0))),
 (9,.atom (.c (.str ⟨#[]⟩))),
 (12,.atom (.c (.int .u64 0))),
 (14,.strct [⟨0,1,false⟩,⟨1,1,false⟩] 2 [.c (.str ⟨#[]⟩),.c (.int .u64 0)]),
 (20,.ifc),
 (21,.atom (.c (.int .i32 0))),
 (22,.slice 99 4 72 [.c (.str ⟨#[]⟩),.c (.int .i64 0),.nil 103 5,.nil 206 3]),
 (23,.slice 48 2 40 [.c (.str ⟨#[]⟩),.nil 9 1]),
 (24,.slice 103 5 80 [.c (.int .i64 0),.c (.str ⟨#[]⟩),.nil 9 1,.c (.str ⟨#[]⟩),.c (.str ⟨#[]⟩)]),
 (28,.slice 109 1 24 [.nil 162 2]),
 (31,.slice 76 4 72 [.c (.str ⟨#[]⟩),.c (.int .i64 0),.nil 80 5,.nil 125 3]),
 (33,.slice 53 2 40 [.c (.str ⟨#[]⟩),.nil 9 1]),
 (35,.slice 80 5 80 [.c (.int .i64 0),.c (.str ⟨#[]⟩),.nil 9 1,.c (.str ⟨#[]⟩),.c (.str ⟨#[]⟩)]),
 (46,.slice 9 1 16 [.c (.str ⟨#[]⟩)]),
 (48,.strct [⟨0,1,false⟩,⟨1,1,false⟩] 2 [.c (.str ⟨#[]⟩),.nil 9 1]),
 (50,.slice 73 3 40 [.c (.str ⟨#[]⟩),.c (.int .i64 0),.c (.str ⟨#[]⟩)]),
 (53,.strct [⟨0,1,false⟩,⟨1,1,false⟩] 2 [.c (.str ⟨#[]⟩),.nil 9 1]),
 (63,.slice 5 1 1 [.c (.int .u8 0)]),
 (73,.strct [⟨0,1,false⟩,⟨1,1,false⟩,⟨2,1,false⟩] 3 [.c (.str ⟨#[]⟩),.c (.int .i64 0),.c (.str ⟨#[]⟩)]),
 (74,.slice 125 3 48 [.c (.int .i64 0),.c (.str ⟨#[]⟩),.nil 9 1]),
 (76,.strct [⟨0,1,false⟩,⟨1,1,false⟩,⟨2,1,false⟩,⟨3,1,false⟩] 4 [.c (.str ⟨#[]⟩),.c (.int .i64 0),.nil 80 5,.nil 125 3]),
 (78,.strct [⟨0,1,false⟩,⟨1,1,false⟩] 2 [.c (.str ⟨#[]⟩),.nil 9 1]),
 (80,.strct [⟨0,1,false⟩,⟨1,2,true⟩,⟨3,1,false⟩,⟨4,1,false⟩] 5 [.c (.int .i64 0),.c (.str ⟨#[]⟩),.nil 9 1,.c (.str ⟨#[]⟩),.c (.str ⟨#[]⟩)]),
 (82,.slice 88 4 80 [.c (.str ⟨#[]⟩),.nil 9 1,.c (.str ⟨#[]⟩),.nil 3 1]),
 (86,.slice 3 1 8 [.c (.int .i64 0)]),
 (88,.strct [⟨0,2,true⟩,⟨2,1,false⟩,⟨3,1,false⟩] 4 [.c (.str ⟨#[]⟩),.nil 9 1,.c (.str ⟨#[]⟩),.nil 3 1]),
 (97,.slice 206 3 48 [.c (.int .i64 0),.c (.str ⟨#[]⟩),.nil 9 1]),
 (99,.strct [⟨0,1,false⟩,⟨1,1,false⟩,⟨2,1,false⟩,⟨3,1,false⟩] 4 [.c (.str ⟨#[]⟩),.c (.int .i64 0),.nil 103 5,.nil 206 3]),
 (101,.strct [⟨0,1,false⟩,⟨1,1,false⟩] 2 [.c (.str ⟨#[]⟩),.nil 9 1]),
 (103,.strct [⟨0,1,false⟩,⟨1,2,true⟩,⟨3,1,false⟩,⟨4,1,false⟩] 5 [.c (.int .i64 0),.c (.str ⟨#[]⟩),.nil 9 1,.c (.str ⟨#[]⟩),.c (.str ⟨#[]⟩)]),
 (105,.slice 111 2 48 [.nil 53 2,.nil 162 2]),
 (109,.slice 162 2 32 [.c (.str ⟨#[]⟩),.c (.str ⟨#[]⟩)]),
 (111,.strct [⟨0,1,false⟩,⟨1,1,false⟩] 2 [.nil 53 2,.nil 162 2]),
 (125,.strct [⟨0,1,false⟩,⟨1,2,true⟩] 3 [.c (.int .i64 0),.c (.str ⟨#[]⟩),.nil 9 1]),
 (138,.slice 179 3 56 [.c (.int .i64 0),.nil 3 1,.nil 3 1]),
 (140,.strct [⟨0,1,false⟩,⟨1,1,false⟩] 2 [.c (.int .i64 0),.nil 179 3]),
 (151,.slice 4 1 1 [.c (.bool false)]),
 (162,.strct [⟨0,1,false⟩,⟨1,1,false⟩] 2 [.c (.str ⟨#[]⟩),.c (.str ⟨#[]⟩)]),
 (174,.slice 181 3 64 [.c (.str ⟨#[]⟩),.nil 53 2,.nil 162 2]),
 (179,.strct [⟨0,1,false⟩,⟨1,1,false⟩,⟨2,1,false⟩] 3 [.c (.int .i64 0),.nil 3 1,.nil 3 1]),
 (181,.strct [⟨0,1,false⟩,⟨1,2,true⟩] 3 [.c (.str ⟨#[]⟩),.nil 53 2,.nil 162 2]),
 (183,.slice 187 2 40 [.c (.str ⟨#[]⟩),.nil 53 2]),
 (187,.strct [⟨0,1,false⟩,⟨1,1,false⟩] 2 [.c (.str ⟨#[]⟩),.nil 53 2]),
 (189,.strct [⟨0,1,false⟩,⟨1,1,false⟩,⟨2,1,false⟩] 3 [.nil 5 1,.c (.int .i64 0),.c (.int .i64 0)]),
 (206,.strct [⟨0,1,false⟩,⟨1,2,true⟩] 3 [.c (.int .i64 0),.c (.str ⟨#[]⟩),.nil 9 1]),
 (251,.slice 151 1 24 [.nil 4 1]),
 (261,.atom (.c (.int .u64 0))),
 (269,.ifc),
 (270,.ifc),
 (276,.map .str .bool),
 (279,.atom (.c (.int .u64 0))),
 (297,.atom (.c (.int .u32 0))),
 (355,.strct [⟨0,1,false⟩] 1 [.c (.str ⟨#[]⟩)]),
 (4162,.eqs [.str,.str])]
def tt (t:Nat):Option TI:=Zx2 ttL t
theorem htt:∀t i,tt t=some i→TOk prog t i:=Zxw ttL yO
theorem hmix:prog.follows .mixedOrders=true:=yO
def Zy6 : List (String × (Array Value → Prop)) := [("internal/strconv.uint64pow10", fun cs => cs = (Lib.pow10Tab.map fun z => Value.int .u64 z).toArray), ("strconv.ErrSyntax", fun cs => ∃ tp p, cs = #[.iface tp p]), ("loop.example/g03015/impl.testSigns", fun cs => cs = #[.string ⟨#[32, 61, 32]⟩, .string ⟨#[32, 33, 61, 32]⟩, .string ⟨#[32, 60, 32]⟩])]
def J0:World→Prop:=ZzE prog Zy6
def JF0:Nat→Prop:=ZzH prog Zy6
theorem hJ0:JOk J0 JF0:=Zyc _ _
theorem ZCY (w : World) (h : J0 w) : Lib.TabIs prog w "internal/strconv.uint64pow10" .u64 Lib.pow10Tab := by
 obtain ⟨cs,h1,h2⟩:=h _ (List.mem_cons_self ..)
 rw [h2] at h1
 exact h1
theorem ZzR (w : World) (h : J0 w) : ∃ tp p, w.var? prog "strconv.ErrSyntax" = some #[.iface tp p] := by
 obtain ⟨cs, h1, tp, p, h2⟩ := h ("strconv.ErrSyntax", fun cs => ∃ tp p, cs = #[.iface tp p]) (by simp [Zy6])
 rw [h2] at h1
 exact ⟨tp,p,h1⟩
def hdL:List (Nat × Nat):=[(16,2),(41,2),(70,2),(97,3),(98,1),(99,1),(100,1),(101,1),(130,2),(160,1),(162,1),(163,1),(168,1),(170,2),(172,2),(210,2),(216,2),(223,1),(224,1),(225,1),(226,1),(230,1),(231,1),(232,1),(235,2),(248,1),(258,1),(261,2),(266,1),(267,1),(268,1),(269,1),(270,1),(275,1),(293,3),(303,1),(304,1),(305,1),(327,4),(328,1),(329,1),(330,1),(362,1),(363,1)]
def ZxP:List (Nat × Nat)→Nat→Nat
 | [],_=>0
 | p::r,f=>match Nat.beq p.1 f with | true=>p.2 | false=>ZxP r f
def hds (f:FuncId):Nat:=ZxP hdL f
abbrev yQ(f:FuncId)(n:Nat):Prop:=(SC prog J0 JF0 hds).hd f=n
theorem ZGG:(SC prog J0 JF0 hds).hd 6=0:=yi (by kernel_rfl)
theorem ZFJ:(SC prog J0 JF0 hds).hd 12=0:=yi (by kernel_rfl)
theorem ZFB:(SC prog J0 JF0 hds).hd 16=2:=yi (by kernel_rfl)
theorem ZF0:(SC prog J0 JF0 hds).hd 27=0:=yi (by kernel_rfl)
theorem ZE2:(SC prog J0 JF0 hds).hd 29=0:=yi (by kernel_rfl)
theorem ZFw:(SC prog J0 JF0 hds).hd 35=0:=yi (by kernel_rfl)
theorem ZFc:(SC prog J0 JF0 hds).hd 36=0:=yi (by kernel_rfl)
theorem ZFf:(SC prog J0 JF0 hds).hd 40=0:=yi (by kernel_rfl)
theorem ZFQ:(SC prog J0 JF0 hds).hd 41=2:=yi (by kernel_rfl)
theorem ZF9:(SC prog J0 JF0 hds).hd 42=0:=yi (by kernel_rfl)
theorem ZFp:(SC prog J0 JF0 hds).hd 43=0:=yi (by kernel_rfl)
theorem ZF3:(SC prog J0 JF0 hds).hd 44=0:=yi (by kernel_rfl)
theorem ZEV:(SC prog J0 JF0 hds).hd 45=0:=yi (by kernel_rfl)
theorem ZEU:(SC prog J0 JF0 hds).hd 46=0:=yi (by kernel_rfl)
theorem ZFY:(SC prog J0 JF0 hds).hd 47=0:=yi (by kernel_rfl)
theorem ZFG:(SC prog J0 JF0 hds).hd 49=0:=yi (by kernel_rfl)
theorem ZFW:(SC prog J0 JF0 hds).hd 50=0:=yi (by kernel_rfl)
theorem ZFM:(SC prog J0 JF0 hds).hd 51=0:=yi (by kernel_rfl)
theorem ZF2:(SC prog J0 JF0 hds).hd 52=0:=yi (by kernel_rfl)
theorem ZFO:(SC prog J0 JF0 hds).hd 53=0:=yi (by kernel_rfl)
theorem ZEI:(SC prog J0 JF0 hds).hd 54=0:=yi (by kernel_rfl)
theorem ZEW:(SC prog J0 JF0 hds).hd 55=0:=yi (by kernel_rfl)
theorem ZE9:(SC prog J0 JF0 hds).hd 56=0:=yi (by kernel_rfl)
theorem ZFZ:(SC prog J0 JF0 hds).hd 57=0:=yi (by kernel_rfl)
theorem ZFx:(SC prog J0 JF0 hds).hd 58=0:=yi (by kernel_rfl)
theorem ZEA:(SC prog J0 JF0 hds).hd 61=0:=yi (by kernel_rfl)
theorem ZE5:(SC prog J0 JF0 hds).hd 62=0:=yi (by kernel_rfl)
theorem ZFL:(SC prog J0 JF0 hds).hd 63=0:=yi (by kernel_rfl)
theorem ZED:(SC prog J0 JF0 hds).hd 64=0:=yi (by kernel_rfl)
theorem ZEH:(SC prog J0 JF0 hds).hd 65=0:=yi (by kernel_rfl)
theorem ZFC:(SC prog J0 JF0 hds).hd 68=0:=yi (by kernel_rfl)
theorem ZEK:(SC prog J0 JF0 hds).hd 69=0:=yi (by kernel_rfl)
theorem ZFd:(SC prog J0 JF0 hds).hd 70=2:=yi (by kernel_rfl)
theorem ZFg:(SC prog J0 JF0 hds).hd 71=0:=yi (by kernel_rfl)
theorem ZEo:(SC prog J0 JF0 hds).hd 80=0:=yi (by kernel_rfl)
theorem ZEs:(SC prog J0 JF0 hds).hd 81=0:=yi (by kernel_rfl)
theorem ZEq:(SC prog J0 JF0 hds).hd 82=0:=yi (by kernel_rfl)
theorem ZEG:(SC prog J0 JF0 hds).hd 84=0:=yi (by kernel_rfl)
theorem ZE4:(SC prog J0 JF0 hds).hd 85=0:=yi (by kernel_rfl)
theorem ZFS:(SC prog J0 JF0 hds).hd 86=0:=yi (by kernel_rfl)
theorem ZFr:(SC prog J0 JF0 hds).hd 87=0:=yi (by kernel_rfl)
theorem ZFT:(SC prog J0 JF0 hds).hd 88=0:=yi (by kernel_rfl)
theorem ZFo:(SC prog J0 JF0 hds).hd 90=0:=yi (by kernel_rfl)
theorem ZFk:(SC prog J0 JF0 hds).hd 91=0:=yi (by kernel_rfl)
theorem ZEM:(SC prog J0 JF0 hds).hd 92=0:=yi (by kernel_rfl)
theorem ZFX:(SC prog J0 JF0 hds).hd 93=0:=yi (by kernel_rfl)
theorem ZFU:(SC prog J0 JF0 hds).hd 94=0:=yi (by kernel_rfl)
theorem ZEt:(SC prog J0 JF0 hds).hd 95=0:=yi (by kernel_rfl)
theorem ZFa:(SC prog J0 JF0 hds).hd 96=0:=yi (by kernel_rfl)
theorem ZFu:(SC prog J0 JF0 hds).hd 97=3:=yi (by kernel_rfl)
theorem ZF1:(SC prog J0 JF0 hds).hd 98=1:=yi (by kernel_rfl)
theorem ZFt:(SC prog J0 JF0 hds).hd 99=1:=yi (by kernel_rfl)
theorem ZAy:(SC prog J0 JF0 hds).hd 100=1:=yi (by kernel_rfl)
theorem ZEd:(SC prog J0 JF0 hds).hd 101=1:=yi (by kernel_rfl)
theorem ZC3:(SC prog J0 JF0 hds).hd 102=0:=yi (by kernel_rfl)
theorem ZA4:(SC prog J0 JF0 hds).hd 103=0:=yi (by kernel_rfl)
theorem ZEe:(SC prog J0 JF0 hds).hd 104=0:=yi (by kernel_rfl)
theorem ZAJ:(SC prog J0 JF0 hds).hd 105=0:=yi (by kernel_rfl)
theorem ZDV:(SC prog J0 JF0 hds).hd 106=0:=yi (by kernel_rfl)
theorem ZCw:(SC prog J0 JF0 hds).hd 107=0:=yi (by kernel_rfl)
theorem ZBv:(SC prog J0 JF0 hds).hd 108=0:=yi (by kernel_rfl)
theorem ZCN:(SC prog J0 JF0 hds).hd 110=0:=yi (by kernel_rfl)
theorem ZBb:(SC prog J0 JF0 hds).hd 111=0:=yi (by kernel_rfl)
theorem ZEl:(SC prog J0 JF0 hds).hd 112=0:=yi (by kernel_rfl)
theorem ZBC:(SC prog J0 JF0 hds).hd 113=0:=yi (by kernel_rfl)
theorem ZCJ:(SC prog J0 JF0 hds).hd 114=0:=yi (by kernel_rfl)
theorem Zz0:(SC prog J0 JF0 hds).hd 115=0:=yi (by kernel_rfl)
theorem ZBf:(SC prog J0 JF0 hds).hd 116=0:=yi (by kernel_rfl)
theorem ZDn:(SC prog J0 JF0 hds).hd 117=0:=yi (by kernel_rfl)
theorem ZD1:(SC prog J0 JF0 hds).hd 120=0:=yi (by kernel_rfl)
theorem ZBs:(SC prog J0 JF0 hds).hd 121=0:=yi (by kernel_rfl)
theorem ZBQ:(SC prog J0 JF0 hds).hd 122=0:=yi (by kernel_rfl)
theorem ZDW:(SC prog J0 JF0 hds).hd 123=0:=yi (by kernel_rfl)
theorem ZA3:(SC prog J0 JF0 hds).hd 124=0:=yi (by kernel_rfl)
theorem ZEg:(SC prog J0 JF0 hds).hd 127=0:=yi (by kernel_rfl)
theorem ZEc:(SC prog J0 JF0 hds).hd 128=0:=yi (by kernel_rfl)
theorem ZBz:(SC prog J0 JF0 hds).hd 129=0:=yi (by kernel_rfl)
theorem ZDl:(SC prog J0 JF0 hds).hd 130=2:=yi (by kernel_rfl)
theorem ZC6:(SC prog J0 JF0 hds).hd 131=0:=yi (by kernel_rfl)
theorem ZD3:(SC prog J0 JF0 hds).hd 132=0:=yi (by kernel_rfl)
theorem ZC9:(SC prog J0 JF0 hds).hd 136=0:=yi (by kernel_rfl)
theorem ZCQ:(SC prog J0 JF0 hds).hd 137=0:=yi (by kernel_rfl)
theorem ZDE:(SC prog J0 JF0 hds).hd 138=0:=yi (by kernel_rfl)
theorem ZBV:(SC prog J0 JF0 hds).hd 139=0:=yi (by kernel_rfl)
theorem ZCb:(SC prog J0 JF0 hds).hd 140=0:=yi (by kernel_rfl)
theorem ZDI:(SC prog J0 JF0 hds).hd 141=0:=yi (by kernel_rfl)
theorem ZAf:(SC prog J0 JF0 hds).hd 142=0:=yi (by kernel_rfl)
theorem ZDY:(SC prog J0 JF0 hds).hd 143=0:=yi (by kernel_rfl)
theorem ZBM:(SC prog J0 JF0 hds).hd 144=0:=yi (by kernel_rfl)
theorem ZCP:(SC prog J0 JF0 hds).hd 145=0:=yi (by kernel_rfl)
theorem ZBB:(SC prog J0 JF0 hds).hd 146=0:=yi (by kernel_rfl)
theorem ZD7:(SC prog J0 JF0 hds).hd 147=0:=yi (by kernel_rfl)
theorem ZD8:(SC prog J0 JF0 hds).hd 148=0:=yi (by kernel_rfl)
theorem ZAE:(SC prog J0 JF0 hds).hd 149=0:=yi (by kernel_rfl)
theorem Zz6:(SC prog J0 JF0 hds).hd 150=0:=yi (by kernel_rfl)
theorem ZBE:(SC prog J0 JF0 hds).hd 151=0:=yi (by kernel_rfl)
theorem ZDO:(SC prog J0 JF0 hds).hd 152=0:=yi (by kernel_rfl)
theorem ZBW:(SC prog J0 JF0 hds).hd 153=0:=yi (by kernel_rfl)
theorem ZAR:(SC prog J0 JF0 hds).hd 154=0:=yi (by kernel_rfl)
theorem ZAZ:(SC prog J0 JF0 hds).hd 155=0:=yi (by kernel_rfl)
theorem ZCq:(SC prog J0 JF0 hds).hd 156=0:=yi (by kernel_rfl)
theorem ZAY:(SC prog J0 JF0 hds).hd 157=0:=yi (by kernel_rfl)
theorem ZzN:(SC prog J0 JF0 hds).hd 158=0:=yi (by kernel_rfl)
theorem ZBU:(SC prog J0 JF0 hds).hd 159=0:=yi (by kernel_rfl)
theorem ZBS:(SC prog J0 JF0 hds).hd 160=1:=yi (by kernel_rfl)
theorem ZDt:(SC prog J0 JF0 hds).hd 161=0:=yi (by kernel_rfl)
theorem ZCp:(SC prog J0 JF0 hds).hd 162=1:=yi (by kernel_rfl)
theorem ZD9:(SC prog J0 JF0 hds).hd 163=1:=yi (by kernel_rfl)
theorem ZAg:(SC prog J0 JF0 hds).hd 164=0:=yi (by kernel_rfl)
theorem ZEf:(SC prog J0 JF0 hds).hd 165=0:=yi (by kernel_rfl)
theorem ZBN:(SC prog J0 JF0 hds).hd 166=0:=yi (by kernel_rfl)
theorem Zz1:(SC prog J0 JF0 hds).hd 167=0:=yi (by kernel_rfl)
theorem ZBZ:(SC prog J0 JF0 hds).hd 168=1:=yi (by kernel_rfl)
theorem ZBX:(SC prog J0 JF0 hds).hd 169=0:=yi (by kernel_rfl)
theorem ZBq:(SC prog J0 JF0 hds).hd 170=2:=yi (by kernel_rfl)
theorem ZAT:(SC prog J0 JF0 hds).hd 171=0:=yi (by kernel_rfl)
theorem ZEa:(SC prog J0 JF0 hds).hd 172=2:=yi (by kernel_rfl)
theorem ZDa:(SC prog J0 JF0 hds).hd 173=0:=yi (by kernel_rfl)
theorem ZAk:(SC prog J0 JF0 hds).hd 174=0:=yi (by kernel_rfl)
theorem ZDQ:(SC prog J0 JF0 hds).hd 175=0:=yi (by kernel_rfl)
theorem ZDg:(SC prog J0 JF0 hds).hd 176=0:=yi (by kernel_rfl)
theorem ZA7:(SC prog J0 JF0 hds).hd 177=0:=yi (by kernel_rfl)
theorem ZDf:(SC prog J0 JF0 hds).hd 179=0:=yi (by kernel_rfl)
theorem ZDL:(SC prog J0 JF0 hds).hd 180=0:=yi (by kernel_rfl)
theorem ZBD:(SC prog J0 JF0 hds).hd 181=0:=yi (by kernel_rfl)
theorem ZBI:(SC prog J0 JF0 hds).hd 182=0:=yi (by kernel_rfl)
theorem ZBT:(SC prog J0 JF0 hds).hd 183=0:=yi (by kernel_rfl)
theorem ZA5:(SC prog J0 JF0 hds).hd 184=0:=yi (by kernel_rfl)
theorem ZAj:(SC prog J0 JF0 hds).hd 185=0:=yi (by kernel_rfl)
theorem ZCj:(SC prog J0 JF0 hds).hd 186=0:=yi (by kernel_rfl)
theorem ZAx:(SC prog J0 JF0 hds).hd 187=0:=yi (by kernel_rfl)
theorem ZCC:(SC prog J0 JF0 hds).hd 188=0:=yi (by kernel_rfl)
theorem ZBd:(SC prog J0 JF0 hds).hd 190=0:=yi (by kernel_rfl)
theorem ZAK:(SC prog J0 JF0 hds).hd 191=0:=yi (by kernel_rfl)
theorem ZBp:(SC prog J0 JF0 hds).hd 192=0:=yi (by kernel_rfl)
theorem Zz8:(SC prog J0 JF0 hds).hd 193=0:=yi (by kernel_rfl)
theorem ZDZ:(SC prog J0 JF0 hds).hd 194=0:=yi (by kernel_rfl)
theorem ZD4:(SC prog J0 JF0 hds).hd 195=0:=yi (by kernel_rfl)
theorem ZzU:(SC prog J0 JF0 hds).hd 196=0:=yi (by kernel_rfl)
theorem ZAC:(SC prog J0 JF0 hds).hd 197=0:=yi (by kernel_rfl)
theorem ZB5:(SC prog J0 JF0 hds).hd 198=0:=yi (by kernel_rfl)
theorem ZCD:(SC prog J0 JF0 hds).hd 199=0:=yi (by kernel_rfl)
theorem ZBn:(SC prog J0 JF0 hds).hd 201=0:=yi (by kernel_rfl)
theorem ZEj:(SC prog J0 JF0 hds).hd 202=0:=yi (by kernel_rfl)
theorem ZDG:(SC prog J0 JF0 hds).hd 203=0:=yi (by kernel_rfl)
theorem ZBg:(SC prog J0 JF0 hds).hd 204=0:=yi (by kernel_rfl)
theorem ZAN:(SC prog J0 JF0 hds).hd 205=0:=yi (by kernel_rfl)
theorem Zz2:(SC prog J0 JF0 hds).hd 206=0:=yi (by kernel_rfl)
theorem ZB3:(SC prog J0 JF0 hds).hd 207=0:=yi (by kernel_rfl)
theorem ZAP:(SC prog J0 JF0 hds).hd 208=0:=yi (by kernel_rfl)
theorem ZB7:(SC prog J0 JF0 hds).hd 209=0:=yi (by kernel_rfl)
theorem ZB1:(SC prog J0 JF0 hds).hd 210=2:=yi (by kernel_rfl)
theorem ZCt:(SC prog J0 JF0 hds).hd 211=0:=yi (by kernel_rfl)
theorem ZDh:(SC prog J0 JF0 hds).hd 212=0:=yi (by kernel_rfl)
theorem ZC2:(SC prog J0 JF0 hds).hd 214=0:=yi (by kernel_rfl)
theorem ZCs:(SC prog J0 JF0 hds).hd 215=0:=yi (by kernel_rfl)
theorem ZAL:(SC prog J0 JF0 hds).hd 216=2:=yi (by kernel_rfl)
theorem ZBJ:(SC prog J0 JF0 hds).hd 217=0:=yi (by kernel_rfl)
theorem ZCd:(SC prog J0 JF0 hds).hd 218=0:=yi (by kernel_rfl)
theorem ZAo:(SC prog J0 JF0 hds).hd 219=0:=yi (by kernel_rfl)
theorem ZA0:(SC prog J0 JF0 hds).hd 221=0:=yi (by kernel_rfl)
theorem ZzW:(SC prog J0 JF0 hds).hd 223=1:=yi (by kernel_rfl)
theorem ZCf:(SC prog J0 JF0 hds).hd 224=1:=yi (by kernel_rfl)
theorem ZBF:(SC prog J0 JF0 hds).hd 225=1:=yi (by kernel_rfl)
theorem ZCU:(SC prog J0 JF0 hds).hd 226=1:=yi (by kernel_rfl)
theorem ZDJ:(SC prog J0 JF0 hds).hd 227=0:=yi (by kernel_rfl)
theorem ZCV:(SC prog J0 JF0 hds).hd 228=0:=yi (by kernel_rfl)
theorem ZBY:(SC prog J0 JF0 hds).hd 229=0:=yi (by kernel_rfl)
theorem ZBO:(SC prog J0 JF0 hds).hd 230=1:=yi (by kernel_rfl)
theorem ZA1:(SC prog J0 JF0 hds).hd 231=1:=yi (by kernel_rfl)
theorem ZAb:(SC prog J0 JF0 hds).hd 232=1:=yi (by kernel_rfl)
theorem ZDp:(SC prog J0 JF0 hds).hd 233=0:=yi (by kernel_rfl)
theorem ZAt:(SC prog J0 JF0 hds).hd 234=0:=yi (by kernel_rfl)
theorem ZAs:(SC prog J0 JF0 hds).hd 235=2:=yi (by kernel_rfl)
theorem ZAS:(SC prog J0 JF0 hds).hd 236=0:=yi (by kernel_rfl)
theorem ZDq:(SC prog J0 JF0 hds).hd 237=0:=yi (by kernel_rfl)
theorem ZCZ:(SC prog J0 JF0 hds).hd 238=0:=yi (by kernel_rfl)
theorem ZDN:(SC prog J0 JF0 hds).hd 239=0:=yi (by kernel_rfl)
theorem ZAp:(SC prog J0 JF0 hds).hd 240=0:=yi (by kernel_rfl)
theorem ZAV:(SC prog J0 JF0 hds).hd 241=0:=yi (by kernel_rfl)
theorem ZCW:(SC prog J0 JF0 hds).hd 242=0:=yi (by kernel_rfl)
theorem ZCK:(SC prog J0 JF0 hds).hd 243=0:=yi (by kernel_rfl)
theorem ZBH:(SC prog J0 JF0 hds).hd 244=0:=yi (by kernel_rfl)
theorem ZAI:(SC prog J0 JF0 hds).hd 245=0:=yi (by kernel_rfl)
theorem ZzK:(SC prog J0 JF0 hds).hd 246=0:=yi (by kernel_rfl)
theorem ZCX:(SC prog J0 JF0 hds).hd 247=0:=yi (by kernel_rfl)
theorem Zz7:(SC prog J0 JF0 hds).hd 248=1:=yi (by kernel_rfl)
theorem ZDP:(SC prog J0 JF0 hds).hd 249=0:=yi (by kernel_rfl)
theorem ZAn:(SC prog J0 JF0 hds).hd 250=0:=yi (by kernel_rfl)
theorem Zz3:(SC prog J0 JF0 hds).hd 251=0:=yi (by kernel_rfl)
theorem Zz5:(SC prog J0 JF0 hds).hd 252=0:=yi (by kernel_rfl)
theorem ZBx:(SC prog J0 JF0 hds).hd 253=0:=yi (by kernel_rfl)
theorem ZCL:(SC prog J0 JF0 hds).hd 254=0:=yi (by kernel_rfl)
theorem ZBk:(SC prog J0 JF0 hds).hd 255=0:=yi (by kernel_rfl)
theorem ZCg:(SC prog J0 JF0 hds).hd 256=0:=yi (by kernel_rfl)
theorem ZAa:(SC prog J0 JF0 hds).hd 257=0:=yi (by kernel_rfl)
theorem ZBu:(SC prog J0 JF0 hds).hd 258=1:=yi (by kernel_rfl)
theorem ZAF:(SC prog J0 JF0 hds).hd 259=0:=yi (by kernel_rfl)
theorem ZDs:(SC prog J0 JF0 hds).hd 260=0:=yi (by kernel_rfl)
theorem ZDR:(SC prog J0 JF0 hds).hd 261=2:=yi (by kernel_rfl)
theorem ZBy:(SC prog J0 JF0 hds).hd 262=0:=yi (by kernel_rfl)
theorem ZCu:(SC prog J0 JF0 hds).hd 263=0:=yi (by kernel_rfl)
theorem ZAO:(SC prog J0 JF0 hds).hd 264=0:=yi (by kernel_rfl)
theorem ZBh:(SC prog J0 JF0 hds).hd 266=1:=yi (by kernel_rfl)
theorem ZDF:(SC prog J0 JF0 hds).hd 267=1:=yi (by kernel_rfl)
theorem ZCz:(SC prog J0 JF0 hds).hd 268=1:=yi (by kernel_rfl)
theorem ZC4:(SC prog J0 JF0 hds).hd 269=1:=yi (by kernel_rfl)
theorem ZDA:(SC prog J0 JF0 hds).hd 270=1:=yi (by kernel_rfl)
theorem ZDi:(SC prog J0 JF0 hds).hd 271=0:=yi (by kernel_rfl)
theorem ZCc:(SC prog J0 JF0 hds).hd 272=0:=yi (by kernel_rfl)
theorem ZDC:(SC prog J0 JF0 hds).hd 273=0:=yi (by kernel_rfl)
theorem ZBR:(SC prog J0 JF0 hds).hd 274=0:=yi (by kernel_rfl)
theorem ZDD:(SC prog J0 JF0 hds).hd 275=1:=yi (by kernel_rfl)
theorem ZB8:(SC prog J0 JF0 hds).hd 276=0:=yi (by kernel_rfl)
theorem ZDm:(SC prog J0 JF0 hds).hd 277=0:=yi (by kernel_rfl)
theorem ZAh:(SC prog J0 JF0 hds).hd 278=0:=yi (by kernel_rfl)
theorem ZB4:(SC prog J0 JF0 hds).hd 283=0:=yi (by kernel_rfl)
theorem ZEm:(SC prog J0 JF0 hds).hd 284=0:=yi (by kernel_rfl)
theorem ZC7:(SC prog J0 JF0 hds).hd 285=0:=yi (by kernel_rfl)
theorem ZzY:(SC prog J0 JF0 hds).hd 287=0:=yi (by kernel_rfl)
theorem ZzM:(SC prog J0 JF0 hds).hd 288=0:=yi (by kernel_rfl)
theorem ZzP:(SC prog J0 JF0 hds).hd 289=0:=yi (by kernel_rfl)
theorem ZDd:(SC prog J0 JF0 hds).hd 290=0:=yi (by kernel_rfl)
theorem ZAi:(SC prog J0 JF0 hds).hd 291=0:=yi (by kernel_rfl)
theorem ZDz:(SC prog J0 JF0 hds).hd 292=0:=yi (by kernel_rfl)
theorem ZEh:(SC prog J0 JF0 hds).hd 293=3:=yi (by kernel_rfl)
theorem ZCa:(SC prog J0 JF0 hds).hd 294=0:=yi (by kernel_rfl)
theorem ZCi:(SC prog J0 JF0 hds).hd 296=0:=yi (by kernel_rfl)
theorem ZzZ:(SC prog J0 JF0 hds).hd 297=0:=yi (by kernel_rfl)
theorem ZDy:(SC prog J0 JF0 hds).hd 302=0:=yi (by kernel_rfl)
theorem ZAr:(SC prog J0 JF0 hds).hd 303=1:=yi (by kernel_rfl)
theorem ZD6:(SC prog J0 JF0 hds).hd 304=1:=yi (by kernel_rfl)
theorem ZAM:(SC prog J0 JF0 hds).hd 305=1:=yi (by kernel_rfl)
theorem ZCB:(SC prog J0 JF0 hds).hd 306=0:=yi (by kernel_rfl)
theorem ZCI:(SC prog J0 JF0 hds).hd 307=0:=yi (by kernel_rfl)
theorem ZBG:(SC prog J0 JF0 hds).hd 308=0:=yi (by kernel_rfl)
theorem ZBm:(SC prog J0 JF0 hds).hd 309=0:=yi (by kernel_rfl)
theorem ZBl:(SC prog J0 JF0 hds).hd 313=0:=yi (by kernel_rfl)
theorem ZCO:(SC prog J0 JF0 hds).hd 318=0:=yi (by kernel_rfl)
theorem ZCA:(SC prog J0 JF0 hds).hd 319=0:=yi (by kernel_rfl)
theorem ZBw:(SC prog J0 JF0 hds).hd 326=0:=yi (by kernel_rfl)
theorem ZD2:(SC prog J0 JF0 hds).hd 327=4:=yi (by kernel_rfl)
theorem ZDj:(SC prog J0 JF0 hds).hd 328=1:=yi (by kernel_rfl)
theorem ZCF:(SC prog J0 JF0 hds).hd 329=1:=yi (by kernel_rfl)
theorem ZB9:(SC prog J0 JF0 hds).hd 330=1:=yi (by kernel_rfl)
theorem ZCh:(SC prog J0 JF0 hds).hd 331=0:=yi (by kernel_rfl)
theorem ZDo:(SC prog J0 JF0 hds).hd 360=0:=yi (by kernel_rfl)
theorem ZBK:(SC prog J0 JF0 hds).hd 361=0:=yi (by kernel_rfl)
theorem ZCG:(SC prog J0 JF0 hds).hd 362=1:=yi (by kernel_rfl)
theorem ZDK:(SC prog J0 JF0 hds).hd 363=1:=yi (by kernel_rfl)
theorem ZA8:(SC prog J0 JF0 hds).hd 377=0:=yi (by kernel_rfl)
theorem ZDU:(SC prog J0 JF0 hds).hd 382=0:=yi (by kernel_rfl)
theorem tt2:tt 2=some (.atom (.c (.int .i64 0))):=yi rfl
theorem tt3:tt 3=some (.atom (.c (.int .i64 0))):=yi rfl
theorem tt4:tt 4=some (.atom (.c (.bool false))):=yi rfl
theorem tt5:tt 5=some (.atom (.c (.int .u8 0))):=yi rfl
theorem tt9:tt 9=some (.atom (.c (.str ⟨#[]⟩))):=yi rfl
theorem ZGz:tt 12=some (.atom (.c (.int .u64 0))):=yi rfl
theorem ZGt:tt 14=some (.strct [⟨0,1,false⟩,⟨1,1,false⟩] 2 [.c (.str ⟨#[]⟩),.c (.int .u64 0)]):=yi rfl
theorem ZGE:tt 20=some (.ifc):=yi rfl
theorem ZGj:tt 21=some (.atom (.c (.int .i32 0))):=yi rfl
theorem ZGh:tt 22=some (.slice 99 4 72 [.c (.str ⟨#[]⟩),.c (.int .i64 0),.nil 103 5,.nil 206 3]):=yi rfl
theorem ZGJ:tt 23=some (.slice 48 2 40 [.c (.str ⟨#[]⟩),.nil 9 1]):=yi rfl
theorem ZGp:tt 24=some (.slice 103 5 80 [.c (.int .i64 0),.c (.str ⟨#[]⟩),.nil 9 1,.c (.str ⟨#[]⟩),.c (.str ⟨#[]⟩)]):=yi rfl
theorem ZGV:tt 28=some (.slice 109 1 24 [.nil 162 2]):=yi rfl
theorem ZGD:tt 31=some (.slice 76 4 72 [.c (.str ⟨#[]⟩),.c (.int .i64 0),.nil 80 5,.nil 125 3]):=yi rfl
theorem ZGU:tt 33=some (.slice 53 2 40 [.c (.str ⟨#[]⟩),.nil 9 1]):=yi rfl
theorem ZGy:tt 35=some (.slice 80 5 80 [.c (.int .i64 0),.c (.str ⟨#[]⟩),.nil 9 1,.c (.str ⟨#[]⟩),.c (.str ⟨#[]⟩)]):=yi rfl
theorem ZGx:tt 46=some (.slice 9 1 16 [.c (.str ⟨#[]⟩)]):=yi rfl
theorem ZGB:tt 48=some (.strct [⟨0,1,false⟩,⟨1,1,false⟩] 2 [.c (.str ⟨#[]⟩),.nil 9 1]):=yi rfl
theorem ZGw:tt 50=some (.slice 73 3 40 [.c (.str ⟨#[]⟩),.c (.int .i64 0),.c (.str ⟨#[]⟩)]):=yi rfl
theorem ZGr:tt 53=some (.strct [⟨0,1,false⟩,⟨1,1,false⟩] 2 [.c (.str ⟨#[]⟩),.nil 9 1]):=yi rfl
theorem ZGf:tt 63=some (.slice 5 1 1 [.c (.int .u8 0)]):=yi rfl
theorem ZGq:tt 73=some (.strct [⟨0,1,false⟩,⟨1,1,false⟩,⟨2,1,false⟩] 3 [.c (.str ⟨#[]⟩),.c (.int .i64 0),.c (.str ⟨#[]⟩)]):=yi rfl
theorem ZGH:tt 74=some (.slice 125 3 48 [.c (.int .i64 0),.c (.str ⟨#[]⟩),.nil 9 1]):=yi rfl
theorem ZGK:tt 76=some (.strct [⟨0,1,false⟩,⟨1,1,false⟩,⟨2,1,false⟩,⟨3,1,false⟩] 4 [.c (.str ⟨#[]⟩),.c (.int .i64 0),.nil 80 5,.nil 125 3]):=yi rfl
theorem ZGo:tt 78=some (.strct [⟨0,1,false⟩,⟨1,1,false⟩] 2 [.c (.str ⟨#[]⟩),.nil 9 1]):=yi rfl
theorem ZGb:tt 80=some (.strct [⟨0,1,false⟩,⟨1,2,true⟩,⟨3,1,false⟩,⟨4,1,false⟩] 5 [.c (.int .i64 0),.c (.str ⟨#[]⟩),.nil 9 1,.c (.str ⟨#[]⟩),.c (.str ⟨#[]⟩)]):=yi rfl
theorem ZGn:tt 82=some (.slice 88 4 80 [.c (.str ⟨#[]⟩),.nil 9 1,.c (.str ⟨#[]⟩),.nil 3 1]):=yi rfl
theorem ZGd:tt 86=some (.slice 3 1 8 [.c (.int .i64 0)]):=yi rfl
theorem ZGO:tt 88=some (.strct [⟨0,2,true⟩,⟨2,1,false⟩,⟨3,1,false⟩] 4 [.c (.str ⟨#[]⟩),.nil 9 1,.c (.str ⟨#[]⟩),.nil 3 1]):=yi rfl
theorem ZGv:tt 97=some (.slice 206 3 48 [.c (.int .i64 0),.c (.str ⟨#[]⟩),.nil 9 1]):=yi rfl
theorem ZGe:tt 99=some (.strct [⟨0,1,false⟩,⟨1,1,false⟩,⟨2,1,false⟩,⟨3,1,false⟩] 4 [.c (.str ⟨#[]⟩),.c (.int .i64 0),.nil 103 5,.nil 206 3]):=yi rfl
theorem ZF4:tt 101=some (.strct [⟨0,1,false⟩,⟨1,1,false⟩] 2 [.c (.str ⟨#[]⟩),.nil 9 1]):=yi rfl
theorem ZFe:tt 103=some (.strct [⟨0,1,false⟩,⟨1,2,true⟩,⟨3,1,false⟩,⟨4,1,false⟩] 5 [.c (.int .i64 0),.c (.str ⟨#[]⟩),.nil 9 1,.c (.str ⟨#[]⟩),.c (.str ⟨#[]⟩)]):=yi rfl
theorem ZFl:tt 105=some (.slice 111 2 48 [.nil 53 2,.nil 162 2]):=yi rfl
theorem ZEQ:tt 109=some (.slice 162 2 32 [.c (.str ⟨#[]⟩),.c (.str ⟨#[]⟩)]):=yi rfl
theorem ZFm:tt 111=some (.strct [⟨0,1,false⟩,⟨1,1,false⟩] 2 [.nil 53 2,.nil 162 2]):=yi rfl
theorem ZEx:tt 125=some (.strct [⟨0,1,false⟩,⟨1,2,true⟩] 3 [.c (.int .i64 0),.c (.str ⟨#[]⟩),.nil 9 1]):=yi rfl
theorem ZEN:tt 138=some (.slice 179 3 56 [.c (.int .i64 0),.nil 3 1,.nil 3 1]):=yi rfl
theorem ZE6:tt 140=some (.strct [⟨0,1,false⟩,⟨1,1,false⟩] 2 [.c (.int .i64 0),.nil 179 3]):=yi rfl
theorem ZEw:tt 151=some (.slice 4 1 1 [.c (.bool false)]):=yi rfl
theorem ZEu:tt 162=some (.strct [⟨0,1,false⟩,⟨1,1,false⟩] 2 [.c (.str ⟨#[]⟩),.c (.str ⟨#[]⟩)]):=yi rfl
theorem ZE7:tt 174=some (.slice 181 3 64 [.c (.str ⟨#[]⟩),.nil 53 2,.nil 162 2]):=yi rfl
theorem ZE1:tt 179=some (.strct [⟨0,1,false⟩,⟨1,1,false⟩,⟨2,1,false⟩] 3 [.c (.int .i64 0),.nil 3 1,.nil 3 1]):=yi rfl
theorem ZFK:tt 181=some (.strct [⟨0,1,false⟩,⟨1,2,true⟩] 3 [.c (.str ⟨#[]⟩),.nil 53 2,.nil 162 2]):=yi rfl
theorem ZEX:tt 183=some (.slice 187 2 40 [.c (.str ⟨#[]⟩),.nil 53 2]):=yi rfl
theorem ZEn:tt 187=some (.strct [⟨0,1,false⟩,⟨1,1,false⟩] 2 [.c (.str ⟨#[]⟩),.nil 53 2]):=yi rfl
theorem ZFb:tt 189=some (.strct [⟨0,1,false⟩,⟨1,1,false⟩,⟨2,1,false⟩] 3 [.nil 5 1,.c (.int .i64 0),.c (.int .i64 0)]):=yi rfl
theorem ZEE:tt 206=some (.strct [⟨0,1,false⟩,⟨1,2,true⟩] 3 [.c (.int .i64 0),.c (.str ⟨#[]⟩),.nil 9 1]):=yi rfl
theorem ZFA:tt 251=some (.slice 151 1 24 [.nil 4 1]):=yi rfl
theorem ZEz:tt 261=some (.atom (.c (.int .u64 0))):=yi rfl
theorem ZFD:tt 269=some (.ifc):=yi rfl
theorem ZFP:tt 270=some (.ifc):=yi rfl
theorem ZFI:tt 276=some (.map .str .bool):=yi rfl
theorem ZFq:tt 279=some (.atom (.c (.int .u64 0))):=yi rfl
theorem ZFj:tt 297=some (.atom (.c (.int .u32 0))):=yi rfl
theorem ZFv:tt 355=some (.strct [⟨0,1,false⟩] 1 [.c (.str ⟨#[]⟩)]):=yi rfl
theorem ZBt:tt 4162=some (.eqs [.str,.str]):=yi rfl
theorem fnk {f : FuncId} {fn : Func} {c : Code} {args : List (Bool × List CT)} {res : List RT} (hf : prog.funcs[f]? = some fn) (hb : fn.body = some c) (h : fnS (fun _ => none) tt (SC prog J0 JF0 hds) fn.results.toList c args res) (hname : (fn.name == "runtime.NumGoroutine") = false := by kernel_rfl) (hok : X7 (fun _ => none) tt hds false fn.ntmps c = true := by kernel_rfl) (hlen : Nat.ble args.length fn.ntmps = true := by kernel_rfl) : Zm prog J0 f args res := ZwK htt hJ0 hmix hf hname hb hok hlen h
theorem fnb {f : FuncId} {fn : Func} {c : Code} {args : List (Bool × List CT)} {nb : NB} (hf : prog.funcs[f]? = some fn) (hb : fn.body = some c) (h : fnB (fun _ => none) tt (SC prog J0 JF0 hds) fn.results.toList c args nb) (hname : (fn.name == "runtime.NumGoroutine") = false := by kernel_rfl) (hok : X7 (fun _ => none) tt hds false fn.ntmps c = true := by kernel_rfl) (hlen : Nat.ble args.length fn.ntmps = true := by kernel_rfl) : ZqL prog J0 f args nb := Zvs htt hJ0 hmix hf hname hb hok hlen h
theorem fnn (t0 : Nat) {f : FuncId} {fn : Func} {c : Code} {args : List (Bool × List CT)} {res : List RT} (hf : prog.funcs[f]? = some fn) (hb : fn.body = some c) (h : fnN (fun _ => none) tt (SC prog J0 JF0 hds) fn.results.toList t0 c args res) (hname : (fn.name == "runtime.NumGoroutine") = false := by kernel_rfl) (hok : X7 (fun _ => none) tt hds false fn.ntmps c = true := by kernel_rfl) (hlen : Nat.ble args.length fn.ntmps = true := by kernel_rfl) : Zm prog J0 f args res := Zwj htt hJ0 hmix hf hname hb hok hlen t0 h
def ZoK (f:FuncId):Nat:=ZxP ([(151,2),(157,2)]++hdL) f
theorem ZDb:(SC prog J0 JF0 ZoK).hd 80=0:=yO
theorem ZDT:(SC prog J0 JF0 ZoK).hd 85=0:=yO
theorem Zzy:(SC prog J0 JF0 ZoK).hd 112=0:=yO
theorem Zzx:(SC prog J0 JF0 ZoK).hd 114=0:=yO
theorem ZyJ:(SC prog J0 JF0 ZoK).hd 151=2:=yO
theorem Zye:(SC prog J0 JF0 ZoK).hd 152=0:=yO
theorem Zy7:(SC prog J0 JF0 ZoK).hd 153=0:=yO
theorem Zzq:(SC prog J0 JF0 ZoK).hd 154=0:=yO
theorem Zy3:(SC prog J0 JF0 ZoK).hd 157=2:=yO
theorem Zy1:(SC prog J0 JF0 ZoK).hd 158=0:=yO
def Zs (x:Zc):List CT:=[.str x.rel,.sl 9 1 (A4 ZA x.args)]
theorem ZxH (x:Zc):Zs x=[.str x.rel,.sl 9 1 (A4 ZA x.args)]:=yi rfl
def ZzG (x:Zwt):List CT:=[.str x.rule,.int .i64 x.done,.str x.cond]
theorem ZwO (x:Zwt):ZzG x=[.str x.rule,.int .i64 x.done,.str x.cond]:=yi rfl
theorem Ztl (l:List Zwt):ZaN (l.map ZzG)=true:=Zbf (fun _=>rfl) l
def Qp (x:Zx):List CT:=[.str x.rel,.sl 9 1 (A4 ZA x.args)]
theorem Zr6 (x:Zx):Qp x=[.str x.rel,.sl 9 1 (A4 ZA x.args)]:=yi rfl
def ZJ (x:Zl):List CT:=[.int .i64 x.kind,.str x.pattern.rel,.sl 9 1 (A4 ZA x.pattern.args),.str x.left,.str x.right]
theorem Zxh (x:Zl):ZJ x=[.int .i64 x.kind,.str x.pattern.rel,.sl 9 1 (A4 ZA x.pattern.args),.str x.left,.str x.right]:=yi rfl
def ZI (x:Zu):List CT:=[.int .i64 x.kind,.str x.pattern.rel,.sl 9 1 (A4 ZA x.pattern.args)]
theorem Zt3 (x:Zu):ZI x=[.int .i64 x.kind,.str x.pattern.rel,.sl 9 1 (A4 ZA x.pattern.args)]:=yi rfl
def ZL (x:Zg):List CT:=[.str x.name,.int .i64 x.priority,.sl 80 5 (A4 ZJ x.cond),.sl 125 3 (A4 ZI x.thn)]
theorem Zxm (x:Zg):ZL x=[.str x.name,.int .i64 x.priority,.sl 80 5 (A4 ZJ x.cond),.sl 125 3 (A4 ZI x.thn)]:=yi rfl
def ZF5 (x:ZzC):List CT:=[.str x.fact.rel,.sl 9 1 (A4 ZA x.fact.args),.str x.rule,.sl 3 1 (A4 ZO x.uses)]
theorem ZxR (x:ZzC):ZF5 x=[.str x.fact.rel,.sl 9 1 (A4 ZA x.fact.args),.str x.rule,.sl 3 1 (A4 ZO x.uses)]:=yi rfl
def ZR (x:Zi):List CT:=[.str x.var,.str x.value]
theorem Zx1 (x:Zi):ZR x=[.str x.var,.str x.value]:=yi rfl
theorem Zt8 (l:List Zi):ZaN (l.map ZR)=true:=Zbf (fun _=>rfl) l
def YU (x:Zq):List CT:=[.sl 53 2 (A4 Zs x.facts),.sl 162 2 (A4 ZR x.binding)]
theorem Zwi (x:Zq):YU x=[.sl 53 2 (A4 Zs x.facts),.sl 162 2 (A4 ZR x.binding)]:=yi rfl
def ZG (x:Zf):List CT:=[.int .i64 x.for_,.sl 3 1 (A4 ZO x.inn),.sl 3 1 (A4 ZO x.outs)]
theorem Zth (x:Zf):ZG x=[.int .i64 x.for_,.sl 3 1 (A4 ZO x.inn),.sl 3 1 (A4 ZO x.outs)]:=yi rfl
def Qu (x:Zt):List CT:=[.int .i64 x.nodes,.sl 179 3 (A4 ZG x.reasons)]
theorem Zsj (x:Zt):Qu x=[.int .i64 x.nodes,.sl 179 3 (A4 ZG x.reasons)]:=yi rfl
def ZfI (x:XR):List CT:=[.str x.rule,.sl 53 2 (A4 Zs x.token.facts),.sl 162 2 (A4 ZR x.token.binding)]
theorem ZqJ (x:XR):ZfI x=[.str x.rule,.sl 53 2 (A4 Zs x.token.facts),.sl 162 2 (A4 ZR x.token.binding)]:=yi rfl
def Zh4 (x:Za4):List CT:=[.str x.rule,.sl 53 2 (A4 Zs x.facts)]
theorem Ztx (x:Za4):Zh4 x=[.str x.rule,.sl 53 2 (A4 Zs x.facts)]:=yi rfl
def ZAW (x:ZwG):List CT:=[.sl 5 1 (A4 Zs8 x.b),.int .i64 x.i,.int .i64 x.h]
theorem Zvb (x:ZwG):ZAW x=[.sl 5 1 (A4 Zs8 x.b),.int .i64 x.i,.int .i64 x.h]:=yi rfl
def ZeO (x:(List Zi)):List CT:=[.sl 162 2 (A4 ZR x)]
theorem Zmh (x:(List Zi)):ZeO x=[.sl 162 2 (A4 ZR x)]:=yi rfl
def Zv9 (x:(List Bool)):List CT:=[.sl 4 1 (A4 Ze4 x)]
theorem ZqM (x:(List Bool)):Zv9 x=[.sl 4 1 (A4 Ze4 x)]:=yi rfl
attribute [go_sem] tt2 tt3 tt4 tt5 tt9 ZGz ZGt ZGE ZGj ZGh ZGJ ZGp ZGV ZGD ZGU ZGy ZGx ZGB ZGw ZGr ZGf ZGq ZGH ZGK ZGo ZGb ZGn ZGd ZGO ZGv ZGe ZF4 ZFe ZFl ZEQ ZFm ZEx ZEN ZE6 ZEw
attribute [go_sem] ZEu ZE7 ZE1 ZFK ZEX ZEn ZFb ZEE ZFA ZEz ZFD ZFP ZFI ZFq ZFj ZFv ZBt ZGG ZFJ ZFB ZF0 ZE2 ZFw ZFc ZFf ZFQ ZF9 ZFp ZF3 ZEV ZEU ZFY ZFG ZFW ZFM ZF2 ZFO ZEI ZEW ZE9
attribute [go_sem] ZFZ ZFx ZEA ZE5 ZFL ZED ZEH ZFC ZEK ZFd ZFg ZEo ZEs ZEq ZEG ZE4 ZFS ZFr ZFT ZFo ZFk ZEM ZFX ZFU ZEt ZFa ZFu ZF1 ZFt ZAy ZEd ZC3 ZA4 ZEe ZAJ ZDV ZCw ZBv ZCN ZBb
attribute [go_sem] ZEl ZBC ZCJ Zz0 ZBf ZDn ZD1 ZBs ZBQ ZDW ZA3 ZEg ZEc ZBz ZDl ZC6 ZD3 ZC9 ZCQ ZDE ZBV ZCb ZDI ZAf ZDY ZBM ZCP ZBB ZD7 ZD8 ZAE Zz6 ZBE ZDO ZBW ZAR ZAZ ZCq ZAY ZzN
attribute [go_sem] ZBU ZBS ZDt ZCp ZD9 ZAg ZEf ZBN Zz1 ZBZ ZBX ZBq ZAT ZEa ZDa ZAk ZDQ ZDg ZA7 ZDf ZDL ZBD ZBI ZBT ZA5 ZAj ZCj ZAx ZCC ZBd ZAK ZBp Zz8 ZDZ ZD4 ZzU ZAC ZB5 ZCD ZBn
attribute [go_sem] ZEj ZDG ZBg ZAN Zz2 ZB3 ZAP ZB7 ZB1 ZCt ZDh ZC2 ZCs ZAL ZBJ ZCd ZAo ZA0 ZzW ZCf ZBF ZCU ZDJ ZCV ZBY ZBO ZA1 ZAb ZDp ZAt ZAs ZAS ZDq ZCZ ZDN ZAp ZAV ZCW ZCK ZBH
attribute [go_sem] ZAI ZzK ZCX Zz7 ZDP ZAn Zz3 Zz5 ZBx ZCL ZBk ZCg ZAa ZBu ZAF ZDs ZDR ZBy ZCu ZAO ZBh ZDF ZCz ZC4 ZDA ZDi ZCc ZDC ZBR ZDD ZB8 ZDm ZAh ZB4 ZEm ZC7 ZzY ZzM ZzP ZDd
attribute [go_sem] ZAi ZDz ZEh ZCa ZCi ZzZ ZDy ZAr ZD6 ZAM ZCB ZCI ZBG ZBm ZBl ZCO ZCA ZBw ZD2 ZDj ZCF ZB9 ZCh ZDo ZBK ZCG ZDK ZA8 ZDU ZDb ZDT Zzy Zzx ZyJ Zye Zy7 Zzq Zy3 Zy1 ZxH
attribute [go_sem] Ztl ZwO Zr6 Zxh Zt3 Zxm ZxR Zt8 Zx1 Zwi Zth Zsj ZqJ Ztx Zvb Zmh ZqM
end
end Go.Proofs.YtlpkbfjcdaanmaaGreatDoor
