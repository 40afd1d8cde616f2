/- Texts of this proof, joined: BFn, BTok, Laid, DT, Shelf, SortH, SortZ, LCompare, SortS, LAtoi, LItoa, Ext, Dp0, Dp1, Dp2. What each holds is said at its theorems. -/
import Derived.Test.YtojnhepgnbhaaaaGreatDoorWithdrawFactQ4
import Derived.Test.YtojnhepgnbhaaaaGreatDoorWithdrawFactQ1
import Derived.Test.YtojnhepgnbhaaaaGreatDoorWithdrawFactQ3
import GoSem.Claims
import Derived.Test.YtojnhepgnbhaaaaGreatDoorProg
import Derived.Lib.LaidTab
import Derived.Lib.ItoaNum
import Derived.Shelf.Small.Strs
import Derived.Shelf.Small.Wraps
import Derived.Shelf.Strconv.Atoi
import Derived.Shelf.Strconv.Itoa0
import Derived.Shelf.Strconv.Itoa1
import Derived.Shelf.LaysM
import Derived.Shelf.Strconv.Itoa2
import Derived.Shelf.Strconv.Itoa3
import Derived.Shelf.Strconv.AtoiErrFast
import Derived.Shelf.Strconv.ParseIntEmpty
import Derived.Shelf.Strconv.AtoiFail
import Derived.Shelf.Strconv.Clone
import Derived.Shelf.Strconv.SyntaxError
import Derived.Shelf.LaysC
import Derived.Shelf.Strconv.ToError
import Derived.Shelf.Strconv.AtoiErr
import Derived.Shelf.Strconv.ErrVar
import Derived.Shelf.Sort.Plain
import Derived.Shelf.Slices.In.SortNone
import Derived.Shelf.Slices.In.SortNone2
import Derived.Lib.AtoiErrMem
import Derived.Lib.AppendIntMem
import Derived.Lib.ItoaLen
set_option linter.unusedSimpArgs false
set_option linter.unusedVariables false
namespace Go.Proofs.YtojnhepgnbhaaaaGreatDoor
open Go.RowKit
section
variable {P:Program} {J:World→Prop} {JF:Nat→Prop} {W:Q8} {U:Nat→Prop} {st:St} {w w':World} {a:Act} {tt:Nat→Option TI} {g:Gh}
def nK (g:Gh) (K:Nat→Prop) (b:Nat):Prop:=g.Z b∨∃k,K k∧b∈g.O k
theorem Zr0 {k e m n B:Nat} {cs:List Value} (h:w.ownsV 0 e m (g.val k) n cs) (hB:∀b∈(g.val k).ownBlock.toList,B≤b):w.ownsV B e m (g.val k) n cs:=by
 refine ⟨h.1,?_⟩
 rcases h.2 with h0 | ⟨q,o,cap,cur,hv,hg,r⟩
 ·exact .inl h0
 ·exact .inr ⟨q,o,cap,cur,hv,hB q (by simp [hv,Value.ownBlock]),r⟩
variable {K:Nat→Prop}
theorem ZoG [NW] (hI:HI W g st.ob w) (hK:∀k,K k→Zis (st.ob k)=false∧∀e m xs d,st.ob k=.row e m xs d→d=2) {x:AV} {ct:Bool × CT} {ks:List Nat} {v:Value} (h:ZeA st x=some (ct,ks)) (hks:∀k∈ks,K k∧∀b∈g.O k++g.D k,W.heap.size≤b) (hx:AVR g w x v):OC w W.heap.size (nK g K) ct v (g.F ks):=by
 have hsub:∀b,nK g K b→g.own b:=fun b hb=>by
  rcases hb with hz | ⟨k,_,mk⟩
  ·exact .inr hz
  ·exact .inl ⟨k,mk⟩
 cases x with
 | c y=>
  obtain ⟨L,h1,h2⟩:=hx
  cases y<;>simp only [ZeA,Option.some.injEq,Prod.mk.injEq] at h<;>obtain ⟨rfl,rfl⟩:=h
  ·exact ⟨⟨h1.1,rfl⟩,by simp [Gh.F]⟩
  ·exact ⟨⟨h1.1,rfl⟩,by simp [Gh.F]⟩
  ·exact ⟨⟨h1.1,rfl,h1.2.2⟩,by simp [Gh.F]⟩
  ·exact ⟨by simp [Gh.F],L,h1,fun b mb hb=>h2 b mb (hsub b hb)⟩
  ·exact ⟨by simp [Gh.F],L,h1,fun b mb hb=>h2 b mb (hsub b hb)⟩
  ·exact ⟨by simp [Gh.F],L,h1,fun b mb hb=>h2 b mb (hsub b hb)⟩
  ·exact ⟨by simp [Gh.F],L,h1,fun b mb hb=>h2 b mb (hsub b hb)⟩
  ·exact ⟨⟨rfl,h1.2⟩,by simp [Gh.F]⟩
  ·exact ⟨by simp [Gh.F],L,h1,fun b mb hb=>h2 b mb (hsub b hb)⟩
 | row k=>
  simp only [ZeA] at h
  split at h
  ·rename_i e m xs d hk
   obtain ⟨hm,cs,L,o1,o2,o3,o5⟩:=hI.deep hk
   split at h
   ·rename_i hd
    simp only [Option.some.injEq,Prod.mk.injEq] at h
    obtain ⟨rfl,rfl⟩:=h
    have hKk:=hks k (by simp)
    rcases o5 with ⟨_,q1,q2⟩ | ⟨q,_⟩ | ⟨q,_⟩
    ·refine ⟨hm,cs,L,by rw [hx.1];exact Zr0 o1 fun b mb=>hKk.2 b (by simp [q1,mb]),o2,by simp [Gh.F,q1,q2,hx.1],fun b mb=>.inr ⟨k,hKk.1,by rw [q1];rw [hx.1] at mb;exact mb⟩⟩
    ·omega
    ·omega
   ·rename_i hd
    simp only [Option.some.injEq,Prod.mk.injEq] at h
    obtain ⟨rfl,rfl⟩:=h
    have hnK:¬K k:=fun h=>hd ((hK k h).2 e m xs d hk)
    obtain ⟨A,cap,L0,s1,s2,s3,s4,s5⟩:=Sl.row o1
    refine ⟨by simp [Gh.F],L0++L,⟨A,cap,cs,L0,L,by rw [hx.1,s1],s2,s3,rfl,hm,s4,o2⟩,fun b mb hb=>?_⟩
    rcases List.mem_append.1 mb with m1 | m1
    ·have m2:=s5.subset m1
     rcases o5 with ⟨q,_⟩ | ⟨_,q1,q2⟩ | ⟨_,_,_,q⟩
     ·exact hd q
     ·have mk:b∈g.O k++g.D k:=by simp [q1,m2]
      rcases hb with hz | ⟨j,hj,mj⟩
      ·exact hI.nz mk hz
      ·exact hI.apart k j (fun e=>hnK (e ▸ hj)) b mk (by simp [mj])
     ·exact q b m2 (hsub b hb)
    ·exact o3 b m1 (hsub b hb)
  ·rename_i kk vk kv hk
   simp only [Option.some.injEq,Prod.mk.injEq] at h
   obtain ⟨rfl,rfl⟩:=h
   have ho:=hI.obs k
   rw [hk] at ho
   obtain ⟨b,es,c,q1,q2,q3,q4,q5,q6⟩:=ho
   have hnK:¬K k:=fun h=>by have:=(hK k h).1;rw [hk] at this;simp [Zis] at this
   refine ⟨by simp [Gh.F],[b],⟨b,es,c,by rw [hx.1,q1],q4,q5,q6,rfl⟩,fun x mx hb=>?_⟩
   simp at mx;subst mx
   have mk:x∈g.O k++g.D k:=by simp [q2]
   rcases hb with hz | ⟨j,hj,mj⟩
   ·exact hI.nz mk hz
   ·exact hI.apart k j (fun e=>hnK (e ▸ hj)) x mk (by simp [mj])
  ·simp at h
 | nil e m=>
  simp only [ZeA] at h
  split at h
  ·rename_i hm
   simp only [Option.some.injEq,Prod.mk.injEq] at h
   obtain ⟨rfl,rfl⟩:=h
   have hx':v=.slice none 0 0:=hx
   subst hx'
   exact ⟨hm,[],[],ZiI _ _ _ _,⟨rfl,rfl⟩,by simp [Gh.F,Value.ownBlock],by simp [Value.ownBlock]⟩
  ·simp at h
 | n y=>
  obtain ⟨L,h1,h2⟩:=NR.toC hx
  simp only [ZeA,Option.some.injEq,Prod.mk.injEq] at h
  obtain ⟨rfl,rfl⟩:=h
  exact ⟨by simp [Gh.F],L,h1,fun b mb hb=>h2 b mb (hsub b hb)⟩
 | dead=>
  simp only [ZeA,Option.some.injEq,Prod.mk.injEq] at h
  obtain ⟨rfl,rfl⟩:=h
  exact ⟨by simp [Gh.F],[],⟨rfl,hx⟩,by simp⟩
theorem Zmt [NW] (hI:HI W g st.ob w) (hK:∀k,K k→Zis (st.ob k)=false∧∀e m xs d,st.ob k=.row e m xs d→d=2):∀{xs:List AV} {cts:List (Bool × CT)} {ks:List Nat} {vs:List Value},Zce st xs=some (cts,ks)→(∀k∈ks,K k∧∀b∈g.O k++g.D k,W.heap.size≤b)→ZH (AVR g w) xs vs→OCs w W.heap.size (nK g K) cts vs (g.F ks)
 | [],_,_,[],h,_,_=>by
  simp only [Zce,Option.some.injEq,Prod.mk.injEq] at h
  obtain ⟨rfl,rfl⟩:=h
  exact ⟨rfl,by simp [Gh.F]⟩
 | [],_,_,_::_,_,_,h=>h.elim
 | _::_,_,_,[],_,_,h=>h.elim
 | x::r,cts,ks,v::vs,h,hks,hr=>by
  simp only [Zce] at h
  obtain ⟨⟨c1,k1⟩,h1,h⟩:=Option.bind_eq_some_iff.1 h
  obtain ⟨⟨c2,k2⟩,h2,h⟩:=Option.map_eq_some_iff.1 h
  simp only [Prod.mk.injEq] at h
  obtain ⟨rfl,rfl⟩:=h
  exact ⟨v,vs,g.F k1,g.F k2,rfl,by simp [Gh.F],ZoG hI hK h1 (fun k mk=>hks k (by simp [mk])) hr.1,Zmt hI hK h2 (fun k mk=>hks k (by simp [mk])) hr.2⟩
theorem Zph [NW] (hI:HI W g st.ob w) (hK:∀k,K k→Zis (st.ob k)=false∧∀e m xs d,st.ob k=.row e m xs d→d=2) {ag:Bool} {cs:List AV} {cts:List (Bool × CT)} {ks:List Nat} {v:Value} (h:Zce st cs=some (cts,ks)) (hks:∀k∈ks,K k∧∀b∈g.O k++g.D k,W.heap.size≤b) (hx:PVR g w ag cs v):OP w W.heap.size (nK g K) (ag,cts) v (g.F ks):=by
 cases ag with
 | true=>obtain ⟨vs,rfl,h2⟩:=hx;exact .inl ⟨rfl,vs,rfl,Zmt hI hK h hks h2⟩
 | false=>
  obtain ⟨x,rfl,h2⟩:=hx
  simp only [Zce] at h
  obtain ⟨⟨c1,k1⟩,h1,h⟩:=Option.bind_eq_some_iff.1 h
  simp at h
  obtain ⟨rfl,rfl⟩:=h
  exact .inr ⟨rfl,c1,rfl,ZoG hI hK h1 hks h2⟩
theorem OC.one {B:Nat} {n:Nat→Prop} {x:Bool × CT} {v:Value} {F:List Nat} (h:OC w B n x v F):v.oneCell'=true:=by
 obtain ⟨b,x⟩:=x
 cases b with
 | true=>obtain ⟨_,L,h1,_⟩:=h;exact h1.one
 | false=>
  cases x with
  | sl e q xs=>
   obtain ⟨_,cs,L,o1,_⟩:=h
   obtain ⟨A,cap,hv⟩:=Zct o1
   rw [hv];rfl
  | int k i=>exact h.1.one
  | bool b=>exact h.1.one
  | str s=>exact h.1.one
  | ifc s=>exact h.1.one
  | any=>exact h.1.one
  | _=>exact h.elim
/- what is given is said to be lent -/
theorem ZnO [NW] {B:Nat} {n:Nat→Prop}:∀{r res:List (Bool × CT)} {vs:List Value} {F:List Nat},OCs w B n r vs F→wkC r res→F.Nodup→∃F',F'.Sublist F∧∀m:Nat→Prop,(∀b∈F',n b→m b)→(∀b,m b→n b)→(∀b∈F,m b→b∈F')→OCs w B m res vs F'
 | [],[],vs,F,h,_,_=>⟨[],by simp,fun m _ _ _=>⟨h.1,rfl⟩⟩
 | [],_::_,_,_,_,h,_=>h.elim
 | _::_,[],_,_,_,h,_=>h.elim
 | x::r,y::res,_,_,⟨v,vs,F1,F2,rfl,rfl,h1,h2⟩,hw0,hnd=>by
  rw [List.nodup_append] at hnd
  have hw0:wk1 x y (wkC r res):=hw0
  unfold wk1 at hw0
  by_cases hany:ZqC y.2=true
  ·rw [if_pos hany] at hw0
   obtain ⟨F2',s2,h2'⟩:=ZnO h2 hw0 hnd.2.1
   refine ⟨F2',s2.trans (List.sublist_append_right _ _),fun m m1 m2 m3=>⟨v,vs,[],F2',rfl,rfl,?_,h2' m m1 m2 fun b mb hb=>m3 b (by simp [mb]) hb⟩⟩
   have h1':=h1.one
   obtain ⟨b2,y⟩:=y
   cases y<;>simp [ZqC] at hany
   cases b2 with
   | true=>exact ⟨rfl,[],⟨rfl,h1'⟩,by simp⟩
   | false=>exact ⟨⟨rfl,h1'⟩,rfl⟩
  rw [if_neg hany] at hw0
  obtain ⟨e1,e2,hw⟩:=hw0
  obtain ⟨F2',s2,h2'⟩:=ZnO h2 hw hnd.2.1
  have key:∃F1',F1'.Sublist F1∧∀m:Nat→Prop,(∀b∈F1',n b→m b)→(∀b,m b→n b)→(∀b∈F1,m b→b∈F1')→OC w B m y v F1':=by
   obtain ⟨b1,x⟩:=x
   obtain ⟨b2,y⟩:=y
   simp only at e1 e2
   subst e1
   cases b1 with
   | true=>
    have:b2=true:=by rcases e2 with e | e<;>simp_all
    subst this
    obtain ⟨rfl,L,q1,q2⟩:=h1
    exact ⟨[],by simp,fun m _ m2 _=>⟨rfl,L,q1,fun b mb hb=>q2 b mb (m2 b hb)⟩⟩
   | false=>
    cases b2 with
    | false=>
     refine ⟨F1,List.Sublist.refl _,fun m m1 _ _=>?_⟩
     cases x with
     | sl e q xs=>
      obtain ⟨hm,cs,L,o1,o2,o3,o4⟩:=h1
      exact ⟨hm,cs,L,o1,o2,o3,fun b mb=>m1 b (by simp [o3,mb]) (o4 b mb)⟩
     | int k i=>exact h1
     | bool b=>exact h1
     | str s=>exact h1
     | ifc s=>exact h1
     | any=>exact h1
     | _=>exact h1.elim
    | true=>
     refine ⟨[],by simp,fun m _ _ m3=>⟨rfl,?_⟩⟩
     cases x with
     | sl e q xs=>
      obtain ⟨hm,cs,L,o1,o2,o3,o4⟩:=h1
      obtain ⟨A,cap,L0,s1,s2,s3,s4,s5⟩:=Sl.row o1
      refine ⟨L0++L,⟨A,cap,cs,L0,L,s1,s2,s3,rfl,hm,s4,o2⟩,fun b mb hb=>?_⟩
      have:b∈F1:=by
       rw [o3]
       rcases List.mem_append.1 mb with m1 | m1
       ·exact List.mem_append.2 (.inl (s5.subset m1))
       ·exact List.mem_append.2 (.inr m1)
      have:=m3 b this hb
      simp at this
     | int k i=>exact ⟨[],h1.1,by simp⟩
     | bool b=>exact ⟨[],h1.1,by simp⟩
     | str s=>exact ⟨[],h1.1,by simp⟩
     | ifc s=>exact ⟨[],h1.1,by simp⟩
     | any=>exact ⟨[],h1.1,by simp⟩
     | _=>exact h1.elim
  obtain ⟨F1',s1,h1'⟩:=key
  refine ⟨F1'++F2',List.Sublist.append s1 s2,fun m m1 m2 m3=>⟨v,vs,F1',F2',rfl,rfl,h1' m (fun b mb=>m1 b (by simp [mb])) m2 (fun b mb hb=>?_),h2' m (fun b mb=>m1 b (by simp [mb])) m2 (fun b mb hb=>?_)⟩⟩
  ·rcases List.mem_append.1 (m3 b (by simp [mb]) hb) with h | h
   ·exact h
   ·exact absurd rfl (hnd.2.2 b mb b (s2.subset h))
  ·rcases List.mem_append.1 (m3 b (by simp [mb]) hb) with h | h
   ·exact absurd rfl (hnd.2.2 b (s1.subset h) b mb)
   ·exact h
theorem ZxC [NW] {B:Nat} {n:Nat→Prop} {x y:RT} {v:Value} {F:List Nat} (h:OP w B n x v F) (e1:x.1=y.1) (hw:wkC x.2 y.2) (hnd:F.Nodup):∃F',F'.Sublist F∧∀m:Nat→Prop,(∀b∈F',n b→m b)→(∀b,m b→n b)→(∀b∈F,m b→b∈F')→OP w B m y v F':=by
 rcases h with ⟨h1,vs,rfl,h2⟩ | ⟨h1,ct,h2,h3⟩
 ·obtain ⟨F',s,h⟩:=ZnO h2 hw hnd
  exact ⟨F',s,fun m a b c=>.inl ⟨e1 ▸ h1,vs,rfl,h m a b c⟩⟩
 ·obtain ⟨F',s,h⟩:=ZnO (r:=x.2) (vs:=[v]) (F:=F) (by rw [h2];exact ⟨v,[],F,[],rfl,by simp,h3,rfl,rfl⟩) hw hnd
  refine ⟨F',s,fun m p1 p2 p3=>.inr ⟨e1 ▸ h1,?_⟩⟩
  have h4:=h m p1 p2 p3
  generalize y.2=l at h4 hw
  cases l with
  | nil=>rw [h2] at hw;exact hw.elim
  | cons c l=>
   cases l with
   | nil=>
    obtain ⟨v',vs',F1,F2,q1,rfl,q3,q4⟩:=h4
    simp only [List.cons.injEq] at q1
    obtain ⟨rfl,rfl⟩:=q1
    obtain ⟨_,rfl⟩:=q4
    exact ⟨c,rfl,by simpa using q3⟩
   | cons _ _=>
    rw [h2] at hw
    have hw:wk1 _ _ False:=hw
    unfold wk1 at hw
    split at hw
    ·exact hw.elim
    ·exact hw.2.2.elim
theorem ZsI [NW] {B:Nat} {n:Nat→Prop}:∀{r res:List RT} {vs:List Value} {F:List Nat},OPs w B n r vs F→wkR r res→F.Nodup→∃F',F'.Sublist F∧∀m:Nat→Prop,(∀b∈F',n b→m b)→(∀b,m b→n b)→(∀b∈F,m b→b∈F')→OPs w B m res vs F'
 | [],[],vs,F,h,_,_=>⟨[],by simp,fun m _ _ _=>⟨h.1,rfl⟩⟩
 | [],_::_,_,_,_,h,_=>h.elim
 | _::_,[],_,_,_,h,_=>h.elim
 | x::r,y::res,_,_,⟨v,vs,F1,F2,rfl,rfl,h1,h2⟩,⟨e1,e2,hw⟩,hnd=>by
  rw [List.nodup_append] at hnd
  obtain ⟨F2',s2,h2'⟩:=ZsI h2 hw hnd.2.1
  obtain ⟨F1',s1,h1'⟩:=ZxC h1 e1 e2 hnd.1
  refine ⟨F1'++F2',List.Sublist.append s1 s2,fun m m1 m2 m3=>⟨v,vs,F1',F2',rfl,rfl,h1' m (fun b mb=>m1 b (by simp [mb])) m2 (fun b mb hb=>?_),h2' m (fun b mb=>m1 b (by simp [mb])) m2 (fun b mb hb=>?_)⟩⟩
  ·rcases List.mem_append.1 (m3 b (by simp [mb]) hb) with h | h
   ·exact h
   ·exact absurd rfl (hnd.2.2 b mb b (s2.subset h))
  ·rcases List.mem_append.1 (m3 b (by simp [mb]) hb) with h | h
   ·exact absurd rfl (hnd.2.2 b (s1.subset h) b mb)
   ·exact h
def ZeV (tmps:Array Value):ResultVar→Sem Value
 | .tmp t=>pure (tmps.getD t undef)
 | .cell b t=>do loadVar t (←asAddr (tmps.getD b undef))
theorem Zhc (fn:Func) (tmps:Array Value):results fn tmps=(do let vs ←fn.results.mapM (ZeV tmps);pure (if h:vs.size=1 then vs[0] else .tuple vs)):=by
 unfold results
 congr 1
theorem Zki [NW] (htt:∀t i,tt t=some i→TOk P t i) (hI:HI W g st.ob w) (hS:∀t,SVR g w (st.sl t) (a.tmps.getD t undef)) (hU:StU U st) (hK:∀k,K k→Zis (st.ob k)=false∧∀e m xs d,st.ob k=.row e m xs d→d=2):∀{rs:List ResultVar} {res:List RT} {ks:List Nat},Zb9 tt st rs=some (res,ks)→(∀k∈ks,K k∧∀b∈g.O k++g.D k,W.heap.size≤b)→
  ∃vs:List Value,(rs.mapM (ZeV a.tmps)).run P w=.ok vs w∧OPs w W.heap.size (nK g K) res vs (g.F ks)
 | [],res,ks,h,_=>by
  simp only [Zb9,Option.some.injEq,Prod.mk.injEq] at h
  obtain ⟨rfl,rfl⟩:=h
  exact ⟨[],by simp,rfl,by simp [Gh.F]⟩
 | .tmp t::r,res,ks,h,hks=>by
  simp only [Zb9] at h
  split at h
  ·rename_i ag cs hsl
   obtain ⟨⟨c1,k1⟩,h1,h⟩:=Option.bind_eq_some_iff.1 h
   obtain ⟨⟨c2,k2⟩,h2,h⟩:=Option.map_eq_some_iff.1 h
   simp only [Prod.mk.injEq] at h
   obtain ⟨rfl,rfl⟩:=h
   obtain ⟨vs,i1,i2⟩:=Zki htt hI hS hU hK h2 (fun k mk=>hks k (by simp [mk]))
   have hs:=hS t
   rw [hsl] at hs
   refine ⟨a.tmps.getD t undef::vs,?_,_,vs,g.F k1,g.F k2,rfl,by simp [Gh.F],Zph hI hK h1 (fun k mk=>hks k (by simp [mk])) hs,i2⟩
   simp only [List.mapM_cons,ZeV,Sem.run_bind,Sem.run_pure,Result.andThen_ok,i1]
  ·simp at h
 | .cell t ty::r,res,ks,h,hks=>by
  simp only [Zb9] at h
  split at h
  ·rename_i ag cs hsl
   obtain ⟨⟨c1,k1⟩,h1,h⟩:=Option.bind_eq_some_iff.1 h
   obtain ⟨⟨c2,k2⟩,h2,h⟩:=Option.map_eq_some_iff.1 h
   simp only [Prod.mk.injEq] at h
   obtain ⟨rfl,rfl⟩:=h
   obtain ⟨vs,i1,i2⟩:=Zki htt hI hS hU hK h2 (fun k mk=>hks k (by simp [mk]))
   obtain ⟨cv,l1,l2,_⟩:=ZqM (P:=P) (U:=U) htt hI hU hsl (hS t)
   have hl:(do loadVar ty (←asAddr (a.tmps.getD t undef)):Sem Value).run P w=.ok cv w:=by
    have:∃b,a.tmps.getD t undef=.pointer (some b):=by
     have hs:=hS t
     cases hsl':st.sl t with
     | bp k off=>rw [hsl'] at hs;obtain ⟨b,_,hv⟩:=hs;exact ⟨_,hv⟩
     | rp k m i off=>rw [hsl'] at hs;obtain ⟨b,_,_,_,_,hv⟩:=hs;exact ⟨_,hv⟩
     | ep e off=>rw [hsl'] at hs;obtain ⟨b,_,_,_,hv,_⟩:=hs;exact ⟨_,hv⟩
     | p ag2 cs2=>
      rw [hsl'] at hs hsl
      cases ag2 with
      | true=>simp [ZbW] at hsl
      | false=>
       cases cs2 with
       | nil=>simp [ZbW] at hsl
       | cons y q=>
        cases q with
        | cons _ _=>cases y<;>first | (simp [ZbW] at hsl;done) | (rename_i z;cases z<;>simp [ZbW] at hsl)
        | nil=>cases y with
         | c z=>cases z with
          | pt e=>obtain ⟨b,_,_,hv,_⟩:=Zqv hs;exact ⟨_,hv⟩
          | _=>simp [ZbW] at hsl
         | _=>simp [ZbW] at hsl
     | _=>rw [hsl'] at hsl;simp [ZbW] at hsl
    obtain ⟨b,hb⟩:=this
    rw [hb] at l1 ⊢
    simpa [Instr.loadAt,Instr.sureAddr,asAddr] using l1
   refine ⟨cv::vs,?_,_,vs,g.F k1,g.F k2,rfl,by simp [Gh.F],Zph hI hK h1 (fun k mk=>hks k (by simp [mk])) l2,i2⟩
   have hl':(ZeV a.tmps (.cell t ty)).run P w=.ok cv w:=hl
   simp only [List.mapM_cons,Sem.run_bind,hl',i1,Sem.run_pure,Result.andThen_ok]
  ·simp at h
theorem Zqf:∀{xs:List AV} {cts:List (Bool × CT)} {ks:List Nat},Zce st xs=some (cts,ks)→∀k∈ks,∃e m xs,st.ob k=.row e m xs 2
 | [],_,_,h,k,mk=>by
  simp only [Zce,Option.some.injEq,Prod.mk.injEq] at h
  rw [←h.2] at mk;simp at mk
 | x::r,cts,ks,h,k,mk=>by
  simp only [Zce] at h
  obtain ⟨⟨c1,k1⟩,h1,h⟩:=Option.bind_eq_some_iff.1 h
  obtain ⟨⟨c2,k2⟩,h2,h⟩:=Option.map_eq_some_iff.1 h
  simp only [Prod.mk.injEq] at h
  obtain ⟨rfl,rfl⟩:=h
  rcases List.mem_append.1 mk with mk | mk
  ·cases x with
   | c y=>cases y<;>simp only [ZeA,Option.some.injEq,Prod.mk.injEq] at h1<;>(rw [←h1.2] at mk;simp at mk)
   | row j=>
    simp only [ZeA] at h1
    split at h1
    ·rename_i e m xs d hk
     split at h1
     ·rename_i hd
      simp only [Option.some.injEq,Prod.mk.injEq] at h1
      rw [←h1.2] at mk
      simp at mk
      subst mk
      exact ⟨e,m,xs,by rw [hk,hd]⟩
     ·simp only [Option.some.injEq,Prod.mk.injEq] at h1
      rw [←h1.2] at mk;simp at mk
    ·simp only [Option.some.injEq,Prod.mk.injEq] at h1
     rw [←h1.2] at mk;simp at mk
    ·simp at h1
   | nil e m=>
    simp only [ZeA] at h1
    split at h1
    ·simp only [Option.some.injEq,Prod.mk.injEq] at h1
     rw [←h1.2] at mk;simp at mk
    ·simp at h1
   | n y=>
    simp only [ZeA,Option.some.injEq,Prod.mk.injEq] at h1
    rw [←h1.2] at mk;simp at mk
   | dead=>
    simp only [ZeA,Option.some.injEq,Prod.mk.injEq] at h1
    rw [←h1.2] at mk;simp at mk
  ·exact Zqf h2 k mk
theorem ZjW [NW]:∀{rs:List ResultVar} {res:List RT} {ks:List Nat},Zb9 tt st rs=some (res,ks)→∀k∈ks,∃e m xs,st.ob k=.row e m xs 2
 | [],_,_,h,k,mk=>by
  simp only [Zb9,Option.some.injEq,Prod.mk.injEq] at h
  rw [←h.2] at mk;simp at mk
 | .tmp t::r,res,ks,h,k,mk=>by
  simp only [Zb9] at h
  split at h
  ·obtain ⟨⟨c1,k1⟩,h1,h⟩:=Option.bind_eq_some_iff.1 h
   obtain ⟨⟨c2,k2⟩,h2,h⟩:=Option.map_eq_some_iff.1 h
   simp only [Prod.mk.injEq] at h
   obtain ⟨rfl,rfl⟩:=h
   rcases List.mem_append.1 mk with mk | mk
   ·exact Zqf h1 k mk
   ·exact ZjW h2 k mk
  ·simp at h
 | .cell t ty::r,res,ks,h,k,mk=>by
  simp only [Zb9] at h
  split at h
  ·obtain ⟨⟨c1,k1⟩,h1,h⟩:=Option.bind_eq_some_iff.1 h
   obtain ⟨⟨c2,k2⟩,h2,h⟩:=Option.map_eq_some_iff.1 h
   simp only [Prod.mk.injEq] at h
   obtain ⟨rfl,rfl⟩:=h
   rcases List.mem_append.1 mk with mk | mk
   ·exact Zqf h1 k mk
   ·exact ZjW h2 k mk
  ·simp at h
theorem ZnE [NW] {z:Nat→Prop} {x:Bool × List CT} {v:Value} (hg:∀b,g.own b→z b) (h:Zkk w z x v):SVR g w (.p x.1 (x.2.map .c)) v:=by
 rcases h with ⟨h1,vs,L,rfl,h2,h4⟩ | ⟨h1,ct,L,h2,h3,h4⟩
 ·rw [h1];exact ⟨vs,rfl,h2.avr fun b mb hb=>h4 b mb (hg b hb)⟩
 ·rw [h1,h2];exact ⟨_,rfl,L,h3,fun b mb hb=>h4 b mb (hg b hb)⟩
theorem Zsx [NW] (htt:∀t i,tt t=some i→TOk P t i) {fn:Func} {res:List RT} (hI:Inv W U st a w) (hH:HI W g st.ob w) (hS:∀t,SVR g w (st.sl t) (a.tmps.getD t undef)) {r:List RT} {ks:List Nat} (hx:Zb9 tt st fn.results.toList=some (r,ks)) (hnd:ks.Nodup) (hw:wkR r res)
  (hB:∀k∈ks,∀b∈g.O k++g.D k,W.heap.size≤b) (K0:Nat→Prop) (hK0:∀k,K0 k→Zis (st.ob k)=false∧∀e m xs d,st.ob k=.row e m xs d→d=2):
  ∃v m,(results fn a.tmps).run P w=.ok v w∧Zma w W.heap.size m res v∧(∀b,m b→g.own b)∧(∀b,m b→g.Z b∨(∃k,(k∈ks∨K0 k)∧b∈g.O k))∧∀b,b∉g.F ks→(g.Z b∨∃k,K0 k∧b∈g.O k)→m b:=by
 obtain ⟨us,r1,r2⟩:=Zki (K:=fun k=>k∈ks∨K0 k) htt hH hS hI.wf (fun k hk=>by
  rcases hk with hk | hk
  ·obtain ⟨e',m',xs',h'⟩:=ZjW hx k hk
   refine ⟨by rw [h'];rfl,fun e m xs d he=>?_⟩
   rw [he] at h'
   simp only [Ob.row.injEq] at h'
   exact h'.2.2.2
  ·exact hK0 k hk) hx (fun k mk=>⟨.inl mk,hB k mk⟩)
 have hndF:=hH.nodupF hnd
 obtain ⟨F',s,hF⟩:=ZsI r2 hw hndF
 have hge:∀b∈g.F ks,W.heap.size≤b:=fun b mb=>by
  obtain ⟨k,hk,mk⟩:=Zjp mb
  exact hB k hk b mk
 refine ⟨(if h:us.toArray.size=1 then us.toArray[0] else .tuple us.toArray),fun b=>nK g (fun k=>k∈ks∨K0 k) b∧(b∈g.F ks→b∈F'),?_,⟨us,F',hF _ (fun b mb hb=>⟨hb,fun _=>mb⟩) (fun b hb=>hb.1) (fun b mb hb=>hb.2 mb),⟨hndF.sublist s,fun b mb=>hge b (s.subset mb),fun b mb=>?_⟩,rfl⟩,fun b hb=>?_,fun b hb=>hb.1,fun b hb hn=>⟨?_,fun mb=>absurd mb hb⟩⟩
 ·rw [Zhc]
  have e:fn.results.mapM (ZeV a.tmps)=List.toArray <$> fn.results.toList.mapM (ZeV a.tmps):=by
   rw [←List.mapM_toArray]
  have e2:(List.toArray <$> fn.results.toList.mapM (ZeV a.tmps)).run P w=.ok us.toArray w:=by
   rw [map_eq_pure_bind]
   simp only [Sem.run_bind,r1,Result.andThen_ok,Sem.run_pure]
  rw [e]
  simp only [Sem.run_bind,e2,Result.andThen_ok,Sem.run_pure]
 ·obtain ⟨k,hk,mk⟩:=Zjp (s.subset mb)
  obtain ⟨e',m',xs',h'⟩:=ZjW hx k hk
  have:=(hH.plain k b mk).2
  rw [h'] at this
  exact this
 ·rcases hb.1 with hz | ⟨k,_,mk⟩
  ·exact .inr hz
  ·exact .inl ⟨k,mk⟩
 ·rcases hn with hz | ⟨k,hk,mk⟩
  ·exact .inl hz
  ·exact .inr ⟨k,.inr hk,mk⟩
theorem Zow [NW] {g':Gh} (hv:∀k e m xs,st.ob k=.row e m xs 2→g'.val k=g.val k∧U k) {x:AV} {v:Value} (h:AVR g w x v):AVR g' w (ZhB st x) v∧avU U (ZhB st x):=by
 have one:=h.one
 unfold ZhB
 split
 ·obtain ⟨L,⟨h1,_⟩,_⟩:=h
  exact ⟨⟨[],⟨h1,rfl⟩,by simp⟩,trivial⟩
 ·obtain ⟨L,⟨h1,_⟩,_⟩:=h
  exact ⟨⟨[],⟨h1,rfl⟩,by simp⟩,trivial⟩
 ·obtain ⟨L,⟨h1,_,h3⟩,_⟩:=h
  exact ⟨⟨[],⟨h1,rfl,h3⟩,by simp⟩,trivial⟩
 ·rename_i k
  cases hk:st.ob k with
  | row e m xs d=>
   simp only [ZqR]
   split
   ·rename_i hd
    subst hd
    obtain ⟨e1,e2⟩:=hv k e m xs hk
    exact ⟨⟨h.1.trans e1.symm,one⟩,e2⟩
   ·exact ⟨one,trivial⟩
  | gone=>exact ⟨one,trivial⟩
  | box _ _=>exact ⟨one,trivial⟩
  | map _ _ _=>exact ⟨one,trivial⟩
 ·exact ⟨one,trivial⟩
theorem ZiN [NW] {g':Gh} (hv:∀k e m xs,st.ob k=.row e m xs 2→g'.val k=g.val k∧U k):∀{cs:List AV} {vs:List Value},ZH (AVR g w) cs vs→ZH (AVR g' w) (cs.map (ZhB st)) vs
 | [],[],_=>trivial
 | _::_,_::_,h=>⟨(Zow hv h.1).1,ZiN hv h.2⟩
 | [],_::_,h=>h.elim
 | _::_,[],h=>h.elim
theorem ZsO [NW] {x:SV} {v:Value} {g':Gh} (hv:∀k e m xs,st.ob k=.row e m xs 2→g'.val k=g.val k∧U k) (hu:svU U x) (hvu:∀k,U k→g'.val k=g.val k) (h:SVR g w x v):SVR g' w (ZmN st x) v:=by
 cases x with
 | p ag cs=>
  cases ag with
  | true=>obtain ⟨vs,e,h⟩:=h;exact ⟨vs,e,ZiN hv h⟩
  | false=>obtain ⟨y,rfl,h⟩:=h;exact ⟨_,rfl,(Zow hv h).1⟩
 | bp k off=>obtain ⟨b,h1,h2⟩:=h;exact ⟨b,(hvu k hu).trans h1,h2⟩
 | _=>trivial
theorem Zqo (hv:∀k e m xs,st.ob k=.row e m xs 2→U k) (x:AV):avU U (ZhB st x):=by
 unfold ZhB
 split
 ·trivial
 ·trivial
 ·trivial
 ·rename_i k
  cases hk:st.ob k with
  | row e m xs d=>
   simp only [ZqR]
   split
   ·rename_i hd
    subst hd
    exact hv k e m xs hk
   ·trivial
  | gone=>trivial
  | box _ _=>trivial
  | map _ _ _=>trivial
 ·trivial
theorem ZtN (hv:∀k e m xs,st.ob k=.row e m xs 2→U k) (x:SV) (hu:svU U x):svU U (ZmN st x):=by
 cases x with
 | p ag cs=>
  intro y my
  obtain ⟨x,mx,rfl⟩:=List.mem_map.1 my
  exact Zqo hv x
 | bp k off=>exact hu
 | _=>trivial
theorem ZkV {o:Ob} (h:Zaa st o≠.gone):(∃e m xs,o=.row e m xs 2)∨∃t cs,o=.box t cs:=by
 cases o with
 | row e m xs d=>
  simp only [Zaa] at h
  split at h
  ·rename_i hd
   subst hd
   exact .inl ⟨e,m,xs,rfl⟩
  ·exact absurd rfl h
 | gone=>exact absurd rfl h
 | box t cs=>exact .inr ⟨t,cs,rfl⟩
 | map _ _ _=>exact absurd rfl h
theorem Zti [NW] (hB:W.heap.size≤NW.B0) (t:Nat) (hI:Inv W U st a w) (hkn:∀k,st.n≤k→¬U k):∃U',Inv W U' (st.thaw t) a w:=by
 obtain ⟨⟨g,hH,hS⟩,hU,hdef,hh⟩:=hI
 unfold St.thaw
 cases hv:st.sl t with
 | p ag cs=>
  by_cases hc:∃e m xs,ag=false∧cs=[.n (.sl e m xs)]
  ·obtain ⟨e,m,xs,rfl,rfl⟩:=hc
   have hs:=hS t
   rw [hv] at hs
   obtain ⟨_,_,_,cs,L,h1,h2,h3,h4,h5,h6⟩:=Zx9 hs
   simp only [CT.sl.injEq] at h1
   obtain ⟨rfl,rfl,rfl⟩:=h1
   let v:=a.tmps.getD t undef
   have hn:st.ob st.n=.gone:=hU.gone _ (hkn _ (Nat.le_refl _))
   have hrow:∀k e m xs,st.ob k=.row e m xs 2→k≠st.n∧U k:=fun k e m xs hk=>⟨fun e=>by rw [e,hn] at hk;simp at hk,Classical.byContradiction fun h=>by rw [hU.gone k h] at hk;simp at hk⟩
   let g':Gh:=⟨fun k=>if k=st.n then v else g.val k,fun k=>if k=st.n then v.ownBlock.toList else (match Zaa st (st.ob k) with | .gone=>[] | _=>g.O k),fun k=>if k=st.n then L else (match Zaa st (st.ob k) with | .gone=>[] | _=>g.D k),g.Z⟩
   have gn:g'.val st.n=v∧g'.O st.n=v.ownBlock.toList∧g'.D st.n=L:=⟨if_pos rfl,if_pos rfl,if_pos rfl⟩
   have gk:∀k,k≠st.n→Zaa st (st.ob k)≠.gone→g'.O k=g.O k∧g'.D k=g.D k:=fun k hk ho=>by
    rcases ZkV ho with ⟨e',m',xs',e1⟩ | ⟨t',cs',e1⟩
    ·simp [g',if_neg hk,e1,Zaa]
    ·simp [g',if_neg hk,e1,Zaa]
   have gg:∀k,k≠st.n→Zaa st (st.ob k)=.gone→g'.O k=[]∧g'.D k=[]:=fun k hk ho=>by
    simp only [g',if_neg hk,ho]
    exact ⟨trivial,trivial⟩
   have hOD:∀k b,b∈g'.O k++g'.D k→(k=st.n∧b∈v.ownBlock.toList++L)∨(k≠st.n∧Zaa st (st.ob k)≠.gone∧b∈g.O k++g.D k):=fun k b mb=>by
    by_cases hk:k=st.n
    ·subst hk;rw [gn.2.1,gn.2.2] at mb;exact .inl ⟨rfl,mb⟩
    ·by_cases ho:Zaa st (st.ob k)=.gone
     ·rw [(gg k hk ho).1,(gg k hk ho).2] at mb;simp at mb
     ·rw [(gk k hk ho).1,(gk k hk ho).2] at mb;exact .inr ⟨hk,ho,mb⟩
   have hlow:∀k b,b∈g.O k++g.D k→g.low b:=fun k b mb=>by
    rcases List.mem_append.1 mb with m1 | m1
    ·exact .inl (.inl ⟨k,m1⟩)
    ·exact .inr ⟨k,m1⟩
   refine ⟨fun k=>U k∨k=st.n,⟨g',⟨hH.below,fun k=>?_,fun k=>?_,fun k j hkj b mb mj=>?_,fun k b mb=>?_,hH.gz,hH.zx,hH.nw⟩,fun s=>?_⟩,⟨fun s=>?_,fun k=>?_,fun k hk=>?_⟩,hdef,hh⟩
   ·show ObR g' w k (if k=st.n then .row e m xs 2 else Zaa st (st.ob k))
    by_cases hk:k=st.n
    ·subst hk
     rw [if_pos rfl]
     exact ⟨h2,cs,L,by rw [gn.1];exact h3,h4,.inl ⟨rfl,by rw [gn.2.1,gn.1],gn.2.2⟩⟩
    ·rw [if_neg hk]
     by_cases ho:Zaa st (st.ob k)=.gone
     ·rw [ho];exact gg k hk ho
     ·have hob:=hH.obs k
      have ev:g'.val k=g.val k:=if_neg hk
      obtain ⟨eO,eD⟩:=gk k hk ho
      rcases ZkV ho with ⟨e',m',xs',e1⟩ | ⟨t',cs',e1⟩
      ·rw [e1] at hob ⊢
       obtain ⟨p1,cs',L',p2,p3,p4⟩:=hob
       rw [show Zaa st (.row e' m' xs' 2)=.row e' m' xs' 2 from by simp [Zaa]]
       refine ⟨p1,cs',L',by rw [ev];exact p2,p3,?_⟩
       rw [ev,eO,eD]
       rcases p4 with p4 | ⟨q,_⟩ | ⟨q,_⟩
       ·exact .inl p4
       ·omega
       ·omega
      ·rw [e1] at hob ⊢
       obtain ⟨b,vs,p1,p2,p3,p4,p5⟩:=hob
       exact ⟨b,vs,ev.trans p1,eO.trans p2,eD.trans p3,p4,ZiN (U:=U) (fun k e m xs hk=>⟨if_neg (hrow k e m xs hk).1,(hrow k e m xs hk).2⟩) p5⟩
   ·by_cases hk:k=st.n
    ·subst hk;rw [gn.2.1,gn.2.2];exact h5
    ·by_cases ho:Zaa st (st.ob k)=.gone
     ·rw [(gg k hk ho).1,(gg k hk ho).2];simp
     ·rw [(gk k hk ho).1,(gk k hk ho).2];exact hH.nodup k
   ·rcases hOD k b mb with ⟨rfl,m1⟩ | ⟨k1,k2,m1⟩
    ·rcases hOD j b mj with ⟨rfl,m2⟩ | ⟨j1,j2,m2⟩
     ·exact hkj rfl
     ·exact (h6 b m1).1 (hlow j b m2)
    ·rcases hOD j b mj with ⟨rfl,m2⟩ | ⟨j1,j2,m2⟩
     ·exact (h6 b m2).1 (hlow k b m1)
     ·exact hH.apart k j hkj b m1 m2
   ·show _∧XZ w (if k=st.n then .row e m xs 2 else Zaa st (st.ob k)) b
    rcases hOD k b mb with ⟨rfl,m1⟩ | ⟨k1,k2,m1⟩
    ·rw [if_pos rfl]
     exact ⟨.inl (Nat.le_trans hB (h6 b m1).2.1),(h6 b m1).2.2⟩
    ·obtain ⟨q1,q2⟩:=hH.plain k b m1
     rw [if_neg k1]
     refine ⟨q1,q2.of ?_⟩
     rcases ZkV k2 with ⟨e',m',xs',e1⟩ | ⟨t',cs',e1⟩
     ·rw [e1];rfl
     ·rw [e1];rfl
   ·show SVR g' w (if s=t then .p false [.row st.n] else ZmN st (st.sl s)) _
    by_cases hs':s=t
    ·subst hs'
     rw [if_pos rfl]
     obtain ⟨A,cap,hval⟩:=Zct h3
     exact ⟨_,rfl,gn.1.symm,by rw [hval];rfl⟩
    ·rw [if_neg hs']
     exact ZsO (U:=U) (fun k e m xs hk=>⟨if_neg (hrow k e m xs hk).1,(hrow k e m xs hk).2⟩) (hU.sl s) (fun k hk=>if_neg fun e=>hkn k (by omega) hk) (hS s)
   ·show svU _ (if s=t then .p false [.row st.n] else ZmN st (st.sl s))
    by_cases hs':s=t
    ·rw [if_pos hs'];intro y my;simp at my;subst my;exact .inr rfl
    ·rw [if_neg hs'];exact ZtN (fun k e m xs hk=>.inl (hrow k e m xs hk).2) _ ((hU.sl s).mono fun _=>.inl)
   ·show obU _ (if k=st.n then .row e m xs 2 else Zaa st (st.ob k))
    split
    ·trivial
    ·cases hk:st.ob k with
     | row e' m' xs' d'=>simp only [Zaa];split<;>trivial
     | box t' cs'=>
      intro y my
      obtain ⟨x,mx,rfl⟩:=List.mem_map.1 my
      exact Zqo (fun k e m xs hk=>.inl (hrow k e m xs hk).2) x
     | _=>trivial
   ·show (if k=st.n then .row e m xs 2 else Zaa st (st.ob k))=.gone
    rw [if_neg fun e=>hk (.inr e),hU.gone k fun h=>hk (.inl h)]
    rfl
  ·have e:Zo9 st t (.p ag cs)=st:=by
    unfold Zo9
    split
    ·rename_i h
     simp only [SV.p.injEq] at h
     exact absurd ⟨_,_,_,h.1,h.2⟩ hc
    ·rfl
   rw [e]
   exact ⟨U,⟨g,hH,hS⟩,hU,hdef,hh⟩
 | _=>exact ⟨U,⟨g,hH,hS⟩,hU,hdef,hh⟩
end
abbrev nw0:NW:=⟨0⟩
section
variable {P:Program} {J:World→Prop} {JF:Nat→Prop} {W:Q8} {U:Nat→Prop} {st:St} {w w':World} {a:Act} {tt:Nat→Option TI} {g:Gh}
structure JOk (J:World→Prop) (JF:Nat→Prop):Prop where
 below:∀(x:Nat→Prop) (w w':World),J w→(∀b,x b→JF b)→w'.os=w.os→w'.tape=w.tape→w'.output=w.output→w.heap.size≤w'.heap.size→(∀k,k<w.heap.size→¬x k→w'.heap[k]?=w.heap[k]?)→J w'
 new:∀(w:World) b,J w→w.heap.size≤b→JF b
theorem Zkb {args:List (Bool × List CT)} {vs:List Value} {N t o:Nat} (h:vs.length≤N) (v:Value) (hv:vs[t]?=some v):(vs.toArray++Array.replicate (N - vs.toArray.size) undef).getD t undef=v:=by
 have hl:t<vs.length:=(List.getElem?_eq_some_iff.1 hv).1
 simp only [Array.getD_eq_getD_getElem?,Array.getElem?_append,List.size_toArray,hl,if_true,List.getElem?_toArray,hv,Option.getD_some]
theorem ZkF {vs:List Value} {N t:Nat} (ht:vs.length≤t):(vs.toArray++Array.replicate (N - vs.toArray.size) undef).getD t undef=undef:=by
 simp only [Array.getD_eq_getD_getElem?,Array.getElem?_append,List.size_toArray,show ¬t<vs.length by omega,if_false,Array.getElem?_replicate]
 split<;>rfl
theorem ZsL (htt : ∀ t i, tt t = some i → TOk P t i) (hJ : JOk J JF) (hmix : P.follows .mixedOrders = true) {hds : FuncId → Nat} {f : FuncId} {fn : Func} {c : Code} {args : List (Bool × List CT)} {res : List RT} (hf : P.funcs[f]? = some fn) (hname : (fn.name == "runtime.NumGoroutine") = false) (hb : fn.body = some c)
  (hok:XT tt hds false fn.ntmps c=true) (hlen:Nat.ble args.length fn.ntmps=true) (h:fnS tt (SC P J JF hds) fn.results.toList c args res):Zn P J f args res:=by
 letI:NW:=nw0
 refine ⟨⟨fn,hf,hname,by rw [hb];rfl⟩,fun w z vs hj hz hargs=>?_⟩
 have hlen':args.length≤fn.ntmps:=Nat.le_of_ble_eq_true hlen
 have hvl:=hargs.len
 refine calls_of_wp hf hb ?_
 let W:Q8:={ w with z:=z,x:=fun _=>False,hv:=none }
 let g0:Gh:=⟨fun _=>undef,fun _=>[],fun _=>[],z⟩
 have hg0:∀b,g0.own b→z b:=fun b hb=>by
  rcases hb with ⟨k,m⟩ | h
  ·simp [g0] at m
  ·exact h
 have hI0:Inv W (fun _=>False) (Zo args) { tmps:=vs.toArray++Array.replicate (fn.ntmps - vs.toArray.size) undef,defers:=[] } w:=by
  refine ⟨⟨g0,⟨⟨rfl,rfl,rfl,Nat.le_refl _,fun _ _ _=>rfl⟩,fun k=>⟨rfl,rfl⟩,fun k=>by simp [g0],fun k j _ b m=>by simp [g0] at m,fun k b m=>by simp [g0] at m,rfl,fun b hb=>⟨hz b hb,fun h=>h⟩,fun _ _=>Nat.zero_le _⟩,fun t=>?_⟩,⟨fun t=>?_,fun k=>trivial,fun k _=>rfl⟩,rfl,fun v hv=>by simp [W] at hv⟩
  ·show SVR g0 w (match args[t]? with | some x=>.p x.1 (x.2.map .c) | none=>.und) _
   cases ht:args[t]? with
   | none=>exact ZkF (by have:args.length≤t:=(by simpa using ht);omega)
   | some x=>
    obtain ⟨v,hv,hr⟩:=hargs.at ht
    show SVR g0 w (.p x.1 (x.2.map .c)) ((vs.toArray++Array.replicate (fn.ntmps - vs.toArray.size) undef).getD t undef)
    rw [Zkb (args:=args) (o:=0) (by omega) v hv]
    exact ZnE hg0 hr
  ·show svU _ (match args[t]? with | some x=>.p x.1 (x.2.map .c) | none=>.und)
   split
   ·exact ZiE true _
   ·trivial
 have hM:MOk P J JF W tt:=⟨htt,fun w' hb=>hJ.below (fun _=>False) w w' hj (fun _ h=>h.elim) hb.os hb.tape hb.output hb.size (fun k hk hx=>hb.block k hk hx),fun b hb=>hJ.new w b hj hb,fun b h=>h.elim⟩
 refine Q4 (W:=W) hM hmix (.inl rfl) c hok (Zq4 tt fn.results.toList fun _ r _=>wkR r res) _ ?_ _ (Zo args) _ w hI0 (fun _ _ h=>h) (by simp;omega) h
 intro ex U' st' a' w' hI' _ _ hK
 have fin:(match Zb9 tt st' fn.results.toList with | some x=>x.2.Nodup∧wkR x.1 res | none=>False)→a'.defers=[]∧∃v,(results fn a'.tmps).run P w'=.ok v w'∧∃u n,Ending.returned v=.returned u∧Zma w' w.heap.size n res u∧(∀b,z b→n b)∧Below w.heap.size w w':=fun hK=>by
  split at hK
  ·rename_i x hx
   obtain ⟨r,ks⟩:=x
   obtain ⟨hnd,hw⟩:=hK
   obtain ⟨g,hH,hS⟩:=hI'.ex
   have hBg:∀k∈ks,∀b∈g.O k++g.D k,W.heap.size≤b:=fun k _ b mb=>(hH.plain k b mb).1.resolve_right fun h=>h
   obtain ⟨v,m,e1,e2,_,_,e4⟩:=Zsx htt hI' hH hS hx hnd hw hBg (fun _=>False) (fun _ h=>h.elim)
   have hbel:=hH.below
   exact ⟨hI'.defers,v,e1,v,m,rfl,e2,fun b hb=>e4 b (fun mb=>by obtain ⟨k,hk,mk⟩:=Zjp mb;have:=hBg k hk b mk;have:=hz b hb;have e:W.heap.size=w.heap.size:=rfl;omega) (.inl (by rw [hH.gz];exact hb)),hbel.os,hbel.tape,hbel.output,hbel.size,fun k hk=>hbel.block k hk fun h=>h⟩
  ·exact hK.elim
 cases ex with
 | normal=>exact fin hK
 | exit id=>exact hK.elim
 | ret=>exact fin hK
theorem ZrO (htt : ∀ t i, tt t = some i → TOk P t i) (hJ : JOk J JF) (hmix : P.follows .mixedOrders = true) {hds : FuncId → Nat} {f : FuncId} {fn : Func} {c : Code} {args : List (Bool × List CT)} {res : List RT} (hf : P.funcs[f]? = some fn) (hname : (fn.name == "runtime.NumGoroutine") = false) (hb : fn.body = some c)
  (hok:XT tt hds false fn.ntmps c=true) (hlen:Nat.ble args.length fn.ntmps=true) (t0:Nat) (h:fnN tt (SC P J JF hds) fn.results.toList t0 c args res):Zn P J f args res:=by
 refine ⟨⟨fn,hf,hname,by rw [hb];rfl⟩,fun w z vs hj hz hargs=>?_⟩
 letI:NW:=⟨w.heap.size⟩
 have hlen':args.length≤fn.ntmps:=Nat.le_of_ble_eq_true hlen
 have hvl:=hargs.len
 refine calls_of_wp hf hb ?_
 let W:Q8:={ w with z:=z,x:=fun _=>False,hv:=none }
 let g0:Gh:=⟨fun _=>undef,fun _=>[],fun _=>[],z⟩
 have hg0:∀b,g0.own b→z b:=fun b hb=>by
  rcases hb with ⟨k,m⟩ | h
  ·simp [g0] at m
  ·exact h
 have hI0:Inv W (fun _=>False) (Zo args) { tmps:=vs.toArray++Array.replicate (fn.ntmps - vs.toArray.size) undef,defers:=[] } w:=by
  refine ⟨⟨g0,⟨⟨rfl,rfl,rfl,Nat.le_refl _,fun _ _ _=>rfl⟩,fun k=>⟨rfl,rfl⟩,fun k=>by simp [g0],fun k j _ b m=>by simp [g0] at m,fun k b m=>by simp [g0] at m,rfl,fun b hb=>⟨hz b hb,fun h=>h⟩,fun b hb=>hb.elim (fun h=>h) fun h=>h.elim⟩,fun t=>?_⟩,⟨fun t=>?_,fun k=>trivial,fun k _=>rfl⟩,rfl,fun v hv=>by simp [W] at hv⟩
  ·show SVR g0 w (match args[t]? with | some x=>.p x.1 (x.2.map .c) | none=>.und) _
   cases ht:args[t]? with
   | none=>exact ZkF (by have:args.length≤t:=(by simpa using ht);omega)
   | some x=>
    obtain ⟨v,hv,hr⟩:=hargs.at ht
    show SVR g0 w (.p x.1 (x.2.map .c)) ((vs.toArray++Array.replicate (fn.ntmps - vs.toArray.size) undef).getD t undef)
    rw [Zkb (args:=args) (o:=0) (by omega) v hv]
    exact ZnE hg0 hr
  ·show svU _ (match args[t]? with | some x=>.p x.1 (x.2.map .c) | none=>.und)
   split
   ·exact ZiE true _
   ·trivial
 have hM:MOk P J JF W tt:=⟨htt,fun w' hb=>hJ.below (fun _=>False) w w' hj (fun _ h=>h.elim) hb.os hb.tape hb.output hb.size (fun k hk hx=>hb.block k hk hx),fun b hb=>hJ.new w b hj hb,fun b h=>h.elim⟩
 refine Q4 (W:=W) hM hmix (.inl rfl) c hok (ZtC t0 (Zq4 tt fn.results.toList fun _ r _=>wkR r res)) _ ?_ _ (Zo args) _ w hI0 (fun _ _ h=>h) (by simp;omega) h
 intro ex U1 st1 a' w' hI1 hn1 _ hK
 obtain ⟨U',hI'⟩:=Zti (Nat.le_refl _) t0 hI1 hn1
 generalize hst:st1.thaw t0=st' at hI'
 simp only [ZtC,hst] at hK
 have fin:(match Zb9 tt st' fn.results.toList with | some x=>x.2.Nodup∧wkR x.1 res | none=>False)→a'.defers=[]∧∃v,(results fn a'.tmps).run P w'=.ok v w'∧∃u n,Ending.returned v=.returned u∧Zma w' w.heap.size n res u∧(∀b,z b→n b)∧Below w.heap.size w w':=fun hK=>by
  split at hK
  ·rename_i x hx
   obtain ⟨r,ks⟩:=x
   obtain ⟨hnd,hw⟩:=hK
   obtain ⟨g,hH,hS⟩:=hI'.ex
   have hBg:∀k∈ks,∀b∈g.O k++g.D k,W.heap.size≤b:=fun k _ b mb=>(hH.plain k b mb).1.resolve_right fun h=>h
   obtain ⟨v,m,e1,e2,_,_,e4⟩:=Zsx htt hI' hH hS hx hnd hw hBg (fun _=>False) (fun _ h=>h.elim)
   have hbel:=hH.below
   exact ⟨hI'.defers,v,e1,v,m,rfl,e2,fun b hb=>e4 b (fun mb=>by obtain ⟨k,hk,mk⟩:=Zjp mb;have:=hBg k hk b mk;have:=hz b hb;have e:W.heap.size=w.heap.size:=rfl;omega) (.inl (by rw [hH.gz];exact hb)),hbel.os,hbel.tape,hbel.output,hbel.size,fun k hk=>hbel.block k hk fun h=>h⟩
  ·exact hK.elim
 cases ex with
 | normal=>exact fin hK
 | exit id=>exact hK.elim
 | ret=>exact fin hK
theorem Zro (htt : ∀ t i, tt t = some i → TOk P t i) (hJ : JOk J JF) (hmix : P.follows .mixedOrders = true) {hds : FuncId → Nat} {f : FuncId} {fn : Func} {c : Code} {args : List (Bool × List CT)} {nb : NB} (hf : P.funcs[f]? = some fn) (hname : (fn.name == "runtime.NumGoroutine") = false) (hb : fn.body = some c)
  (hok:XT tt hds false fn.ntmps c=true) (hlen:Nat.ble args.length fn.ntmps=true) (h:fnB tt (SC P J JF hds) fn.results.toList c args nb):ZnF P J f args nb:=by
 letI:NW:=nw0
 refine ⟨⟨fn,hf,hname,by rw [hb];rfl⟩,fun w z vs hj hz hargs=>?_⟩
 have hlen':args.length≤fn.ntmps:=Nat.le_of_ble_eq_true hlen
 have hvl:=hargs.len
 refine calls_of_wp hf hb ?_
 let W:Q8:={ w with z:=z,x:=fun _=>False,hv:=none }
 let g0:Gh:=⟨fun _=>undef,fun _=>[],fun _=>[],z⟩
 have hg0:∀b,g0.own b→z b:=fun b hb=>by
  rcases hb with ⟨k,m⟩ | h
  ·simp [g0] at m
  ·exact h
 have hI0:Inv W (fun _=>False) (Zo args) { tmps:=vs.toArray++Array.replicate (fn.ntmps - vs.toArray.size) undef,defers:=[] } w:=by
  refine ⟨⟨g0,⟨⟨rfl,rfl,rfl,Nat.le_refl _,fun _ _ _=>rfl⟩,fun k=>⟨rfl,rfl⟩,fun k=>by simp [g0],fun k j _ b m=>by simp [g0] at m,fun k b m=>by simp [g0] at m,rfl,fun b hb=>⟨hz b hb,fun h=>h⟩,fun _ _=>Nat.zero_le _⟩,fun t=>?_⟩,⟨fun t=>?_,fun k=>trivial,fun k _=>rfl⟩,rfl,fun v hv=>by simp [W] at hv⟩
  ·show SVR g0 w (match args[t]? with | some x=>.p x.1 (x.2.map .c) | none=>.und) _
   cases ht:args[t]? with
   | none=>exact ZkF (by have:args.length≤t:=(by simpa using ht);omega)
   | some x=>
    obtain ⟨v,hv,hr⟩:=hargs.at ht
    show SVR g0 w (.p x.1 (x.2.map .c)) ((vs.toArray++Array.replicate (fn.ntmps - vs.toArray.size) undef).getD t undef)
    rw [Zkb (args:=args) (o:=0) (by omega) v hv]
    exact ZnE hg0 hr
  ·show svU _ (match args[t]? with | some x=>.p x.1 (x.2.map .c) | none=>.und)
   split
   ·exact ZiE true _
   ·trivial
 have hM:MOk P J JF W tt:=⟨htt,fun w' hb=>hJ.below (fun _=>False) w w' hj (fun _ h=>h.elim) hb.os hb.tape hb.output hb.size (fun k hk hx=>hb.block k hk hx),fun b hb=>hJ.new w b hj hb,fun b h=>h.elim⟩
 refine Q4 (W:=W) hM hmix (.inl rfl) c hok (Zt3 fn.results.toList nb) _ ?_ _ (Zo args) _ w hI0 (fun _ _ h=>h) (by simp;omega) h
 intro ex U' st' a' w' hI' _ _ hK
 have fin:Ze2 st' fn.results.toList nb→a'.defers=[]∧∃v,(results fn a'.tmps).run P w'=.ok v w'∧∃(b:Nat) (n:Nat→Prop),Ending.returned v=.returned (Zm0 b nb)∧w.heap.size≤b∧nbR w' n b nb∧n b∧(∀x,z x→n x)∧Below w.heap.size w w':=fun hK=>by
  unfold Ze2 at hK
  split at hK
  ·rename_i s hrs
   have er:fn.results=#[.tmp s]:=by
    have:=congrArg List.toArray hrs
    simpa using this
   obtain ⟨g,hH,hS⟩:=hI'.ex
   have hs:=hS s
   have hbel:=hH.below
   cases nb with
   | box t cs=>
    obtain ⟨k,ds,k1,k2,k3,k4⟩:=hK
    rw [k1] at hs
    obtain ⟨b,b1,b2⟩:=hs
    have hob:=hH.obs k
    rw [k2] at hob
    obtain ⟨b',us,o1,o2,o3,o4,o5⟩:=hob
    have hbb:b'=b:=by rw [b1] at o1;simpa using o1.symm
    subst hbb
    obtain ⟨L,hL,hL2⟩:=Zf9 hH k4 o5
    have hno:=hL2 fun y my=>by
     have:=List.all_eq_true.1 k3 y my
     cases y<;>simp [ZaX] at this<;>trivial
    refine ⟨hI'.defers,_,?_,b',fun x=>g.own x,rfl,(hH.plain k b' (by simp [o2])).1.resolve_right fun h=>h,⟨us,L,o4,hL,hno⟩,.inl ⟨k,by simp [o2]⟩,fun x hx=>.inr (by rw [hH.gz];exact hx),hbel.os,hbel.tape,hbel.output,hbel.size,fun k hk=>hbel.block k hk fun h=>h⟩
    rw [Zhc,er]
    simp [ZeV,b2,Zm0]
   | map kk vk kv=>
    obtain ⟨k,k1,k2⟩:=hK
    rw [k1] at hs
    obtain ⟨x,hx,hx3⟩:=hs
    simp only [List.cons.injEq,and_true] at hx
    subst hx
    obtain ⟨hx2,_⟩:=hx3
    have hob:=hH.obs k
    rw [k2] at hob
    obtain ⟨b,es,c,o1,o2,o3,o4,o5⟩:=hob
    refine ⟨hI'.defers,_,?_,b,fun x=>g.own x,rfl,(hH.plain k b (by simp [o2])).1.resolve_right fun h=>h,⟨es,c,o4,o5⟩,.inl ⟨k,by simp [o2]⟩,fun x hx=>.inr (by rw [hH.gz];exact hx),hbel.os,hbel.tape,hbel.output,hbel.size,fun k hk=>hbel.block k hk fun h=>h⟩
    rw [Zhc,er]
    simp [ZeV,hx2,o1,Zm0]
  ·exact hK.elim
 cases ex with
 | normal=>exact fin hK
 | exit id=>exact hK.elim
 | ret=>exact fin hK
end
instance nwD:NW:=nw0
end Go.Proofs.YtojnhepgnbhaaaaGreatDoor
namespace Go.Proofs.YtojnhepgnbhaaaaGreatDoor
open Go.RowKit
def Zi0 {α β:Type} (f:α→β→Bool):List α→List β→Bool
 | [],[]=>true
 | a::l,b::r=>f a b&&Zi0 f l r
 | _,_=>false
theorem Zh7 {α β:Type} {f:α→β→Bool} {R:α→β→Prop} (h:∀a b,f a b=true→R a b):∀{l:List α} {r:List β},Zi0 f l r=true→ZH R l r
 | [],[],_=>trivial
 | a::l,b::r,hh=>by
  simp only [Zi0,Bool.and_eq_true] at hh
  exact ⟨h a b hh.1,Zh7 h hh.2⟩
 | [],_::_,hh=>by simp [Zi0] at hh
 | _::_,[],hh=>by simp [Zi0] at hh
def Zs4 (P:Program) (fi:FI) (f:Field):Bool:=
 f.offset==fi.off&&!(fi.size==0)&&match P.info? f.type,P.underlying f.type with
  | some j,some d=>j.size==fi.size&&(Zos d==fi.agg)
  | _,_=>false
def Zw9:Value→Bool
 | .slice none 0 0=>true
 | _=>false
def Zq8 (P:Program):List PK→List Field→Nat→Bool
 | [],[],_=>true
 | k :: ks, f :: fs, n => (f.name != "_") && (f.offset == n) && (match P.underlying f.type with | some d => Zdk k d | none => false) && Zq8 P ks fs (n + 1)
 | _,_,_=>false
theorem ZqI {P:Program}:∀{ks:List PK} {fs:List Field} {n:Nat},Zq8 P ks fs n=true→EqF P ks fs n
 | [],[],_,_=>trivial
 | k::ks,f::fs,n,h=>by
  simp only [Zq8,Bool.and_eq_true,bne_iff_ne,beq_iff_eq] at h
  obtain ⟨⟨⟨h1,h2⟩,h3⟩,h4⟩:=h
  split at h3
  ·rename_i d hd;exact ⟨h1,h2,⟨d,hd,h3⟩,ZqI h4⟩
  ·simp at h3
 | [],_::_,_,h=>by simp [Zq8] at h
 | _::_,[],_,h=>by simp [Zq8] at h
def ZmT:Option TypeDesc→Bool
 | some (.struct _)=>true
 | _=>false
def ZwH (P:Program) (t:TypeId) (ks:List PK):Bool:=
 Nat.ble 4000 t&&ZmT (P.underlying (t - 4000))&&!(P.stoodInHeld (t - 4000))&&!(P.eqGuardType P.depth (t - 4000))&&Zq8 P ks (P.fieldsOf (t - 4000)).toList 0
theorem Ztw {P:Program} {t:TypeId} {ks:List PK} (h:ZwH P t ks=true):TOk P t (.eqs ks):=by
 simp only [ZwH,Bool.and_eq_true,Bool.not_eq_true'] at h
 obtain ⟨⟨⟨⟨h1,h2⟩,h3⟩,h4⟩,h5⟩:=h
 refine ⟨t - 4000,?_,?_,h3,h4,ZqI h5⟩
 ·have:4000≤t:=Nat.le_of_ble_eq_true h1
  exact (Nat.sub_add_cancel this).symm
 ·unfold ZmT at h2
  split at h2
  ·rename_i fs e
   unfold Program.fieldsOf
   rw [e]
  ·simp at h2
def tOk (P:Program) (t:TypeId) (ti:TI):Bool:=
 match ti with
 | .eqs ks=>ZwH P t ks
 | _=>
 match P.underlying t,P.info? t with
 | some d,some i=>match ti with
  | .atom z=>ZgA d z&&i.size==1&&match i.zero with | some zv=>Q7 z zv | none=>false
  | .strct fs n z=>match d with
   | .struct fields=>i.size==n&&(match i.zero with | some (.agg zvs)=>Zi0 Q7 z zvs.toList | _=>false)&&Zi0 (Zs4 P) fs fields.toList
   | _=>false
  | .slice e m bytes z=>match d with
   | .slice e'=>e==e'&&Nat.blt 0 m&&Nat.ble bytes 131072&&(match P.info? e with
     | some ie=>ie.size==m&&ie.bytes==bytes&&(match ie.zero with | some zv=>Zi0 Q7 z zv.cells.toList | none=>false)
     | none=>false)&&z.length==m&&i.size==1&&(match i.zero with | some zv=>Zw9 zv | none=>false)
   | _=>false
  | .map kk vk=>match d with
   | .map kt et=>(match P.underlying kt with | some dk=>Zdk kk dk | none=>false)&&(match P.underlying et with | some dv=>Zdk vk dv | none=>false)&&(match P.info? et with | some ie=>(match ie.zero with | some zv=>Q7 (ZdT vk) zv | none=>false) | none=>false)
   | _=>false
  | .ifc=>match d with
   | .interface _=>true
   | _=>false
  | .eqs _=>false
 | _,_=>false
theorem ZtS {v:Value} (h:Zw9 v=true):v=.slice none 0 0:=by
 unfold Zw9 at h
 split at h
 ·rfl
 ·simp at h
theorem ZvC {P:Program} {t:TypeId} {ti:TI} (h:tOk P t ti=true):TOk P t ti:=by
 unfold tOk at h
 split at h
 ·exact Ztw h
 split at h
 ·rename_i d i hd hi
  cases ti with
  | eqs ks=>simp at h
  | ifc=>
   simp only at h
   split at h
   ·exact ⟨_,hd⟩
   ·simp at h
  | map kk vk=>
   simp only at h
   split at h
   ·rename_i kt et
    simp only [Bool.and_eq_true] at h
    obtain ⟨⟨h1,h2⟩,h3⟩:=h
    split at h1
    ·rename_i dk hdk
     split at h2
     ·rename_i dv hdv
      split at h3
      ·rename_i ie hie
       split at h3
       ·rename_i zv hz
        exact ⟨kt,et,dk,dv,ie,zv,hd,hdk,h1,hdv,h2,hie,hz,h3⟩
       ·simp at h3
      ·simp at h3
     ·simp at h2
    ·simp at h1
   ·simp at h
  | atom z=>
   simp only [Bool.and_eq_true,beq_iff_eq] at h
   obtain ⟨⟨h1,h2⟩,h3⟩:=h
   split at h3
   ·rename_i zv hz;exact ⟨d,zv,i,hd,h1,hi,hz,h2,h3⟩
   ·simp at h3
  | strct fs n z=>
   simp only at h
   split at h
   ·rename_i fields
    simp only [Bool.and_eq_true,beq_iff_eq] at h
    obtain ⟨⟨h1,h2⟩,h3⟩:=h
    split at h2
    ·rename_i zvs hz
     refine ⟨fields,i,zvs,hd,hi,h1,hz,Zh7 (fun _ _ h=>h) h2,Zh7 (fun fi f hf=>?_) h3⟩
     unfold Zs4 at hf
     simp only [Bool.and_eq_true,beq_iff_eq,Bool.not_eq_true',beq_eq_false_iff_ne] at hf
     obtain ⟨⟨f1,f2⟩,f3⟩:=hf
     split at f3
     ·rename_i j d' hj hd'
      simp only [Bool.and_eq_true,beq_iff_eq] at f3
      exact ⟨f1,f2,j,d',hj,f3.1,hd',f3.2⟩
     ·simp at f3
    ·simp at h2
   ·simp at h
  | slice e m bytes z=>
   simp only at h
   split at h
   ·rename_i e'
    simp only [Bool.and_eq_true,beq_iff_eq] at h
    obtain ⟨⟨⟨⟨⟨⟨h1,h2⟩,h3⟩,h4⟩,h5⟩,h6⟩,h7⟩:=h
    subst h1
    split at h4
    ·rename_i ie hie
     simp only [Bool.and_eq_true,beq_iff_eq] at h4
     obtain ⟨⟨k1,k2⟩,k3⟩:=h4
     split at k3
     ·rename_i zv hz
      split at h7
      ·rename_i zv' hz'
       exact ⟨hd,Nat.le_of_ble_eq_true h2,Nat.le_of_ble_eq_true h3,⟨ie,zv,hie,k1,k2,hz,Zh7 (fun _ _ h=>h) k3,h5⟩,i,hi,h6,by rw [hz',ZtS h7]⟩
      ·simp at h7
     ·simp at k3
    ·simp at h4
   ·simp at h
 ·simp at h
def ZrU:List (Nat × TI)→Nat→Option TI
 | [],_=>none
 | p::r,t=>if p.1=t then some p.2 else ZrU r t
theorem Zsg {P:Program}:∀(l:List (Nat × TI)),(l.all fun p=>tOk P p.1 p.2)=true→∀t i,ZrU l t=some i→TOk P t i
 | [],_,t,i,h=>by simp [ZrU] at h
 | p::r,ha,t,i,h=>by
  simp only [List.all_cons,Bool.and_eq_true] at ha
  simp only [ZrU] at h
  split at h
  ·rename_i e
   simp only [Option.some.injEq] at h
   subst h e
   exact ZvC ha.1
  ·exact Zsg r ha.2 t i h
end Go.Proofs.YtojnhepgnbhaaaaGreatDoor
namespace Go.Proofs.YtojnhepgnbhaaaaGreatDoor
open Go.RowKit
def Zuu (P:Program) (L:List (String × (Array Value→Prop))) (w:World):Prop:=∀x∈L,∃cs,w.var? P x.1=some cs∧x.2 cs
def Zuv (P:Program) (L:List (String × (Array Value→Prop))) (b:Nat):Prop:=∀x∈L,¬P.globalNamed x.1=some b
theorem Zug (P:Program) (L:List (String × (Array Value→Prop))):JOk (Zuu P L) (Zuv P L) where
 below:=fun x w w' hj hx _ _ _ hs hb y my=>by
  obtain ⟨cs,h1,h2⟩:=hj y my
  refine ⟨cs,?_,h2⟩
  unfold World.var? at h1 ⊢
  obtain ⟨g,hg,h1⟩:=Option.bind_eq_some_iff.1 h1
  rw [hg,Option.bind_some]
  have hlt:g<w.heap.size:=by
   rcases Nat.lt_or_ge g w.heap.size with h | h
   ·exact h
   ·rw [Array.getElem?_eq_none h] at h1;simp at h1
  rw [hb g hlt (fun h=>hx g h y my hg)]
  exact h1
 new:=fun w b hj hb y my hg=>by
  obtain ⟨cs,h1,_⟩:=hj y my
  unfold World.var? at h1
  rw [hg,Option.bind_some,Array.getElem?_eq_none hb] at h1
  simp at h1
theorem ZiG {J:World→Prop} {JF:Nat→Prop} (h:JOk J JF) {w w':World} (hj:J w) (hb:Below w.heap.size w w'):J w':=
 h.below (fun _=>False) w w' hj (fun _ h=>h.elim) hb.os hb.tape hb.output hb.size fun k hk _=>hb.block k hk
theorem ZnY {w:World} {B:Nat} {n:Nat→Prop} {ct:CT} {v:Value} (h:OC w B n (false,ct) v []):Zma w B n [(false,[(false,ct)])] v:=
 ⟨[v],[],⟨v,[],[],[],rfl,rfl,.inr ⟨rfl,_,rfl,h⟩,rfl,rfl⟩,Own.nil _ _,by simp⟩
theorem Zps {w:World} {B:Nat} {n:Nat→Prop} {c1 c2:CT} {v1 v2:Value} (h1:OC w B n (false,c1) v1 []) (h2:OC w B n (false,c2) v2 []):Zma w B n [(false,[(false,c1)]),(false,[(false,c2)])] (.tuple #[v1,v2]):=
 ⟨[v1,v2],[],⟨v1,[v2],[],[],rfl,rfl,.inr ⟨rfl,_,rfl,h1⟩,v2,[],[],[],rfl,rfl,.inr ⟨rfl,_,rfl,h2⟩,rfl,rfl⟩,Own.nil _ _,by simp⟩
theorem ZqP {w:World} {z:Nat→Prop} {c:CT} {v:Value} (h:Zkk w z (false,[c]) v):∃L,RC w c v L:=by
 rcases h with ⟨h,_⟩ | ⟨_,ct,L,h,hr,_⟩
 ·simp at h
 ·simp only [List.cons.injEq,and_true] at h
  subst h
  exact ⟨L,hr⟩
theorem Zk3 {w:World} {z:Nat→Prop} {c:CT} {vs:List Value} (h:ZH (Zkk w z) [(false,[c])] vs):∃v L,vs=[v]∧RC w c v L:=by
 cases vs with
 | nil=>exact h.elim
 | cons v r=>
  cases r with
  | nil=>obtain ⟨L,hr⟩:=ZqP h.1;exact ⟨v,L,rfl,hr⟩
  | cons _ _=>exact h.2.elim
theorem Zs1 {w:World} {z:Nat→Prop} {c d:CT} {vs:List Value} (h:ZH (Zkk w z) [(false,[c]),(false,[d])] vs):∃v u L M,vs=[v,u]∧RC w c v L∧RC w d u M:=by
 cases vs with
 | nil=>exact h.elim
 | cons v r=>
  obtain ⟨u,M,rfl,hu⟩:=Zk3 h.2
  obtain ⟨L,hr⟩:=ZqP h.1
  exact ⟨v,u,L,M,rfl,hr,hu⟩
end Go.Proofs.YtojnhepgnbhaaaaGreatDoor
namespace Go.Proofs.YtojnhepgnbhaaaaGreatDoor
open Go.RowKit
def ttL:List (Nat × TI):=[
 (2,.atom (.c (.int .i64 0))),
 (3,.atom (.c (.int .i64 0))),
 (4,.atom (.c (.bool false))),
 (5,.atom (.c (.int .u8 0))),
 (9,.atom (.c (.str ⟨#[]⟩))),
 (12,.atom (.c (.int .u64 0))),
 (14,.strct [⟨0,1,false⟩,⟨1,1,false⟩] 2 [.c (.str ⟨#[]⟩),.c (.int .u64 0)]),
 (20,.ifc),
 (21,.atom (.c (.int .i32 0))),
 (22,.slice 75 4 72 [.c (.str ⟨#[]⟩),.c (.int .i64 0),.nil 158 5,.nil 161 3]),
 (23,.slice 54 2 40 [.c (.str ⟨#[]⟩),.nil 9 1]),
 (26,.slice 57 2 40 [.c (.str ⟨#[]⟩),.nil 9 1]),
 (27,.slice 114 3 56 [.c (.int .i64 0),.nil 3 1,.nil 3 1]),
 (29,.strct [⟨0,1,false⟩,⟨1,1,false⟩] 2 [.c (.int .i64 0),.nil 114 3]),
 (32,.slice 82 4 72 [.c (.str ⟨#[]⟩),.c (.int .i64 0),.nil 130 5,.nil 134 3]),
 (44,.slice 9 1 16 [.c (.str ⟨#[]⟩)]),
 (46,.strct [⟨0,1,false⟩,⟨1,1,false⟩] 2 [.c (.str ⟨#[]⟩),.nil 9 1]),
 (49,.strct [⟨0,1,false⟩,⟨1,1,false⟩] 2 [.c (.str ⟨#[]⟩),.nil 9 1]),
 (54,.strct [⟨0,1,false⟩,⟨1,1,false⟩] 2 [.c (.str ⟨#[]⟩),.nil 9 1]),
 (57,.strct [⟨0,1,false⟩,⟨1,1,false⟩] 2 [.c (.str ⟨#[]⟩),.nil 9 1]),
 (62,.slice 104 4 80 [.c (.str ⟨#[]⟩),.nil 9 1,.c (.str ⟨#[]⟩),.nil 3 1]),
 (65,.slice 107 4 80 [.c (.str ⟨#[]⟩),.nil 9 1,.c (.str ⟨#[]⟩),.nil 3 1]),
 (72,.slice 158 5 80 [.c (.int .i64 0),.c (.str ⟨#[]⟩),.nil 9 1,.c (.str ⟨#[]⟩),.c (.str ⟨#[]⟩)]),
 (73,.slice 161 3 48 [.c (.int .i64 0),.c (.str ⟨#[]⟩),.nil 9 1]),
 (75,.strct [⟨0,1,false⟩,⟨1,1,false⟩,⟨2,1,false⟩,⟨3,1,false⟩] 4 [.c (.str ⟨#[]⟩),.c (.int .i64 0),.nil 158 5,.nil 161 3]),
 (76,.slice 119 3 64 [.c (.str ⟨#[]⟩),.nil 57 2,.nil 192 2]),
 (79,.slice 130 5 80 [.c (.int .i64 0),.c (.str ⟨#[]⟩),.nil 9 1,.c (.str ⟨#[]⟩),.c (.str ⟨#[]⟩)]),
 (80,.slice 134 3 48 [.c (.int .i64 0),.c (.str ⟨#[]⟩),.nil 9 1]),
 (82,.strct [⟨0,1,false⟩,⟨1,1,false⟩,⟨2,1,false⟩,⟨3,1,false⟩] 4 [.c (.str ⟨#[]⟩),.c (.int .i64 0),.nil 130 5,.nil 134 3]),
 (84,.slice 128 2 40 [.c (.str ⟨#[]⟩),.nil 57 2]),
 (101,.slice 3 1 8 [.c (.int .i64 0)]),
 (104,.strct [⟨0,2,true⟩,⟨2,1,false⟩,⟨3,1,false⟩] 4 [.c (.str ⟨#[]⟩),.nil 9 1,.c (.str ⟨#[]⟩),.nil 3 1]),
 (107,.strct [⟨0,2,true⟩,⟨2,1,false⟩,⟨3,1,false⟩] 4 [.c (.str ⟨#[]⟩),.nil 9 1,.c (.str ⟨#[]⟩),.nil 3 1]),
 (114,.strct [⟨0,1,false⟩,⟨1,1,false⟩,⟨2,1,false⟩] 3 [.c (.int .i64 0),.nil 3 1,.nil 3 1]),
 (115,.slice 192 2 32 [.c (.str ⟨#[]⟩),.c (.str ⟨#[]⟩)]),
 (117,.strct [⟨0,1,false⟩,⟨1,1,false⟩] 2 [.nil 57 2,.nil 192 2]),
 (119,.strct [⟨0,1,false⟩,⟨1,2,true⟩] 3 [.c (.str ⟨#[]⟩),.nil 57 2,.nil 192 2]),
 (120,.slice 117 2 48 [.nil 57 2,.nil 192 2]),
 (128,.strct [⟨0,1,false⟩,⟨1,1,false⟩] 2 [.c (.str ⟨#[]⟩),.nil 57 2]),
 (130,.strct [⟨0,1,false⟩,⟨1,2,true⟩,⟨3,1,false⟩,⟨4,1,false⟩] 5 [.c (.int .i64 0),.c (.str ⟨#[]⟩),.nil 9 1,.c (.str ⟨#[]⟩),.c (.str ⟨#[]⟩)]),
 (134,.strct [⟨0,1,false⟩,⟨1,2,true⟩] 3 [.c (.int .i64 0),.c (.str ⟨#[]⟩),.nil 9 1]),
 (140,.slice 5 1 1 [.c (.int .u8 0)]),
 (142,.slice 4 1 1 [.c (.bool false)]),
 (158,.strct [⟨0,1,false⟩,⟨1,2,true⟩,⟨3,1,false⟩,⟨4,1,false⟩] 5 [.c (.int .i64 0),.c (.str ⟨#[]⟩),.nil 9 1,.c (.str ⟨#[]⟩),.c (.str ⟨#[]⟩)]),
 (161,.strct [⟨0,1,false⟩,⟨1,2,true⟩] 3 [.c (.int .i64 0),.c (.str ⟨#[]⟩),.nil 9 1]),
 (187,.map .str .bool),
 (192,.strct [⟨0,1,false⟩,⟨1,1,false⟩] 2 [.c (.str ⟨#[]⟩),.c (.str ⟨#[]⟩)]),
 (207,.atom (.c (.int .u64 0))),
 (216,.ifc),
 (217,.ifc),
 (229,.atom (.c (.int .u32 0))),
 (231,.atom (.c (.int .u64 0))),
 (269,.strct [⟨0,1,false⟩] 1 [.c (.str ⟨#[]⟩)])]
def tt (t:Nat):Option TI:=ZrU ttL t
theorem htt:∀t i,tt t=some i→TOk Tryz.prog t i:=Zsg ttL (by kernel_rfl)
theorem hmix:Tryz.prog.follows .mixedOrders=true:=by kernel_rfl
def Zub : List (String × (Array Value → Prop)) := [("internal/strconv.uint64pow10", fun cs => cs = (Lib.pow10Tab.map fun z => Value.int .u64 z).toArray), ("strconv.ErrSyntax", fun cs => ∃ tp p, cs = #[.iface tp p])]
def J0:World→Prop:=Zuu Tryz.prog Zub
def JF0:Nat→Prop:=Zuv Tryz.prog Zub
theorem hJ0:JOk J0 JF0:=Zug _ _
theorem Zu5 (w : World) (h : J0 w) : Lib.TabIs Tryz.prog w "internal/strconv.uint64pow10" .u64 Lib.pow10Tab := by
 obtain ⟨cs,h1,h2⟩:=h _ (List.mem_cons_self ..)
 rw [h2] at h1
 exact h1
theorem ZwG (w : World) (h : J0 w) : ∃ tp p, w.var? Tryz.prog "strconv.ErrSyntax" = some #[.iface tp p] := by
 obtain ⟨cs, h1, tp, p, h2⟩ := h ("strconv.ErrSyntax", fun cs => ∃ tp p, cs = #[.iface tp p]) (by simp [Zub])
 rw [h2] at h1
 exact ⟨tp,p,h1⟩
def hdL:List (Nat × Nat):=[(81,2),(87,2),(88,2),(115,2),(119,2),(139,1),(166,2),(178,3),(234,1)]
def Zur:List (Nat × Nat)→Nat→Nat
 | [],_=>0
 | p::r,f=>match Nat.beq p.1 f with | true=>p.2 | false=>Zur r f
def hds (f:FuncId):Nat:=Zur hdL f
theorem Zyh:(SC Tryz.prog J0 JF0 hds).hd 11=0:=_root_.id (by kernel_rfl)
theorem Zzg:(SC Tryz.prog J0 JF0 hds).hd 14=0:=_root_.id (by kernel_rfl)
theorem Zyz:(SC Tryz.prog J0 JF0 hds).hd 23=0:=_root_.id (by kernel_rfl)
theorem Zzq:(SC Tryz.prog J0 JF0 hds).hd 24=0:=_root_.id (by kernel_rfl)
theorem Zy0:(SC Tryz.prog J0 JF0 hds).hd 26=0:=_root_.id (by kernel_rfl)
theorem Zys:(SC Tryz.prog J0 JF0 hds).hd 28=0:=_root_.id (by kernel_rfl)
theorem ZyZ:(SC Tryz.prog J0 JF0 hds).hd 32=0:=_root_.id (by kernel_rfl)
theorem ZyQ:(SC Tryz.prog J0 JF0 hds).hd 34=0:=_root_.id (by kernel_rfl)
theorem ZyC:(SC Tryz.prog J0 JF0 hds).hd 38=0:=_root_.id (by kernel_rfl)
theorem ZyP:(SC Tryz.prog J0 JF0 hds).hd 40=0:=_root_.id (by kernel_rfl)
theorem Zzj:(SC Tryz.prog J0 JF0 hds).hd 42=0:=_root_.id (by kernel_rfl)
theorem Zyn:(SC Tryz.prog J0 JF0 hds).hd 43=0:=_root_.id (by kernel_rfl)
theorem Zyo:(SC Tryz.prog J0 JF0 hds).hd 45=0:=_root_.id (by kernel_rfl)
theorem Zyk:(SC Tryz.prog J0 JF0 hds).hd 47=0:=_root_.id (by kernel_rfl)
theorem Zy1:(SC Tryz.prog J0 JF0 hds).hd 57=0:=_root_.id (by kernel_rfl)
theorem ZyB:(SC Tryz.prog J0 JF0 hds).hd 58=0:=_root_.id (by kernel_rfl)
theorem Zym:(SC Tryz.prog J0 JF0 hds).hd 60=0:=_root_.id (by kernel_rfl)
theorem Zyb:(SC Tryz.prog J0 JF0 hds).hd 61=0:=_root_.id (by kernel_rfl)
theorem ZyM:(SC Tryz.prog J0 JF0 hds).hd 63=0:=_root_.id (by kernel_rfl)
theorem Zyc:(SC Tryz.prog J0 JF0 hds).hd 64=0:=_root_.id (by kernel_rfl)
theorem ZyS:(SC Tryz.prog J0 JF0 hds).hd 66=0:=_root_.id (by kernel_rfl)
theorem Zx4:(SC Tryz.prog J0 JF0 hds).hd 67=0:=_root_.id (by kernel_rfl)
theorem ZyI:(SC Tryz.prog J0 JF0 hds).hd 68=0:=_root_.id (by kernel_rfl)
theorem ZyK:(SC Tryz.prog J0 JF0 hds).hd 69=0:=_root_.id (by kernel_rfl)
theorem Zx8:(SC Tryz.prog J0 JF0 hds).hd 71=0:=_root_.id (by kernel_rfl)
theorem Zzb:(SC Tryz.prog J0 JF0 hds).hd 73=0:=_root_.id (by kernel_rfl)
theorem ZyW:(SC Tryz.prog J0 JF0 hds).hd 75=0:=_root_.id (by kernel_rfl)
theorem Zyq:(SC Tryz.prog J0 JF0 hds).hd 76=0:=_root_.id (by kernel_rfl)
theorem Zyw:(SC Tryz.prog J0 JF0 hds).hd 79=0:=_root_.id (by kernel_rfl)
theorem Zx3:(SC Tryz.prog J0 JF0 hds).hd 80=0:=_root_.id (by kernel_rfl)
theorem Zy8:(SC Tryz.prog J0 JF0 hds).hd 81=2:=_root_.id (by kernel_rfl)
theorem Zyg:(SC Tryz.prog J0 JF0 hds).hd 82=0:=_root_.id (by kernel_rfl)
theorem ZyY:(SC Tryz.prog J0 JF0 hds).hd 83=0:=_root_.id (by kernel_rfl)
theorem Zzs:(SC Tryz.prog J0 JF0 hds).hd 86=0:=_root_.id (by kernel_rfl)
theorem Zyl:(SC Tryz.prog J0 JF0 hds).hd 87=2:=_root_.id (by kernel_rfl)
theorem ZxY:(SC Tryz.prog J0 JF0 hds).hd 88=2:=_root_.id (by kernel_rfl)
theorem Zzo:(SC Tryz.prog J0 JF0 hds).hd 89=0:=_root_.id (by kernel_rfl)
theorem Zya:(SC Tryz.prog J0 JF0 hds).hd 90=0:=_root_.id (by kernel_rfl)
theorem ZyT:(SC Tryz.prog J0 JF0 hds).hd 91=0:=_root_.id (by kernel_rfl)
theorem Zyy:(SC Tryz.prog J0 JF0 hds).hd 97=0:=_root_.id (by kernel_rfl)
theorem Zyu:(SC Tryz.prog J0 JF0 hds).hd 98=0:=_root_.id (by kernel_rfl)
theorem ZyE:(SC Tryz.prog J0 JF0 hds).hd 99=0:=_root_.id (by kernel_rfl)
theorem ZvD:(SC Tryz.prog J0 JF0 hds).hd 100=0:=_root_.id (by kernel_rfl)
theorem ZwV:(SC Tryz.prog J0 JF0 hds).hd 101=0:=_root_.id (by kernel_rfl)
theorem Zxm:(SC Tryz.prog J0 JF0 hds).hd 102=0:=_root_.id (by kernel_rfl)
theorem Zxw:(SC Tryz.prog J0 JF0 hds).hd 103=0:=_root_.id (by kernel_rfl)
theorem ZwD:(SC Tryz.prog J0 JF0 hds).hd 104=0:=_root_.id (by kernel_rfl)
theorem Zvx:(SC Tryz.prog J0 JF0 hds).hd 105=0:=_root_.id (by kernel_rfl)
theorem Zvf:(SC Tryz.prog J0 JF0 hds).hd 106=0:=_root_.id (by kernel_rfl)
theorem Zxe:(SC Tryz.prog J0 JF0 hds).hd 107=0:=_root_.id (by kernel_rfl)
theorem ZvF:(SC Tryz.prog J0 JF0 hds).hd 108=0:=_root_.id (by kernel_rfl)
theorem ZwB:(SC Tryz.prog J0 JF0 hds).hd 109=0:=_root_.id (by kernel_rfl)
theorem Zxx:(SC Tryz.prog J0 JF0 hds).hd 110=0:=_root_.id (by kernel_rfl)
theorem Zvm:(SC Tryz.prog J0 JF0 hds).hd 111=0:=_root_.id (by kernel_rfl)
theorem Zv9:(SC Tryz.prog J0 JF0 hds).hd 113=0:=_root_.id (by kernel_rfl)
theorem Zxr:(SC Tryz.prog J0 JF0 hds).hd 114=0:=_root_.id (by kernel_rfl)
theorem ZwX:(SC Tryz.prog J0 JF0 hds).hd 115=2:=_root_.id (by kernel_rfl)
theorem Zwd:(SC Tryz.prog J0 JF0 hds).hd 116=0:=_root_.id (by kernel_rfl)
theorem Zw5:(SC Tryz.prog J0 JF0 hds).hd 118=0:=_root_.id (by kernel_rfl)
theorem ZuL:(SC Tryz.prog J0 JF0 hds).hd 119=2:=_root_.id (by kernel_rfl)
theorem Zvg:(SC Tryz.prog J0 JF0 hds).hd 123=0:=_root_.id (by kernel_rfl)
theorem Zxh:(SC Tryz.prog J0 JF0 hds).hd 124=0:=_root_.id (by kernel_rfl)
theorem ZuN:(SC Tryz.prog J0 JF0 hds).hd 125=0:=_root_.id (by kernel_rfl)
theorem ZxJ:(SC Tryz.prog J0 JF0 hds).hd 126=0:=_root_.id (by kernel_rfl)
theorem ZxV:(SC Tryz.prog J0 JF0 hds).hd 127=0:=_root_.id (by kernel_rfl)
theorem Zwk:(SC Tryz.prog J0 JF0 hds).hd 128=0:=_root_.id (by kernel_rfl)
theorem Zwi:(SC Tryz.prog J0 JF0 hds).hd 129=0:=_root_.id (by kernel_rfl)
theorem Zvz:(SC Tryz.prog J0 JF0 hds).hd 132=0:=_root_.id (by kernel_rfl)
theorem ZvZ:(SC Tryz.prog J0 JF0 hds).hd 133=0:=_root_.id (by kernel_rfl)
theorem ZxD:(SC Tryz.prog J0 JF0 hds).hd 134=0:=_root_.id (by kernel_rfl)
theorem ZwM:(SC Tryz.prog J0 JF0 hds).hd 135=0:=_root_.id (by kernel_rfl)
theorem ZuF:(SC Tryz.prog J0 JF0 hds).hd 136=0:=_root_.id (by kernel_rfl)
theorem Zv8:(SC Tryz.prog J0 JF0 hds).hd 137=0:=_root_.id (by kernel_rfl)
theorem ZuH:(SC Tryz.prog J0 JF0 hds).hd 138=0:=_root_.id (by kernel_rfl)
theorem ZxL:(SC Tryz.prog J0 JF0 hds).hd 139=1:=_root_.id (by kernel_rfl)
theorem ZwK:(SC Tryz.prog J0 JF0 hds).hd 140=0:=_root_.id (by kernel_rfl)
theorem ZwW:(SC Tryz.prog J0 JF0 hds).hd 143=0:=_root_.id (by kernel_rfl)
theorem Zvo:(SC Tryz.prog J0 JF0 hds).hd 144=0:=_root_.id (by kernel_rfl)
theorem ZxK:(SC Tryz.prog J0 JF0 hds).hd 145=0:=_root_.id (by kernel_rfl)
theorem ZvM:(SC Tryz.prog J0 JF0 hds).hd 146=0:=_root_.id (by kernel_rfl)
theorem Zvc:(SC Tryz.prog J0 JF0 hds).hd 147=0:=_root_.id (by kernel_rfl)
theorem ZvR:(SC Tryz.prog J0 JF0 hds).hd 148=0:=_root_.id (by kernel_rfl)
theorem Zvb:(SC Tryz.prog J0 JF0 hds).hd 149=0:=_root_.id (by kernel_rfl)
theorem Zw3:(SC Tryz.prog J0 JF0 hds).hd 150=0:=_root_.id (by kernel_rfl)
theorem ZwL:(SC Tryz.prog J0 JF0 hds).hd 151=0:=_root_.id (by kernel_rfl)
theorem Zxg:(SC Tryz.prog J0 JF0 hds).hd 152=0:=_root_.id (by kernel_rfl)
theorem Zvt:(SC Tryz.prog J0 JF0 hds).hd 153=0:=_root_.id (by kernel_rfl)
theorem Zv1:(SC Tryz.prog J0 JF0 hds).hd 154=0:=_root_.id (by kernel_rfl)
theorem ZwC:(SC Tryz.prog J0 JF0 hds).hd 155=0:=_root_.id (by kernel_rfl)
theorem ZvS:(SC Tryz.prog J0 JF0 hds).hd 156=0:=_root_.id (by kernel_rfl)
theorem Zxb:(SC Tryz.prog J0 JF0 hds).hd 157=0:=_root_.id (by kernel_rfl)
theorem Zvn:(SC Tryz.prog J0 JF0 hds).hd 158=0:=_root_.id (by kernel_rfl)
theorem ZuA:(SC Tryz.prog J0 JF0 hds).hd 159=0:=_root_.id (by kernel_rfl)
theorem Zwm:(SC Tryz.prog J0 JF0 hds).hd 160=0:=_root_.id (by kernel_rfl)
theorem Zxp:(SC Tryz.prog J0 JF0 hds).hd 161=0:=_root_.id (by kernel_rfl)
theorem Zv3:(SC Tryz.prog J0 JF0 hds).hd 162=0:=_root_.id (by kernel_rfl)
theorem Zu3:(SC Tryz.prog J0 JF0 hds).hd 163=0:=_root_.id (by kernel_rfl)
theorem Zvi:(SC Tryz.prog J0 JF0 hds).hd 164=0:=_root_.id (by kernel_rfl)
theorem ZxT:(SC Tryz.prog J0 JF0 hds).hd 165=0:=_root_.id (by kernel_rfl)
theorem ZxE:(SC Tryz.prog J0 JF0 hds).hd 166=2:=_root_.id (by kernel_rfl)
theorem Zxs:(SC Tryz.prog J0 JF0 hds).hd 167=0:=_root_.id (by kernel_rfl)
theorem ZxP:(SC Tryz.prog J0 JF0 hds).hd 168=0:=_root_.id (by kernel_rfl)
theorem Zvs:(SC Tryz.prog J0 JF0 hds).hd 169=0:=_root_.id (by kernel_rfl)
theorem ZwN:(SC Tryz.prog J0 JF0 hds).hd 170=0:=_root_.id (by kernel_rfl)
theorem ZuB:(SC Tryz.prog J0 JF0 hds).hd 171=0:=_root_.id (by kernel_rfl)
theorem Zws:(SC Tryz.prog J0 JF0 hds).hd 172=0:=_root_.id (by kernel_rfl)
theorem ZwF:(SC Tryz.prog J0 JF0 hds).hd 173=0:=_root_.id (by kernel_rfl)
theorem Zvp:(SC Tryz.prog J0 JF0 hds).hd 174=0:=_root_.id (by kernel_rfl)
theorem ZvO:(SC Tryz.prog J0 JF0 hds).hd 175=0:=_root_.id (by kernel_rfl)
theorem Zvu:(SC Tryz.prog J0 JF0 hds).hd 176=0:=_root_.id (by kernel_rfl)
theorem ZuJ:(SC Tryz.prog J0 JF0 hds).hd 177=0:=_root_.id (by kernel_rfl)
theorem Zxy:(SC Tryz.prog J0 JF0 hds).hd 178=3:=_root_.id (by kernel_rfl)
theorem ZxW:(SC Tryz.prog J0 JF0 hds).hd 179=0:=_root_.id (by kernel_rfl)
theorem Zwo:(SC Tryz.prog J0 JF0 hds).hd 180=0:=_root_.id (by kernel_rfl)
theorem Zv0:(SC Tryz.prog J0 JF0 hds).hd 181=0:=_root_.id (by kernel_rfl)
theorem ZvB:(SC Tryz.prog J0 JF0 hds).hd 182=0:=_root_.id (by kernel_rfl)
theorem ZxQ:(SC Tryz.prog J0 JF0 hds).hd 184=0:=_root_.id (by kernel_rfl)
theorem ZwO:(SC Tryz.prog J0 JF0 hds).hd 185=0:=_root_.id (by kernel_rfl)
theorem ZuX:(SC Tryz.prog J0 JF0 hds).hd 186=0:=_root_.id (by kernel_rfl)
theorem Zwa:(SC Tryz.prog J0 JF0 hds).hd 187=0:=_root_.id (by kernel_rfl)
theorem ZvI:(SC Tryz.prog J0 JF0 hds).hd 188=0:=_root_.id (by kernel_rfl)
theorem Zw7:(SC Tryz.prog J0 JF0 hds).hd 189=0:=_root_.id (by kernel_rfl)
theorem Zwu:(SC Tryz.prog J0 JF0 hds).hd 190=0:=_root_.id (by kernel_rfl)
theorem Zw8:(SC Tryz.prog J0 JF0 hds).hd 191=0:=_root_.id (by kernel_rfl)
theorem ZxG:(SC Tryz.prog J0 JF0 hds).hd 192=0:=_root_.id (by kernel_rfl)
theorem ZuG:(SC Tryz.prog J0 JF0 hds).hd 193=0:=_root_.id (by kernel_rfl)
theorem ZwS:(SC Tryz.prog J0 JF0 hds).hd 194=0:=_root_.id (by kernel_rfl)
theorem Zxi:(SC Tryz.prog J0 JF0 hds).hd 195=0:=_root_.id (by kernel_rfl)
theorem ZuD:(SC Tryz.prog J0 JF0 hds).hd 196=0:=_root_.id (by kernel_rfl)
theorem ZwT:(SC Tryz.prog J0 JF0 hds).hd 197=0:=_root_.id (by kernel_rfl)
theorem ZvQ:(SC Tryz.prog J0 JF0 hds).hd 198=0:=_root_.id (by kernel_rfl)
theorem Zu4:(SC Tryz.prog J0 JF0 hds).hd 199=0:=_root_.id (by kernel_rfl)
theorem ZuY:(SC Tryz.prog J0 JF0 hds).hd 200=0:=_root_.id (by kernel_rfl)
theorem ZwZ:(SC Tryz.prog J0 JF0 hds).hd 201=0:=_root_.id (by kernel_rfl)
theorem ZxF:(SC Tryz.prog J0 JF0 hds).hd 202=0:=_root_.id (by kernel_rfl)
theorem ZvP:(SC Tryz.prog J0 JF0 hds).hd 203=0:=_root_.id (by kernel_rfl)
theorem Zvj:(SC Tryz.prog J0 JF0 hds).hd 204=0:=_root_.id (by kernel_rfl)
theorem ZvN:(SC Tryz.prog J0 JF0 hds).hd 205=0:=_root_.id (by kernel_rfl)
theorem Zxf:(SC Tryz.prog J0 JF0 hds).hd 206=0:=_root_.id (by kernel_rfl)
theorem ZwR:(SC Tryz.prog J0 JF0 hds).hd 207=0:=_root_.id (by kernel_rfl)
theorem ZuS:(SC Tryz.prog J0 JF0 hds).hd 208=0:=_root_.id (by kernel_rfl)
theorem Zv7:(SC Tryz.prog J0 JF0 hds).hd 209=0:=_root_.id (by kernel_rfl)
theorem ZwP:(SC Tryz.prog J0 JF0 hds).hd 210=0:=_root_.id (by kernel_rfl)
theorem Zw6:(SC Tryz.prog J0 JF0 hds).hd 211=0:=_root_.id (by kernel_rfl)
theorem Zwp:(SC Tryz.prog J0 JF0 hds).hd 212=0:=_root_.id (by kernel_rfl)
theorem Zu2:(SC Tryz.prog J0 JF0 hds).hd 213=0:=_root_.id (by kernel_rfl)
theorem Zvd:(SC Tryz.prog J0 JF0 hds).hd 214=0:=_root_.id (by kernel_rfl)
theorem Zxa:(SC Tryz.prog J0 JF0 hds).hd 215=0:=_root_.id (by kernel_rfl)
theorem ZuV:(SC Tryz.prog J0 JF0 hds).hd 218=0:=_root_.id (by kernel_rfl)
theorem Zu9:(SC Tryz.prog J0 JF0 hds).hd 219=0:=_root_.id (by kernel_rfl)
theorem Zwe:(SC Tryz.prog J0 JF0 hds).hd 220=0:=_root_.id (by kernel_rfl)
theorem ZvK:(SC Tryz.prog J0 JF0 hds).hd 221=0:=_root_.id (by kernel_rfl)
theorem ZvL:(SC Tryz.prog J0 JF0 hds).hd 222=0:=_root_.id (by kernel_rfl)
theorem ZvU:(SC Tryz.prog J0 JF0 hds).hd 223=0:=_root_.id (by kernel_rfl)
theorem ZvG:(SC Tryz.prog J0 JF0 hds).hd 224=0:=_root_.id (by kernel_rfl)
theorem Zxj:(SC Tryz.prog J0 JF0 hds).hd 225=0:=_root_.id (by kernel_rfl)
theorem ZxB:(SC Tryz.prog J0 JF0 hds).hd 226=0:=_root_.id (by kernel_rfl)
theorem ZvY:(SC Tryz.prog J0 JF0 hds).hd 227=0:=_root_.id (by kernel_rfl)
theorem Zxq:(SC Tryz.prog J0 JF0 hds).hd 228=0:=_root_.id (by kernel_rfl)
theorem ZxU:(SC Tryz.prog J0 JF0 hds).hd 229=0:=_root_.id (by kernel_rfl)
theorem ZxR:(SC Tryz.prog J0 JF0 hds).hd 230=0:=_root_.id (by kernel_rfl)
theorem ZuQ:(SC Tryz.prog J0 JF0 hds).hd 231=0:=_root_.id (by kernel_rfl)
theorem Zww:(SC Tryz.prog J0 JF0 hds).hd 232=0:=_root_.id (by kernel_rfl)
theorem ZuI:(SC Tryz.prog J0 JF0 hds).hd 233=0:=_root_.id (by kernel_rfl)
theorem Zw1:(SC Tryz.prog J0 JF0 hds).hd 234=1:=_root_.id (by kernel_rfl)
theorem ZuE:(SC Tryz.prog J0 JF0 hds).hd 236=0:=_root_.id (by kernel_rfl)
theorem Zu6:(SC Tryz.prog J0 JF0 hds).hd 237=0:=_root_.id (by kernel_rfl)
theorem Zvy:(SC Tryz.prog J0 JF0 hds).hd 249=0:=_root_.id (by kernel_rfl)
theorem Zva:(SC Tryz.prog J0 JF0 hds).hd 250=0:=_root_.id (by kernel_rfl)
theorem Zxv:(SC Tryz.prog J0 JF0 hds).hd 251=0:=_root_.id (by kernel_rfl)
theorem ZxM:(SC Tryz.prog J0 JF0 hds).hd 256=0:=_root_.id (by kernel_rfl)
theorem tt2:tt 2=some (.atom (.c (.int .i64 0))):=_root_.id rfl
theorem tt3:tt 3=some (.atom (.c (.int .i64 0))):=_root_.id rfl
theorem tt4:tt 4=some (.atom (.c (.bool false))):=_root_.id rfl
theorem tt5:tt 5=some (.atom (.c (.int .u8 0))):=_root_.id rfl
theorem tt9:tt 9=some (.atom (.c (.str ⟨#[]⟩))):=_root_.id rfl
theorem Zz6:tt 12=some (.atom (.c (.int .u64 0))):=_root_.id rfl
theorem ZzY:tt 14=some (.strct [⟨0,1,false⟩,⟨1,1,false⟩] 2 [.c (.str ⟨#[]⟩),.c (.int .u64 0)]):=_root_.id rfl
theorem ZzH:tt 20=some (.ifc):=_root_.id rfl
theorem ZzS:tt 21=some (.atom (.c (.int .i32 0))):=_root_.id rfl
theorem ZzF:tt 22=some (.slice 75 4 72 [.c (.str ⟨#[]⟩),.c (.int .i64 0),.nil 158 5,.nil 161 3]):=_root_.id rfl
theorem ZzU:tt 23=some (.slice 54 2 40 [.c (.str ⟨#[]⟩),.nil 9 1]):=_root_.id rfl
theorem Zz0:tt 26=some (.slice 57 2 40 [.c (.str ⟨#[]⟩),.nil 9 1]):=_root_.id rfl
theorem ZzI:tt 27=some (.slice 114 3 56 [.c (.int .i64 0),.nil 3 1,.nil 3 1]):=_root_.id rfl
theorem ZzE:tt 29=some (.strct [⟨0,1,false⟩,⟨1,1,false⟩] 2 [.c (.int .i64 0),.nil 114 3]):=_root_.id rfl
theorem ZzB:tt 32=some (.slice 82 4 72 [.c (.str ⟨#[]⟩),.c (.int .i64 0),.nil 130 5,.nil 134 3]):=_root_.id rfl
theorem ZAa:tt 44=some (.slice 9 1 16 [.c (.str ⟨#[]⟩)]):=_root_.id rfl
theorem Zzx:tt 46=some (.strct [⟨0,1,false⟩,⟨1,1,false⟩] 2 [.c (.str ⟨#[]⟩),.nil 9 1]):=_root_.id rfl
theorem Zz7:tt 49=some (.strct [⟨0,1,false⟩,⟨1,1,false⟩] 2 [.c (.str ⟨#[]⟩),.nil 9 1]):=_root_.id rfl
theorem Zz1:tt 54=some (.strct [⟨0,1,false⟩,⟨1,1,false⟩] 2 [.c (.str ⟨#[]⟩),.nil 9 1]):=_root_.id rfl
theorem ZzN:tt 57=some (.strct [⟨0,1,false⟩,⟨1,1,false⟩] 2 [.c (.str ⟨#[]⟩),.nil 9 1]):=_root_.id rfl
theorem ZzM:tt 62=some (.slice 104 4 80 [.c (.str ⟨#[]⟩),.nil 9 1,.c (.str ⟨#[]⟩),.nil 3 1]):=_root_.id rfl
theorem ZzV:tt 65=some (.slice 107 4 80 [.c (.str ⟨#[]⟩),.nil 9 1,.c (.str ⟨#[]⟩),.nil 3 1]):=_root_.id rfl
theorem ZzL:tt 72=some (.slice 158 5 80 [.c (.int .i64 0),.c (.str ⟨#[]⟩),.nil 9 1,.c (.str ⟨#[]⟩),.c (.str ⟨#[]⟩)]):=_root_.id rfl
theorem Zz5:tt 73=some (.slice 161 3 48 [.c (.int .i64 0),.c (.str ⟨#[]⟩),.nil 9 1]):=_root_.id rfl
theorem Zz8:tt 75=some (.strct [⟨0,1,false⟩,⟨1,1,false⟩,⟨2,1,false⟩,⟨3,1,false⟩] 4 [.c (.str ⟨#[]⟩),.c (.int .i64 0),.nil 158 5,.nil 161 3]):=_root_.id rfl
theorem Zz3:tt 76=some (.slice 119 3 64 [.c (.str ⟨#[]⟩),.nil 57 2,.nil 192 2]):=_root_.id rfl
theorem Zzw:tt 79=some (.slice 130 5 80 [.c (.int .i64 0),.c (.str ⟨#[]⟩),.nil 9 1,.c (.str ⟨#[]⟩),.c (.str ⟨#[]⟩)]):=_root_.id rfl
theorem ZzK:tt 80=some (.slice 134 3 48 [.c (.int .i64 0),.c (.str ⟨#[]⟩),.nil 9 1]):=_root_.id rfl
theorem ZzT:tt 82=some (.strct [⟨0,1,false⟩,⟨1,1,false⟩,⟨2,1,false⟩,⟨3,1,false⟩] 4 [.c (.str ⟨#[]⟩),.c (.int .i64 0),.nil 130 5,.nil 134 3]):=_root_.id rfl
theorem Zz9:tt 84=some (.slice 128 2 40 [.c (.str ⟨#[]⟩),.nil 57 2]):=_root_.id rfl
theorem Zy4:tt 101=some (.slice 3 1 8 [.c (.int .i64 0)]):=_root_.id rfl
theorem Zyr:tt 104=some (.strct [⟨0,2,true⟩,⟨2,1,false⟩,⟨3,1,false⟩] 4 [.c (.str ⟨#[]⟩),.nil 9 1,.c (.str ⟨#[]⟩),.nil 3 1]):=_root_.id rfl
theorem Zyj:tt 107=some (.strct [⟨0,2,true⟩,⟨2,1,false⟩,⟨3,1,false⟩] 4 [.c (.str ⟨#[]⟩),.nil 9 1,.c (.str ⟨#[]⟩),.nil 3 1]):=_root_.id rfl
theorem ZyR:tt 114=some (.strct [⟨0,1,false⟩,⟨1,1,false⟩,⟨2,1,false⟩] 3 [.c (.int .i64 0),.nil 3 1,.nil 3 1]):=_root_.id rfl
theorem Zx6:tt 115=some (.slice 192 2 32 [.c (.str ⟨#[]⟩),.c (.str ⟨#[]⟩)]):=_root_.id rfl
theorem Zy5:tt 117=some (.strct [⟨0,1,false⟩,⟨1,1,false⟩] 2 [.nil 57 2,.nil 192 2]):=_root_.id rfl
theorem Zzc:tt 119=some (.strct [⟨0,1,false⟩,⟨1,2,true⟩] 3 [.c (.str ⟨#[]⟩),.nil 57 2,.nil 192 2]):=_root_.id rfl
theorem Zx7:tt 120=some (.slice 117 2 48 [.nil 57 2,.nil 192 2]):=_root_.id rfl
theorem ZyJ:tt 128=some (.strct [⟨0,1,false⟩,⟨1,1,false⟩] 2 [.c (.str ⟨#[]⟩),.nil 57 2]):=_root_.id rfl
theorem Zzh:tt 130=some (.strct [⟨0,1,false⟩,⟨1,2,true⟩,⟨3,1,false⟩,⟨4,1,false⟩] 5 [.c (.int .i64 0),.c (.str ⟨#[]⟩),.nil 9 1,.c (.str ⟨#[]⟩),.c (.str ⟨#[]⟩)]):=_root_.id rfl
theorem Zzk:tt 134=some (.strct [⟨0,1,false⟩,⟨1,2,true⟩] 3 [.c (.int .i64 0),.c (.str ⟨#[]⟩),.nil 9 1]):=_root_.id rfl
theorem ZyF:tt 140=some (.slice 5 1 1 [.c (.int .u8 0)]):=_root_.id rfl
theorem Zyd:tt 142=some (.slice 4 1 1 [.c (.bool false)]):=_root_.id rfl
theorem Zy3:tt 158=some (.strct [⟨0,1,false⟩,⟨1,2,true⟩,⟨3,1,false⟩,⟨4,1,false⟩] 5 [.c (.int .i64 0),.c (.str ⟨#[]⟩),.nil 9 1,.c (.str ⟨#[]⟩),.c (.str ⟨#[]⟩)]):=_root_.id rfl
theorem ZyA:tt 161=some (.strct [⟨0,1,false⟩,⟨1,2,true⟩] 3 [.c (.int .i64 0),.c (.str ⟨#[]⟩),.nil 9 1]):=_root_.id rfl
theorem ZxZ:tt 187=some (.map .str .bool):=_root_.id rfl
theorem Zza:tt 192=some (.strct [⟨0,1,false⟩,⟨1,1,false⟩] 2 [.c (.str ⟨#[]⟩),.c (.str ⟨#[]⟩)]):=_root_.id rfl
theorem Zx5:tt 207=some (.atom (.c (.int .u64 0))):=_root_.id rfl
theorem ZyH:tt 216=some (.ifc):=_root_.id rfl
theorem Zye:tt 217=some (.ifc):=_root_.id rfl
theorem ZyO:tt 229=some (.atom (.c (.int .u32 0))):=_root_.id rfl
theorem Zzm:tt 231=some (.atom (.c (.int .u64 0))):=_root_.id rfl
theorem Zzl:tt 269=some (.strct [⟨0,1,false⟩] 1 [.c (.str ⟨#[]⟩)]):=_root_.id rfl
theorem fnk {f : FuncId} {fn : Func} {c : Code} {args : List (Bool × List CT)} {res : List RT} (hf : Tryz.prog.funcs[f]? = some fn) (hname : (fn.name == "runtime.NumGoroutine") = false) (hb : fn.body = some c) (hok : XT tt hds false fn.ntmps c = true) (hlen : Nat.ble args.length fn.ntmps = true) (h : fnS tt (SC Tryz.prog J0 JF0 hds) fn.results.toList c args res) : Zn Tryz.prog J0 f args res := ZsL htt hJ0 hmix hf hname hb hok hlen h
theorem fnb {f : FuncId} {fn : Func} {c : Code} {args : List (Bool × List CT)} {nb : NB} (hf : Tryz.prog.funcs[f]? = some fn) (hname : (fn.name == "runtime.NumGoroutine") = false) (hb : fn.body = some c) (hok : XT tt hds false fn.ntmps c = true) (hlen : Nat.ble args.length fn.ntmps = true) (h : fnB tt (SC Tryz.prog J0 JF0 hds) fn.results.toList c args nb) : ZnF Tryz.prog J0 f args nb := Zro htt hJ0 hmix hf hname hb hok hlen h
theorem fnn (t0 : Nat) {f : FuncId} {fn : Func} {c : Code} {args : List (Bool × List CT)} {res : List RT} (hf : Tryz.prog.funcs[f]? = some fn) (hname : (fn.name == "runtime.NumGoroutine") = false) (hb : fn.body = some c) (hok : XT tt hds false fn.ntmps c = true) (hlen : Nat.ble args.length fn.ntmps = true) (h : fnN tt (SC Tryz.prog J0 JF0 hds) fn.results.toList t0 c args res) : Zn Tryz.prog J0 f args res := ZrO htt hJ0 hmix hf hname hb hok hlen t0 h
def Yn (x:Zh):List CT:=[.int .i64 x.for_,.sl 3 1 (List.map Qv x.inn),.sl 3 1 (List.map Qv x.outs)]
theorem ZpN (x:Zh):Yn x=[.int .i64 x.for_,.sl 3 1 (List.map Qv x.inn),.sl 3 1 (List.map Qv x.outs)]:=_root_.id rfl
def Zff (x:ZK):List CT:=[.int .i64 x.nodes,.sl 114 3 (List.map Yn x.reasons)]
theorem ZnZ (x:ZK):Zff x=[.int .i64 x.nodes,.sl 114 3 (List.map Yn x.reasons)]:=_root_.id rfl
def QQ (x:Zv):List CT:=[.str x.rel,.sl 9 1 (List.map Zu x.args)]
theorem ZnW (x:Zv):QQ x=[.str x.rel,.sl 9 1 (List.map Zu x.args)]:=_root_.id rfl
def Zq (x:Zc):List CT:=[.str x.rel,.sl 9 1 (List.map Zu x.args)]
theorem Ztg (x:Zc):Zq x=[.str x.rel,.sl 9 1 (List.map Zu x.args)]:=_root_.id rfl
def ZM (x:Zm):List CT:=[.int .i64 x.kind,.str x.pattern.rel,.sl 9 1 (List.map Zu x.pattern.args),.str x.left,.str x.right]
theorem Ztc (x:Zm):ZM x=[.int .i64 x.kind,.str x.pattern.rel,.sl 9 1 (List.map Zu x.pattern.args),.str x.left,.str x.right]:=_root_.id rfl
def ZA (x:Zr):List CT:=[.int .i64 x.kind,.str x.pattern.rel,.sl 9 1 (List.map Zu x.pattern.args)]
theorem ZpP (x:Zr):ZA x=[.int .i64 x.kind,.str x.pattern.rel,.sl 9 1 (List.map Zu x.pattern.args)]:=_root_.id rfl
def ZB (x:Zf):List CT:=[.str x.name,.int .i64 x.priority,.sl 130 5 (List.map ZM x.cond),.sl 134 3 (List.map ZA x.thn)]
theorem Zs3 (x:Zf):ZB x=[.str x.name,.int .i64 x.priority,.sl 130 5 (List.map ZM x.cond),.sl 134 3 (List.map ZA x.thn)]:=_root_.id rfl
def ZyU (x:Zuw):List CT:=[.str x.fact.rel,.sl 9 1 (List.map Zu x.fact.args),.str x.rule,.sl 3 1 (List.map Qv x.uses)]
theorem ZsP (x:Zuw):ZyU x=[.str x.fact.rel,.sl 9 1 (List.map Zu x.fact.args),.str x.rule,.sl 3 1 (List.map Qv x.uses)]:=_root_.id rfl
def Z6 (x:Zl):List CT:=[.str x.var,.str x.value]
theorem Zsh (x:Zl):Z6 x=[.str x.var,.str x.value]:=_root_.id rfl
theorem Zp6 (l:List Zl):Zaz (l.map Z6)=true:=ZbB (fun _=>rfl) l
def YZ (x:Zt):List CT:=[.sl 57 2 (List.map Zq x.facts),.sl 192 2 (List.map Z6 x.binding)]
theorem Zrg (x:Zt):YZ x=[.sl 57 2 (List.map Zq x.facts),.sl 192 2 (List.map Z6 x.binding)]:=_root_.id rfl
def Zeo (x:Xx):List CT:=[.str x.rule,.sl 57 2 (List.map Zq x.token.facts),.sl 192 2 (List.map Z6 x.token.binding)]
theorem Znn (x:Xx):Zeo x=[.str x.rule,.sl 57 2 (List.map Zq x.token.facts),.sl 192 2 (List.map Z6 x.token.binding)]:=_root_.id rfl
def Zgf (x:Zaj):List CT:=[.str x.rule,.sl 57 2 (List.map Zq x.facts)]
theorem ZpC (x:Zaj):Zgf x=[.str x.rule,.sl 57 2 (List.map Zq x.facts)]:=_root_.id rfl
attribute [go_sem] tt2 tt3 tt4 tt5 tt9 Zz6 ZzY ZzH ZzS ZzF ZzU Zz0 ZzI ZzE ZzB ZAa Zzx Zz7 Zz1 ZzN ZzM ZzV ZzL Zz5 Zz8 Zz3 Zzw ZzK ZzT Zz9 Zy4 Zyr Zyj ZyR Zx6 Zy5 Zzc Zx7 ZyJ Zzh
attribute [go_sem] Zzk ZyF Zyd Zy3 ZyA ZxZ Zza Zx5 ZyH Zye ZyO Zzm Zzl Zyh Zzg Zyz Zzq Zy0 Zys ZyZ ZyQ ZyC ZyP Zzj Zyn Zyo Zyk Zy1 ZyB Zym Zyb ZyM Zyc ZyS Zx4 ZyI ZyK Zx8 Zzb ZyW
attribute [go_sem] Zyq Zyw Zx3 Zy8 Zyg ZyY Zzs Zyl ZxY Zzo Zya ZyT Zyy Zyu ZyE ZvD ZwV Zxm Zxw ZwD Zvx Zvf Zxe ZvF ZwB Zxx Zvm Zv9 Zxr ZwX Zwd Zw5 ZuL Zvg Zxh ZuN ZxJ ZxV Zwk Zwi
attribute [go_sem] Zvz ZvZ ZxD ZwM ZuF Zv8 ZuH ZxL ZwK ZwW Zvo ZxK ZvM Zvc ZvR Zvb Zw3 ZwL Zxg Zvt Zv1 ZwC ZvS Zxb Zvn ZuA Zwm Zxp Zv3 Zu3 Zvi ZxT ZxE Zxs ZxP Zvs ZwN ZuB Zws ZwF
attribute [go_sem] Zvp ZvO Zvu ZuJ Zxy ZxW Zwo Zv0 ZvB ZxQ ZwO ZuX Zwa ZvI Zw7 Zwu Zw8 ZxG ZuG ZwS Zxi ZuD ZwT ZvQ Zu4 ZuY ZwZ ZxF ZvP Zvj ZvN Zxf ZwR ZuS Zv7 ZwP Zw6 Zwp Zu2 Zvd
attribute [go_sem] Zxa ZuV Zu9 Zwe ZvK ZvL ZvU ZvG Zxj ZxB ZvY Zxq ZxU ZxR ZuQ Zww ZuI Zw1 ZuE Zu6 Zvy Zva Zxv ZxM ZpN ZnZ ZnW Ztg Ztc ZpP Zs3 ZsP Zp6 Zsh Zrg Znn ZpC
end Go.Proofs.YtojnhepgnbhaaaaGreatDoor
namespace Go.Proofs
open Go.Shelf
def Tryz.lays106_ren:Go.Shelf.Ren:=⟨fun | 106=>210 | 213=>235 | 265=>253 | n=>n,fun | 9=>9 | 3=>3 | n=>n,fun | n=>n⟩
theorem Tryz.lays106:Go.Proofs.Lays.n106 Tryz.prog Tryz.lays106_ren:={
 mixed:=by kernel_rfl
 f106:=Tryz.func210.trans (congrArg some (by kernel_rfl))
 f213:=Tryz.func235.trans (congrArg some (by kernel_rfl))
 f265:=Tryz.func253.trans (congrArg some (by kernel_rfl))
 t3:=Tryz.underlying3
 a3:=Tryz.isAgg3
 z3:=Tryz.sizeOf3
 v3:=Tryz.zeroValue3
 t9:=Tryz.underlying9
 a9:=Tryz.isAgg9
 z9:=Tryz.sizeOf9
 v9:=Tryz.zeroValue9 }
open Go.RowKit in
theorem Tryz.strings_Compare (a b:ByteArray) (w:World):
  Calls Tryz.prog 210 #[.string a,.string b] w fun e w'=>e=.returned (.int .i64 (Lib.compareBytes a.data.toList b.data.toList))∧w'=w:=Any.strings_Compare Tryz.lays106 a b w
def Tryz.lays172_ren:Go.Shelf.Ren:=⟨fun | 172=>236 | 244=>254 | 245=>255 | 247=>264 | 279=>265 | 280=>266 | 281=>267 | 282=>268 | 287=>280 | 316=>281 | 171=>256 | 205=>282 | 321=>288 | 322=>289 | 243=>269 | 246=>283 | 283=>290 | 284=>291 | 285=>292 | 286=>293 | 129=>248 | 317=>295 | 318=>296 | 319=>297 | 320=>298 | 337=>299 | 338=>300 | n=>n,fun | 9=>9 | 3=>3 | 75=>217 | 76=>218 | 4=>4 | 5=>5 | 167=>241 | 37=>140 | 0=>0 | 85=>242 | 2=>2 | 168=>244 | 53=>231 | 175=>256 | 46=>207 | 210=>260 | 127=>266 | 145=>269 | 143=>267 | 21=>21 | 171=>270 | 173=>272 | 212=>277 | 51=>229 | 20=>20 | 213=>278 | 232=>279 | 233=>280 | 80=>281 | n=>n,fun | 15=>1 | 16=>2 | 17=>3 | 18=>4 | 19=>5 | n=>n⟩
theorem Tryz.lays172:Go.Proofs.Lays.n172 Tryz.prog Tryz.lays172_ren:={
 mixed:=by kernel_rfl
 f129:=Tryz.func248.trans (congrArg some (by kernel_rfl))
 f171:=Tryz.func256.trans (congrArg some (by kernel_rfl))
 f172:=Tryz.func236.trans (congrArg some (by kernel_rfl))
 f205:=Tryz.func282.trans (congrArg some (by kernel_rfl))
 f243:=Tryz.func269.trans (congrArg some (by kernel_rfl))
 f244:=Tryz.func254.trans (congrArg some (by kernel_rfl))
 f245:=Tryz.func255.trans (congrArg some (by kernel_rfl))
 f246:=Tryz.func283.trans (congrArg some (by kernel_rfl))
 f247:=Tryz.func264.trans (congrArg some (by kernel_rfl))
 f279:=Tryz.func265.trans (congrArg some (by kernel_rfl))
 f280:=Tryz.func266.trans (congrArg some (by kernel_rfl))
 f281:=Tryz.func267.trans (congrArg some (by kernel_rfl))
 f282:=Tryz.func268.trans (congrArg some (by kernel_rfl))
 f283:=Tryz.func290.trans (congrArg some (by kernel_rfl))
 f284:=Tryz.func291.trans (congrArg some (by kernel_rfl))
 f285:=Tryz.func292.trans (congrArg some (by kernel_rfl))
 f286:=Tryz.func293.trans (congrArg some (by kernel_rfl))
 f287:=Tryz.func280.trans (congrArg some (by kernel_rfl))
 f316:=Tryz.func281.trans (congrArg some (by kernel_rfl))
 f317:=Tryz.func295.trans (congrArg some (by kernel_rfl))
 f318:=Tryz.func296.trans (congrArg some (by kernel_rfl))
 f319:=Tryz.func297.trans (congrArg some (by kernel_rfl))
 f320:=Tryz.func298.trans (congrArg some (by kernel_rfl))
 f321:=Tryz.func288.trans (congrArg some (by kernel_rfl))
 f322:=Tryz.func289.trans (congrArg some (by kernel_rfl))
 f337:=Tryz.func299.trans (congrArg some (by kernel_rfl))
 f338:=Tryz.func300.trans (congrArg some (by kernel_rfl))
 t0:=Tryz.underlying0
 a0:=Tryz.isAgg0
 z0:=Tryz.sizeOf0
 v0:=Tryz.zeroValue0
 t2:=Tryz.underlying2
 a2:=Tryz.isAgg2
 z2:=Tryz.sizeOf2
 v2:=Tryz.zeroValue2
 t3:=Tryz.underlying3
 a3:=Tryz.isAgg3
 z3:=Tryz.sizeOf3
 v3:=Tryz.zeroValue3
 t4:=Tryz.underlying4
 a4:=Tryz.isAgg4
 z4:=Tryz.sizeOf4
 v4:=Tryz.zeroValue4
 t5:=Tryz.underlying5
 a5:=Tryz.isAgg5
 z5:=Tryz.sizeOf5
 v5:=Tryz.zeroValue5
 t9:=Tryz.underlying9
 a9:=Tryz.isAgg9
 z9:=Tryz.sizeOf9
 v9:=Tryz.zeroValue9
 t20:=Tryz.underlying20
 a20:=Tryz.isAgg20
 z20:=Tryz.sizeOf20
 v20:=Tryz.zeroValue20
 t21:=Tryz.underlying21
 a21:=Tryz.isAgg21
 z21:=Tryz.sizeOf21
 v21:=Tryz.zeroValue21
 t37:=Tryz.underlying140
 a37:=Tryz.isAgg140
 z37:=Tryz.sizeOf140
 v37:=Tryz.zeroValue140
 t46:=Tryz.underlying207
 a46:=Tryz.isAgg207
 z46:=Tryz.sizeOf207
 v46:=Tryz.zeroValue207
 t51:=Tryz.underlying229
 a51:=Tryz.isAgg229
 z51:=Tryz.sizeOf229
 v51:=Tryz.zeroValue229
 t53:=Tryz.underlying231
 a53:=Tryz.isAgg231
 z53:=Tryz.sizeOf231
 v53:=Tryz.zeroValue231
 t75:=Tryz.underlying217
 a75:=Tryz.isAgg217
 z75:=Tryz.sizeOf217
 v75:=Tryz.zeroValue217
 t76:=Tryz.underlying218
 a76:=Tryz.isAgg218
 z76:=Tryz.sizeOf218
 v76:=Tryz.zeroValue218
 t85:=Tryz.underlying242
 a85:=Tryz.isAgg242
 z85:=Tryz.sizeOf242
 v85:=Tryz.zeroValue242
 t127:=Tryz.underlying266
 a127:=Tryz.isAgg266
 z127:=Tryz.sizeOf266
 v127:=Tryz.zeroValue266
 t143:=Tryz.underlying267
 a143:=Tryz.isAgg267
 z143:=Tryz.sizeOf267
 v143:=Tryz.zeroValue267
 t145:=Tryz.underlying269
 a145:=Tryz.isAgg269
 z145:=Tryz.sizeOf269
 v145:=Tryz.zeroValue269
 t167:=Tryz.underlying241
 a167:=Tryz.isAgg241
 z167:=Tryz.sizeOf241
 v167:=Tryz.zeroValue241
 t168:=Tryz.underlying244
 a168:=Tryz.isAgg244
 z168:=Tryz.sizeOf244
 v168:=Tryz.zeroValue244
 t171:=Tryz.underlying270
 a171:=Tryz.isAgg270
 z171:=Tryz.sizeOf270
 v171:=Tryz.zeroValue270
 t173:=Tryz.underlying272
 a173:=Tryz.isAgg272
 z173:=Tryz.sizeOf272
 v173:=Tryz.zeroValue272
 t175:=Tryz.underlying256
 a175:=Tryz.isAgg256
 z175:=Tryz.sizeOf256
 v175:=Tryz.zeroValue256
 t210:=Tryz.underlying260
 a210:=Tryz.isAgg260
 z210:=Tryz.sizeOf260
 v210:=Tryz.zeroValue260
 t212:=Tryz.underlying277
 a212:=Tryz.isAgg277
 z212:=Tryz.sizeOf277
 v212:=Tryz.zeroValue277
 t213:=Tryz.underlying278
 a213:=Tryz.isAgg278
 z213:=Tryz.sizeOf278
 t232:=Tryz.underlying279
 a232:=Tryz.isAgg279
 z232:=Tryz.sizeOf279
 v232:=Tryz.zeroValue279
 t233:=Tryz.underlying280
 a233:=Tryz.isAgg280
 z233:=Tryz.sizeOf280
 v233:=Tryz.zeroValue280
 g15:=by kernel_rfl
 g16:=by kernel_rfl
 g17:=by kernel_rfl
 g18:=by kernel_rfl
 g19:=by kernel_rfl }
open Go.RowKit in
theorem Tryz.strconv_Atoi (s:ByteArray) (n:Int) (hl:s.size≤18) (h:Lib.atoi s.data.toList=some n) (w:World):
  Calls Tryz.prog 236 #[.string s] w fun e w'=>e=.returned (.tuple #[.int .i64 n,.nilIface])∧∃t,w'=Lib.bytesWorld w 5 t:=Any.strconv_Atoi Tryz.lays172 s n hl h w
def Tryz.laysM171_ren:Go.Shelf.Ren:=⟨fun | 171=>256 | 243=>269 | 246=>283 | 283=>290 | 284=>291 | 285=>292 | 286=>293 | 129=>248 | 317=>295 | 318=>296 | 319=>297 | 320=>298 | 337=>299 | 338=>300 | n=>n,fun | 3=>3 | 9=>9 | 2=>2 | 4=>4 | 171=>270 | 0=>0 | 53=>231 | 37=>140 | 5=>5 | 173=>272 | 212=>277 | 51=>229 | 20=>20 | 213=>278 | 46=>207 | 232=>279 | 233=>280 | n=>n,fun | 17=>3 | 18=>4 | 19=>5 | n=>n⟩
theorem Tryz.laysM171:Go.Proofs.LaysM.n171 Tryz.prog Tryz.laysM171_ren:={
 mixed:=by kernel_rfl
 f129:=Tryz.func248.trans (congrArg some (by kernel_rfl))
 f171:=Tryz.func256.trans (congrArg some (by kernel_rfl))
 f243:=Tryz.func269.trans (congrArg some (by kernel_rfl))
 f246:=Tryz.func283.trans (congrArg some (by kernel_rfl))
 f283:=Tryz.func290.trans (congrArg some (by kernel_rfl))
 f284:=Tryz.func291.trans (congrArg some (by kernel_rfl))
 f285:=Tryz.func292.trans (congrArg some (by kernel_rfl))
 f286:=Tryz.func293.trans (congrArg some (by kernel_rfl))
 f317:=Tryz.func295.trans (congrArg some (by kernel_rfl))
 f318:=Tryz.func296.trans (congrArg some (by kernel_rfl))
 f319:=Tryz.func297.trans (congrArg some (by kernel_rfl))
 f320:=Tryz.func298.trans (congrArg some (by kernel_rfl))
 f337:=Tryz.func299.trans (congrArg some (by kernel_rfl))
 f338:=Tryz.func300.trans (congrArg some (by kernel_rfl))
 t0:=Tryz.underlying0
 a0:=Tryz.isAgg0
 z0:=Tryz.sizeOf0
 v0:=Tryz.zeroValue0
 t2:=Tryz.underlying2
 a2:=Tryz.isAgg2
 z2:=Tryz.sizeOf2
 v2:=Tryz.zeroValue2
 t3:=Tryz.underlying3
 a3:=Tryz.isAgg3
 z3:=Tryz.sizeOf3
 v3:=Tryz.zeroValue3
 t4:=Tryz.underlying4
 a4:=Tryz.isAgg4
 z4:=Tryz.sizeOf4
 v4:=Tryz.zeroValue4
 t5:=Tryz.underlying5
 a5:=Tryz.isAgg5
 z5:=Tryz.sizeOf5
 v5:=Tryz.zeroValue5
 t9:=Tryz.underlying9
 a9:=Tryz.isAgg9
 z9:=Tryz.sizeOf9
 v9:=Tryz.zeroValue9
 t20:=Tryz.underlying20
 a20:=Tryz.isAgg20
 z20:=Tryz.sizeOf20
 v20:=Tryz.zeroValue20
 t37:=Tryz.underlying140
 a37:=Tryz.isAgg140
 z37:=Tryz.sizeOf140
 v37:=Tryz.zeroValue140
 t46:=Tryz.underlying207
 a46:=Tryz.isAgg207
 z46:=Tryz.sizeOf207
 v46:=Tryz.zeroValue207
 t51:=Tryz.underlying229
 a51:=Tryz.isAgg229
 z51:=Tryz.sizeOf229
 v51:=Tryz.zeroValue229
 t53:=Tryz.underlying231
 a53:=Tryz.isAgg231
 z53:=Tryz.sizeOf231
 v53:=Tryz.zeroValue231
 t171:=Tryz.underlying270
 a171:=Tryz.isAgg270
 z171:=Tryz.sizeOf270
 v171:=Tryz.zeroValue270
 t173:=Tryz.underlying272
 a173:=Tryz.isAgg272
 z173:=Tryz.sizeOf272
 v173:=Tryz.zeroValue272
 t212:=Tryz.underlying277
 a212:=Tryz.isAgg277
 z212:=Tryz.sizeOf277
 v212:=Tryz.zeroValue277
 t213:=Tryz.underlying278
 a213:=Tryz.isAgg278
 z213:=Tryz.sizeOf278
 t232:=Tryz.underlying279
 a232:=Tryz.isAgg279
 z232:=Tryz.sizeOf279
 v232:=Tryz.zeroValue279
 t233:=Tryz.underlying280
 a233:=Tryz.isAgg280
 z233:=Tryz.sizeOf280
 v233:=Tryz.zeroValue280
 g17:=by kernel_rfl
 g18:=by kernel_rfl
 g19:=by kernel_rfl
 i0:=by kernel_rfl
 i2:=by kernel_rfl
 i3:=by kernel_rfl
 i4:=by kernel_rfl
 i5:=by kernel_rfl
 i9:=by kernel_rfl
 i20:=by kernel_rfl
 i37:=by kernel_rfl
 i46:=by kernel_rfl
 i51:=by kernel_rfl
 i53:=by kernel_rfl
 i171:=by kernel_rfl
 i173:=by kernel_rfl
 i212:=by kernel_rfl
 i232:=by kernel_rfl
 i233:=by kernel_rfl
 m17:=by kernel_rfl
 m18:=by kernel_rfl
 m19:=by kernel_rfl }
open Go.RowKit Go.Sort Go.Lib in
theorem Tryz.strconv_Itoa (n : Int) (h0 : -9223372036854775808 ≤ n) (h1 : n ≤ 9223372036854775807) (w : World) (htab : Lib.TabIs Tryz.prog w "internal/strconv.uint64pow10" .u64 Lib.pow10Tab) :
  Calls Tryz.prog 256 #[.int .i64 n] w fun e w'=>e=.returned (.string ⟨(Lib.itoa n).toArray⟩)∧∃k os,w'=grow (w.drewN k) os:=Any.strconv_Itoa Tryz.laysM171 n h0 h1 w htab
def Tryz.laysC172_ren:Go.Shelf.Ren:=⟨fun | 172=>236 | 244=>254 | 245=>255 | 247=>264 | 279=>265 | 280=>266 | 281=>267 | 282=>268 | 287=>280 | 316=>281 | 171=>256 | 205=>282 | 321=>288 | 322=>289 | 243=>269 | 246=>283 | 283=>290 | 284=>291 | 285=>292 | 286=>293 | 129=>248 | 317=>295 | 318=>296 | 319=>297 | 320=>298 | 337=>299 | 338=>300 | n=>n,fun | 9=>9 | 3=>3 | 75=>217 | 76=>218 | 4=>4 | 5=>5 | 167=>241 | 37=>140 | 0=>0 | 85=>242 | 2=>2 | 168=>244 | 53=>231 | 175=>256 | 46=>207 | 210=>260 | 127=>266 | 145=>269 | 143=>267 | 21=>21 | 171=>270 | 173=>272 | 212=>277 | 51=>229 | 20=>20 | 213=>278 | 232=>279 | 233=>280 | 80=>281 | n=>n,fun | 15=>1 | 16=>2 | 17=>3 | 18=>4 | 19=>5 | n=>n⟩
theorem Tryz.laysC172:Go.Proofs.LaysC.n172 Tryz.prog Tryz.laysC172_ren:={
 mixed:=by kernel_rfl
 f129:=Tryz.func248.trans (congrArg some (by kernel_rfl))
 f171:=Tryz.func256.trans (congrArg some (by kernel_rfl))
 f172:=Tryz.func236.trans (congrArg some (by kernel_rfl))
 f205:=Tryz.func282.trans (congrArg some (by kernel_rfl))
 f243:=Tryz.func269.trans (congrArg some (by kernel_rfl))
 f244:=Tryz.func254.trans (congrArg some (by kernel_rfl))
 f245:=Tryz.func255.trans (congrArg some (by kernel_rfl))
 f246:=Tryz.func283.trans (congrArg some (by kernel_rfl))
 f247:=Tryz.func264.trans (congrArg some (by kernel_rfl))
 f279:=Tryz.func265.trans (congrArg some (by kernel_rfl))
 f280:=Tryz.func266.trans (congrArg some (by kernel_rfl))
 f281:=Tryz.func267.trans (congrArg some (by kernel_rfl))
 f282:=Tryz.func268.trans (congrArg some (by kernel_rfl))
 f283:=Tryz.func290.trans (congrArg some (by kernel_rfl))
 f284:=Tryz.func291.trans (congrArg some (by kernel_rfl))
 f285:=Tryz.func292.trans (congrArg some (by kernel_rfl))
 f286:=Tryz.func293.trans (congrArg some (by kernel_rfl))
 f287:=Tryz.func280.trans (congrArg some (by kernel_rfl))
 f316:=Tryz.func281.trans (congrArg some (by kernel_rfl))
 f317:=Tryz.func295.trans (congrArg some (by kernel_rfl))
 f318:=Tryz.func296.trans (congrArg some (by kernel_rfl))
 f319:=Tryz.func297.trans (congrArg some (by kernel_rfl))
 f320:=Tryz.func298.trans (congrArg some (by kernel_rfl))
 f321:=Tryz.func288.trans (congrArg some (by kernel_rfl))
 f322:=Tryz.func289.trans (congrArg some (by kernel_rfl))
 f337:=Tryz.func299.trans (congrArg some (by kernel_rfl))
 f338:=Tryz.func300.trans (congrArg some (by kernel_rfl))
 t0:=Tryz.underlying0
 a0:=Tryz.isAgg0
 z0:=Tryz.sizeOf0
 v0:=Tryz.zeroValue0
 t2:=Tryz.underlying2
 a2:=Tryz.isAgg2
 z2:=Tryz.sizeOf2
 v2:=Tryz.zeroValue2
 t3:=Tryz.underlying3
 a3:=Tryz.isAgg3
 z3:=Tryz.sizeOf3
 v3:=Tryz.zeroValue3
 t4:=Tryz.underlying4
 a4:=Tryz.isAgg4
 z4:=Tryz.sizeOf4
 v4:=Tryz.zeroValue4
 t5:=Tryz.underlying5
 a5:=Tryz.isAgg5
 z5:=Tryz.sizeOf5
 v5:=Tryz.zeroValue5
 t9:=Tryz.underlying9
 a9:=Tryz.isAgg9
 z9:=Tryz.sizeOf9
 v9:=Tryz.zeroValue9
 t20:=Tryz.underlying20
 a20:=Tryz.isAgg20
 z20:=Tryz.sizeOf20
 v20:=Tryz.zeroValue20
 t21:=Tryz.underlying21
 a21:=Tryz.isAgg21
 z21:=Tryz.sizeOf21
 v21:=Tryz.zeroValue21
 t37:=Tryz.underlying140
 a37:=Tryz.isAgg140
 z37:=Tryz.sizeOf140
 v37:=Tryz.zeroValue140
 t46:=Tryz.underlying207
 a46:=Tryz.isAgg207
 z46:=Tryz.sizeOf207
 v46:=Tryz.zeroValue207
 t51:=Tryz.underlying229
 a51:=Tryz.isAgg229
 z51:=Tryz.sizeOf229
 v51:=Tryz.zeroValue229
 t53:=Tryz.underlying231
 a53:=Tryz.isAgg231
 z53:=Tryz.sizeOf231
 v53:=Tryz.zeroValue231
 t75:=Tryz.underlying217
 a75:=Tryz.isAgg217
 z75:=Tryz.sizeOf217
 v75:=Tryz.zeroValue217
 t76:=Tryz.underlying218
 a76:=Tryz.isAgg218
 z76:=Tryz.sizeOf218
 v76:=Tryz.zeroValue218
 t85:=Tryz.underlying242
 a85:=Tryz.isAgg242
 z85:=Tryz.sizeOf242
 v85:=Tryz.zeroValue242
 t127:=Tryz.underlying266
 a127:=Tryz.isAgg266
 z127:=Tryz.sizeOf266
 v127:=Tryz.zeroValue266
 t143:=Tryz.underlying267
 a143:=Tryz.isAgg267
 z143:=Tryz.sizeOf267
 v143:=Tryz.zeroValue267
 t145:=Tryz.underlying269
 a145:=Tryz.isAgg269
 z145:=Tryz.sizeOf269
 v145:=Tryz.zeroValue269
 t167:=Tryz.underlying241
 a167:=Tryz.isAgg241
 z167:=Tryz.sizeOf241
 v167:=Tryz.zeroValue241
 t168:=Tryz.underlying244
 a168:=Tryz.isAgg244
 z168:=Tryz.sizeOf244
 v168:=Tryz.zeroValue244
 t171:=Tryz.underlying270
 a171:=Tryz.isAgg270
 z171:=Tryz.sizeOf270
 v171:=Tryz.zeroValue270
 t173:=Tryz.underlying272
 a173:=Tryz.isAgg272
 z173:=Tryz.sizeOf272
 v173:=Tryz.zeroValue272
 t175:=Tryz.underlying256
 a175:=Tryz.isAgg256
 z175:=Tryz.sizeOf256
 v175:=Tryz.zeroValue256
 t210:=Tryz.underlying260
 a210:=Tryz.isAgg260
 z210:=Tryz.sizeOf260
 v210:=Tryz.zeroValue260
 t212:=Tryz.underlying277
 a212:=Tryz.isAgg277
 z212:=Tryz.sizeOf277
 v212:=Tryz.zeroValue277
 t213:=Tryz.underlying278
 a213:=Tryz.isAgg278
 z213:=Tryz.sizeOf278
 t232:=Tryz.underlying279
 a232:=Tryz.isAgg279
 z232:=Tryz.sizeOf279
 v232:=Tryz.zeroValue279
 t233:=Tryz.underlying280
 a233:=Tryz.isAgg280
 z233:=Tryz.sizeOf280
 v233:=Tryz.zeroValue280
 g15:=by kernel_rfl
 g16:=by kernel_rfl
 g17:=by kernel_rfl
 g18:=by kernel_rfl
 g19:=by kernel_rfl
 t80:=Tryz.underlying281
 a80:=Tryz.isAgg281
 z80:=Tryz.sizeOf281
 v80:=Tryz.zeroValue281
 i0:=by kernel_rfl
 i2:=by kernel_rfl
 i3:=by kernel_rfl
 i4:=by kernel_rfl
 i5:=by kernel_rfl
 i9:=by kernel_rfl
 i20:=by kernel_rfl
 i21:=by kernel_rfl
 i37:=by kernel_rfl
 i46:=by kernel_rfl
 i51:=by kernel_rfl
 i53:=by kernel_rfl
 i75:=by kernel_rfl
 i76:=by kernel_rfl
 i80:=by kernel_rfl
 i85:=by kernel_rfl
 i127:=by kernel_rfl
 i143:=by kernel_rfl
 i145:=by kernel_rfl
 i167:=by kernel_rfl
 i168:=by kernel_rfl
 i171:=by kernel_rfl
 i173:=by kernel_rfl
 i175:=by kernel_rfl
 i210:=by kernel_rfl
 i212:=by kernel_rfl
 i232:=by kernel_rfl
 i233:=by kernel_rfl
 m15:=by kernel_rfl
 m16:=by kernel_rfl
 m17:=by kernel_rfl
 m18:=by kernel_rfl
 m19:=by kernel_rfl
 c0:=by kernel_rfl
 c2:=by kernel_rfl
 c3:=by kernel_rfl
 c4:=by kernel_rfl
 c5:=by kernel_rfl
 c9:=by kernel_rfl
 c20:=by kernel_rfl
 c21:=by kernel_rfl
 c37:=by kernel_rfl
 c46:=by kernel_rfl
 c51:=by kernel_rfl
 c53:=by kernel_rfl
 c75:=by kernel_rfl
 c76:=by kernel_rfl
 c80:=by kernel_rfl
 c85:=by kernel_rfl
 c127:=by kernel_rfl
 c143:=by kernel_rfl
 c145:=by kernel_rfl
 c167:=by kernel_rfl
 c168:=by kernel_rfl
 c171:=by kernel_rfl
 c173:=by kernel_rfl
 c175:=by kernel_rfl
 c210:=by kernel_rfl
 c212:=by kernel_rfl
 c213:=by kernel_rfl
 c232:=by kernel_rfl
 c233:=by kernel_rfl }
open Go.RowKit in
theorem Tryz.strconv_Atoi_err_var (s : ByteArray) (hl : s.size ≤ 18) (h : Lib.atoi s.data.toList = none) (tp : TypeId) (p : Value) (w : World) (hvar : w.var? Tryz.prog "strconv.ErrSyntax" = some #[.iface tp p]) :
  Calls Tryz.prog 236 #[.string s] w fun e w'=>∃N,e=.returned (.tuple #[.int .i64 0,.iface 244 (.pointer (some ⟨N,0,none⟩))])∧w.heap.size≤N∧w'.heap[N]?=some (.cells #[.string ⟨#[65,116,111,105]⟩,.string s,.iface tp p] 260 (0,0))∧Below w.heap.size w w':=Any.strconv_Atoi_err_var Tryz.laysC172 s hl h tp p w hvar
def Tryz.lays191_ren:Go.Shelf.Ren:=⟨fun | 191=>139 | 189=>183 | 125=>217 | 257=>216 | 128=>247 | 129=>248 | 294=>238 | 295=>239 | 296=>240 | 297=>241 | 298=>242 | 299=>243 | 216=>244 | 300=>245 | 301=>246 | 328=>257 | 329=>258 | 330=>259 | 331=>260 | 332=>261 | 215=>262 | 343=>270 | n=>n,fun | 28=>101 | 0=>0 | 3=>3 | 46=>207 | 51=>229 | 53=>231 | 4=>4 | 183=>222 | 182=>221 | 131=>203 | 5=>5 | 9=>9 | 218=>233 | 222=>237 | 228=>247 | 229=>248 | n=>n,fun | n=>n⟩
theorem Tryz.lays191:Go.Proofs.Lays.n191 Tryz.prog Tryz.lays191_ren:={
 mixed:=by kernel_rfl
 f125:=Tryz.func217.trans (congrArg some (by kernel_rfl))
 f128:=Tryz.func247.trans (congrArg some (by kernel_rfl))
 f129:=Tryz.func248.trans (congrArg some (by kernel_rfl))
 f189:=Tryz.func183.trans (congrArg some (by kernel_rfl))
 f191:=Tryz.func139.trans (congrArg some (by kernel_rfl))
 f215:=Tryz.func262.trans (congrArg some (by kernel_rfl))
 f216:=Tryz.func244.trans (congrArg some (by kernel_rfl))
 f257:=Tryz.func216.trans (congrArg some (by kernel_rfl))
 f294:=Tryz.func238.trans (congrArg some (by kernel_rfl))
 f295:=Tryz.func239.trans (congrArg some (by kernel_rfl))
 f296:=Tryz.func240.trans (congrArg some (by kernel_rfl))
 f297:=Tryz.func241.trans (congrArg some (by kernel_rfl))
 f298:=Tryz.func242.trans (congrArg some (by kernel_rfl))
 f299:=Tryz.func243.trans (congrArg some (by kernel_rfl))
 f300:=Tryz.func245.trans (congrArg some (by kernel_rfl))
 f301:=Tryz.func246.trans (congrArg some (by kernel_rfl))
 f328:=Tryz.func257.trans (congrArg some (by kernel_rfl))
 f329:=Tryz.func258.trans (congrArg some (by kernel_rfl))
 f330:=Tryz.func259.trans (congrArg some (by kernel_rfl))
 f331:=Tryz.func260.trans (congrArg some (by kernel_rfl))
 f332:=Tryz.func261.trans (congrArg some (by kernel_rfl))
 f343:=Tryz.func270.trans (congrArg some (by kernel_rfl))
 t0:=Tryz.underlying0
 a0:=Tryz.isAgg0
 z0:=Tryz.sizeOf0
 v0:=Tryz.zeroValue0
 t3:=Tryz.underlying3
 a3:=Tryz.isAgg3
 z3:=Tryz.sizeOf3
 v3:=Tryz.zeroValue3
 t4:=Tryz.underlying4
 a4:=Tryz.isAgg4
 z4:=Tryz.sizeOf4
 v4:=Tryz.zeroValue4
 t5:=Tryz.underlying5
 a5:=Tryz.isAgg5
 z5:=Tryz.sizeOf5
 v5:=Tryz.zeroValue5
 t9:=Tryz.underlying9
 a9:=Tryz.isAgg9
 z9:=Tryz.sizeOf9
 v9:=Tryz.zeroValue9
 t28:=Tryz.underlying101
 a28:=Tryz.isAgg101
 z28:=Tryz.sizeOf101
 v28:=Tryz.zeroValue101
 t46:=Tryz.underlying207
 a46:=Tryz.isAgg207
 z46:=Tryz.sizeOf207
 v46:=Tryz.zeroValue207
 t51:=Tryz.underlying229
 a51:=Tryz.isAgg229
 z51:=Tryz.sizeOf229
 v51:=Tryz.zeroValue229
 t53:=Tryz.underlying231
 a53:=Tryz.isAgg231
 z53:=Tryz.sizeOf231
 v53:=Tryz.zeroValue231
 t131:=Tryz.underlying203
 a131:=Tryz.isAgg203
 z131:=Tryz.sizeOf203
 v131:=Tryz.zeroValue203
 t182:=Tryz.underlying221
 a182:=Tryz.isAgg221
 z182:=Tryz.sizeOf221
 v182:=Tryz.zeroValue221
 t183:=Tryz.underlying222
 a183:=Tryz.isAgg222
 z183:=Tryz.sizeOf222
 v183:=Tryz.zeroValue222
 t218:=Tryz.underlying233
 a218:=Tryz.isAgg233
 z218:=Tryz.sizeOf233
 v218:=Tryz.zeroValue233
 t222:=Tryz.underlying237
 a222:=Tryz.isAgg237
 z222:=Tryz.sizeOf237
 v222:=Tryz.zeroValue237
 t228:=Tryz.underlying247
 a228:=Tryz.isAgg247
 z228:=Tryz.sizeOf247
 v228:=Tryz.zeroValue247
 t229:=Tryz.underlying248
 a229:=Tryz.isAgg248
 z229:=Tryz.sizeOf248
 v229:=Tryz.zeroValue248 }
open Go.Sort Go.RowKit in
theorem Tryz.sort_Ints (blk off cap:Nat) (zs:List Int) (w:World) (hH:Holds (Value.int .i64) w blk off zs.toArray) (hblk:blk<w.heap.size) (hsz:zs.length<4611686018427387904):
  Calls Tryz.prog 139 #[.slice (some ⟨blk,off,none⟩) zs.length cap] w fun e w'=>
   e=.returned (.tuple #[])∧∃n os,w'=grow (putRow (Value.int .i64) (Sort.ahead w n) blk off (zs.mergeSort fun x y=>decide (x≤y)).toArray) os:=Any.sort_Ints Tryz.lays191 blk off cap zs w hH hblk hsz
def Tryz.lays192_ren:Go.Shelf.Ren:=⟨fun | 192=>234 | 190=>252 | 125=>217 | 258=>263 | 128=>247 | 129=>248 | 302=>271 | 303=>272 | 304=>273 | 305=>274 | 306=>275 | 307=>276 | 308=>277 | 309=>278 | 310=>279 | 333=>284 | 329=>258 | 330=>259 | 334=>285 | 335=>286 | 336=>287 | 344=>294 | n=>n,fun | 31=>44 | 0=>0 | 9=>9 | 3=>3 | 46=>207 | 51=>229 | 53=>231 | 4=>4 | 183=>222 | 182=>221 | 131=>203 | 5=>5 | 218=>233 | 222=>237 | 228=>247 | 229=>248 | n=>n,fun | n=>n⟩
theorem Tryz.lays192:Go.Proofs.Lays.n192 Tryz.prog Tryz.lays192_ren:={
 mixed:=by kernel_rfl
 f125:=Tryz.func217.trans (congrArg some (by kernel_rfl))
 f128:=Tryz.func247.trans (congrArg some (by kernel_rfl))
 f129:=Tryz.func248.trans (congrArg some (by kernel_rfl))
 f190:=Tryz.func252.trans (congrArg some (by kernel_rfl))
 f192:=Tryz.func234.trans (congrArg some (by kernel_rfl))
 f258:=Tryz.func263.trans (congrArg some (by kernel_rfl))
 f302:=Tryz.func271.trans (congrArg some (by kernel_rfl))
 f303:=Tryz.func272.trans (congrArg some (by kernel_rfl))
 f304:=Tryz.func273.trans (congrArg some (by kernel_rfl))
 f305:=Tryz.func274.trans (congrArg some (by kernel_rfl))
 f306:=Tryz.func275.trans (congrArg some (by kernel_rfl))
 f307:=Tryz.func276.trans (congrArg some (by kernel_rfl))
 f308:=Tryz.func277.trans (congrArg some (by kernel_rfl))
 f309:=Tryz.func278.trans (congrArg some (by kernel_rfl))
 f310:=Tryz.func279.trans (congrArg some (by kernel_rfl))
 f329:=Tryz.func258.trans (congrArg some (by kernel_rfl))
 f330:=Tryz.func259.trans (congrArg some (by kernel_rfl))
 f333:=Tryz.func284.trans (congrArg some (by kernel_rfl))
 f334:=Tryz.func285.trans (congrArg some (by kernel_rfl))
 f335:=Tryz.func286.trans (congrArg some (by kernel_rfl))
 f336:=Tryz.func287.trans (congrArg some (by kernel_rfl))
 f344:=Tryz.func294.trans (congrArg some (by kernel_rfl))
 t0:=Tryz.underlying0
 a0:=Tryz.isAgg0
 z0:=Tryz.sizeOf0
 v0:=Tryz.zeroValue0
 t3:=Tryz.underlying3
 a3:=Tryz.isAgg3
 z3:=Tryz.sizeOf3
 v3:=Tryz.zeroValue3
 t4:=Tryz.underlying4
 a4:=Tryz.isAgg4
 z4:=Tryz.sizeOf4
 v4:=Tryz.zeroValue4
 t5:=Tryz.underlying5
 a5:=Tryz.isAgg5
 z5:=Tryz.sizeOf5
 v5:=Tryz.zeroValue5
 t9:=Tryz.underlying9
 a9:=Tryz.isAgg9
 z9:=Tryz.sizeOf9
 v9:=Tryz.zeroValue9
 t31:=Tryz.underlying44
 a31:=Tryz.isAgg44
 z31:=Tryz.sizeOf44
 v31:=Tryz.zeroValue44
 t46:=Tryz.underlying207
 a46:=Tryz.isAgg207
 z46:=Tryz.sizeOf207
 v46:=Tryz.zeroValue207
 t51:=Tryz.underlying229
 a51:=Tryz.isAgg229
 z51:=Tryz.sizeOf229
 v51:=Tryz.zeroValue229
 t53:=Tryz.underlying231
 a53:=Tryz.isAgg231
 z53:=Tryz.sizeOf231
 v53:=Tryz.zeroValue231
 t131:=Tryz.underlying203
 a131:=Tryz.isAgg203
 z131:=Tryz.sizeOf203
 v131:=Tryz.zeroValue203
 t182:=Tryz.underlying221
 a182:=Tryz.isAgg221
 z182:=Tryz.sizeOf221
 v182:=Tryz.zeroValue221
 t183:=Tryz.underlying222
 a183:=Tryz.isAgg222
 z183:=Tryz.sizeOf222
 v183:=Tryz.zeroValue222
 t218:=Tryz.underlying233
 a218:=Tryz.isAgg233
 z218:=Tryz.sizeOf233
 v218:=Tryz.zeroValue233
 t222:=Tryz.underlying237
 a222:=Tryz.isAgg237
 z222:=Tryz.sizeOf237
 v222:=Tryz.zeroValue237
 t228:=Tryz.underlying247
 a228:=Tryz.isAgg247
 z228:=Tryz.sizeOf247
 v228:=Tryz.zeroValue247
 t229:=Tryz.underlying248
 a229:=Tryz.isAgg248
 z229:=Tryz.sizeOf248
 v229:=Tryz.zeroValue248 }
open Go.Sort Go.RowKit in
theorem Tryz.sort_Strings (blk off cap:Nat) (ss:List (List UInt8)) (w:World) (hH:Holds encStr w blk off ss.toArray) (hblk:blk<w.heap.size) (hsz:ss.length<4611686018427387904):
  Calls Tryz.prog 234 #[.slice (some ⟨blk,off,none⟩) ss.length cap] w fun e w'=>
   e=.returned (.tuple #[])∧∃n os,w'=grow (putRow encStr (Sort.ahead w n) blk off (ss.mergeSort fun x y=>decide (x≤y)).toArray) os:=Any.sort_Strings Tryz.lays192 blk off cap ss w hH hblk hsz
open Go.RowKit Go.Sort in
theorem Tryz.sort_Strings_none (p:Option Addr) (cap:Nat) (w:World):
  Calls Tryz.prog 234 #[.slice p 0 cap] w fun e w'=>e=.returned (.tuple #[])∧w'=w:=Any.sort_Strings_none Tryz.lays192 p cap w
open Go.RowKit Go.Sort in
theorem Tryz.sort_Ints_none (p:Option Addr) (cap:Nat) (w:World):
  Calls Tryz.prog 139 #[.slice p 0 cap] w fun e w'=>e=.returned (.tuple #[])∧w'=w:=Any.sort_Ints_none Tryz.lays191 p cap w
end Go.Proofs
namespace Go.Proofs.YtojnhepgnbhaaaaGreatDoor
open Go.RowKit Go.Sort
theorem ZmP {α:Type} [Inhabited α] {P:Program} {J:World→Prop} {JF:Nat→Prop} (enc:α→Value) (el:α→List CT) (hel:∀(w:World) x v L,RCs w (el x) v L→v=[enc x]) (hmv:∀(w w':World) x,RCs w (el x) [enc x] []→RCs w' (el x) [enc x] []) (hflat:∀l:List α,Zaz (l.map el)=true) {f:FuncId} {e:TypeId} {zs d:List α} (hc:Zej P f) (hd:d.length=zs.length) (hsub:∀x∈d,x∈zs)
  (hN:∀p cap w,Calls P f #[.slice p 0 cap] w fun e w'=>e=.returned (.tuple #[])∧w'=w)
  (hC:∀blk off cap w,Holds enc w blk off zs.toArray→blk<w.heap.size→Calls P f #[.slice (some ⟨blk,off,none⟩) zs.length cap] w fun e w'=>e=.returned (.tuple #[])∧∃n os,w'=grow (putRow enc (Sort.ahead w n) blk off d.toArray) os):
  ZiM P J JF f (.row e 1 (zs.map el)) [] [] (.row e 1 (d.map el)):=by
 refine ⟨hc,fun w z q v0 vs hj hqf hz hh ha=>?_⟩
 cases vs with
 | cons _ _=>exact ha.elim
 | nil=>
 obtain ⟨hfl,hm,hq,cs,hown,hre⟩:=hh
 have hcs:∀(l:List α) (cs:List Value) (L:List Nat),REs w 1 (l.map el) cs L→cs=l.map enc∧(L=[]→∀x∈l,RCs w (el x) [enc x] []):=by
  intro l
  induction l with
  | nil=>intro cs L h;exact ⟨h.1,fun _ x mx=>by simp at mx⟩
  | cons x l ih=>
   rintro cs L ⟨c1,c2,L1,L2,rfl,rfl,h3,h4⟩
   obtain ⟨i1,i2⟩:=ih _ _ h4
   have e1:=hel _ _ _ _ h3.1
   refine ⟨by rw [e1,i1];rfl,fun hL y my=>?_⟩
   obtain ⟨l1,l2⟩:=List.append_eq_nil_iff.1 hL
   rcases List.mem_cons.1 my with rfl | my
   ·rw [←e1,←l1];exact h3.1
   ·exact i2 l2 y my
 obtain ⟨e1,e2⟩:=hcs zs cs [] hre
 have e2:=e2 rfl
 subst e1
 have hre':∀(w':World) (l:List α),(∀x∈l,x∈zs)→REs w' 1 (l.map el) (l.map enc) []:=by
  intro w' l
  induction l with
  | nil=>intro _;exact ⟨rfl,rfl⟩
  | cons x l ih=>intro hl;exact ⟨[enc x],l.map enc,[],[],rfl,rfl,⟨hmv w w' x (e2 x (hl x (by simp))),rfl⟩,ih fun y my=>hl y (by simp [my])⟩
 have hzl:(zs.map el).length=zs.length:=by simp
 rw [hzl] at hown
 have done:∀w':World,w'.os=w.os→w'.tape=w.tape→w'.output=w.output→w.heap.size≤w'.heap.size→(∀k,k<w.heap.size→¬q=some k→w'.heap[k]?=w.heap[k]?)→w'.ownsV 0 e 1 v0 d.length (d.map enc)→∃v n,Ending.returned (.tuple #[])=.returned v∧Zma w' w.heap.size n [] v∧(∀b,inQ z q b→n b)∧ZqG w' n q (.row e 1 (d.map el)) v0∧ZyD q w w':=
  fun w' h1 h2 h3 h4 h5 h6=>⟨_,inQ z q,rfl,⟨[],[],⟨rfl,rfl⟩,Own.nil _ _,rfl⟩,fun _ h=>h,⟨hflat d,by omega,hq,d.map enc,by simpa using h6,hre' w' d hsub⟩,⟨h1,h2,h3,h4,h5⟩⟩
 rcases Nat.eq_zero_or_pos zs.length with h0 | h0
 ·have hz0:zs=[]:=List.eq_nil_of_length_eq_zero h0
  have hd0:d=[]:=List.eq_nil_of_length_eq_zero (hd.trans h0)
  obtain ⟨A,cap,hv⟩:=Zct hown
  rw [h0] at hv
  subst hv
  refine (hN A cap w).mono ?_
  rintro e' w' ⟨rfl,rfl⟩
  exact done w' rfl rfl rfl (Nat.le_refl _) (fun _ _ _=>rfl) (by rw [hd0];rw [hz0] at hown;exact hown)
 ·rcases hown.2 with ⟨h',hl0⟩ | ⟨g,o,cap,cur,h',hb,hg,hnc,hcm,hcsz,htake⟩
  ·omega
  ·subst h'
   have hlt:g<w.heap.size:=(Array.getElem?_eq_some_iff.1 hg).1
   have hcur:∀j,j<zs.length→cur[o+j]?=some (enc zs[j]!):=fun j hj=>by
    have:=congrArg (fun l=>l[j]?) htake
    simp only [Nat.mul_one,List.getElem?_take,hj,if_true,List.getElem?_drop,Array.getElem?_toList,List.getElem?_map] at this
    rw [this]
    simp [List.getElem!_eq_getElem?_getD,hj]
   refine (hC g o cap w (fun j hj=>?_) hlt).mono ?_
   ·have hj':j<zs.length:=by simpa using hj
    refine ⟨?_,by simp [World.frozen?,hg]⟩
    simp only [World.cell?,hg,Option.isSome_none,Bool.false_eq_true,if_false]
    rw [hcur j hj']
    simp [hj']
   ·rintro e' w' ⟨rfl,n,os,rfl⟩
    have hh:(putRow enc (Sort.ahead w n) g o d.toArray).heap[g]?=some (.cells (putCells enc o d.toArray cur) e (0,0)):=by
     simp only [putRow,mapBlock,heap_ahead,Array.getElem?_modify,if_true,hg,Option.map_some,onCells]
    refine done _ rfl rfl rfl (by simp) (fun k hk hqk=>?_) ⟨by simp,.inr ⟨g,o,cap,putCells enc o d.toArray cur,by rw [hd],by omega,?_,by omega,hcm,by simpa [putCells] using hcsz,?_⟩⟩
    ·rw [heap_grow_old _ _ (by simpa using hk)]
     simp only [putRow,mapBlock,heap_ahead,Array.getElem?_modify]
     rw [if_neg (fun e=>hqk (by rw [←hq];simp [Value.ownBlock,e]))]
    ·rw [heap_grow_old _ _ (by simpa using hlt)];exact hh
    ·apply List.ext_getElem?
     intro j
     simp only [Nat.mul_one,List.getElem?_take,List.getElem?_drop,List.getElem?_map,Array.getElem?_toList,putCells,Array.getElem?_mapIdx,List.size_toArray]
     by_cases hj:j<d.length
     ·have hjc:o+j<cur.size:=by omega
      simp [hj,hjc]
     ·simp [hj]
end Go.Proofs.YtojnhepgnbhaaaaGreatDoor
namespace Go.Proofs.YtojnhepgnbhaaaaGreatDoor
open Go.RowKit Go.Sort
theorem ZpI {J:World→Prop} {JF:Nat→Prop} {l r:List Int} (h:ZeM l=some r):ZiM Tryz.prog J JF 139 (.row 3 1 (l.map Qv)) [] [] (.row 3 1 (r.map Qv)):=by
 obtain ⟨h1,h2⟩:=Zx h
 obtain rfl:=Option.some.inj h2
 refine ZmP (Value.int .i64) Qv (fun w x v L h=>?_) (fun w w' x h=>h) ZmS ⟨Tryz.f139,Tryz.func139,by kernel_rfl,by kernel_rfl⟩ (by simp [Zi5]) (fun x hx=>by simpa [Zi5] using hx) (fun p cap w=>Tryz.sort_Ints_none p cap w) (fun blk off cap w hH hb=>Tryz.sort_Ints blk off cap l w hH hb (by omega))
 obtain ⟨u,vs,L1,L2,rfl,rfl,q1,rfl,rfl⟩:=h
 rw [q1.1]
end Go.Proofs.YtojnhepgnbhaaaaGreatDoor
namespace Go.Proofs.YtojnhepgnbhaaaaGreatDoor
open Go.RowKit
theorem ZrC {J:World→Prop} {a b:ByteArray} {r:Int} (h:Zeg a b=some r):Zn Tryz.prog J 210 [(false,[.str a]),(false,[.str b])] [(false,[(false,.int .i64 r)])]:=by
 obtain rfl:=Option.some.inj h
 refine ⟨⟨Tryz.f210,Tryz.func210,by kernel_rfl,by kernel_rfl⟩,fun w z vs hj hz hargs=>?_⟩
 obtain ⟨v,u,L,M,rfl,⟨rfl,_⟩,rfl,_⟩:=Zs1 hargs
 refine (Tryz.strings_Compare a b w).mono ?_
 rintro e w' ⟨rfl,rfl⟩
 exact ⟨_,z,rfl,ZnY ⟨⟨rfl,rfl⟩,rfl⟩,fun b h=>h,Below.refl _ _⟩
end Go.Proofs.YtojnhepgnbhaaaaGreatDoor
namespace Go.Proofs.YtojnhepgnbhaaaaGreatDoor
open Go.RowKit Go.Sort
theorem Zlz {J:World→Prop} {JF:Nat→Prop} {l r:List ByteArray} (h:ZbI l=some r):ZiM Tryz.prog J JF 234 (.row 9 1 (l.map Zu)) [] [] (.row 9 1 (r.map Zu)):=by
 obtain ⟨h1,h2⟩:=Zx h
 obtain rfl:=Option.some.inj h2
 have e1:l.map Zu=(l.map toL).map fun x=>Zu (ofL x):=by rw [List.map_map];exact List.map_congr_left fun x _=>by simp [Zid]
 have e2:(Zes l).map Zu=((l.map toL).mergeSort fun x y=>decide (x≤y)).map fun x=>Zu (ofL x):=by simp [Zes,List.map_map,Function.comp_def]
 rw [e1,e2]
 refine ZmP encStr (fun x=>Zu (ofL x)) (fun w x v L h=>?_) (fun w w' x h=>h) (fun l=>ZbB (fun _=>rfl) l) ⟨Tryz.f234,Tryz.func234,by kernel_rfl,by kernel_rfl⟩ (by simp) (fun x hx=>by simpa using hx) (fun p cap w=>Tryz.sort_Strings_none p cap w) (fun blk off cap w hH hb=>Tryz.sort_Strings blk off cap (l.map toL) w hH hb (by simp;omega))
 obtain ⟨u,vs,L1,L2,rfl,rfl,q1,rfl,rfl⟩:=h
 rw [q1.1]
 rfl
end Go.Proofs.YtojnhepgnbhaaaaGreatDoor
namespace Go.Proofs.YtojnhepgnbhaaaaGreatDoor
open Go.RowKit
theorem Zv6 {J : World → Prop} (hJ : ∀ w, J w → ∃ tp p, w.var? Tryz.prog "strconv.ErrSyntax" = some #[.iface tp p]) {s : ByteArray} {r : Int × Bool} (h : ZkL s = some r) : Zn Tryz.prog J 236 [(false, [.str s])] [(false, [(false, .int .i64 r.1)]), (false, [(false, .ifc r.2)])] := by
 obtain ⟨h1,h2⟩:=Zx h
 refine ⟨⟨Tryz.f236,Tryz.func236,by kernel_rfl,by kernel_rfl⟩,fun w z vs hj hz hargs=>?_⟩
 obtain ⟨v,L,rfl,rfl,_⟩:=Zk3 hargs
 cases ha:Lib.atoi (toL s) with
 | some n=>
  rw [ha] at h2
  obtain rfl:=Option.some.inj h2
  refine (Tryz.strconv_Atoi s n h1 ha w).mono ?_
  rintro e w' ⟨rfl,t,rfl⟩
  exact ⟨_,z,rfl,Zps ⟨⟨rfl,rfl⟩,rfl⟩ ⟨⟨rfl,rfl,rfl⟩,rfl⟩,fun b h=>h,Lib.bytesWorld_below _ _ _⟩
 | none=>
  rw [ha] at h2
  obtain rfl:=Option.some.inj h2
  obtain ⟨tp,p,hv⟩:=hJ w hj
  refine (Tryz.strconv_Atoi_err_var s h1 ha tp p w hv).mono ?_
  rintro e w' ⟨N,rfl,_,_,hb⟩
  exact ⟨_,z,rfl,Zps ⟨⟨rfl,rfl⟩,rfl⟩ ⟨⟨rfl,rfl,_,_,rfl⟩,rfl⟩,fun b h=>h,hb⟩
end Go.Proofs.YtojnhepgnbhaaaaGreatDoor
namespace Go.Proofs.YtojnhepgnbhaaaaGreatDoor
open Go.RowKit Go.Sort Go.Lib
theorem Zw4 {J : World → Prop} (hJ : ∀ w, J w → Lib.TabIs Tryz.prog w "internal/strconv.uint64pow10" .u64 Lib.pow10Tab) {n : Int} {r : ByteArray} (h : Zm7 n = some r) : Zn Tryz.prog J 256 [(false, [.int .i64 n])] [(false, [(false, .str r)])] := by
 obtain ⟨h1,h2⟩:=Zx h
 obtain rfl:=Option.some.inj h2
 refine ⟨⟨Tryz.f256,Tryz.func256,by kernel_rfl,by kernel_rfl⟩,fun w z vs hj hz hargs=>?_⟩
 obtain ⟨v,L,rfl,rfl,_⟩:=Zk3 hargs
 refine (Tryz.strconv_Itoa n h1.1 h1.2 w (hJ w hj)).mono ?_
 rintro e w' ⟨rfl,k,os,rfl⟩
 refine ⟨_,z,rfl,ZnY ⟨⟨rfl,rfl,?_⟩,rfl⟩,fun b h=>h,below_grow _ _ (Nat.le_refl _) _ _⟩
 have:=Lib.itoa_length_le n h1.1 h1.2
 show (Lib.itoa n).toArray.size≤_
 rw [List.size_toArray]
 omega
end Go.Proofs.YtojnhepgnbhaaaaGreatDoor
namespace Go.Proofs.YtojnhepgnbhaaaaGreatDoor
theorem Zl1 {l r:List Int} (h:ZeM l=some r):ZiM Tryz.prog J0 JF0 139 (.row 3 1 (l.map Qv)) [] [] (.row 3 1 (r.map Qv)):=ZpI h
theorem Zh6 {a b:ByteArray} {r:Int} (h:Zeg a b=some r):Zn Tryz.prog J0 210 [(false,[.str a]),(false,[.str b])] [(false,[(false,.int .i64 r)])]:=ZrC h
theorem ZiP {l r:List ByteArray} (h:ZbI l=some r):ZiM Tryz.prog J0 JF0 234 (.row 9 1 (l.map Zu)) [] [] (.row 9 1 (r.map Zu)):=Zlz h
theorem Zrz {s:ByteArray} {r:Int × Bool} (h:ZkL s=some r):Zn Tryz.prog J0 236 [(false,[.str s])] [(false,[(false,.int .i64 r.1)]),(false,[(false,.ifc r.2)])]:=Zv6 ZwG h
theorem ZrM {n:Int} {r:ByteArray} (h:Zm7 n=some r):Zn Tryz.prog J0 256 [(false,[.int .i64 n])] [(false,[(false,.str r)])]:=Zw4 Zu5 h
end Go.Proofs.YtojnhepgnbhaaaaGreatDoor
namespace Go.Proofs.YtojnhepgnbhaaaaGreatDoor
open Go.Proofs.Tryz
set_option linter.unusedSimpArgs false
set_option linter.unusedVariables false
set_option maxRecDepth 1000000
set_option maxHeartbeats 4000000
theorem Ziz {a_0:(List ByteArray)} {b_1:(List ByteArray)} {r:Bool} (h:ZdU a_0 b_1=some r):Zn Tryz.prog J0 158 [(false,[.sl 9 1 (List.map Zu a_0)]),(false,[.sl 9 1 (List.map Zu b_1)])] [(false,[(false,.bool r)])]:=by
 refine fnk Tryz.func158 (by kernel_rfl) rfl (by kernel_rfl) (by kernel_rfl) ?_
 unfold ZdU at h
 simp only [fnS,f158,Zo,go_sem,seval]
 refine Ze h (fun _ h=>?_) fun _ h=>?_<;>try simp only [*,go_sem,seval]
 cases h
 try simp only [*,go_sem,seval]
 refine Zg h (fun i _ st=>IV [(0,.p false [.c (.sl 9 1 (List.map Zu a_0))]),(1,.p false [.c (.sl 9 1 (List.map Zu b_1))]),(5,.p false [.c (.int .i64 ((i:Nat):Int))])] [] st) [] [] (by decide) ?_ ?_ ?_
 simp only [*,go_sem,seval]
 rintro m o ⟨⟩ ⟨sl,ob,n⟩ q a b e h f
 simp only [go_sem,seval,Zd] at b
 obtain ⟨⟨g,t,u⟩,hn⟩:=b
 subst hn
 have k:=WF.slotL e g (j:=0) rfl
 have v:=ZF a
 have w:=ZJ a
 have x:=Zi (ZE a) k
 obtain ⟨y,z,A,l,h⟩:=Zgn h
 simp only [Int.toNat_natCast] at l
 try simp only [*,go_sem,seval]
 refine Ze h (fun _ h=>?_) fun _ h=>?_<;>try simp only [*,go_sem,seval]
 refine ⟨_,[],[],(Option.some.inj h).symm,by decide,?_⟩
 try simp only [*,go_sem,seval]
 replace h:=Zs h f
 cases h
 try simp only [*,go_sem,seval]
 rintro ⟨⟩ ⟨sl,ob,n⟩ d B h
 simp only [go_sem,seval,Zd] at d
 obtain ⟨⟨C,D,E⟩,hn⟩:=d
 subst hn
 have F:=ZC (a_0.length)
 cases h
 try simp only [*,go_sem,seval]
theorem ZnL {l_0:(List ByteArray)} {r:(List ByteArray)} (h:Zee l_0=some r):Zn Tryz.prog J0 144 [(false,[.sl 9 1 (List.map Zu l_0)])] [(false,[(false,.sl 9 1 (List.map Zu r))])]:=by
 refine fnk Tryz.func144 (by kernel_rfl) rfl (by kernel_rfl) (by kernel_rfl) ?_
 unfold Zee at h
 simp only [fnS,f144,Zo,go_sem,seval]
 obtain ⟨a,h⟩:=Zx h
 try simp only [Nat.reduceLeDiff] at a
 cases h
 try simp only [*,go_sem,seval]
theorem ZaS {x_0:Int} {least_1:Int} {most_2:Int} {r:Bool} (h:ZaU x_0 least_1 most_2=some r):Zn Tryz.prog J0 114 [(false,[.int .i64 x_0]),(false,[.int .i64 least_1]),(false,[.int .i64 most_2])] [(false,[(false,.bool r)])]:=by
 refine fnk Tryz.func114 (by kernel_rfl) rfl (by kernel_rfl) (by kernel_rfl) ?_
 unfold ZaU at h
 simp only [fnS,f114,Zo,go_sem,seval]
 refine Ze h (fun _ h=>?_) fun _ h=>?_<;>try simp only [*,go_sem,seval]
 iterate 2 (cases h;try simp only [*,go_sem,seval])
theorem Zf4 {b_0:(List Zl)} {r:(List Zl)} (h:ZbX b_0=some r):Zn Tryz.prog J0 151 [(false,[.sl 192 2 (List.map Z6 b_0)])] [(false,[(false,.sl 192 2 (List.map Z6 r))])]:=by
 refine fnk Tryz.func151 (by kernel_rfl) rfl (by kernel_rfl) (by kernel_rfl) ?_
 unfold ZbX at h
 simp only [fnS,f151,Zo,go_sem,seval]
 obtain ⟨a,h⟩:=Zx h
 try simp only [Nat.reduceLeDiff] at a
 cases h
 try simp only [*,go_sem,seval]
theorem Zqk {a:(List Zl)} {b:ByteArray} {d:ByteArray} {r:(List Zl)} (h:ZhY a b d=some r):Zn Tryz.prog J0 190 [(false,[.sl 192 2 (List.map Z6 a)]),(false,[.str b]),(false,[.str d])] [(false,[(false,.sl 192 2 (List.map Z6 r))])]:=by
 refine fnk Tryz.func190 (by kernel_rfl) rfl (by kernel_rfl) (by kernel_rfl) ?_
 unfold ZhY at h
 simp only [fnS,f190,Zo,go_sem,seval]
 refine Zg h (fun i s st=>match s with | (e,f)=>IV [(0,.p false [.c (.sl 192 2 (List.map Z6 a))]),(1,.p false [.c (.str b)]),(2,.p false [.c (.str d)]),(7,.p false [.row 0]),(8,.p false [.c (.bool f)]),(9,.p false [.c (.int .i64 ((i:Nat):Int))])] [.row 192 2 (List.map Z6 e) 2] st) [] [16] (by decide) ?_ ?_ ?_
 simp only [*,go_sem,seval]
 rintro C D ⟨e,f⟩ ⟨sl,ob,n⟩ E g o t h F
 simp only [go_sem,seval,Zd] at o
 obtain ⟨⟨u,G,H,I,J,K⟩,L,hn⟩:=o
 subst hn
 have v:=WF.slotL t u (j:=0) rfl
 have M:=ZF g
 have N:=ZJ g
 have O:=Zi (ZE g) v
 try simp only [*,go_sem,seval]
 refine Ze h (fun k h=>?_) (fun k h=>?_)<;>try simp only [*,go_sem,seval]
 obtain ⟨w,h⟩:=Zx h
 try simp only [Nat.reduceLeDiff] at w
 try simp only [*,go_sem,seval]
 refine ⟨_,[],[337],(Option.some.inj h).symm,by decide,?_⟩
 try simp only [*,go_sem,seval]
 refine Ze h (fun l h=>?_) (fun l h=>?_)
 have m:=l
 try simp only [k,Bool.false_or,Bool.or_false] at m
 obtain ⟨x,h⟩:=Zx h
 try simp only [Nat.reduceLeDiff] at x
 try simp only [*,go_sem,seval]
 refine ⟨_,[],[337],(Option.some.inj h).symm,by decide,?_⟩
 try simp only [*,go_sem,seval]
 have m:=l
 try simp only [k,Bool.false_or,Bool.or_false] at m
 obtain ⟨y,h⟩:=Zx h
 try simp only [Nat.reduceLeDiff] at y
 obtain ⟨z,h⟩:=Zx h
 try simp only [Nat.reduceLeDiff] at z
 try simp only [*,go_sem,seval]
 refine ⟨_,[],[465],(Option.some.inj h).symm,by decide,?_⟩
 try simp only [*,go_sem,seval]
 rintro ⟨e,f⟩ ⟨sl,ob,n⟩ q P h
 simp only [go_sem,seval,Zd] at q
 obtain ⟨⟨Q,R,S,T,U,V⟩,W,hn⟩:=q
 subst hn
 have X:=ZC (a.length)
 try simp only [*,go_sem,seval]
 refine Ze h (fun _ h=>?_) fun _ h=>?_<;>try simp only [*,go_sem,seval]
 cases h
 try simp only [*,go_sem,seval]
 obtain ⟨A,h⟩:=Zx h
 try simp only [Nat.reduceLeDiff] at A
 cases h
 try simp only [*,go_sem,seval]
theorem ZjZ {a_0:ByteArray} {b_1:ByteArray} {r:Int} (h:Zgh a_0 b_1=some r):Zn Tryz.prog J0 200 [(false,[.str a_0]),(false,[.str b_1])] [(false,[(false,.int .i64 r)])]:=by
 refine fnk Tryz.func200 (by kernel_rfl) rfl (by kernel_rfl) (by kernel_rfl) ?_
 unfold Zgh at h
 simp only [fnS,f200,Zo,go_sem,seval]
 refine Ze h (fun a h=>?_) (fun a h=>?_)<;>try simp only [*,go_sem,seval]
 cases h
 try simp only [*,go_sem,seval]
 refine Ze h (fun b h=>?_) (fun b h=>?_)
 have c:=b
 try simp only [a,Bool.false_or,Bool.or_false] at c
 cases h
 try simp only [*,go_sem,seval]
 have c:=b
 try simp only [a,Bool.false_or,Bool.or_false] at c
 cases h
 try simp only [*,go_sem,seval]
theorem Zio {n_0:Int} {r:ByteArray} (h:Zab n_0=some r):Zn Tryz.prog J0 251 [(false,[.int .i64 n_0])] [(false,[(false,.str r)])]:=by
 refine fnk Tryz.func251 (by kernel_rfl) rfl (by kernel_rfl) (by kernel_rfl) ?_
 unfold Zab at h
 have g:Zcf ⟨#[45,57,50,50,51,51,55,50,48,51,54,56,53,52,55,55,53,56,48,56]⟩=true:=by decide
 have i:Zcf ⟨#[]⟩=true:=by decide
 have j:¬((10:Int)=0):=by decide
 simp only [fnS,f251,Zo,go_sem,seval,g,i,j]
 refine Ze h (fun _ h=>?_) fun _ h=>?_<;>try simp only [*,go_sem,seval]
 cases h
 try simp only [*,go_sem,seval]
 refine Ze h (fun _ h=>?_) fun _ h=>?_<;>try simp only [*,go_sem,seval]
 cases h
 refine Zeh h (fun s st=>match s with | (a,b)=>IV [(0,.p false [.c (.int .i64 a)]),(3,.p false [.c (.str b)])] [] st) [] [] (by decide) ?_ ?_
 simp only [*,go_sem,seval]
 rintro ⟨a,b⟩ ⟨sl,ob,n⟩ l d m h k
 simp only [go_sem,seval,Zd] at d
 obtain ⟨⟨o,q⟩,hn⟩:=d
 subst hn
 obtain ⟨e,h⟩:=Zx h
 try simp only [Nat.reduceLeDiff] at e
 try simp only [go_sem] at e
 try simp only [*,go_sem,seval]
 refine Ze h (fun _ h=>?_) fun _ h=>?_<;>try simp only [*,go_sem,seval]
 replace h:=Zs h k
 cases h
 try simp only [*,go_sem,seval]
 refine ⟨_,[],[],(Option.some.inj h).symm,by decide,?_⟩
 try simp only [*,go_sem,seval]
theorem Zku {n_0:Int} {r:ByteArray} (h:ZaQ n_0=some r):Zn Tryz.prog J0 251 [(false,[.int .i64 n_0])] [(false,[(false,.str r)])]:=by
 refine fnk Tryz.func251 (by kernel_rfl) rfl (by kernel_rfl) (by kernel_rfl) ?_
 unfold ZaQ at h
 have i:Zcf ⟨#[45,57,50,50,51,51,55,50,48,51,54,56,53,52,55,55,53,56,48,56]⟩=true:=by decide
 have j:Zcf ⟨#[45]⟩=true:=by decide
 have k:Zcf ⟨#[]⟩=true:=by decide
 have l:¬((10:Int)=0):=by decide
 simp only [fnS,f251,Zo,go_sem,seval,i,j,k,l]
 refine Ze h (fun _ h=>?_) fun _ h=>?_<;>try simp only [*,go_sem,seval]
 cases h
 try simp only [*,go_sem,seval]
 refine Ze h (fun _ h=>?_) fun _ h=>?_<;>try simp only [*,go_sem,seval]
 obtain ⟨q,m,h⟩:=Za h
 refine Zb (Zio m) ?_
 obtain ⟨a,h⟩:=Zx h
 try simp only [Nat.reduceLeDiff] at a
 try simp only [go_sem] at a
 cases h
 try simp only [*,go_sem,seval]
 refine Zeh h (fun s st=>match s with | (b,d)=>IV [(0,.p false [.c (.int .i64 b)]),(3,.p false [.c (.str d)])] [] st) [] [] (by decide) ?_ ?_
 simp only [*,go_sem,seval]
 rintro ⟨b,d⟩ ⟨sl,ob,n⟩ t e u h o
 simp only [go_sem,seval,Zd] at e
 obtain ⟨⟨v,w⟩,hn⟩:=e
 subst hn
 obtain ⟨f,h⟩:=Zx h
 try simp only [Nat.reduceLeDiff] at f
 try simp only [go_sem] at f
 try simp only [*,go_sem,seval]
 refine Ze h (fun _ h=>?_) fun _ h=>?_<;>try simp only [*,go_sem,seval]
 replace h:=Zs h o
 cases h
 try simp only [*,go_sem,seval]
 refine ⟨_,[],[],(Option.some.inj h).symm,by decide,?_⟩
 try simp only [*,go_sem,seval]
theorem Zei {r_0:Zf} {r:(List Zm)} (h:XQ r_0=some r):Zn Tryz.prog J0 81 [(true,ZB r_0)] [(false,[(true,.sl 130 5 (List.map ZM r))])]:=by
 refine fnk Tryz.func81 (by kernel_rfl) rfl (by kernel_rfl) (by kernel_rfl) ?_
 unfold XQ at h
 simp only [fnS,f81,Zo,go_sem,seval]
 refine Zg h (fun i a st=>IV [(1,.bp 0 0),(3,.p false [.row 1]),(4,.p false [.c (.int .i64 ((i:Nat):Int))])] [.box 82 [.c (.str r_0.name),.c (.int .i64 r_0.priority),.c (.sl 130 5 (List.map ZM r_0.cond)),.c (.sl 134 3 (List.map ZA r_0.thn))],.row 130 5 (List.map ZM a) 1] st) [(true,32,1)] [0,32] (by decide) ?_ ?_ ?_
 simp only [*,go_sem,seval]
 rintro m o a ⟨sl,ob,n⟩ q b d f h t
 simp only [go_sem,seval,Zd] at d
 obtain ⟨⟨u,v,w⟩,g,x,hn⟩:=d
 subst hn
 have k:=WF.boxL f g (j:=2) rfl
 have y:=ZF b
 have z:=ZJ b
 have A:=Zi (ZE b) k
 try simp only [*,go_sem,seval]
 refine Ze h (fun _ h=>?_) fun _ h=>?_<;>try simp only [*,go_sem,seval]
 obtain ⟨l,h⟩:=Zx h
 try simp only [Nat.reduceLeDiff] at l
 try simp only [*,go_sem,seval]
 refine ⟨_,[],[0,306],(Option.some.inj h).symm,by decide,?_⟩
 try simp only [*,go_sem,seval]
 refine ⟨_,[],[0,1],(Option.some.inj h).symm,by decide,?_⟩
 try simp only [*,go_sem,seval]
 rintro a ⟨sl,ob,n⟩ e B h
 simp only [go_sem,seval,Zd] at e
 obtain ⟨⟨C,D,E⟩,F,G,hn⟩:=e
 subst hn
 have H:=ZC (r_0.cond.length)
 cases h
 try simp only [*,go_sem,seval]
theorem Xn {a:(List ByteArray)} {b:ByteArray} {r:(List ByteArray)} (h:XW a b=some r):Zn Tryz.prog J0 197 [(false,[.sl 9 1 (List.map Zu a)]),(false,[.str b])] [(false,[(false,.sl 9 1 (List.map Zu r))])]:=by
 refine fnk Tryz.func197 (by kernel_rfl) rfl (by kernel_rfl) (by kernel_rfl) ?_
 unfold XW at h
 simp only [fnS,f197,Zo,go_sem,seval]
 refine Zg h (fun i s st=>match s with | (d,e)=>IV [(0,.p false [.c (.sl 9 1 (List.map Zu a))]),(1,.p false [.c (.str b)]),(5,.p false [.row 0]),(6,.p false [.c (.bool e)]),(7,.p false [.c (.int .i64 ((i:Nat):Int))])] [.row 9 1 (List.map Zu d) 2] st) [] [16] (by decide) ?_ ?_ ?_
 simp only [*,go_sem,seval]
 rintro z A ⟨d,e⟩ ⟨sl,ob,n⟩ B f g l h C
 simp only [go_sem,seval,Zd] at g
 obtain ⟨⟨m,D,E,F,G⟩,H,hn⟩:=g
 subst hn
 have o:=WF.slotL l m (j:=0) rfl
 have I:=ZF f
 have J:=ZJ f
 have K:=Zi (ZE f) o
 try simp only [*,go_sem,seval]
 refine Ze h (fun _ h=>?_) fun _ h=>?_<;>try simp only [*,go_sem,seval]
 obtain ⟨q,h⟩:=Zx h
 try simp only [Nat.reduceLeDiff] at q
 try simp only [*,go_sem,seval]
 refine ⟨_,[],[321],(Option.some.inj h).symm,by decide,?_⟩
 try simp only [*,go_sem,seval]
 refine Ze h (fun _ h=>?_) fun _ h=>?_<;>try simp only [*,go_sem,seval]
 obtain ⟨t,h⟩:=Zx h
 try simp only [Nat.reduceLeDiff] at t
 try simp only [*,go_sem,seval]
 refine ⟨_,[],[321],(Option.some.inj h).symm,by decide,?_⟩
 try simp only [*,go_sem,seval]
 refine Ze h (fun _ h=>?_) fun _ h=>?_<;>try simp only [*,go_sem,seval]
 obtain ⟨u,h⟩:=Zx h
 try simp only [Nat.reduceLeDiff] at u
 try simp only [*,go_sem,seval]
 refine ⟨_,[],[433],(Option.some.inj h).symm,by decide,?_⟩
 try simp only [*,go_sem,seval]
 obtain ⟨v,h⟩:=Zx h
 try simp only [Nat.reduceLeDiff] at v
 obtain ⟨w,h⟩:=Zx h
 try simp only [Nat.reduceLeDiff] at w
 try simp only [*,go_sem,seval]
 refine ⟨_,[],[513],(Option.some.inj h).symm,by decide,?_⟩
 try simp only [*,go_sem,seval]
 rintro ⟨d,e⟩ ⟨sl,ob,n⟩ k L h
 simp only [go_sem,seval,Zd] at k
 obtain ⟨⟨M,N,O,P,Q⟩,R,hn⟩:=k
 subst hn
 have S:=ZC (a.length)
 try simp only [*,go_sem,seval]
 refine Ze h (fun _ h=>?_) fun _ h=>?_<;>try simp only [*,go_sem,seval]
 cases h
 try simp only [*,go_sem,seval]
 obtain ⟨x,h⟩:=Zx h
 try simp only [Nat.reduceLeDiff] at x
 cases h
 try simp only [*,go_sem,seval]
theorem YG {l_0:(List ByteArray)} {s_1:ByteArray} {r:Bool} (h:ZS l_0 s_1=some r):Zn Tryz.prog J0 198 [(false,[.sl 9 1 (List.map Zu l_0)]),(false,[.str s_1])] [(false,[(false,.bool r)])]:=by
 refine fnk Tryz.func198 (by kernel_rfl) rfl (by kernel_rfl) (by kernel_rfl) ?_
 unfold ZS at h
 simp only [fnS,f198,Zo,go_sem,seval]
 refine Zg h (fun i _ st=>IV [(0,.p false [.c (.sl 9 1 (List.map Zu l_0))]),(1,.p false [.c (.str s_1)]),(5,.p false [.c (.int .i64 ((i:Nat):Int))])] [] st) [] [] (by decide) ?_ ?_ ?_
 simp only [*,go_sem,seval]
 rintro l m ⟨⟩ ⟨sl,ob,n⟩ o a b e h f
 simp only [go_sem,seval,Zd] at b
 obtain ⟨⟨g,q,t⟩,hn⟩:=b
 subst hn
 have k:=WF.slotL e g (j:=0) rfl
 have u:=ZF a
 have v:=ZJ a
 have w:=Zi (ZE a) k
 try simp only [*,go_sem,seval]
 refine Ze h (fun _ h=>?_) fun _ h=>?_<;>try simp only [*,go_sem,seval]
 replace h:=Zs h f
 cases h
 try simp only [*,go_sem,seval]
 refine ⟨_,[],[],(Option.some.inj h).symm,by decide,?_⟩
 try simp only [*,go_sem,seval]
 rintro ⟨⟩ ⟨sl,ob,n⟩ d x h
 simp only [go_sem,seval,Zd] at d
 obtain ⟨⟨y,z,A⟩,hn⟩:=d
 subst hn
 have B:=ZC (l_0.length)
 cases h
 try simp only [*,go_sem,seval]
theorem ZlB {l_0:(List Zf)} {name_1:ByteArray} {r:Int} (h:ZeG l_0 name_1=some r):Zn Tryz.prog J0 113 [(false,[.sl 82 4 (List.map ZB l_0)]),(false,[.str name_1])] [(false,[(false,.int .i64 r)])]:=by
 refine fnk Tryz.func113 (by kernel_rfl) rfl (by kernel_rfl) (by kernel_rfl) ?_
 unfold ZeG at h
 simp only [fnS,f113,Zo,go_sem,seval]
 refine Zg h (fun i _ st=>IV [(0,.p false [.c (.sl 82 4 (List.map ZB l_0))]),(1,.p false [.c (.str name_1)]),(5,.p false [.c (.int .i64 ((i:Nat):Int))])] [] st) [] [] (by decide) ?_ ?_ ?_
 simp only [*,go_sem,seval]
 rintro l m ⟨⟩ ⟨sl,ob,n⟩ o a b e h f
 simp only [go_sem,seval,Zd] at b
 obtain ⟨⟨g,q,t⟩,hn⟩:=b
 subst hn
 have k:=WF.slotL e g (j:=0) rfl
 have u:=ZF a
 have v:=ZJ a
 have w:=Zi (ZE a) k
 try simp only [*,go_sem,seval]
 refine Ze h (fun _ h=>?_) fun _ h=>?_<;>try simp only [*,go_sem,seval]
 replace h:=Zs h f
 cases h
 try simp only [*,go_sem,seval]
 refine ⟨_,[],[],(Option.some.inj h).symm,by decide,?_⟩
 try simp only [*,go_sem,seval]
 rintro ⟨⟩ ⟨sl,ob,n⟩ d x h
 simp only [go_sem,seval,Zd] at d
 obtain ⟨⟨y,z,A⟩,hn⟩:=d
 subst hn
 have B:=ZC (l_0.length)
 cases h
 try simp only [*,go_sem,seval]
theorem ZnR {a:(List Int)} {b:Int} {r:(List Int)} (h:ZfJ a b=some r):Zn Tryz.prog J0 175 [(false,[.sl 3 1 (List.map Qv a)]),(false,[.int .i64 b])] [(false,[(false,.sl 3 1 (List.map Qv r))])]:=by
 refine fnk Tryz.func175 (by kernel_rfl) rfl (by kernel_rfl) (by kernel_rfl) ?_
 unfold ZfJ at h
 simp only [fnS,f175,Zo,go_sem,seval]
 refine Zg h (fun i s st=>match s with | (d,e)=>IV [(0,.p false [.c (.sl 3 1 (List.map Qv a))]),(1,.p false [.c (.int .i64 b)]),(5,.p false [.row 0]),(6,.p false [.c (.bool e)]),(7,.p false [.c (.int .i64 ((i:Nat):Int))])] [.row 3 1 (List.map Qv d) 2] st) [] [16] (by decide) ?_ ?_ ?_
 simp only [*,go_sem,seval]
 rintro z A ⟨d,e⟩ ⟨sl,ob,n⟩ B f k m h C
 simp only [go_sem,seval,Zd] at k
 obtain ⟨⟨o,D,E,F,G⟩,H,hn⟩:=k
 subst hn
 have q:=WF.slotL m o (j:=0) rfl
 have I:=ZF f
 have J:=ZJ f
 have K:=Zi (ZE f) q
 try simp only [*,go_sem,seval]
 refine Ze h (fun _ h=>?_) fun _ h=>?_<;>try simp only [*,go_sem,seval]
 obtain ⟨t,h⟩:=Zx h
 try simp only [Nat.reduceLeDiff] at t
 try simp only [*,go_sem,seval]
 refine ⟨_,[],[321],(Option.some.inj h).symm,by decide,?_⟩
 try simp only [*,go_sem,seval]
 iterate 2 refine Ze h (fun _ h=>?_) fun _ h=>?_<;>try simp only [*,go_sem,seval]
 obtain ⟨u,h⟩:=Zx h
 try simp only [Nat.reduceLeDiff] at u
 obtain ⟨v,h⟩:=Zx h
 try simp only [Nat.reduceLeDiff] at v
 try simp only [*,go_sem,seval]
 refine ⟨_,[],[513],(Option.some.inj h).symm,by decide,?_⟩
 try simp only [*,go_sem,seval]
 obtain ⟨w,h⟩:=Zx h
 try simp only [Nat.reduceLeDiff] at w
 try simp only [*,go_sem,seval]
 refine ⟨_,[],[433],(Option.some.inj h).symm,by decide,?_⟩
 try simp only [*,go_sem,seval]
 obtain ⟨x,h⟩:=Zx h
 try simp only [Nat.reduceLeDiff] at x
 try simp only [*,go_sem,seval]
 refine ⟨_,[],[321],(Option.some.inj h).symm,by decide,?_⟩
 try simp only [*,go_sem,seval]
 rintro ⟨d,e⟩ ⟨sl,ob,n⟩ l L h
 simp only [go_sem,seval,Zd] at l
 obtain ⟨⟨M,N,O,P,Q⟩,R,hn⟩:=l
 subst hn
 have S:=ZC (a.length)
 try simp only [*,go_sem,seval]
 refine Ze h (fun _ h=>?_) fun _ h=>?_<;>try simp only [*,go_sem,seval]
 cases h
 try simp only [*,go_sem,seval]
 obtain ⟨y,h⟩:=Zx h
 try simp only [Nat.reduceLeDiff] at y
 cases h
 try simp only [*,go_sem,seval]
theorem Ze3 {a_0:(List Int)} {b_1:(List Int)} {r:Bool} (h:Zbc a_0 b_1=some r):Zn Tryz.prog J0 129 [(false,[.sl 3 1 (List.map Qv a_0)]),(false,[.sl 3 1 (List.map Qv b_1)])] [(false,[(false,.bool r)])]:=by
 refine fnk Tryz.func129 (by kernel_rfl) rfl (by kernel_rfl) (by kernel_rfl) ?_
 unfold Zbc at h
 simp only [fnS,f129,Zo,go_sem,seval]
 refine Ze h (fun _ h=>?_) fun _ h=>?_<;>try simp only [*,go_sem,seval]
 cases h
 try simp only [*,go_sem,seval]
 refine Zg h (fun i _ st=>IV [(0,.p false [.c (.sl 3 1 (List.map Qv a_0))]),(1,.p false [.c (.sl 3 1 (List.map Qv b_1))]),(5,.p false [.c (.int .i64 ((i:Nat):Int))])] [] st) [] [] (by decide) ?_ ?_ ?_
 simp only [*,go_sem,seval]
 rintro m o ⟨⟩ ⟨sl,ob,n⟩ q a b e h f
 simp only [go_sem,seval,Zd] at b
 obtain ⟨⟨g,t,u⟩,hn⟩:=b
 subst hn
 have k:=WF.slotL e g (j:=0) rfl
 have v:=ZF a
 have w:=ZJ a
 have x:=Zi (ZE a) k
 obtain ⟨y,z,A,l,h⟩:=Zgn h
 simp only [Int.toNat_natCast] at l
 try simp only [*,go_sem,seval]
 refine Ze h (fun _ h=>?_) fun _ h=>?_<;>try simp only [*,go_sem,seval]
 replace h:=Zs h f
 cases h
 try simp only [*,go_sem,seval]
 refine ⟨_,[],[],(Option.some.inj h).symm,by decide,?_⟩
 try simp only [*,go_sem,seval]
 rintro ⟨⟩ ⟨sl,ob,n⟩ d B h
 simp only [go_sem,seval,Zd] at d
 obtain ⟨⟨C,D,E⟩,hn⟩:=d
 subst hn
 have F:=ZC (a_0.length)
 cases h
 try simp only [*,go_sem,seval]
theorem ZkC {a_0:(List ByteArray)} {b_1:(List ByteArray)} {r:Bool} (h:Zb0 a_0 b_1=some r):Zn Tryz.prog J0 161 [(false,[.sl 9 1 (List.map Zu a_0)]),(false,[.sl 9 1 (List.map Zu b_1)])] [(false,[(false,.bool r)])]:=by
 refine fnk Tryz.func161 (by kernel_rfl) rfl (by kernel_rfl) (by kernel_rfl) ?_
 unfold Zb0 at h
 simp only [fnS,f161,Zo,go_sem,seval]
 refine Ze h (fun _ h=>?_) fun _ h=>?_<;>try simp only [*,go_sem,seval]
 cases h
 try simp only [*,go_sem,seval]
 refine Zg h (fun i _ st=>IV [(0,.p false [.c (.sl 9 1 (List.map Zu a_0))]),(1,.p false [.c (.sl 9 1 (List.map Zu b_1))]),(12,.p false [.c (.int .i64 ((a_0.length:Nat):Int))]),(13,.p false [.c (.int .i64 ((i:Nat):Int))])] [] st) [] [] (by decide) ?_ ?_ ?_
 simp only [*,go_sem,seval]
 rintro m o ⟨⟩ ⟨sl,ob,n⟩ q a b e h f
 simp only [go_sem,seval,Zd] at b
 obtain ⟨⟨g,t,u,v⟩,hn⟩:=b
 subst hn
 have k:=WF.slotL e g (j:=0) rfl
 have w:=ZF a
 have x:=ZJ a
 have y:=Zi (ZE a) k
 obtain ⟨z,A,B,l,h⟩:=Zgn h
 simp only [Int.toNat_natCast] at l
 try simp only [*,go_sem,seval]
 refine Ze h (fun _ h=>?_) fun _ h=>?_<;>try simp only [*,go_sem,seval]
 refine ⟨_,[],[],(Option.some.inj h).symm,by decide,?_⟩
 try simp only [*,go_sem,seval]
 replace h:=Zs h f
 cases h
 try simp only [*,go_sem,seval]
 rintro ⟨⟩ ⟨sl,ob,n⟩ d C h
 simp only [go_sem,seval,Zd] at d
 obtain ⟨⟨D,E,F,G⟩,hn⟩:=d
 subst hn
 have H:=ZC (a_0.length)
 cases h
 try simp only [*,go_sem,seval]
theorem Zf2 {l_0:(List ByteArray)} {r:(List ByteArray)} (h:ZaI l_0=some r):Zn Tryz.prog J0 146 [(false,[.sl 9 1 (List.map Zu l_0)])] [(false,[(false,.sl 9 1 (List.map Zu r))])]:=by
 refine fnk Tryz.func146 (by kernel_rfl) rfl (by kernel_rfl) (by kernel_rfl) ?_
 unfold ZaI at h
 simp only [fnS,f146,Zo,go_sem,seval]
 obtain ⟨a,h⟩:=Zx h
 try simp only [Nat.reduceLeDiff] at a
 cases h
 try simp only [*,go_sem,seval]
theorem Qg {s_0:ByteArray} {r:Bool} (h:Qr s_0=some r):Zn Tryz.prog J0 153 [(false,[.str s_0])] [(false,[(false,.bool r)])]:=by
 refine fnk Tryz.func153 (by kernel_rfl) rfl (by kernel_rfl) (by kernel_rfl) ?_
 unfold Qr at h
 simp only [fnS,f153,Zo,go_sem,seval]
 refine Ze h (fun _ h=>?_) fun _ h=>?_<;>try simp only [*,go_sem,seval]
 ·cases h
  try simp only [*,go_sem,seval]
 ·refine Ze h (fun _ h=>?_) fun _ h=>?_<;>try simp only [*,go_sem,seval]
  ·cases h
   try simp only [*,go_sem,seval]
  ·refine Zg h (fun i _ st=>IV [(0,.p false [.c (.str s_0)]),(3,.p false [.c (.int .i64 ((i:Nat):Int))])] [] st) [] [] (by decide) ?_ ?_ ?_
   ·simp only [*,go_sem,seval]
   ·rintro i4 x5 ⟨⟩ ⟨sl,ob,n⟩ y3 hx4 hI5 hW6 h hy3
    simp only [go_sem,seval,Zd] at hI5
    obtain ⟨⟨g7_0,g7_3⟩,hn⟩:=hI5
    subst hn
    have hlhx4:=WF.slotS hW6 g7_0 (j:=0) rfl
    have q8:=ZnD hx4
    have q9:=ZsC hx4
    have q10:=Zi (ZqE hx4) hlhx4
    try simp only [*,go_sem,seval]
    refine Ze h (fun _ h=>?_) fun _ h=>?_<;>try simp only [*,go_sem,seval]
    ·refine Ze h (fun _ h=>?_) fun _ h=>?_<;>try simp only [*,go_sem,seval]
     ·replace h:=Zs h hy3
      cases h
      try simp only [*,go_sem,seval]
     ·refine Ze h (fun _ h=>?_) fun _ h=>?_<;>try simp only [*,go_sem,seval]
      ·replace h:=Zs h hy3
       cases h
       try simp only [*,go_sem,seval]
      ·refine ⟨_,[],[],(Option.some.inj h).symm,by decide,?_⟩
       try simp only [*,go_sem,seval]
    ·refine Ze h (fun _ h=>?_) fun _ h=>?_<;>try simp only [*,go_sem,seval]
     ·refine Ze h (fun _ h=>?_) fun _ h=>?_<;>try simp only [*,go_sem,seval]
      ·replace h:=Zs h hy3
       cases h
       try simp only [*,go_sem,seval]
      ·refine Ze h (fun _ h=>?_) fun _ h=>?_<;>try simp only [*,go_sem,seval]
       ·replace h:=Zs h hy3
        cases h
        try simp only [*,go_sem,seval]
       ·refine ⟨_,[],[],(Option.some.inj h).symm,by decide,?_⟩
        try simp only [*,go_sem,seval]
     ·refine ⟨_,[],[],(Option.some.inj h).symm,by decide,?_⟩
      try simp only [*,go_sem,seval]
   ·rintro ⟨⟩ ⟨sl,ob,n⟩ hI17 hW18 h
    simp only [go_sem,seval,Zd] at hI17
    obtain ⟨⟨g19_0,g19_3⟩,hn⟩:=hI17
    subst hn
    have q20:=ZC (s_0.size)
    cases h
    try simp only [*,go_sem,seval]
theorem ZfS {b_0:(List Zl)} {r:(List Zl)} (h:ZaB b_0=some r):Zn Tryz.prog J0 156 [(false,[.sl 192 2 (List.map Z6 b_0)])] [(false,[(false,.sl 192 2 (List.map Z6 r))])]:=by
 refine fnk Tryz.func156 (by kernel_rfl) rfl (by kernel_rfl) (by kernel_rfl) ?_
 unfold ZaB at h
 simp only [fnS,f156,Zo,go_sem,seval]
 obtain ⟨a,h⟩:=Zx h
 try simp only [Nat.reduceLeDiff] at a
 cases h
 try simp only [*,go_sem,seval]
theorem QZ {p_0:Zv} {r:Bool} (h:Xc p_0=some r):Zn Tryz.prog J0 213 [(true,QQ p_0)] [(false,[(false,.bool r)])]:=by
 refine fnk Tryz.func213 (by kernel_rfl) rfl (by kernel_rfl) (by kernel_rfl) ?_
 unfold Xc at h
 have a:Zcf ⟨#[]⟩=true:=by decide
 simp only [fnS,f213,Zo,go_sem,seval,a]
 refine Ze h (fun _ h=>?_) fun _ h=>?_<;>try simp only [*,go_sem,seval]
 iterate 2 (cases h;try simp only [*,go_sem,seval])
theorem Zkn {n_0:Int} {r:ByteArray} (h:ZaJ n_0=some r):Zn Tryz.prog J0 237 [(false,[.int .i64 n_0])] [(false,[(false,.str r)])]:=by
 refine fnk Tryz.func237 (by kernel_rfl) rfl (by kernel_rfl) (by kernel_rfl) ?_
 unfold ZaJ at h
 have a:Zcf ⟨#[]⟩=true:=by decide
 simp only [fnS,f237,Zo,go_sem,seval,a]
 obtain ⟨c,b,h⟩:=Za h
 refine Zb (ZrM b) ?_
 cases h
 try simp only [*,go_sem,seval]
theorem Zep {r_0:Zf} {r:(List Zm)} (h:YU r_0=some r):Zn Tryz.prog J0 88 [(true,ZB r_0)] [(false,[(true,.sl 130 5 (List.map ZM r))])]:=by
 refine fnk Tryz.func88 (by kernel_rfl) rfl (by kernel_rfl) (by kernel_rfl) ?_
 unfold YU at h
 simp only [fnS,f88,Zo,go_sem,seval]
 refine Zg h (fun i a st=>IV [(3,.p false [.row 0]),(7,.p false [.c (.sl 130 5 (List.map ZM r_0.cond))]),(8,.p false [.c (.int .i64 ((r_0.cond.length:Nat):Int))]),(9,.p false [.c (.int .i64 ((i:Nat):Int))])] [.row 130 5 (List.map ZM a) 1] st) [(false,3,0),(true,112,1)] [112] (by decide) ?_ ?_ ?_
 simp only [*,go_sem,seval]
 rintro m o a ⟨sl,ob,n⟩ q b d f h t
 simp only [go_sem,seval,Zd] at d
 obtain ⟨⟨u,g,v,w⟩,x,hn⟩:=d
 subst hn
 have k:=WF.slotL f g (j:=0) rfl
 have y:=ZF b
 have z:=ZJ b
 have A:=Zi (ZE b) k
 try simp only [*,go_sem,seval]
 refine Ze h (fun _ h=>?_) fun _ h=>?_<;>try simp only [*,go_sem,seval]
 obtain ⟨l,h⟩:=Zx h
 try simp only [Nat.reduceLeDiff] at l
 try simp only [*,go_sem,seval]
 refine ⟨_,[],[177],(Option.some.inj h).symm,by decide,?_⟩
 try simp only [*,go_sem,seval]
 refine ⟨_,[],[0],(Option.some.inj h).symm,by decide,?_⟩
 try simp only [*,go_sem,seval]
 rintro a ⟨sl,ob,n⟩ e B h
 simp only [go_sem,seval,Zd] at e
 obtain ⟨⟨C,D,E,F⟩,G,hn⟩:=e
 subst hn
 have H:=ZC (r_0.cond.length)
 cases h
 try simp only [*,go_sem,seval]
theorem ZlM {a:(List Zf)} {b:ByteArray} {r:Int} (h:Zat a b=some r):Zn Tryz.prog J0 118 [(false,[.sl 82 4 (List.map ZB a)]),(false,[.str b])] [(false,[(false,.int .i64 r)])]:=by
 refine fnk Tryz.func118 (by kernel_rfl) rfl (by kernel_rfl) (by kernel_rfl) ?_
 unfold Zat at h
 simp only [fnS,f118,Zo,go_sem,seval]
 refine Zg h (fun i _ st=>IV [(1,.p false [.c (.str b)]),(7,.p false [.c (.sl 82 4 (List.map ZB a))]),(8,.p false [.c (.int .i64 ((a.length:Nat):Int))]),(9,.p false [.c (.int .i64 ((i:Nat):Int))])] [] st) [] [] (by decide) ?_ ?_ ?_
 simp only [*,go_sem,seval]
 rintro o q ⟨⟩ ⟨sl,ob,n⟩ t d e g h k
 simp only [go_sem,seval,Zd] at e
 obtain ⟨⟨u,l,v,w⟩,hn⟩:=e
 subst hn
 have m:=WF.slotL g l (j:=0) rfl
 have x:=ZF d
 have y:=ZJ d
 have z:=Zi (ZE d) m
 try simp only [*,go_sem,seval]
 refine Ze h (fun _ h=>?_) fun _ h=>?_<;>try simp only [*,go_sem,seval]
 replace h:=Zs h k
 cases h
 try simp only [*,go_sem,seval]
 refine ⟨_,[],[],(Option.some.inj h).symm,by decide,?_⟩
 try simp only [*,go_sem,seval]
 rintro ⟨⟩ ⟨sl,ob,n⟩ f A h
 simp only [go_sem,seval,Zd] at f
 obtain ⟨⟨B,C,D,E⟩,hn⟩:=f
 subst hn
 have F:=ZC (a.length)
 cases h
 try simp only [*,go_sem,seval]
theorem X5 {l_0:(List ByteArray)} {r:(List ByteArray)} (h:Yp l_0=some r):Zn Tryz.prog J0 209 [(false,[.sl 9 1 (List.map Zu l_0)])] [(false,[(false,.sl 9 1 (List.map Zu r))])]:=by
 refine fnk Tryz.func209 (by kernel_rfl) rfl (by kernel_rfl) (by kernel_rfl) ?_
 unfold Yp at h
 simp only [fnS,f209,Zo,go_sem,seval]
 obtain ⟨g,h⟩:=Zx h
 try simp only [Nat.reduceLeDiff] at g
 try simp only [*,go_sem,seval]
 obtain ⟨a,j,h⟩:=Za h
 refine ZsX (ZiP j) ?_
 try simp only [*,go_sem,seval]
 refine Zg h (fun i b st=>IV [(3,.p false [.row 0]),(4,.p false [.row 1]),(11,.p false [.row 0]),(12,.p false [.c (.int .i64 ((a.length:Nat):Int))]),(13,.p false [.c (.int .i64 ((i:Nat):Int))])] [.row 9 1 (List.map Zu a) 2,.row 9 1 (List.map Zu b) 2] st) [(false,4,0)] [32,160] (by decide) ?_ ?_ ?_
 simp only [*,go_sem,seval]
 rintro t u b ⟨sl,ob,n⟩ v d e k h w
 simp only [go_sem,seval,Zd] at e
 obtain ⟨⟨x,y,z,A,B⟩,l,C,hn⟩:=e
 subst hn
 have m:=WF.rowL k l
 have D:=ZF d
 have E:=ZJ d
 have F:=Zi (ZE d) m
 try simp only [*,go_sem,seval]
 refine Ze h (fun _ h=>?_) fun _ h=>?_<;>try simp only [*,go_sem,seval]
 obtain ⟨o,h⟩:=Zx h
 try simp only [Nat.reduceLeDiff] at o
 try simp only [*,go_sem,seval]
 refine ⟨_,[],[0,322],(Option.some.inj h).symm,by decide,?_⟩
 try simp only [*,go_sem,seval]
 obtain ⟨G,h⟩:=Zx h
 obtain ⟨H,I,h⟩:=Za h
 try simp only [*,go_sem,seval]
 refine Ze h (fun _ h=>?_) fun _ h=>?_<;>try simp only [*,go_sem,seval]
 refine ⟨_,[],[0,1],(Option.some.inj h).symm,by decide,?_⟩
 try simp only [*,go_sem,seval]
 obtain ⟨q,h⟩:=Zx h
 try simp only [Nat.reduceLeDiff] at q
 try simp only [*,go_sem,seval]
 refine ⟨_,[],[0,322],(Option.some.inj h).symm,by decide,?_⟩
 try simp only [*,go_sem,seval]
 rintro b ⟨sl,ob,n⟩ f J h
 simp only [go_sem,seval,Zd] at f
 obtain ⟨⟨K,L,M,N,O⟩,P,Q,hn⟩:=f
 subst hn
 have R:=ZC (a.length)
 cases h
 try simp only [*,go_sem,seval]
theorem Q5 {l_0:(List ByteArray)} {s_1:ByteArray} {r:Bool} (h:Xh l_0 s_1=some r):Zn Tryz.prog J0 207 [(false,[.sl 9 1 (List.map Zu l_0)]),(false,[.str s_1])] [(false,[(false,.bool r)])]:=by
 refine fnk Tryz.func207 (by kernel_rfl) rfl (by kernel_rfl) (by kernel_rfl) ?_
 unfold Xh at h
 simp only [fnS,f207,Zo,go_sem,seval]
 refine Zg h (fun i _ st=>IV [(1,.p false [.c (.str s_1)]),(7,.p false [.c (.sl 9 1 (List.map Zu l_0))]),(8,.p false [.c (.int .i64 ((l_0.length:Nat):Int))]),(9,.p false [.c (.int .i64 ((i:Nat):Int))])] [] st) [] [] (by decide) ?_ ?_ ?_
 simp only [*,go_sem,seval]
 rintro l m ⟨⟩ ⟨sl,ob,n⟩ o a b e h f
 simp only [go_sem,seval,Zd] at b
 obtain ⟨⟨q,g,t,u⟩,hn⟩:=b
 subst hn
 have k:=WF.slotL e g (j:=0) rfl
 have v:=ZF a
 have w:=ZJ a
 have x:=Zi (ZE a) k
 try simp only [*,go_sem,seval]
 refine Ze h (fun _ h=>?_) fun _ h=>?_<;>try simp only [*,go_sem,seval]
 replace h:=Zs h f
 cases h
 try simp only [*,go_sem,seval]
 refine ⟨_,[],[],(Option.some.inj h).symm,by decide,?_⟩
 try simp only [*,go_sem,seval]
 rintro ⟨⟩ ⟨sl,ob,n⟩ d y h
 simp only [go_sem,seval,Zd] at d
 obtain ⟨⟨z,A,B,C⟩,hn⟩:=d
 subst hn
 have D:=ZC (l_0.length)
 cases h
 try simp only [*,go_sem,seval]
theorem ZlO {r_0:Zf} {r:Bool} (h:Zdh r_0=some r):Zn Tryz.prog J0 204 [(true,ZB r_0)] [(false,[(false,.bool r)])]:=by
 refine fnk Tryz.func204 (by kernel_rfl) rfl (by kernel_rfl) (by kernel_rfl) ?_
 unfold Zdh at h
 simp only [fnS,f204,Zo,go_sem,seval]
 refine Zg h (fun i _ st=>IV [(6,.p false [.c (.sl 134 3 (List.map ZA r_0.thn))]),(7,.p false [.c (.int .i64 ((r_0.thn.length:Nat):Int))]),(8,.p false [.c (.int .i64 ((i:Nat):Int))])] [] st) [] [] (by decide) ?_ ?_ ?_
 simp only [*,go_sem,seval]
 rintro l m ⟨⟩ ⟨sl,ob,n⟩ o a b e h f
 simp only [go_sem,seval,Zd] at b
 obtain ⟨⟨g,q,t⟩,hn⟩:=b
 subst hn
 have k:=WF.slotL e g (j:=0) rfl
 have u:=ZF a
 have v:=ZJ a
 have w:=Zi (ZE a) k
 try simp only [*,go_sem,seval]
 refine Ze h (fun _ h=>?_) fun _ h=>?_<;>try simp only [*,go_sem,seval]
 replace h:=Zs h f
 cases h
 try simp only [*,go_sem,seval]
 refine ⟨_,[],[],(Option.some.inj h).symm,by decide,?_⟩
 try simp only [*,go_sem,seval]
 rintro ⟨⟩ ⟨sl,ob,n⟩ d x h
 simp only [go_sem,seval,Zd] at d
 obtain ⟨⟨y,z,A⟩,hn⟩:=d
 subst hn
 have B:=ZC (r_0.thn.length)
 cases h
 try simp only [*,go_sem,seval]
end Go.Proofs.YtojnhepgnbhaaaaGreatDoor
namespace Go.Proofs.YtojnhepgnbhaaaaGreatDoor
open Go.Proofs.Tryz
set_option linter.unusedSimpArgs false
set_option linter.unusedVariables false
set_option maxRecDepth 1000000
set_option maxHeartbeats 4000000
theorem ZbC {a_0:Int} {b_1:Int} {r:Int} (h:XP a_0 b_1=some r):Zn Tryz.prog J0 212 [(false,[.int .i64 a_0]),(false,[.int .i64 b_1])] [(false,[(false,.int .i64 r)])]:=by
 refine fnk Tryz.func212 (by kernel_rfl) rfl (by kernel_rfl) (by kernel_rfl) ?_
 unfold XP at h
 simp only [fnS,f212,Zo,go_sem,seval]
 refine Ze h (fun _ h=>?_) fun _ h=>?_<;>try simp only [*,go_sem,seval]
 ·cases h
  try simp only [*,go_sem,seval]
 ·refine Ze h (fun _ h=>?_) fun _ h=>?_<;>try simp only [*,go_sem,seval]
  ·cases h
   try simp only [*,go_sem,seval]
  ·cases h
   try simp only [*,go_sem,seval]
theorem ZoY {l_0:(List Int)} {n_1:Int} {r:Bool} (h:ZfY l_0 n_1=some r):Zn Tryz.prog J0 110 [(false,[.sl 3 1 (List.map Qv l_0)]),(false,[.int .i64 n_1])] [(false,[(false,.bool r)])]:=by
 refine fnk Tryz.func110 (by kernel_rfl) rfl (by kernel_rfl) (by kernel_rfl) ?_
 unfold ZfY at h
 simp only [fnS,f110,Zo,go_sem,seval]
 refine Zg h (fun i _ st=>IV [(1,.p false [.c (.int .i64 n_1)]),(7,.p false [.c (.sl 3 1 (List.map Qv l_0))]),(8,.p false [.c (.int .i64 ((l_0.length:Nat):Int))]),(9,.p false [.c (.int .i64 ((i:Nat):Int))])] [] st) [] [] (by decide) ?_ ?_ ?_
 simp only [*,go_sem,seval]
 rintro l m ⟨⟩ ⟨sl,ob,n⟩ o a b e h f
 simp only [go_sem,seval,Zd] at b
 obtain ⟨⟨q,g,t,u⟩,hn⟩:=b
 subst hn
 have k:=WF.slotL e g (j:=0) rfl
 have v:=ZF a
 have w:=ZJ a
 have x:=Zi (ZE a) k
 try simp only [*,go_sem,seval]
 refine Ze h (fun _ h=>?_) fun _ h=>?_<;>try simp only [*,go_sem,seval]
 replace h:=Zs h f
 cases h
 try simp only [*,go_sem,seval]
 refine ⟨_,[],[],(Option.some.inj h).symm,by decide,?_⟩
 try simp only [*,go_sem,seval]
 rintro ⟨⟩ ⟨sl,ob,n⟩ d y h
 simp only [go_sem,seval,Zd] at d
 obtain ⟨⟨z,A,B,C⟩,hn⟩:=d
 subst hn
 have D:=ZC (l_0.length)
 cases h
 try simp only [*,go_sem,seval]
theorem ZgG {a_0:(List Int)} {b_1:(List Int)} {r:Bool} (h:Zbt a_0 b_1=some r):Zn Tryz.prog J0 184 [(false,[.sl 3 1 (List.map Qv a_0)]),(false,[.sl 3 1 (List.map Qv b_1)])] [(false,[(false,.bool r)])]:=by
 refine fnk Tryz.func184 (by kernel_rfl) rfl (by kernel_rfl) (by kernel_rfl) ?_
 unfold Zbt at h
 simp only [fnS,f184,Zo,go_sem,seval]
 refine Ze h (fun _ h=>?_) fun _ h=>?_<;>try simp only [*,go_sem,seval]
 cases h
 try simp only [*,go_sem,seval]
 refine Zg h (fun i _ st=>IV [(0,.p false [.c (.sl 3 1 (List.map Qv a_0))]),(1,.p false [.c (.sl 3 1 (List.map Qv b_1))]),(12,.p false [.c (.int .i64 ((a_0.length:Nat):Int))]),(13,.p false [.c (.int .i64 ((i:Nat):Int))])] [] st) [] [] (by decide) ?_ ?_ ?_
 simp only [*,go_sem,seval]
 rintro m o ⟨⟩ ⟨sl,ob,n⟩ q a b e h f
 simp only [go_sem,seval,Zd] at b
 obtain ⟨⟨g,t,u,v⟩,hn⟩:=b
 subst hn
 have k:=WF.slotL e g (j:=0) rfl
 have w:=ZF a
 have x:=ZJ a
 have y:=Zi (ZE a) k
 obtain ⟨z,A,B,l,h⟩:=Zgn h
 simp only [Int.toNat_natCast] at l
 try simp only [*,go_sem,seval]
 refine Ze h (fun _ h=>?_) fun _ h=>?_<;>try simp only [*,go_sem,seval]
 replace h:=Zs h f
 cases h
 try simp only [*,go_sem,seval]
 refine ⟨_,[],[],(Option.some.inj h).symm,by decide,?_⟩
 try simp only [*,go_sem,seval]
 rintro ⟨⟩ ⟨sl,ob,n⟩ d C h
 simp only [go_sem,seval,Zd] at d
 obtain ⟨⟨D,E,F,G⟩,hn⟩:=d
 subst hn
 have H:=ZC (a_0.length)
 cases h
 try simp only [*,go_sem,seval]
theorem ZCA {l_0:(List Int)} {r:(List Int)} (h:ZBf l_0=some r):Zn Tryz.prog J0 191 [(false,[.sl 3 1 (List.map Qv l_0)])] [(false,[(false,.sl 3 1 (List.map Qv r))])]:=by
 refine fnk Tryz.func191 (by kernel_rfl) rfl (by kernel_rfl) (by kernel_rfl) ?_
 unfold ZBf at h
 simp only [fnS,f191,Zo,go_sem,seval]
 obtain ⟨a,h⟩:=Zx h
 try simp only [Nat.reduceLeDiff] at a
 cases h
 try simp only [*,go_sem,seval]
theorem ZBB {l_0:(List Int)} {rounds_1:(List Int)} {round_2:Int} {r:Bool} (h:ZAq l_0 rounds_1 round_2=some r):Zn Tryz.prog J0 220 [(false,[.sl 3 1 (List.map Qv l_0)]),(false,[.sl 3 1 (List.map Qv rounds_1)]),(false,[.int .i64 round_2])] [(false,[(false,.bool r)])]:=by
 refine fnk Tryz.func220 (by kernel_rfl) rfl (by kernel_rfl) (by kernel_rfl) ?_
 unfold ZAq at h
 simp only [fnS,f220,Zo,go_sem,seval]
 refine Zg h (fun i _ st=>IV [(0,.p false [.c (.sl 3 1 (List.map Qv l_0))]),(1,.p false [.c (.sl 3 1 (List.map Qv rounds_1))]),(2,.p false [.c (.int .i64 round_2)]),(7,.p false [.c (.int .i64 ((i:Nat):Int))])] [] st) [] [] (by decide) ?_ ?_ ?_
 simp only [*,go_sem,seval]
 rintro l m ⟨⟩ ⟨sl,ob,n⟩ o a b f h d
 simp only [go_sem,seval,Zd] at b
 obtain ⟨⟨g,q,t,u⟩,hn⟩:=b
 subst hn
 have k:=WF.slotL f g (j:=0) rfl
 have v:=ZF a
 have w:=ZJ a
 have x:=Zi (ZE a) k
 obtain ⟨y,z,A,B,h⟩:=Zgn h
 try simp only [*,go_sem,seval]
 refine Ze h (fun _ h=>?_) fun _ h=>?_<;>try simp only [*,go_sem,seval]
 replace h:=Zs h d
 cases h
 try simp only [*,go_sem,seval]
 refine Ze h (fun _ h=>?_) fun _ h=>?_<;>try simp only [*,go_sem,seval]
 replace h:=Zs h d
 cases h
 try simp only [*,go_sem,seval]
 refine ⟨_,[],[],(Option.some.inj h).symm,by decide,?_⟩
 try simp only [*,go_sem,seval]
 rintro ⟨⟩ ⟨sl,ob,n⟩ e C h
 simp only [go_sem,seval,Zd] at e
 obtain ⟨⟨D,E,F,G⟩,hn⟩:=e
 subst hn
 have H:=ZC (l_0.length)
 cases h
 try simp only [*,go_sem,seval]
theorem ZCf {l_0:(List Int)} {rounds_1:(List Int)} {r:Bool} (h:ZAH l_0 rounds_1=some r):Zn Tryz.prog J0 221 [(false,[.sl 3 1 (List.map Qv l_0)]),(false,[.sl 3 1 (List.map Qv rounds_1)])] [(false,[(false,.bool r)])]:=by
 refine fnk Tryz.func221 (by kernel_rfl) rfl (by kernel_rfl) (by kernel_rfl) ?_
 unfold ZAH at h
 simp only [fnS,f221,Zo,go_sem,seval]
 refine Zg h (fun i _ st=>IV [(0,.p false [.c (.sl 3 1 (List.map Qv l_0))]),(1,.p false [.c (.sl 3 1 (List.map Qv rounds_1))]),(5,.p false [.c (.int .i64 ((i:Nat):Int))])] [] st) [] [] (by decide) ?_ ?_ ?_
 simp only [*,go_sem,seval]
 rintro l m ⟨⟩ ⟨sl,ob,n⟩ o a b e h f
 simp only [go_sem,seval,Zd] at b
 obtain ⟨⟨g,q,t⟩,hn⟩:=b
 subst hn
 have k:=WF.slotL e g (j:=0) rfl
 have u:=ZF a
 have v:=ZJ a
 have w:=Zi (ZE a) k
 obtain ⟨x,y,z,A,h⟩:=Zgn h
 try simp only [*,go_sem,seval]
 refine Ze h (fun _ h=>?_) fun _ h=>?_<;>try simp only [*,go_sem,seval]
 replace h:=Zs h f
 cases h
 try simp only [*,go_sem,seval]
 refine ⟨_,[],[],(Option.some.inj h).symm,by decide,?_⟩
 try simp only [*,go_sem,seval]
 rintro ⟨⟩ ⟨sl,ob,n⟩ d B h
 simp only [go_sem,seval,Zd] at d
 obtain ⟨⟨C,D,E⟩,hn⟩:=d
 subst hn
 have F:=ZC (l_0.length)
 cases h
 try simp only [*,go_sem,seval]
theorem ZCv {append_0:ZK} {r:(List Int)} (h:ZAW append_0=some r):Zn Tryz.prog J0 188 [(true,Zff append_0)] [(false,[(false,.sl 3 1 (List.map Qv r))])]:=by
 refine fnk Tryz.func188 (by kernel_rfl) rfl (by kernel_rfl) (by kernel_rfl) ?_
 unfold ZAW at h
 simp only [fnS,f188,Zo,go_sem,seval]
 obtain ⟨p1,h⟩:=Zx h
 try simp only [*,go_sem,seval]
 refine Zeh h (fun s st=>match s with | (row_92,u_93)=>IV [(1,.bp 0 0),(3,.p false [.row 1]),(4,.p false [.c (.bool u_93)])] [.box 29 [.c (.int .i64 append_0.nodes),.c (.sl 114 3 (List.map Yn append_0.reasons))],.row 3 1 (List.map Qv row_92) 2] st) [] [0,64] (by decide) ?_ ?_
 ·simp only [*,go_sem,seval]
 ·rintro ⟨row_92,u_93⟩ ⟨sl,ob,n⟩ y2 hI3 hW4 h hy2
  simp only [go_sem,seval,Zd] at hI3
  obtain ⟨⟨g5_1,g5_3,g5_4⟩,og5_0,og5_1,hn⟩:=hI3
  subst hn
  try simp only [*,go_sem,seval]
  refine Ze h (fun _ h=>?_) fun _ h=>?_<;>try simp only [*,go_sem,seval]
  ·refine Zg h (fun i s st=>match s with | (row_123,u_125)=>IV [(1,.bp 0 0),(3,.p false [.row 1]),(4,.p false [.c (.bool u_125)]),(17,.p false [.c (.sl 114 3 (List.map Yn append_0.reasons))]),(18,.p false [.c (.int .i64 ((append_0.reasons.length:Nat):Int))]),(19,.p false [.c (.int .i64 ((i:Nat):Int))])] [.box 29 [.c (.int .i64 append_0.nodes),.c (.sl 114 3 (List.map Yn append_0.reasons))],.row 3 1 (List.map Qv row_123) 2] st) [] [0,1] (by decide) ?_ ?_ ?_
   ·simp only [*,go_sem,seval]
   ·rintro i155 x156 ⟨row_123,u_125⟩ ⟨sl,ob,n⟩ y7 hx8 hI9 hW10 h hy7
    simp only [go_sem,seval,Zd] at hI9
    obtain ⟨⟨g11_1,g11_3,g11_4,g11_17,g11_18,g11_19⟩,og11_0,og11_1,hn⟩:=hI9
    subst hn
    have hlhx8:=WF.slotL hW10 g11_17 (j:=0) rfl
    have q12:=ZF hx8
    have q13:=ZJ hx8
    have q14:=Zi (ZE hx8) hlhx8
    obtain ⟨p15,h⟩:=Zx h
    obtain ⟨x157,e16,h⟩:=Za h
    try simp only [*,go_sem,seval]
    refine Zg h (fun i u_161 st=>IV [(1,.bp 0 0),(3,.p false [.row 1]),(4,.p false [.c (.bool u_125)]),(6,.bp 2 0),(7,.p false [.c (.int .i64 u_161)]),(17,.p false [.c (.sl 114 3 (List.map Yn append_0.reasons))]),(18,.p false [.c (.int .i64 ((append_0.reasons.length:Nat):Int))]),(19,.p false [.c (.int .i64 ((i155:Nat):Int))]),(29,.p false [.c (.sl 3 1 (List.map Qv x156.inn))]),(30,.p false [.c (.int .i64 ((x156.inn.length:Nat):Int))]),(31,.p false [.c (.int .i64 ((i:Nat):Int))])] [.box 29 [.c (.int .i64 append_0.nodes),.c (.sl 114 3 (List.map Yn append_0.reasons))],.row 3 1 (List.map Qv row_123) 2,.box 114 [.c (.int .i64 x156.for_),.c (.sl 3 1 (List.map Qv x156.inn)),.c (.sl 3 1 (List.map Qv x156.outs))]] st) [] [0,1,50] (by decide) ?_ ?_ ?_
    ·simp only [*,go_sem,seval]
    ·rintro i173 x174 u_161 ⟨sl,ob,n⟩ y17 hx18 hI19 hW20 h hy17
     simp only [go_sem,seval,Zd] at hI19
     obtain ⟨⟨g21_1,g21_3,g21_4,g21_6,g21_7,g21_17,g21_18,g21_19,g21_29,g21_30,g21_31⟩,og21_0,og21_1,og21_2,hn⟩:=hI19
     subst hn
     have hlhx18:=WF.slotL hW20 g21_29 (j:=0) rfl
     have q22:=ZF hx18
     have q23:=ZJ hx18
     have q24:=Zi (ZE hx18) hlhx18
     obtain ⟨p25,h⟩:=Zx h
     obtain ⟨x175,e26,h⟩:=Za h
     try simp only [*,go_sem,seval]
     refine ⟨_,[],[0,1,2],(Option.some.inj h).symm,by decide,?_⟩
     try simp only [*,go_sem,seval]
    ·rintro u_161 ⟨sl,ob,n⟩ hI27 hW28 h
     simp only [go_sem,seval,Zd] at hI27
     obtain ⟨⟨g29_1,g29_3,g29_4,g29_6,g29_7,g29_17,g29_18,g29_19,g29_29,g29_30,g29_31⟩,og29_0,og29_1,og29_2,hn⟩:=hI27
     subst hn
     have q30:=ZC (x156.inn.length)
     try simp only [*,go_sem,seval]
     refine Zg h (fun i u_179 st=>IV [(1,.bp 0 0),(3,.p false [.row 1]),(4,.p false [.c (.bool u_125)]),(6,.bp 2 0),(7,.p false [.c (.int .i64 u_179)]),(17,.p false [.c (.sl 114 3 (List.map Yn append_0.reasons))]),(18,.p false [.c (.int .i64 ((append_0.reasons.length:Nat):Int))]),(19,.p false [.c (.int .i64 ((i155:Nat):Int))]),(43,.p false [.c (.sl 3 1 (List.map Qv x156.outs))]),(44,.p false [.c (.int .i64 ((x156.outs.length:Nat):Int))]),(45,.p false [.c (.int .i64 ((i:Nat):Int))])] [.box 29 [.c (.int .i64 append_0.nodes),.c (.sl 114 3 (List.map Yn append_0.reasons))],.row 3 1 (List.map Qv row_123) 2,.box 114 [.c (.int .i64 x156.for_),.c (.sl 3 1 (List.map Qv x156.inn)),.c (.sl 3 1 (List.map Qv x156.outs))]] st) [] [0,1,2] (by decide) ?_ ?_ ?_
     ·simp only [*,go_sem,seval]
     ·rintro i182 x183 u_179 ⟨sl,ob,n⟩ y31 hx32 hI33 hW34 h hy31
      simp only [go_sem,seval,Zd] at hI33
      obtain ⟨⟨g35_1,g35_3,g35_4,g35_6,g35_7,g35_17,g35_18,g35_19,g35_43,g35_44,g35_45⟩,og35_0,og35_1,og35_2,hn⟩:=hI33
      subst hn
      have hlhx32:=WF.slotL hW34 g35_43 (j:=0) rfl
      have q36:=ZF hx32
      have q37:=ZJ hx32
      have q38:=Zi (ZE hx32) hlhx32
      obtain ⟨p39,h⟩:=Zx h
      obtain ⟨x184,e40,h⟩:=Za h
      try simp only [*,go_sem,seval]
      refine ⟨_,[],[0,1,2],(Option.some.inj h).symm,by decide,?_⟩
      try simp only [*,go_sem,seval]
     ·rintro u_179 ⟨sl,ob,n⟩ hI41 hW42 h
      simp only [go_sem,seval,Zd] at hI41
      obtain ⟨⟨g43_1,g43_3,g43_4,g43_6,g43_7,g43_17,g43_18,g43_19,g43_43,g43_44,g43_45⟩,og43_0,og43_1,og43_2,hn⟩:=hI41
      subst hn
      have q44:=ZC (x156.outs.length)
      try simp only [*,go_sem,seval]
      refine Ze h (fun _ h=>?_) fun _ h=>?_<;>try simp only [*,go_sem,seval]
      ·refine ⟨_,[],[0,1],(Option.some.inj h).symm,by decide,?_⟩
       try simp only [*,go_sem,seval]
      ·refine ⟨_,[],[0,1],(Option.some.inj h).symm,by decide,?_⟩
       try simp only [*,go_sem,seval]
   ·rintro ⟨row_123,u_125⟩ ⟨sl,ob,n⟩ hI46 hW47 h
    simp only [go_sem,seval,Zd] at hI46
    obtain ⟨⟨g48_1,g48_3,g48_4,g48_17,g48_18,g48_19⟩,og48_0,og48_1,hn⟩:=hI46
    subst hn
    have q49:=ZC (append_0.reasons.length)
    try simp only [*,go_sem,seval]
    refine ⟨_,[],[0,1],(Option.some.inj h).symm,by decide,?_⟩
    try simp only [*,go_sem,seval]
  ·replace h:=Zs h hy2
   cases h
   try simp only [*,go_sem,seval]
theorem ZBv {r_0:Zh} {rounds_1:(List Int)} {before_2:Int} {r:Bool} (h:ZAk r_0 rounds_1 before_2=some r):Zn Tryz.prog J0 189 [(true,Yn r_0),(false,[.sl 3 1 (List.map Qv rounds_1)]),(false,[.int .i64 before_2])] [(false,[(false,.bool r)])]:=by
 refine fnk Tryz.func189 (by kernel_rfl) rfl (by kernel_rfl) (by kernel_rfl) ?_
 unfold ZAk at h
 simp only [fnS,f189,Zo,go_sem,seval]
 refine Zg h (fun i _ st=>IV [(1,.p false [.c (.sl 3 1 (List.map Qv rounds_1))]),(2,.p false [.c (.int .i64 before_2)]),(3,.bp 0 0),(12,.p false [.c (.sl 3 1 (List.map Qv r_0.inn))]),(13,.p false [.c (.int .i64 ((r_0.inn.length:Nat):Int))]),(14,.p false [.c (.int .i64 ((i:Nat):Int))])] [.box 114 [.c (.int .i64 r_0.for_),.c (.sl 3 1 (List.map Qv r_0.inn)),.c (.sl 3 1 (List.map Qv r_0.outs))]] st) [] [0] (by decide) ?_ ?_ ?_
 simp only [*,go_sem,seval]
 rintro w x ⟨⟩ ⟨sl,ob,n⟩ y a d l h e
 simp only [go_sem,seval,Zd] at d
 obtain ⟨⟨z,A,B,m,C,D⟩,E,hn⟩:=d
 subst hn
 have o:=WF.slotL l m (j:=0) rfl
 have F:=ZF a
 have G:=ZJ a
 have H:=Zi (ZE a) o
 obtain ⟨I,J,K,L,h⟩:=Zgn h
 try simp only [*,go_sem,seval]
 refine Ze h (fun _ h=>?_) fun _ h=>?_<;>try simp only [*,go_sem,seval]
 replace h:=Zs h e
 cases h
 try simp only [*,go_sem,seval]
 refine Ze h (fun _ h=>?_) fun _ h=>?_<;>try simp only [*,go_sem,seval]
 replace h:=Zs h e
 cases h
 try simp only [*,go_sem,seval]
 refine ⟨_,[],[0],(Option.some.inj h).symm,by decide,?_⟩
 try simp only [*,go_sem,seval]
 rintro ⟨⟩ ⟨sl,ob,n⟩ f M h
 simp only [go_sem,seval,Zd] at f
 obtain ⟨⟨N,O,P,Q,R,S⟩,T,hn⟩:=f
 subst hn
 have U:=ZC (r_0.inn.length)
 try simp only [*,go_sem,seval]
 refine Zg h (fun i _ st=>IV [(1,.p false [.c (.sl 3 1 (List.map Qv rounds_1))]),(33,.p false [.c (.sl 3 1 (List.map Qv r_0.outs))]),(34,.p false [.c (.int .i64 ((r_0.outs.length:Nat):Int))]),(35,.p false [.c (.int .i64 ((i:Nat):Int))])] [] st) [] [] (by decide) ?_ ?_ ?_
 simp only [*,go_sem,seval]
 rintro V W ⟨⟩ ⟨sl,ob,n⟩ X b g q h t
 simp only [go_sem,seval,Zd] at g
 obtain ⟨⟨Y,u,Z,aa⟩,hn⟩:=g
 subst hn
 have v:=WF.slotL q u (j:=0) rfl
 have ab:=ZF b
 have ac:=ZJ b
 have ad:=Zi (ZE b) v
 obtain ⟨ae,af,ag,ah,h⟩:=Zgn h
 try simp only [*,go_sem,seval]
 refine Ze h (fun _ h=>?_) fun _ h=>?_<;>try simp only [*,go_sem,seval]
 replace h:=Zs h t
 cases h
 try simp only [*,go_sem,seval]
 refine ⟨_,[],[],(Option.some.inj h).symm,by decide,?_⟩
 try simp only [*,go_sem,seval]
 rintro ⟨⟩ ⟨sl,ob,n⟩ k ai h
 simp only [go_sem,seval,Zd] at k
 obtain ⟨⟨aj,ak,al,am⟩,hn⟩:=k
 subst hn
 have an:=ZC (r_0.outs.length)
 cases h
 try simp only [*,go_sem,seval]
theorem ZFg {l_0:(List Int)} {x_1:Int} {r:Bool} (h:ZFb l_0 x_1=some r):Zn Tryz.prog J0 159 [(false,[.sl 3 1 (List.map Qv l_0)]),(false,[.int .i64 x_1])] [(false,[(false,.bool r)])]:=by
 refine fnk Tryz.func159 (by kernel_rfl) rfl (by kernel_rfl) (by kernel_rfl) ?_
 unfold ZFb at h
 simp only [fnS,f159,Zo,go_sem,seval]
 refine Zg h (fun i _ st=>IV [(0,.p false [.c (.sl 3 1 (List.map Qv l_0))]),(1,.p false [.c (.int .i64 x_1)]),(5,.p false [.c (.int .i64 ((i:Nat):Int))])] [] st) [] [] (by decide) ?_ ?_ ?_
 simp only [*,go_sem,seval]
 rintro l m ⟨⟩ ⟨sl,ob,n⟩ o a b e h f
 simp only [go_sem,seval,Zd] at b
 obtain ⟨⟨g,q,t⟩,hn⟩:=b
 subst hn
 have k:=WF.slotL e g (j:=0) rfl
 have u:=ZF a
 have v:=ZJ a
 have w:=Zi (ZE a) k
 try simp only [*,go_sem,seval]
 refine Ze h (fun _ h=>?_) fun _ h=>?_<;>try simp only [*,go_sem,seval]
 replace h:=Zs h f
 cases h
 try simp only [*,go_sem,seval]
 refine ⟨_,[],[],(Option.some.inj h).symm,by decide,?_⟩
 try simp only [*,go_sem,seval]
 rintro ⟨⟩ ⟨sl,ob,n⟩ d x h
 simp only [go_sem,seval,Zd] at d
 obtain ⟨⟨y,z,A⟩,hn⟩:=d
 subst hn
 have B:=ZC (l_0.length)
 cases h
 try simp only [*,go_sem,seval]
theorem ZE0 {l_0:(List Int)} {r:(List Int)} (h:ZEW l_0=some r):Zn Tryz.prog J0 162 [(false,[.sl 3 1 (List.map Qv l_0)])] [(false,[(false,.sl 3 1 (List.map Qv r))])]:=by
 refine fnk Tryz.func162 (by kernel_rfl) rfl (by kernel_rfl) (by kernel_rfl) ?_
 unfold ZEW at h
 simp only [fnS,f162,Zo,go_sem,seval]
 obtain ⟨a,h⟩:=Zx h
 try simp only [Nat.reduceLeDiff] at a
 cases h
 try simp only [*,go_sem,seval]
end Go.Proofs.YtojnhepgnbhaaaaGreatDoor
namespace Go.Proofs.YtojnhepgnbhaaaaGreatDoor
open Go.Proofs.Tryz
set_option linter.unusedSimpArgs false
set_option linter.unusedVariables false
set_option maxRecDepth 1000000
set_option maxHeartbeats 4000000
theorem Zo0 {a_0:Zc} {b_1:Zc} {r:Bool} (h:Zk4 a_0 b_1=some r):Zn Tryz.prog J0 107 [(true,Zq a_0),(true,Zq b_1)] [(false,[(false,.bool r)])]:=by
 refine fnk Tryz.func107 (by kernel_rfl) rfl (by kernel_rfl) (by kernel_rfl) ?_
 unfold Zk4 at h
 simp only [fnS,f107,Zo,go_sem,seval]
 refine Ze h (fun _ h=>?_) fun _ h=>?_<;>try simp only [*,go_sem,seval]
 obtain ⟨b,a,h⟩:=Za h
 refine Zb (Ziz a) ?_
 iterate 2 (cases h;try simp only [*,go_sem,seval])
theorem XF {f_0:Zc} {r:Zc} (h:X1 f_0=some r):Zn Tryz.prog J0 98 [(true,Zq f_0)] [(true,[(false,.str r.rel),(false,.sl 9 1 (List.map Zu r.args))])]:=by
 refine fnk Tryz.func98 (by kernel_rfl) rfl (by kernel_rfl) (by kernel_rfl) ?_
 unfold X1 at h
 simp only [fnS,f98,Zo,go_sem,seval]
 obtain ⟨b,a,h⟩:=Za h
 refine Zb (ZnL a) ?_
 cases h
 try simp only [*,go_sem,seval]
theorem Qc {s_0:ByteArray} {r:Bool} (h:Qq s_0=some r):Zn Tryz.prog J0 147 [(false,[.str s_0])] [(false,[(false,.bool r)])]:=by
 refine fnk Tryz.func147 (by kernel_rfl) rfl (by kernel_rfl) (by kernel_rfl) ?_
 unfold Qq at h
 simp only [fnS,f147,Zo,go_sem,seval]
 refine Zg h (fun i _ st=>IV [(0,.p false [.c (.str s_0)]),(3,.p false [.c (.int .i64 ((i:Nat):Int))])] [] st) [] [] (by decide) ?_ ?_ ?_
 simp only [*,go_sem,seval]
 rintro q t ⟨⟩ ⟨sl,ob,n⟩ u a b e h f
 simp only [go_sem,seval,Zd] at b
 obtain ⟨⟨g,v⟩,hn⟩:=b
 subst hn
 have k:=WF.slotS e g (j:=0) rfl
 have w:=ZnD a
 have x:=ZsC a
 have y:=Zi (ZqE a) k
 try simp only [*,go_sem,seval]
 obtain ⟨z,l,h⟩:=Za h
 refine Zb (ZaS l) ?_
 try simp only [*,go_sem,seval]
 refine Ze h (fun _ h=>?_) fun _ h=>?_<;>try simp only [*,go_sem,seval]
 refine ⟨_,[],[],(Option.some.inj h).symm,by decide,?_⟩
 try simp only [*,go_sem,seval]
 obtain ⟨A,m,h⟩:=Za h
 refine Zb (ZaS m) ?_
 try simp only [*,go_sem,seval]
 refine Ze h (fun _ h=>?_) fun _ h=>?_<;>try simp only [*,go_sem,seval]
 refine ⟨_,[],[],(Option.some.inj h).symm,by decide,?_⟩
 try simp only [*,go_sem,seval]
 replace h:=Zs h f
 cases h
 try simp only [*,go_sem,seval]
 rintro ⟨⟩ ⟨sl,ob,n⟩ d B h
 simp only [go_sem,seval,Zd] at d
 obtain ⟨⟨C,D⟩,hn⟩:=d
 subst hn
 have E:=ZC (s_0.size)
 try simp only [*,go_sem,seval]
 obtain ⟨F,o,h⟩:=Za h
 refine Zb (ZaS o) ?_
 cases h
 try simp only [*,go_sem,seval]
theorem Zd0 {s_0:ByteArray} {r:(Int × Bool)} (h:QS s_0=some r):Zn Tryz.prog J0 231 [(false,[.str s_0])] [(false,[(false,.int .i64 r.1)]),(false,[(false,.bool r.2)])]:=by
 refine fnk Tryz.func231 (by kernel_rfl) rfl (by kernel_rfl) (by kernel_rfl) ?_
 unfold QS at h
 simp only [fnS,f231,Zo,go_sem,seval]
 obtain ⟨q,g,h⟩:=Za h
 refine Zb (ZaS g) ?_
 try simp only [*,go_sem,seval]
 refine Ze h (fun _ h=>?_) fun _ h=>?_<;>try simp only [*,go_sem,seval]
 refine Zg h (fun i a st=>IV [(0,.p false [.c (.str s_0)]),(4,.p false [.c (.int .i64 a)]),(5,.p false [.c (.int .i64 ((i:Nat):Int))])] [] st) [] [] (by decide) ?_ ?_ ?_
 simp only [*,go_sem,seval]
 rintro t u a ⟨sl,ob,n⟩ v b d k h e
 simp only [go_sem,seval,Zd] at d
 obtain ⟨⟨l,w,x⟩,hn⟩:=d
 subst hn
 have m:=WF.slotS k l (j:=0) rfl
 have y:=ZnD b
 have z:=ZsC b
 have A:=Zi (ZqE b) m
 try simp only [*,go_sem,seval]
 refine Ze h (fun _ h=>?_) fun _ h=>?_<;>try simp only [*,go_sem,seval]
 replace h:=Zs h e
 cases h
 try simp only [*,go_sem,seval]
 refine Ze h (fun _ h=>?_) fun _ h=>?_<;>try simp only [*,go_sem,seval]
 replace h:=Zs h e
 cases h
 try simp only [*,go_sem,seval]
 refine ⟨_,[],[],(Option.some.inj h).symm,by decide,?_⟩
 try simp only [*,go_sem,seval]
 rintro a ⟨sl,ob,n⟩ f B h
 simp only [go_sem,seval,Zd] at f
 obtain ⟨⟨C,D,E⟩,hn⟩:=f
 subst hn
 have F:=ZC (s_0.size)
 try simp only [*,go_sem,seval]
 obtain ⟨G,o,h⟩:=Za h
 refine Zb (Zku o) ?_
 try simp only [*,go_sem,seval]
 refine Ze h (fun _ h=>?_) fun _ h=>?_<;>try simp only [*,go_sem,seval]
 iterate 3 (cases h;try simp only [*,go_sem,seval])
theorem Zl3 {a_0:(List ByteArray)} {b_1:(List ByteArray)} {r:Bool} (h:Zc8 a_0 b_1=some r):Zn Tryz.prog J0 194 [(false,[.sl 9 1 (List.map Zu a_0)]),(false,[.sl 9 1 (List.map Zu b_1)])] [(false,[(false,.bool r)])]:=by
 refine fnk Tryz.func194 (by kernel_rfl) rfl (by kernel_rfl) (by kernel_rfl) ?_
 unfold Zc8 at h
 simp only [fnS,f194,Zo,go_sem,seval]
 refine Zg h (fun i _ st=>IV [(0,.p false [.c (.sl 9 1 (List.map Zu a_0))]),(1,.p false [.c (.sl 9 1 (List.map Zu b_1))]),(5,.p false [.c (.int .i64 ((i:Nat):Int))])] [] st) [] [] (by decide) ?_ ?_ ?_
 simp only [*,go_sem,seval]
 rintro m o ⟨⟩ ⟨sl,ob,n⟩ q a b e h f
 simp only [go_sem,seval,Zd] at b
 obtain ⟨⟨g,t,u⟩,hn⟩:=b
 subst hn
 have k:=WF.slotL e g (j:=0) rfl
 have v:=ZF a
 have w:=ZJ a
 have x:=Zi (ZE a) k
 try simp only [*,go_sem,seval]
 obtain ⟨y,l,h⟩:=Za h
 refine Zb (YG l) ?_
 try simp only [*,go_sem,seval]
 refine Ze h (fun _ h=>?_) fun _ h=>?_<;>try simp only [*,go_sem,seval]
 refine ⟨_,[],[],(Option.some.inj h).symm,by decide,?_⟩
 try simp only [*,go_sem,seval]
 replace h:=Zs h f
 cases h
 try simp only [*,go_sem,seval]
 rintro ⟨⟩ ⟨sl,ob,n⟩ d z h
 simp only [go_sem,seval,Zd] at d
 obtain ⟨⟨A,B,C⟩,hn⟩:=d
 subst hn
 have D:=ZC (a_0.length)
 cases h
 try simp only [*,go_sem,seval]
theorem ZgD {r_0:Zf} {r:(List ByteArray)} (h:QW r_0=some r):Zn Tryz.prog J0 169 [(true,ZB r_0)] [(false,[(false,.sl 9 1 (List.map Zu r))])]:=by
 refine fnk Tryz.func169 (by kernel_rfl) rfl (by kernel_rfl) (by kernel_rfl) ?_
 unfold QW at h
 simp only [fnS,f169,Zo,go_sem,seval]
 refine Zg h (fun i a st=>IV [(1,.bp 0 0),(3,.p false [.row 1]),(4,.p false [.c (.int .i64 ((i:Nat):Int))])] [.box 82 [.c (.str r_0.name),.c (.int .i64 r_0.priority),.c (.sl 130 5 (List.map ZM r_0.cond)),.c (.sl 134 3 (List.map ZA r_0.thn))],.row 9 1 (List.map Zu a) 2] st) [] [0,32] (by decide) ?_ ?_ ?_
 simp only [*,go_sem,seval]
 rintro o q a ⟨sl,ob,n⟩ t b d f h u
 simp only [go_sem,seval,Zd] at d
 obtain ⟨⟨v,w,x⟩,g,y,hn⟩:=d
 subst hn
 have k:=WF.boxL f g (j:=3) rfl
 have z:=ZF b
 have A:=ZJ b
 have B:=Zi (ZE b) k
 try simp only [*,go_sem,seval]
 refine Ze h (fun _ h=>?_) fun _ h=>?_<;>try simp only [*,go_sem,seval]
 obtain ⟨C,l,h⟩:=Za h
 refine Zb (Xn l) ?_
 try simp only [*,go_sem,seval]
 refine ⟨_,[],[0,466],(Option.some.inj h).symm,by decide,?_⟩
 try simp only [*,go_sem,seval]
 refine Ze h (fun _ h=>?_) fun _ h=>?_<;>try simp only [*,go_sem,seval]
 obtain ⟨D,m,h⟩:=Za h
 refine Zb (Xn m) ?_
 try simp only [*,go_sem,seval]
 refine ⟨_,[],[0,466],(Option.some.inj h).symm,by decide,?_⟩
 try simp only [*,go_sem,seval]
 refine ⟨_,[],[0,1],(Option.some.inj h).symm,by decide,?_⟩
 try simp only [*,go_sem,seval]
 rintro a ⟨sl,ob,n⟩ e E h
 simp only [go_sem,seval,Zd] at e
 obtain ⟨⟨F,G,H⟩,I,J,hn⟩:=e
 subst hn
 have K:=ZC (r_0.thn.length)
 cases h
 try simp only [*,go_sem,seval]
theorem Zny {r_0:Zf} {r:(List ByteArray)} (h:Zbx r_0=some r):Zn Tryz.prog J0 199 [(true,ZB r_0)] [(false,[(false,.sl 9 1 (List.map Zu r))])]:=by
 refine fnk Tryz.func199 (by kernel_rfl) rfl (by kernel_rfl) (by kernel_rfl) ?_
 unfold Zbx at h
 simp only [fnS,f199,Zo,go_sem,seval]
 refine Zg h (fun i a st=>IV [(1,.bp 0 0),(3,.p false [.row 1]),(4,.p false [.c (.int .i64 ((i:Nat):Int))])] [.box 82 [.c (.str r_0.name),.c (.int .i64 r_0.priority),.c (.sl 130 5 (List.map ZM r_0.cond)),.c (.sl 134 3 (List.map ZA r_0.thn))],.row 9 1 (List.map Zu a) 2] st) [] [0,32] (by decide) ?_ ?_ ?_
 simp only [*,go_sem,seval]
 rintro o q a ⟨sl,ob,n⟩ t b d f h u
 simp only [go_sem,seval,Zd] at d
 obtain ⟨⟨v,w,x⟩,g,y,hn⟩:=d
 subst hn
 have k:=WF.boxL f g (j:=2) rfl
 have z:=ZF b
 have A:=ZJ b
 have B:=Zi (ZE b) k
 try simp only [*,go_sem,seval]
 refine Ze h (fun _ h=>?_) fun _ h=>?_<;>try simp only [*,go_sem,seval]
 obtain ⟨C,l,h⟩:=Za h
 refine Zb (Xn l) ?_
 try simp only [*,go_sem,seval]
 refine ⟨_,[],[0,466],(Option.some.inj h).symm,by decide,?_⟩
 try simp only [*,go_sem,seval]
 refine Ze h (fun _ h=>?_) fun _ h=>?_<;>try simp only [*,go_sem,seval]
 obtain ⟨D,m,h⟩:=Za h
 refine Zb (Xn m) ?_
 try simp only [*,go_sem,seval]
 refine ⟨_,[],[0,466],(Option.some.inj h).symm,by decide,?_⟩
 try simp only [*,go_sem,seval]
 refine ⟨_,[],[0,1],(Option.some.inj h).symm,by decide,?_⟩
 try simp only [*,go_sem,seval]
 rintro a ⟨sl,ob,n⟩ e E h
 simp only [go_sem,seval,Zd] at e
 obtain ⟨⟨F,G,H⟩,I,J,hn⟩:=e
 subst hn
 have K:=ZC (r_0.cond.length)
 cases h
 try simp only [*,go_sem,seval]
theorem Zm4 {l_0:(List Zh)} {r_1:Zh} {r:Int} (h:Zec l_0 r_1=some r):Zn Tryz.prog J0 83 [(false,[.sl 114 3 (List.map Yn l_0)]),(true,Yn r_1)] [(false,[(false,.int .i64 r)])]:=by
 refine fnk Tryz.func83 (by kernel_rfl) rfl (by kernel_rfl) (by kernel_rfl) ?_
 unfold Zec at h
 simp only [fnS,f83,Zo,go_sem,seval]
 refine Zg h (fun i _ st=>IV [(0,.p false [.c (.sl 114 3 (List.map Yn l_0))]),(3,.bp 0 0),(5,.p false [.c (.int .i64 ((i:Nat):Int))])] [.box 114 [.c (.int .i64 r_1.for_),.c (.sl 3 1 (List.map Qv r_1.inn)),.c (.sl 3 1 (List.map Qv r_1.outs))]] st) [] [0] (by decide) ?_ ?_ ?_
 simp only [*,go_sem,seval]
 rintro o q ⟨⟩ ⟨sl,ob,n⟩ t a b e h f
 simp only [go_sem,seval,Zd] at b
 obtain ⟨⟨g,u,v⟩,w,hn⟩:=b
 subst hn
 have k:=WF.slotL e g (j:=0) rfl
 have x:=ZF a
 have y:=ZJ a
 have z:=Zi (ZE a) k
 try simp only [*,go_sem,seval]
 refine Ze h (fun _ h=>?_) fun _ h=>?_<;>try simp only [*,go_sem,seval]
 obtain ⟨A,l,h⟩:=Za h
 refine Zb (Ze3 l) ?_
 try simp only [*,go_sem,seval]
 refine Ze h (fun _ h=>?_) fun _ h=>?_<;>try simp only [*,go_sem,seval]
 obtain ⟨B,m,h⟩:=Za h
 refine Zb (Ze3 m) ?_
 try simp only [*,go_sem,seval]
 refine Ze h (fun _ h=>?_) fun _ h=>?_<;>try simp only [*,go_sem,seval]
 replace h:=Zs h f
 cases h
 try simp only [*,go_sem,seval]
 refine ⟨_,[],[0],(Option.some.inj h).symm,by decide,?_⟩
 try simp only [*,go_sem,seval]
 refine ⟨_,[],[0],(Option.some.inj h).symm,by decide,?_⟩
 try simp only [*,go_sem,seval]
 refine ⟨_,[],[0],(Option.some.inj h).symm,by decide,?_⟩
 try simp only [*,go_sem,seval]
 rintro ⟨⟩ ⟨sl,ob,n⟩ d C h
 simp only [go_sem,seval,Zd] at d
 obtain ⟨⟨D,E,F⟩,G,hn⟩:=d
 subst hn
 have H:=ZC (l_0.length)
 cases h
 try simp only [*,go_sem,seval]
theorem ZlP {a_0:Zc} {b_1:Zc} {r:Bool} (h:Zbp a_0 b_1=some r):Zn Tryz.prog J0 109 [(true,Zq a_0),(true,Zq b_1)] [(false,[(false,.bool r)])]:=by
 refine fnk Tryz.func109 (by kernel_rfl) rfl (by kernel_rfl) (by kernel_rfl) ?_
 unfold Zbp at h
 simp only [fnS,f109,Zo,go_sem,seval]
 refine Ze h (fun _ h=>?_) fun _ h=>?_<;>try simp only [*,go_sem,seval]
 obtain ⟨b,a,h⟩:=Za h
 refine Zb (ZkC a) ?_
 iterate 2 (cases h;try simp only [*,go_sem,seval])
theorem Xf {f_0:Zc} {r:Zc} (h:Y3 f_0=some r):Zn Tryz.prog J0 100 [(true,Zq f_0)] [(true,[(false,.str r.rel),(false,.sl 9 1 (List.map Zu r.args))])]:=by
 refine fnk Tryz.func100 (by kernel_rfl) rfl (by kernel_rfl) (by kernel_rfl) ?_
 unfold Y3 at h
 simp only [fnS,f100,Zo,go_sem,seval]
 obtain ⟨b,a,h⟩:=Za h
 refine Zb (Zf2 a) ?_
 cases h
 try simp only [*,go_sem,seval]
theorem ZfF {s_0:ByteArray} {r:Bool} (h:ZcZ s_0=some r):Zn Tryz.prog J0 104 [(false,[.str s_0])] [(false,[(false,.bool r)])]:=by
 refine fnk Tryz.func104 (by kernel_rfl) rfl (by kernel_rfl) (by kernel_rfl) ?_
 unfold ZcZ at h
 simp only [fnS,f104,Zo,go_sem,seval]
 obtain ⟨c,a,h⟩:=Za h
 refine Zb (Qg a) ?_
 try simp only [*,go_sem,seval]
 refine Ze h (fun _ h=>?_) fun _ h=>?_<;>try simp only [*,go_sem,seval]
 obtain ⟨d,e,b,h⟩:=Zqp h
 try simp only [seval] at b
 iterate 2 (cases h;try simp only [*,go_sem,seval])
theorem ZcP {s_0:ByteArray} {r:Bool} (h:Zcn s_0=some r):Zn Tryz.prog J0 154 [(false,[.str s_0])] [(false,[(false,.bool r)])]:=by
 refine fnk Tryz.func154 (by kernel_rfl) rfl (by kernel_rfl) (by kernel_rfl) ?_
 unfold Zcn at h
 simp only [fnS,f154,Zo,go_sem,seval]
 refine Ze h (fun _ h=>?_) fun _ h=>?_<;>try simp only [*,go_sem,seval]
 obtain ⟨c,d,a,h⟩:=Zqp h
 try simp only [seval] at a
 try simp only [*,go_sem,seval]
 refine Ze h (fun _ h=>?_) fun _ h=>?_<;>try simp only [*,go_sem,seval]
 obtain ⟨e,h⟩:=Zx h
 try simp only [*,go_sem,seval]
 obtain ⟨f,b,h⟩:=Za h
 refine Zb (Qg b) ?_
 iterate 3 (cases h;try simp only [*,go_sem,seval])
theorem ZbS {s_0:ByteArray} {r:(Int × Bool)} (h:QK s_0=some r):Zn Tryz.prog J0 215 [(false,[.str s_0])] [(false,[(false,.int .i64 r.1)]),(false,[(false,.bool r.2)])]:=by
 refine fnk Tryz.func215 (by kernel_rfl) rfl (by kernel_rfl) (by kernel_rfl) ?_
 unfold QK at h
 simp only [fnS,f215,Zo,go_sem,seval]
 refine Ze h (fun _ h=>?_) fun _ h=>?_<;>try simp only [*,go_sem,seval]
 ·cases h
  try simp only [*,go_sem,seval]
 ·refine Ze h (fun _ h=>?_) fun _ h=>?_<;>try simp only [*,go_sem,seval]
  ·cases h
   try simp only [*,go_sem,seval]
  ·obtain ⟨v1,e3,h⟩:=Za h
   refine Zb (by have hh:=Zrz e3;first|exact hh|(simp only [*,go_sem] at hh;exact hh)) ?_
   try simp only [*,go_sem,seval]
   refine Ze h (fun _ h=>?_) fun _ h=>?_<;>try simp only [*,go_sem,seval]
   ·refine Ze h (fun _ h=>?_) fun _ h=>?_<;>try simp only [*,go_sem,seval]
    ·cases h
     try simp only [*,go_sem,seval]
    ·refine Ze h (fun _ h=>?_) fun _ h=>?_<;>try simp only [*,go_sem,seval]
     ·cases h
      try simp only [*,go_sem,seval]
     ·obtain ⟨v2,e7,h⟩:=Za h
      refine Zb (by have hh:=Zkn e7;first|exact hh|(simp only [*,go_sem] at hh;exact hh)) ?_
      try simp only [*,go_sem,seval]
      refine Ze h (fun _ h=>?_) fun _ h=>?_<;>try simp only [*,go_sem,seval]
      ·cases h
       try simp only [*,go_sem,seval]
      ·cases h
       try simp only [*,go_sem,seval]
   ·cases h
    try simp only [*,go_sem,seval]
theorem ZnB {x_0:Zm} {r:(List ByteArray)} (h:Zgk x_0=some r):Zn Tryz.prog J0 233 [(true,ZM x_0)] [(false,[(false,.sl 9 1 (List.map Zu r))])]:=by
 refine fnk Tryz.func233 (by kernel_rfl) rfl (by kernel_rfl) (by kernel_rfl) ?_
 unfold Zgk at h
 simp only [fnS,f233,Zo,go_sem,seval]
 obtain ⟨c,a,h⟩:=Za h
 refine Zb (Zf2 a) ?_
 obtain ⟨b,h⟩:=Zx h
 try simp only [Nat.reduceLeDiff] at b
 cases h
 try simp only [*,go_sem,seval]
theorem ZgR {r_0:Zf} {r:(List ByteArray)} (h:Qm r_0=some r):Zn Tryz.prog J0 179 [(true,ZB r_0)] [(false,[(false,.sl 9 1 (List.map Zu r))])]:=by
 refine fnk Tryz.func179 (by kernel_rfl) rfl (by kernel_rfl) (by kernel_rfl) ?_
 unfold Qm at h
 simp only [fnS,f179,Zo,go_sem,seval]
 refine Zg h (fun i a st=>IV [(3,.p false [.row 0]),(7,.p false [.c (.sl 134 3 (List.map ZA r_0.thn))]),(8,.p false [.c (.int .i64 ((r_0.thn.length:Nat):Int))]),(9,.p false [.c (.int .i64 ((i:Nat):Int))])] [.row 9 1 (List.map Zu a) 2] st) [(false,3,0)] [112] (by decide) ?_ ?_ ?_
 simp only [*,go_sem,seval]
 rintro q t a ⟨sl,ob,n⟩ u b d f h v
 simp only [go_sem,seval,Zd] at d
 obtain ⟨⟨w,g,x,y⟩,z,hn⟩:=d
 subst hn
 have k:=WF.slotL f g (j:=0) rfl
 have A:=ZF b
 have B:=ZJ b
 have C:=Zi (ZE b) k
 try simp only [*,go_sem,seval]
 refine Ze h (fun _ h=>?_) fun _ h=>?_<;>try simp only [*,go_sem,seval]
 obtain ⟨l,h⟩:=Zx h
 try simp only [Nat.reduceLeDiff] at l
 try simp only [*,go_sem,seval]
 refine ⟨_,[],[289],(Option.some.inj h).symm,by decide,?_⟩
 try simp only [*,go_sem,seval]
 refine Ze h (fun _ h=>?_) fun _ h=>?_<;>try simp only [*,go_sem,seval]
 obtain ⟨m,h⟩:=Zx h
 try simp only [Nat.reduceLeDiff] at m
 try simp only [*,go_sem,seval]
 refine ⟨_,[],[289],(Option.some.inj h).symm,by decide,?_⟩
 try simp only [*,go_sem,seval]
 refine ⟨_,[],[0],(Option.some.inj h).symm,by decide,?_⟩
 try simp only [*,go_sem,seval]
 rintro a ⟨sl,ob,n⟩ e D h
 simp only [go_sem,seval,Zd] at e
 obtain ⟨⟨E,F,G,H⟩,I,hn⟩:=e
 subst hn
 have J:=ZC (r_0.thn.length)
 try simp only [*,go_sem,seval]
 obtain ⟨K,o,h⟩:=Za h
 refine Zb (X5 o) ?_
 cases h
 try simp only [*,go_sem,seval]
theorem Znk {r_0:Zf} {r:(List ByteArray)} (h:ZbA r_0=some r):Zn Tryz.prog J0 208 [(true,ZB r_0)] [(false,[(false,.sl 9 1 (List.map Zu r))])]:=by
 refine fnk Tryz.func208 (by kernel_rfl) rfl (by kernel_rfl) (by kernel_rfl) ?_
 unfold ZbA at h
 simp only [fnS,f208,Zo,go_sem,seval]
 refine Zg h (fun i a st=>IV [(3,.p false [.row 0]),(7,.p false [.c (.sl 130 5 (List.map ZM r_0.cond))]),(8,.p false [.c (.int .i64 ((r_0.cond.length:Nat):Int))]),(9,.p false [.c (.int .i64 ((i:Nat):Int))])] [.row 9 1 (List.map Zu a) 2] st) [(false,3,0)] [112] (by decide) ?_ ?_ ?_
 simp only [*,go_sem,seval]
 rintro q t a ⟨sl,ob,n⟩ u b d f h v
 simp only [go_sem,seval,Zd] at d
 obtain ⟨⟨w,g,x,y⟩,z,hn⟩:=d
 subst hn
 have k:=WF.slotL f g (j:=0) rfl
 have A:=ZF b
 have B:=ZJ b
 have C:=Zi (ZE b) k
 try simp only [*,go_sem,seval]
 refine Ze h (fun _ h=>?_) fun _ h=>?_<;>try simp only [*,go_sem,seval]
 obtain ⟨l,h⟩:=Zx h
 try simp only [Nat.reduceLeDiff] at l
 try simp only [*,go_sem,seval]
 refine ⟨_,[],[289],(Option.some.inj h).symm,by decide,?_⟩
 try simp only [*,go_sem,seval]
 refine Ze h (fun _ h=>?_) fun _ h=>?_<;>try simp only [*,go_sem,seval]
 obtain ⟨m,h⟩:=Zx h
 try simp only [Nat.reduceLeDiff] at m
 try simp only [*,go_sem,seval]
 refine ⟨_,[],[289],(Option.some.inj h).symm,by decide,?_⟩
 try simp only [*,go_sem,seval]
 refine ⟨_,[],[0],(Option.some.inj h).symm,by decide,?_⟩
 try simp only [*,go_sem,seval]
 rintro a ⟨sl,ob,n⟩ e D h
 simp only [go_sem,seval,Zd] at e
 obtain ⟨⟨E,F,G,H⟩,I,hn⟩:=e
 subst hn
 have J:=ZC (r_0.cond.length)
 try simp only [*,go_sem,seval]
 obtain ⟨K,o,h⟩:=Za h
 refine Zb (X5 o) ?_
 cases h
 try simp only [*,go_sem,seval]
theorem ZjE {a_0:Zh} {b_1:Zh} {r:Bool} (h:Zbb a_0 b_1=some r):Zn Tryz.prog J0 140 [(true,Yn a_0),(true,Yn b_1)] [(false,[(false,.bool r)])]:=by
 refine fnk Tryz.func140 (by kernel_rfl) rfl (by kernel_rfl) (by kernel_rfl) ?_
 unfold Zbb at h
 simp only [fnS,f140,Zo,go_sem,seval]
 refine Ze h (fun _ h=>?_) fun _ h=>?_<;>try simp only [*,go_sem,seval]
 obtain ⟨c,a,h⟩:=Za h
 refine Zb (ZgG a) ?_
 try simp only [*,go_sem,seval]
 refine Ze h (fun _ h=>?_) fun _ h=>?_<;>try simp only [*,go_sem,seval]
 obtain ⟨d,b,h⟩:=Za h
 refine Zb (ZgG b) ?_
 iterate 3 (cases h;try simp only [*,go_sem,seval])
theorem ZBe {l_0:(List Int)} {n_1:Int} {r:Bool} (h:ZAp l_0 n_1=some r):Zn Tryz.prog J0 249 [(false,[.sl 3 1 (List.map Qv l_0)]),(false,[.int .i64 n_1])] [(false,[(false,.bool r)])]:=by
 refine fnk Tryz.func249 (by kernel_rfl) rfl (by kernel_rfl) (by kernel_rfl) ?_
 unfold ZAp at h
 simp only [fnS,f249,Zo,go_sem,seval]
 refine Zg h (fun i _ st=>IV [(0,.p false [.c (.sl 3 1 (List.map Qv l_0))]),(1,.p false [.c (.int .i64 n_1)]),(5,.p false [.c (.int .i64 ((i:Nat):Int))])] [] st) [] [] (by decide) ?_ ?_ ?_
 simp only [*,go_sem,seval]
 rintro m o ⟨⟩ ⟨sl,ob,n⟩ q a b f h d
 simp only [go_sem,seval,Zd] at b
 obtain ⟨⟨g,t,u⟩,hn⟩:=b
 subst hn
 have k:=WF.slotL f g (j:=0) rfl
 have v:=ZF a
 have w:=ZJ a
 have x:=Zi (ZE a) k
 try simp only [*,go_sem,seval]
 obtain ⟨y,l,h⟩:=Za h
 refine Zb (ZaS l) ?_
 try simp only [*,go_sem,seval]
 iterate 2 refine Ze h (fun _ h=>?_) fun _ h=>?_<;>try simp only [*,go_sem,seval]
 obtain ⟨z,A,B,C,h⟩:=Zgn h
 try simp only [*,go_sem,seval]
 refine Ze h (fun _ h=>?_) fun _ h=>?_<;>try simp only [*,go_sem,seval]
 replace h:=Zs h d
 cases h
 try simp only [*,go_sem,seval]
 refine ⟨_,[],[],(Option.some.inj h).symm,by decide,?_⟩
 try simp only [*,go_sem,seval]
 refine ⟨_,[],[],(Option.some.inj h).symm,by decide,?_⟩
 try simp only [*,go_sem,seval]
 replace h:=Zs h d
 cases h
 try simp only [*,go_sem,seval]
 rintro ⟨⟩ ⟨sl,ob,n⟩ e D h
 simp only [go_sem,seval,Zd] at e
 obtain ⟨⟨E,F,G⟩,hn⟩:=e
 subst hn
 have H:=ZC (l_0.length)
 cases h
 try simp only [*,go_sem,seval]
theorem ZBO {append_0:ZK} {String_1:Int} {r:(List Bool)} (h:ZAC append_0 String_1=some r):Zn Tryz.prog J0 219 [(true,Zff append_0),(false,[.int .i64 String_1])] [(false,[(false,.sl 4 1 (List.map Zuz r))])]:=by
 refine fnk Tryz.func219 (by kernel_rfl) rfl (by kernel_rfl) (by kernel_rfl) ?_
 unfold ZAC at h
 simp only [fnS,f219,Zo,go_sem,seval]
 obtain ⟨p1,h⟩:=Zx h
 try simp only [*,go_sem,seval]
 refine Zeh h (fun s st=>match s with | (row_53,row_54,u_55)=>IV [(2,.bp 0 0),(5,.p false [.row 1]),(6,.p false [.row 2]),(7,.p false [.c (.int .i64 u_55)])] [.box 29 [.c (.int .i64 append_0.nodes),.c (.sl 114 3 (List.map Yn append_0.reasons))],.row 4 1 (List.map Zuz row_53) 2,.row 3 1 (List.map Qv row_54) 2] st) [] [0,64,112] (by decide) ?_ ?_
 ·simp only [*,go_sem,seval]
 ·rintro ⟨row_53,row_54,u_55⟩ ⟨sl,ob,n⟩ y2 hI3 hW4 h hy2
  simp only [go_sem,seval,Zd] at hI3
  obtain ⟨⟨g5_2,g5_5,g5_6,g5_7⟩,og5_0,og5_1,og5_2,hn⟩:=hI3
  subst hn
  try simp only [*,go_sem,seval]
  refine Ze h (fun _ h=>?_) fun _ h=>?_<;>try simp only [*,go_sem,seval]
  ·refine Zg h (fun i s st=>match s with | (row_81,row_82)=>IV [(2,.bp 0 0),(5,.p false [.row 1]),(6,.p false [.row 2]),(7,.p false [.c (.int .i64 u_55)]),(8,.p false [.c (.int .i64 ((i:Nat):Int))])] [.box 29 [.c (.int .i64 append_0.nodes),.c (.sl 114 3 (List.map Yn append_0.reasons))],.row 4 1 (List.map Zuz row_81) 2,.row 3 1 (List.map Qv row_82) 2] st) [] [0,1,2] (by decide) ?_ ?_ ?_
   ·simp only [*,go_sem,seval]
   ·rintro i95 x96 ⟨row_81,row_82⟩ ⟨sl,ob,n⟩ y7 hx8 hI9 hW10 h hy7
    simp only [go_sem,seval,Zd] at hI9
    obtain ⟨⟨g11_2,g11_5,g11_6,g11_7,g11_8⟩,og11_0,og11_1,og11_2,hn⟩:=hI9
    subst hn
    have hlhx8:=WF.boxL hW10 og11_0 (j:=1) rfl
    have q12:=ZF hx8
    have q13:=ZJ hx8
    have q14:=Zi (ZE hx8) hlhx8
    obtain ⟨p15,h⟩:=Zx h
    obtain ⟨x97,e16,h⟩:=Za h
    try simp only [*,go_sem,seval]
    refine Ze h (fun _ h=>?_) fun _ h=>?_<;>try simp only [*,go_sem,seval]
    ·refine ⟨_,[],[0,1,2],(Option.some.inj h).symm,by decide,?_⟩
     try simp only [*,go_sem,seval]
    ·obtain ⟨v98,e18,h⟩:=Za h
     refine Zb (by have hh:=ZCA e18;first|exact hh|(simp only [*,go_sem] at hh;exact hh)) ?_
     obtain ⟨p19,h⟩:=Zx h
     try simp only [Nat.reduceLeDiff] at p19
     try simp only [*,go_sem,seval]
     refine Zeh h (fun s st=>match s with | (row_104,row_105,u_101)=>IV [(2,.bp 0 0),(5,.p false [.row 1]),(6,.p false [.row 2]),(7,.p false [.c (.int .i64 u_55)]),(8,.p false [.c (.int .i64 ((i95:Nat):Int))]),(9,.p false [.row 3]),(10,.p false [.c (.int .i64 u_101)])] [.box 29 [.c (.int .i64 append_0.nodes),.c (.sl 114 3 (List.map Yn append_0.reasons))],.row 4 1 (List.map Zuz row_104) 2,.row 3 1 (List.map Qv row_105) 2,.row 3 1 (List.map Qv (v98++x96.outs)) 2] st) [] [0,1,2,467] (by decide) ?_ ?_
     ·simp only [*,go_sem,seval]
     ·rintro ⟨row_104,row_105,u_101⟩ ⟨sl,ob,n⟩ y20 hI21 hW22 h hy20
      simp only [go_sem,seval,Zd] at hI21
      obtain ⟨⟨g23_2,g23_5,g23_6,g23_7,g23_8,g23_9,g23_10⟩,og23_0,og23_1,og23_2,og23_3,hn⟩:=hI21
      subst hn
      try simp only [*,go_sem,seval]
      refine Ze h (fun _ h=>?_) fun _ h=>?_<;>try simp only [*,go_sem,seval]
      ·obtain ⟨p25,h⟩:=Zx h
       obtain ⟨x106,e26,h⟩:=Za h
       have e27:(List.map Qv v98++List.map Qv x96.outs)[(Int.toNat u_101)]?=some (Qv x106):=by rw [←List.map_append,List.getElem?_map,e26];rfl
       obtain ⟨p28,h⟩:=Zx h
       obtain ⟨x107,e29,h⟩:=Za h
       try simp only [*,go_sem,seval]
       refine Ze h (fun _ h=>?_) fun _ h=>?_<;>try simp only [*,go_sem,seval]
       ·refine ⟨_,[],[0,1,2,3],(Option.some.inj h).symm,by decide,?_⟩
        try simp only [*,go_sem,seval]
       ·obtain ⟨p31,h⟩:=Zx h
        try simp only [Nat.reduceLeDiff] at p31
        try simp only [*,go_sem,seval]
        refine ⟨_,[],[0,1,404,3],(Option.some.inj h).symm,by decide,?_⟩
        try simp only [*,go_sem,seval]
      ·replace h:=Zs h hy20
       refine ⟨_,[],[0,1,2],(Option.some.inj h).symm,by decide,?_⟩
       try simp only [*,go_sem,seval]
   ·rintro ⟨row_81,row_82⟩ ⟨sl,ob,n⟩ hI32 hW33 h
    simp only [go_sem,seval,Zd] at hI32
    obtain ⟨⟨g34_2,g34_5,g34_6,g34_7,g34_8⟩,og34_0,og34_1,og34_2,hn⟩:=hI32
    subst hn
    have q35:=ZC (append_0.reasons.length)
    try simp only [*,go_sem,seval]
    refine ⟨_,[],[0,1,2],(Option.some.inj h).symm,by decide,?_⟩
    try simp only [*,go_sem,seval]
  ·replace h:=Zs h hy2
   cases h
   try simp only [*,go_sem,seval]
theorem ZA5 {append_0:ZK} {String_1:(List Int)} {a_2:Int} {a_3:(List Int)} {a_4:Int} {r:(List Int)} (h:ZAo append_0 String_1 a_2 a_3 a_4=some r):Zn Tryz.prog J0 187 [(true,Zff append_0),(false,[.sl 3 1 (List.map Qv String_1)]),(false,[.int .i64 a_2]),(false,[.sl 3 1 (List.map Qv a_3)]),(false,[.int .i64 a_4])] [(false,[(false,.sl 3 1 (List.map Qv r))])]:=by
 refine fnk Tryz.func187 (by kernel_rfl) rfl (by kernel_rfl) (by kernel_rfl) ?_
 unfold ZAo at h
 simp only [fnS,f187,Zo,go_sem,seval]
 refine Zeh h (fun s st=>match s with | (row_28,u_14)=>IV [(1,.p false [.c (.sl 3 1 (List.map Qv String_1))]),(2,.p false [.c (.int .i64 a_2)]),(3,.p false [.c (.sl 3 1 (List.map Qv a_3))]),(4,.p false [.c (.int .i64 a_4)]),(5,.bp 0 0),(11,.p false [.row 1]),(12,.p false [.c (.int .i64 u_14)])] [.box 29 [.c (.int .i64 append_0.nodes),.c (.sl 114 3 (List.map Yn append_0.reasons))],.row 3 1 (List.map Qv row_28) 2] st) [] [0,32] (by decide) ?_ ?_
 ·simp only [*,go_sem,seval]
 ·rintro ⟨row_28,u_14⟩ ⟨sl,ob,n⟩ y1 hI2 hW3 h hy1
  simp only [go_sem,seval,Zd] at hI2
  obtain ⟨⟨g4_1,g4_2,g4_3,g4_4,g4_5,g4_11,g4_12⟩,og4_0,og4_1,hn⟩:=hI2
  subst hn
  try simp only [*,go_sem,seval]
  refine Ze h (fun _ h=>?_) fun _ h=>?_<;>try simp only [*,go_sem,seval]
  ·obtain ⟨x29,a6,a7,e8,h⟩:=Zgn h
   try simp only [*,go_sem,seval]
   refine Ze h (fun _ h=>?_) fun _ h=>?_<;>try simp only [*,go_sem,seval]
   ·refine ⟨_,[],[0,1],(Option.some.inj h).symm,by decide,?_⟩
    try simp only [*,go_sem,seval]
   ·obtain ⟨x30,a10,a11,e12,h⟩:=Zgn h
    try simp only [*,go_sem,seval]
    refine Ze h (fun _ h=>?_) fun _ h=>?_<;>try simp only [*,go_sem,seval]
    ·refine ⟨_,[],[0,1],(Option.some.inj h).symm,by decide,?_⟩
     try simp only [*,go_sem,seval]
    ·refine Zg h (fun i _ st=>IV [(1,.p false [.c (.sl 3 1 (List.map Qv String_1))]),(2,.p false [.c (.int .i64 a_2)]),(3,.p false [.c (.sl 3 1 (List.map Qv a_3))]),(4,.p false [.c (.int .i64 a_4)]),(5,.bp 0 0),(11,.p false [.row 1]),(12,.p false [.c (.int .i64 u_14)]),(13,.p false [.c (.int .i64 ((i:Nat):Int))]),(29,.p false [.c (.sl 3 1 (List.map Qv a_3))]),(30,.p false [.c (.int .i64 u_14)]),(32,.p false [.c (.int .i64 x30)]),(33,.p false [.c (.bool (decide (0≤x30)))])] [.box 29 [.c (.int .i64 append_0.nodes),.c (.sl 114 3 (List.map Yn append_0.reasons))],.row 3 1 (List.map Qv row_28) 2] st) [] [0,1] (by decide) ?_ ?_ ?_
     ·simp only [*,go_sem,seval]
     ·rintro i38 x39 ⟨⟩ ⟨sl,ob,n⟩ y14 hx15 hI16 hW17 h hy14
      simp only [go_sem,seval,Zd] at hI16
      obtain ⟨⟨g18_1,g18_2,g18_3,g18_4,g18_5,g18_11,g18_12,g18_13,g18_29,g18_30,g18_32,g18_33⟩,og18_0,og18_1,hn⟩:=hI16
      subst hn
      have hlhx15:=WF.boxL hW17 og18_0 (j:=1) rfl
      have q19:=ZF hx15
      have q20:=ZJ hx15
      have q21:=Zi (ZE hx15) hlhx15
      try simp only [*,go_sem,seval]
      refine Ze h (fun _ h=>?_) fun _ h=>?_<;>try simp only [*,go_sem,seval]
      ·obtain ⟨v40,e23,h⟩:=Za h
       refine Zb (by have hh:=ZBB e23;first|exact hh|(simp only [*,go_sem] at hh;exact hh)) ?_
       try simp only [*,go_sem,seval]
       refine Ze h (fun _ h=>?_) fun _ h=>?_<;>try simp only [*,go_sem,seval]
       ·obtain ⟨v41,e25,h⟩:=Za h
        refine Zb (by have hh:=ZCf e25;first|exact hh|(simp only [*,go_sem] at hh;exact hh)) ?_
        try simp only [*,go_sem,seval]
        refine Ze h (fun _ h=>?_) fun _ h=>?_<;>try simp only [*,go_sem,seval]
        ·obtain ⟨p27,h⟩:=Zx h
         try simp only [Nat.reduceLeDiff] at p27
         replace h:=Zs h hy14
         try simp only [*,go_sem,seval]
         refine ⟨_,[],[0,514],(Option.some.inj h).symm,by decide,?_⟩
         try simp only [*,go_sem,seval]
        ·refine ⟨_,[],[0,1],(Option.some.inj h).symm,by decide,?_⟩
         try simp only [*,go_sem,seval]
       ·refine ⟨_,[],[0,1],(Option.some.inj h).symm,by decide,?_⟩
        try simp only [*,go_sem,seval]
      ·refine ⟨_,[],[0,1],(Option.some.inj h).symm,by decide,?_⟩
       try simp only [*,go_sem,seval]
     ·rintro ⟨⟩ ⟨sl,ob,n⟩ hI28 hW29 h
      simp only [go_sem,seval,Zd] at hI28
      obtain ⟨⟨g30_1,g30_2,g30_3,g30_4,g30_5,g30_11,g30_12,g30_13,g30_29,g30_30,g30_32,g30_33⟩,og30_0,og30_1,hn⟩:=hI28
      subst hn
      have q31:=ZC (append_0.reasons.length)
      try simp only [*,go_sem,seval]
      refine ⟨_,[],[0,1],(Option.some.inj h).symm,by decide,?_⟩
      try simp only [*,go_sem,seval]
  ·replace h:=Zs h hy1
   cases h
   try simp only [*,go_sem,seval]
end Go.Proofs.YtojnhepgnbhaaaaGreatDoor
